-- Printed by wip/tools/myprint.py (over the kit's print.py), with hand-written contracts; Lean checks all of it.
import Derived.Test.YtegfnceepplooaaPTRx0
namespace Go.Proofs.Ytegfnceepplooaa.PTR
open Go.RowKit Go.Proofs.YtegfnceepplooaaW.PrintWords Go.Proofs.YtegfnceepplooaaW.PrintLast Go.Proofs.YtegfnceepplooaaW.PrintMore
attribute [local go_sem] max2_int min2_int max_two min_two max_three min_three max_four min_four   -- for this text's walks alone
set_option linter.unusedVariables false
set_option linter.unusedSimpArgs false

/-! ### key_Check: function 32 -/
def key_Check.f (a0 : ByteArray) : Option (Int) := if a0.toList = ([] : List UInt8) then (some 50) else (if (a0.size : Int) > 16 then (some 50) else (some 0))
set_option maxHeartbeats 8000000 in
set_option maxRecDepth 100000 in
theorem key_Check.calls (a0 : ByteArray) (r : Int) (w : World) (h : key_Check.f a0 = some r) :
    Calls Try.prog 32 #[.string a0] w fun e w' => e = .returned (.int .i64 r) ∧ Drawn0 w w' := by
  have H : (if a0.toList = ([] : List UInt8) then (some 50) else (if (a0.size : Int) > 16 then (some 50) else (some 0))) = some r := h
  clear h
  by_cases c2 : a0.toList = ([] : List UInt8)
  · rw [if_pos c2] at H
    have c2b0 : (a0.toList == ([] : List UInt8)) = true := beq_iff_eq.mpr c2
    have c2b1 : (a0.toList != ([] : List UInt8)) = false := bne_eq_false_iff_eq.mpr c2
    clear c2
    as_aux_lemma =>
      obtain rfl := Option.some.inj H
      go_enter Try.func32, Try.ntmps32
      go_wp2
      go_ret
      exact ⟨by first | rfl | (simp; done) | (simp [*]; done), by repeat (first | exact Drawn0.refl _ | apply Drawn0.step)⟩
  · rw [if_neg c2] at H
    have c2b0 : (a0.toList == ([] : List UInt8)) = false := beq_eq_false_iff_ne.mpr c2
    have c2b1 : (a0.toList != ([] : List UInt8)) = true := bne_iff_ne.mpr c2
    by_cases c3 : (a0.size : Int) > 16
    · rw [if_pos c3] at H
      have c3b0 : decide (16 < (a0.size : Int)) = true := decide_eq_true c3
      have c3b1 : decide (16 < a0.size) = true := decide_eq_true (by omega)
      clear c3
      as_aux_lemma =>
        obtain rfl := Option.some.inj H
        go_enter Try.func32, Try.ntmps32
        go_wp2
        go_ret
        exact ⟨by first | rfl | (simp; done) | (simp [*]; done), by repeat (first | exact Drawn0.refl _ | apply Drawn0.step)⟩
    · rw [if_neg c3] at H
      have c3b0 : decide (16 < (a0.size : Int)) = false := decide_eq_false c3
      have c3b1 : decide (16 < a0.size) = false := decide_eq_false (by omega)
      clear c3
      as_aux_lemma =>
        obtain rfl := Option.some.inj H
        go_enter Try.func32, Try.ntmps32
        go_wp2
        go_ret
        exact ⟨by first | rfl | (simp; done) | (simp [*]; done), by repeat (first | exact Drawn0.refl _ | apply Drawn0.step)⟩

/-! ### key_Value: function 31 -/
def key_Value.f (a0 : ByteArray) : Option (Int) := if (a0.size : Int) > 32 then (some 51) else (some 0)
set_option maxHeartbeats 8000000 in
set_option maxRecDepth 100000 in
theorem key_Value.calls (a0 : ByteArray) (r : Int) (w : World) (h : key_Value.f a0 = some r) :
    Calls Try.prog 31 #[.string a0] w fun e w' => e = .returned (.int .i64 r) ∧ Drawn0 w w' := by
  have H : (if (a0.size : Int) > 32 then (some 51) else (some 0)) = some r := h
  clear h
  by_cases c2 : (a0.size : Int) > 32
  · rw [if_pos c2] at H
    have c2b0 : decide (32 < (a0.size : Int)) = true := decide_eq_true c2
    have c2b1 : decide (32 < a0.size) = true := decide_eq_true (by omega)
    clear c2
    as_aux_lemma =>
      obtain rfl := Option.some.inj H
      go_enter Try.func31, Try.ntmps31
      go_wp2
      go_ret
      exact ⟨by first | rfl | (simp; done) | (simp [*]; done), by repeat (first | exact Drawn0.refl _ | apply Drawn0.step)⟩
  · rw [if_neg c2] at H
    have c2b0 : decide (32 < (a0.size : Int)) = false := decide_eq_false c2
    have c2b1 : decide (32 < a0.size) = false := decide_eq_false (by omega)
    clear c2
    as_aux_lemma =>
      obtain rfl := Option.some.inj H
      go_enter Try.func31, Try.ntmps31
      go_wp2
      go_ret
      exact ⟨by first | rfl | (simp; done) | (simp [*]; done), by repeat (first | exact Drawn0.refl _ | apply Drawn0.step)⟩

/-! ### record_Check: function 20 -/
/-- The parts of what is right with a commit's record. -/
def okA (lsn epoch : Int) : Bool := decide (1 ≤ lsn) && decide (lsn ≤ 1099511627776) && decide (0 ≤ epoch) && decide (epoch ≤ 1099511627776)
def bareV (other : Int) (v : ByteArray) : Bool := v.toList.isEmpty || (other == 1) && decide ((v.size : Int) ≤ 32)
def keyOk (k : ByteArray) : Bool := decide (¬ k.toList = []) && decide ((k.size : Int) ≤ 16)
def okB (ok : Bool) (page other : Int) (kok bare : Bool) : Bool := ok && (page == 0) && ((other == 1) || (other == 2)) && kok && bare
def reqOk (req : Int) : Bool := decide (1 ≤ req) && decide (req ≤ 1099511627776)
def commitOk (lsn epoch page other req : Int) (key value : ByteArray) : Bool := okB (okA lsn epoch) page other (keyOk key) (bareV other value) && reqOk req
theorem keyCheck_v (k : ByteArray) : key_Check.f k = some (if keyOk k = true then 0 else 50) := by
  unfold key_Check.f keyOk
  by_cases h1 : k.toList = []
  · rw [if_pos h1]; simp [h1]
  · rw [if_neg h1]
    by_cases h2 : (k.size : Int) > 16
    · rw [if_pos h2]; simp [h1]; omega
    · rw [if_neg h2]; simp [h1]; omega
theorem keyValue_v (v : ByteArray) : key_Value.f v = some (if (v.size : Int) ≤ 32 then 0 else 51) := by
  unfold key_Value.f
  by_cases h : (v.size : Int) > 32
  · rw [if_pos h, if_neg (by omega)]
  · rw [if_neg h, if_pos (by omega)]

set_option maxHeartbeats 2000000 in
set_option maxRecDepth 100000 in
theorem commit_any (a0 a1 a3 a4 a5 : Int) (k v : ByteArray) (w : World) (ko : Bool) (res : Int) (HRES : Aside0 (res = if (okB (okA a0 a1) a3 a4 ko (bareV a4 v) && reqOk a5) = true then (0 : Int) else 90)) (cK : ∀ W, Calls Try.prog 32 #[.string k] W fun e w' => e = .returned (.int .i64 (if ko = true then 0 else 50)) ∧ Drawn0 W w') :
    Calls Try.prog 20 #[.agg #[.int .i64 a0, .int .i64 a1, .int .i64 7, .int .i64 a3, .int .i64 a4, .int .i64 a5, .string k, .string v]] w fun e w' => e = .returned (.int .i64 res) ∧ Below w.heap.size w w' := by
  have cV := fun W => key_Value.calls v _ W (keyValue_v v)
  go_enter Try.func20, Try.ntmps20
  go_upto_region 1 with (fail)
  go_cut [3] (fun v3 wc => v3 = .bool (okA a0 a1) ∧ ∃ nd, wc = World.drewN (w.alloc (.cells #[.int .i64 a0, .int .i64 a1, .int .i64 7, .int .i64 a3, .int .i64 a4, .int .i64 a5, .string k, .string v] 50)) nd)
  case first =>
    clear cK cV
    by_cases h1 : 1 ≤ a0
    · by_cases h2 : a0 ≤ 1099511627776
      · by_cases h3 : 0 ≤ a1
        · have HA := Aside0.mk (show okA a0 a1 = decide (a1 ≤ 1099511627776) by unfold okA; rw [decide_eq_true h1, decide_eq_true h2, decide_eq_true h3]; rfl)
          as_aux_lemma =>
            go_wp2
            go_meet
            case rel => exact ⟨by rw [HA.out], 0, rfl⟩
        · have HA := Aside0.mk (show okA a0 a1 = false by unfold okA; rw [decide_eq_false h3]; simp)
          have h3' : decide (0 ≤ a1) = false := decide_eq_false h3
          as_aux_lemma =>
            go_wp2
            go_meet
            case rel => exact ⟨by rw [HA.out], 0, rfl⟩
      · have HA := Aside0.mk (show okA a0 a1 = false by unfold okA; rw [decide_eq_false h2]; simp)
        have h2' : decide (a0 ≤ 1099511627776) = false := decide_eq_false h2
        as_aux_lemma =>
          go_wp2
          go_meet
          case rel => exact ⟨by rw [HA.out], 0, rfl⟩
    · have HA := Aside0.mk (show okA a0 a1 = false by unfold okA; rw [decide_eq_false h1]; simp)
      have h1' : decide (1 ≤ a0) = false := decide_eq_false h1
      as_aux_lemma =>
        go_wp2
        go_meet
        case rel => exact ⟨by rw [HA.out], 0, rfl⟩
  case rest =>
  obtain ⟨rfl, nd, rfl⟩ := hcut
  generalize okA a0 a1 = ok at HRES ⊢
  go_upto_region 16 with (fail)
  go_cut [4] (fun v4 wc => v4 = .bool (bareV a4 v) ∧ ∃ nd, wc = World.drewN (w.alloc (.cells #[.int .i64 a0, .int .i64 a1, .int .i64 7, .int .i64 a3, .int .i64 a4, .int .i64 a5, .string k, .string v] 50)) nd)
  case first =>
    clear cK HRES
    cases h1 : v.toList.isEmpty
    · by_cases h2 : a4 = 1
      · subst h2
        by_cases h3 : (v.size : Int) ≤ 32
        · have HA := Aside0.mk (show bareV 1 v = true by unfold bareV; rw [h1, decide_eq_true h3]; rfl)
          simp only [if_pos h3] at cV
          clear h3
          as_aux_lemma =>
            go_wp2_with (go_at_call 31; refine (cV _).mono ?_; rintro e w' ⟨rfl, nd2, rfl⟩)
            go_meet
            case rel => exact ⟨by rw [HA.out], nd + nd2, by simp [World.drewN]⟩
        · have HA := Aside0.mk (show bareV 1 v = false by unfold bareV; rw [h1, decide_eq_false h3]; rfl)
          simp only [if_neg h3] at cV
          clear h3
          as_aux_lemma =>
            go_wp2_with (go_at_call 31; refine (cV _).mono ?_; rintro e w' ⟨rfl, nd2, rfl⟩)
            go_meet
            case rel => exact ⟨by rw [HA.out], nd + nd2, by simp [World.drewN]⟩
      · have h2b : (a4 == 1) = false := by simpa using h2
        have HA := Aside0.mk (show bareV a4 v = false by unfold bareV; rw [h1, h2b]; rfl)
        clear h2
        as_aux_lemma =>
          go_wp2
          go_meet
          case rel => exact ⟨by rw [HA.out], nd, rfl⟩
    · have HA := Aside0.mk (show bareV a4 v = true by unfold bareV; rw [h1]; rfl)
      as_aux_lemma =>
        go_wp2
        go_meet
        case rel => exact ⟨by rw [HA.out], nd, rfl⟩
  case rest =>
  clear cV
  obtain ⟨rfl, nd, rfl⟩ := hcut
  generalize bareV a4 v = bare at HRES ⊢
  go_upto_region 17 with (fail)
  go_cut [3] (fun v3 wc => v3 = .bool (okB ok a3 a4 ko bare) ∧ ∃ nd, wc = World.drewN (w.alloc (.cells #[.int .i64 a0, .int .i64 a1, .int .i64 7, .int .i64 a3, .int .i64 a4, .int .i64 a5, .string k, .string v] 50)) nd)
  case first =>
    clear HRES
    cases ok
    · have HA := Aside0.mk (show okB false a3 a4 ko bare = false from rfl)
      as_aux_lemma =>
        go_wp2
        go_meet
        case rel => exact ⟨by rw [HA.out], nd, rfl⟩
    · by_cases h3 : a3 = 0
      · subst h3
        have key : ∀ b : Bool, Aside0 (b = ((a4 == 1) || (a4 == 2))) → okB true 0 a4 ko bare = (b && ko && bare) := fun b hb => by unfold okB; rw [hb.out]; rfl
        have hk1 : ∀ W, ko = true → Calls Try.prog 32 #[.string k] W fun e w' => e = .returned (.int .i64 0) ∧ Drawn0 W w' := fun W h => by have := cK W; rw [h] at this; exact this
        have hk0 : ∀ W, ko = false → Calls Try.prog 32 #[.string k] W fun e w' => e = .returned (.int .i64 50) ∧ Drawn0 W w' := fun W h => by have := cK W; rw [h] at this; exact this
        clear cK
        by_cases h1 : a4 = 1
        · subst h1
          have HA := Aside0.mk (key true ⟨rfl⟩)
          clear key
          cases ko
          · have c0 := fun W => hk0 W rfl
            clear hk0 hk1
            as_aux_lemma =>
              go_wp2_with (go_at_call 32; refine (c0 _).mono ?_; rintro e w' ⟨rfl, nd2, rfl⟩)
              go_meet
              case rel => exact ⟨by rw [HA.out]; rfl, nd + nd2, by simp [World.drewN]⟩
          · have c0 := fun W => hk1 W rfl
            clear hk0 hk1
            as_aux_lemma =>
              go_wp2_with (go_at_call 32; refine (c0 _).mono ?_; rintro e w' ⟨rfl, nd2, rfl⟩)
              go_meet
              case rel => exact ⟨by rw [HA.out]; rfl, nd + nd2, by simp [World.drewN]⟩
        · have h1b : (a4 == 1) = false := by simpa using h1
          by_cases h2 : a4 = 2
          · subst h2
            have HA := Aside0.mk (key true ⟨rfl⟩)
            clear key h1 h1b
            cases ko
            · have c0 := fun W => hk0 W rfl
              clear hk0 hk1
              as_aux_lemma =>
                go_wp2_with (go_at_call 32; refine (c0 _).mono ?_; rintro e w' ⟨rfl, nd2, rfl⟩)
                go_meet
                case rel => exact ⟨by rw [HA.out]; rfl, nd + nd2, by simp [World.drewN]⟩
            · have c0 := fun W => hk1 W rfl
              clear hk0 hk1
              as_aux_lemma =>
                go_wp2_with (go_at_call 32; refine (c0 _).mono ?_; rintro e w' ⟨rfl, nd2, rfl⟩)
                go_meet
                case rel => exact ⟨by rw [HA.out]; rfl, nd + nd2, by simp [World.drewN]⟩
          · have h2b : (a4 == 2) = false := by simpa using h2
            have HA := Aside0.mk (key false ⟨by rw [h1b, h2b]; rfl⟩)
            clear key h1 h2 hk0 hk1
            as_aux_lemma =>
              go_wp2
              go_meet
              case rel => exact ⟨by rw [HA.out]; rfl, nd, rfl⟩
      · have h3b : (a3 == 0) = false := by simpa using h3
        have HA := Aside0.mk (show okB true a3 a4 ko bare = false by unfold okB; rw [h3b]; rfl)
        clear h3 cK
        as_aux_lemma =>
          go_wp2
          go_meet
          case rel => exact ⟨by rw [HA.out], nd, rfl⟩
  case rest =>
  clear cK
  obtain ⟨rfl, nd, rfl⟩ := hcut
  generalize okB ok a3 a4 ko bare = okb at HRES ⊢
  go_upto_region 19 with (fail)
  go_cut [5] (fun v5 wc => v5 = .bool (reqOk a5) ∧ ∃ nd, wc = World.drewN (w.alloc (.cells #[.int .i64 a0, .int .i64 a1, .int .i64 7, .int .i64 a3, .int .i64 a4, .int .i64 a5, .string k, .string v] 50)) nd)
  case first =>
    clear HRES
    by_cases h1 : 1 ≤ a5
    · have HA := Aside0.mk (show reqOk a5 = decide (a5 ≤ 1099511627776) by unfold reqOk; rw [decide_eq_true h1]; rfl)
      as_aux_lemma =>
        go_wp2
        go_meet
        case rel => exact ⟨by rw [HA.out], nd, rfl⟩
    · have HA := Aside0.mk (show reqOk a5 = false by unfold reqOk; rw [decide_eq_false h1]; rfl)
      have h1' : decide (1 ≤ a5) = false := decide_eq_false h1
      as_aux_lemma =>
        go_wp2
        go_meet
        case rel => exact ⟨by rw [HA.out], nd, rfl⟩
  case rest =>
  obtain ⟨rfl, nd, rfl⟩ := hcut
  generalize reqOk a5 = rq at HRES ⊢
  cases okb <;> cases rq
  all_goals
    as_aux_lemma =>
      go_wp2
      go_ret
      exact ⟨by rw [HRES.out]; rfl, pw_below_drewN ((Below.refl _ _).alloc (Nat.le_refl _) _) _⟩
def record_Check.f (a0_0 : Int) (a0_1 : Int) (a0_2 : Int) (a0_3 : Int) (a0_4 : Int) (a0_5 : Int) (a0_6 : ByteArray) (a0_7 : ByteArray) : Option Int := if a0_2 = 7 then some (if commitOk a0_0 a0_1 a0_3 a0_4 a0_5 a0_6 a0_7 = true then 0 else 90) else none
set_option maxHeartbeats 8000000 in
set_option maxRecDepth 100000 in
theorem record_Check.calls (a0_0 : Int) (a0_1 : Int) (a0_2 : Int) (a0_3 : Int) (a0_4 : Int) (a0_5 : Int) (a0_6 : ByteArray) (a0_7 : ByteArray) (r : Int) (w : World) (h : record_Check.f a0_0 a0_1 a0_2 a0_3 a0_4 a0_5 a0_6 a0_7 = some r) :
    Calls Try.prog 20 #[.agg #[.int .i64 a0_0, .int .i64 a0_1, .int .i64 a0_2, .int .i64 a0_3, .int .i64 a0_4, .int .i64 a0_5, .string a0_6, .string a0_7]] w fun e w' => e = .returned (.int .i64 r) ∧ Below w.heap.size w w' := by
  unfold record_Check.f at h
  by_cases h7 : a0_2 = 7
  · subst h7
    rw [if_pos rfl] at h
    obtain rfl := Option.some.inj h
    exact commit_any _ _ _ _ _ _ _ _ _ _ ⟨rfl⟩ (fun W => key_Check.calls a0_6 _ W (keyCheck_v a0_6))
  · rw [if_neg h7] at h
    cases h


end Go.Proofs.Ytegfnceepplooaa.PTR
