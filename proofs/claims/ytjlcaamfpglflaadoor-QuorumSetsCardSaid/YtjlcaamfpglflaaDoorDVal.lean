/- What the quorum functions answer at small numbers, and their contracts without rounds. -/
import Derived.Test.YtjlcaamfpglflaaDoorPQDx1
import Derived.Test.YtjlcaamfpglflaaDoorPQDx3
import Derived.Test.YtjlcaamfpglflaaDoorPQDx5
import Derived.Test.YtjlcaamfpglflaaDoorPQDx4
import Derived.Test.YtjlcaamfpglflaaDoorDTz
import Derived.Test.YtjlcaamfpglflaaDoorQMath
set_option linter.unusedVariables false
set_option maxRecDepth 100000
namespace Go.Proofs.YtjlcaamfpglflaaDoor.DT
open Go.RowKit Go.Proofs.YtjlcaamfpglflaaDoor.PQD Go.Proofs.YtjlcaamfpglflaaDoorW.PrintWords Go.Proofs.YtjlcaamfpglflaaDoorW.PrintLast
open Go.Proofs.YtjlcaamfpglflaaDoor (QMath.mid)

theorem ev_pos {α : Type} {c : Prop} [Decidable c] {f g : Nat → Option α} {r : α} (hc : c) (h : Ev f r) : Ev (fun k => if c then f k else g k) r := Ev.congr (fun k => if_pos hc) h
theorem ev_neg {α : Type} {c : Prop} [Decidable c] {f g : Nat → Option α} {r : α} (hc : ¬ c) (h : Ev g r) : Ev (fun k => if c then f k else g k) r := Ev.congr (fun k => if_neg hc) h
theorem wrap_s {n : Nat} (h : n ≤ 1000) : wrap64 ((n : Int) + 1) = ((n + 1 : Nat) : Int) := by unfold wrap64; omega

/-! ### speaks -/
theorem commit_sort {l s : List Int} (hp : l.Perm s) (hs : s.Pairwise (· ≤ ·)) : QMath.mid l = s.getD (l.length - (l.length / 2 + 1)) 0 := by
  unfold QMath.mid
  rw [QMath.sort_eq hp hs]
theorem com3 : quorum_Commit.f [5, 3, 9] = some (5, 0) := by
  have h : QMath.mid [5, 3, 9] = 5 := by
    rw [commit_sort (s := [3, 5, 9]) (by decide) (by decide)]
    rfl
  unfold quorum_Commit.f CommitC.commit
  rw [if_neg (by decide), h]
theorem com4 : quorum_Commit.f [5, 3, 9, 1] = some (3, 0) := by
  have h : QMath.mid [5, 3, 9, 1] = 3 := by
    rw [commit_sort (s := [1, 3, 5, 9]) (by decide) (by decide)]
    rfl
  unfold quorum_Commit.f CommitC.commit
  rw [if_neg (by decide), h]
theorem maj4 : quorum_Majority.f 10 4 = some (3, 0) := by decide +kernel
theorem has3 : quorum_Has.f 10 3 5 = some (true, 0) := by decide +kernel
theorem speaks_10 : latticelaw21_speaks.f 10 = some true := by
  unfold latticelaw21_speaks.f
  rw [maj4, com3, com4, has3]
  rfl
theorem speaks_any (W : World) : Calls Tryd.prog 6 #[] W fun e w' => e = .returned (.bool true) ∧ Below W.heap.size W w' :=
  latticelaw21_speaks.calls 10 true W ⟨rfl⟩ speaks_10

/-! ### what is asked of a number of nodes and some sets -/
def okN (n : Int) : Prop := 1 ≤ n ∧ n ≤ 7
def okS (n s : Int) : Prop := 0 ≤ s ∧ s < 2 ^ n.toNat
instance (n : Int) : Decidable (okN n) := inferInstanceAs (Decidable (_ ∧ _))
instance (n s : Int) : Decidable (okS n s) := inferInstanceAs (Decidable (_ ∧ _))
def oksB (n : Int) (l : List Int) : Bool := l.all fun s => decide (okS n s)
theorem oksB_iff {n : Int} {l : List Int} : oksB n l = true ↔ ∀ s ∈ l, okS n s := by
  unfold oksB
  rw [List.all_eq_true]
  exact ⟨fun h s hs => of_decide_eq_true (h s hs), fun h s hs => decide_eq_true (h s hs)⟩
def askV (n : Int) (l : List Int) : Int := if okN n then (if oksB n l = true then 0 else 4) else 1
theorem okN_cases {n : Int} (h : okN n) : n = 1 ∨ n = 2 ∨ n = 3 ∨ n = 4 ∨ n = 5 ∨ n = 6 ∨ n = 7 := by unfold okN at h; omega
theorem shl_pow {n : Int} (h : okN n) : shl .i64 1 n = 2 ^ n.toNat := by
  rcases okN_cases h with rfl | rfl | rfl | rfl | rfl | rfl | rfl <;> decide +kernel
theorem drop_rd {l : List Int} {i : Nat} (h : i < l.length) : l.drop i = rd l (i : Int) :: l.drop (i + 1) := by
  rw [List.drop_eq_getElem_cons h]
  unfold rd
  simp [h]
theorem asked_l0 (n : Int) (l : List Int) (hn : okN n) (hl : l.length ≤ 1000) : ∀ (d i : Nat), i + d = l.length → Ev (fun k => quorum_asked.l0 k n l (l.length : Int) (i : Int)) (if oksB n (l.drop i) = true then 0 else 4) := by
  have hp := shl_pow hn
  intro d
  induction d with
  | zero =>
    intro i hi
    rw [List.drop_eq_nil_of_le (by omega), if_pos (by rfl)]
    refine Ev.step (f := fun _ => some 0) (fun k => ?_) (Ev.now _)
    simp only [quorum_asked.l0]
    rw [if_neg (by omega)]
  | succ d ih =>
    intro i hi
    have hlt : i < l.length := by omega
    rw [drop_rd hlt]
    by_cases h1 : rd l (i : Int) < 0
    · rw [if_neg (fun h => by have := (oksB_iff.1 h _ (List.mem_cons_self)).1; omega)]
      refine Ev.step (f := fun _ => some 4) (fun k => ?_) (Ev.now _)
      simp only [quorum_asked.l0]
      rw [if_pos (by omega), if_pos (by omega), if_pos (by omega), if_pos h1]
    · by_cases h2 : rd l (i : Int) ≥ 2 ^ n.toNat
      · rw [if_neg (fun h => by have := (oksB_iff.1 h _ (List.mem_cons_self)).2; omega)]
        refine Ev.step (f := fun _ => some 4) (fun k => ?_) (Ev.now _)
        simp only [quorum_asked.l0]
        rw [if_pos (by omega), if_pos (by omega), if_pos (by omega), if_neg h1, if_pos (by unfold okN at hn; omega), hp, if_pos h2]
      · have e : oksB n (rd l (i : Int) :: l.drop (i + 1)) = oksB n (l.drop (i + 1)) := by
          have hs : okS n (rd l (i : Int)) := ⟨by omega, by omega⟩
          unfold oksB
          rw [List.all_cons, decide_eq_true hs, Bool.true_and]
        rw [e]
        refine Ev.step (fun k => ?_) (ih (i + 1) (by omega))
        simp only [quorum_asked.l0]
        rw [if_pos (by omega), if_pos (by omega), if_pos (by omega), if_neg h1, if_pos (by unfold okN at hn; omega), hp, if_neg h2, wrap_s (by omega)]
theorem asked_ev (n : Int) (l : List Int) (hl : l.length ≤ 1000) : Ev (fun k => quorum_asked.f k n l) (askV n l) := by
  have hj : Ev (fun k => quorum_asked.j0 k n l true) 1 := by
    refine Ev.step (f := fun _ => some 1) (fun k => ?_) (Ev.now _)
    simp only [quorum_asked.j0]
    rw [if_pos trivial]
  unfold quorum_asked.f askV
  by_cases h1 : n < 1
  · rw [if_neg (fun h : okN n => by unfold okN at h; omega)]
    exact ev_pos h1 hj
  · refine ev_neg h1 ?_
    by_cases h2 : n > 7
    · rw [if_neg (fun h : okN n => by unfold okN at h; omega), decide_eq_true h2]
      exact hj
    · have hn : okN n := ⟨by omega, by omega⟩
      rw [if_pos hn, decide_eq_false h2]
      refine Ev.step (fun k => ?_) (asked_l0 n l hn hl l.length 0 (by omega))
      simp only [quorum_asked.j0]
      rw [if_neg (by simp)]
      rfl
theorem askV_zero {n : Int} {l : List Int} (h : askV n l = 0) : okN n ∧ ∀ s ∈ l, okS n s := by
  unfold askV at h
  by_cases h1 : okN n
  · rw [if_pos h1] at h
    by_cases h2 : oksB n l = true
    · exact ⟨h1, oksB_iff.1 h2⟩
    · rw [if_neg h2] at h; omega
  · rw [if_neg h1] at h; omega
theorem askV_ok {n : Int} {l : List Int} (h1 : okN n) (h2 : ∀ s ∈ l, okS n s) : askV n l = 0 := by
  unfold askV
  rw [if_pos h1, if_pos (oksB_iff.2 h2)]
theorem okS_nat {n s : Int} (hn : okN n) (h : okS n s) : ∃ a : Nat, s = (a : Int) ∧ a < 2 ^ n.toNat ∧ a < 128 := by
  refine ⟨s.toNat, by unfold okS at h; omega, ?_, ?_⟩
  · have := h.2
    have h0 := h.1
    have e : ((2 ^ n.toNat : Nat) : Int) = 2 ^ n.toNat := by simp
    omega
  · have := h.2
    have h0 := h.1
    rcases okN_cases hn with rfl | rfl | rfl | rfl | rfl | rfl | rfl <;> simp at this <;> omega

/-! ### a set's nodes -/
def pc (a : Nat) : Nat := (List.range 7).countP fun i => a.testBit i
theorem ones : ∀ a : Nat, a < 128 → bits_OnesCount.f (IntKind.u64.wrap (a : Int)) = some (pc a : Int) := by decide +kernel
theorem inV : ∀ a : Nat, a < 128 → ∀ v : Nat, v < 8 → latticeref21_In.f 10 (a : Int) (v : Int) = some (a.testBit v) := by decide +kernel
theorem in_any (a v : Nat) (ha : a < 128) (hv : v < 8) (W : World) : Calls Tryd.prog 8 #[.int .i64 (a : Int), .int .i64 (v : Int)] W fun e w' => e = .returned (.bool (a.testBit v)) ∧ Drawn0 W w' :=
  latticeref21_In.calls 10 _ _ _ W (inV a ha v hv)
theorem and_nat : ∀ a : Nat, a < 128 → ∀ b : Nat, b < 128 → bits .and .i64 (a : Int) (b : Int) = ((a &&& b : Nat) : Int) := by decide +kernel
theorem tzV : ∀ a : Nat, a < 128 → 0 < a → a.testBit (tz a).toNat = true ∧ ∀ v : Nat, v < (tz a).toNat → a.testBit v = false := by decide +kernel
theorem meetV : ∀ n : Nat, n < 8 → ∀ a : Nat, a < 2 ^ n → n / 2 < pc a → ∀ b : Nat, b < 2 ^ n → n / 2 < pc b → a &&& b ≠ 0 := by decide +kernel
theorem half {n : Int} (h : okN n) : wrap64 (Int.tdiv n 2) = n / 2 := by
  rcases okN_cases h with rfl | rfl | rfl | rfl | rfl | rfl | rfl <;> decide +kernel

/-! ### Has -/
def hasB (n a : Int) : Bool := decide (askV n [a] = 0) && decide (n / 2 < (pc a.toNat : Int))
theorem has_ev (n a : Int) : Ev (fun k => quorum_Has.f k n a) (hasB n a, askV n [a]) := by
  unfold quorum_Has.f
  refine Ev.bind (asked_ev n [a] (by simp)) ?_
  unfold hasB
  by_cases h : askV n [a] = 0
  · obtain ⟨hn, hs⟩ := askV_zero h
    obtain ⟨x, rfl, _, hx⟩ := okS_nat hn (hs a (by simp))
    rw [decide_eq_true h]
    refine ev_pos h ?_
    rw [ones x hx]
    refine Ev.bind (a := (pc x : Int)) (Ev.now _) ?_
    rw [half hn, h]
    simp only [gt_iff_lt, Int.toNat_natCast, Bool.true_and]
    exact Ev.now _
  · rw [decide_eq_false h]
    exact ev_neg h (Ev.now _)
theorem has_any (n a : Int) (W : World) : Calls Tryd.prog 5 #[.int .i64 n, .int .i64 a] W fun e w' => e = .returned (.tuple #[.bool (hasB n a), .int .i64 (askV n [a])]) ∧ Below W.heap.size W w' := by
  obtain ⟨k, h⟩ := (has_ev n a).rounds
  exact quorum_Has.calls k n a _ _ W h

/-! ### Meet -/
theorem pair_lit (W : World) (a b : Int) : Kd.C (Kd.int .i64) (W.alloc (.cells #[.int .i64 a, .int .i64 b] 3)) (some ⟨W.heap.size, 0, none⟩) ([a, b] : List Int).length [a, b] := by
  refine ⟨rfl, by simp, fun _ => ⟨_, rfl, fun j p hj => ⟨[.int .i64 p], rfl, rfl, fun i u hu => ?_⟩⟩⟩
  match j, hj with
  | 0, hj =>
    obtain rfl := Option.some.inj hj
    match i, hu with
    | 0, hu => obtain rfl := Option.some.inj hu; show (W.alloc _).cell? ⟨W.heap.size, 0 + (0 * 1 + 0), none⟩ = _; simp
    | i + 1, hu => simp at hu
  | 1, hj =>
    obtain rfl := Option.some.inj hj
    match i, hu with
    | 0, hu => obtain rfl := Option.some.inj hu; show (W.alloc _).cell? ⟨W.heap.size, 0 + (1 * 1 + 0), none⟩ = _; simp
    | i + 1, hu => simp at hu
  | j + 2, hj => simp at hj
theorem asked2_any (n a b : Int) (W : World) : Calls Tryd.prog 15 #[.int .i64 n, .slice (some ⟨W.heap.size, 0, none⟩) 2 2] (W.alloc (.cells #[.int .i64 a, .int .i64 b] 3)) fun e w' => e = .returned (.int .i64 (askV n [a, b])) ∧ Drawn0 (W.alloc (.cells #[.int .i64 a, .int .i64 b] 3)) w' := by
  obtain ⟨k, h⟩ := (asked_ev n [a, b] (by simp)).rounds
  exact quorum_asked.calls k n _ 2 [a, b] _ _ (pair_lit W a b) (by simp) h

/-- What Meet answers: a node of both sets, whether there is one, what is wrong. -/
def meetNode (a b : Int) : Nat := a.toNat &&& b.toNat
set_option maxHeartbeats 4000000 in
theorem meet_bad (n a b : Int) (w : World) (h : askV n [a, b] ≠ 0) :
    Calls Tryd.prog 7 #[.int .i64 n, .int .i64 a, .int .i64 b] w fun e w' => e = .returned (.tuple #[.int .i64 0, .bool false, .int .i64 (askV n [a, b])]) ∧ Below w.heap.size w w' := by
  have hb : ∀ W : World, (Instr.buildSlice 33 2 #[(0, .int .i64 a), (1, .int .i64 b)]).run Tryd.prog W = .ok (.slice (some ⟨W.heap.size, 0, none⟩) 2 2) (W.alloc (.cells #[.int .i64 a, .int .i64 b] 3)) := fun W => by as_aux_lemma => kernel_rfl
  have c := asked2_any n a b w
  generalize askV n [a, b] = e at c h
  have e1 : (e == 0) = false := by simpa using h
  have e2 : (e != 0) = true := by unfold bne; rw [e1]; rfl
  clear h
  go_enter Tryd.func7, Tryd.ntmps7
  go_wp2_with (go_at_call 15; refine c.mono ?_; rintro e w' ⟨rfl, hd⟩; have hB := ((Below.refl w.heap.size w).alloc (Nat.le_refl _) (.cells #[.int .i64 a, .int .i64 b] 3)).trans (hd.below.mono (by simp)); clear hd)
  go_ret3
  exact ⟨rfl, hB⟩
set_option maxHeartbeats 4000000 in
theorem meet_none (n : Int) (a b : Nat) (w : World) (h : askV n [(a : Int), (b : Int)] = 0) (ha : a < 128) (hb : b < 128) (hz : a &&& b = 0) :
    Calls Tryd.prog 7 #[.int .i64 n, .int .i64 (a : Int), .int .i64 (b : Int)] w fun e w' => e = .returned (.tuple #[.int .i64 0, .bool false, .int .i64 0]) ∧ Below w.heap.size w w' := by
  have hbs : ∀ W : World, (Instr.buildSlice 33 2 #[(0, .int .i64 (a : Int)), (1, .int .i64 (b : Int))]).run Tryd.prog W = .ok (.slice (some ⟨W.heap.size, 0, none⟩) 2 2) (W.alloc (.cells #[.int .i64 (a : Int), .int .i64 (b : Int)] 3)) := fun W => by as_aux_lemma => kernel_rfl
  have c := asked2_any n a b w
  rw [h] at c
  have hand := and_nat a ha b hb
  rw [hz] at hand
  clear h hz
  go_enter Tryd.func7, Tryd.ntmps7
  go_wp2_with (go_at_call 15; refine c.mono ?_; rintro e w' ⟨rfl, hd⟩; have hB := ((Below.refl w.heap.size w).alloc (Nat.le_refl _) (.cells #[.int .i64 (a : Int), .int .i64 (b : Int)] 3)).trans (hd.below.mono (by simp)); clear hd)
  go_ret3
  exact ⟨rfl, hB⟩
set_option maxHeartbeats 4000000 in
theorem meet_some (n : Int) (a b : Nat) (w : World) (hT : TabAt w) (h : askV n [(a : Int), (b : Int)] = 0) (ha : a < 128) (hb : b < 128) (hz : a &&& b ≠ 0) :
    Calls Tryd.prog 7 #[.int .i64 n, .int .i64 (a : Int), .int .i64 (b : Int)] w fun e w' => e = .returned (.tuple #[.int .i64 (tz (a &&& b)), .bool true, .int .i64 0]) ∧ Below w.heap.size w w' := by
  have hbs : ∀ W : World, (Instr.buildSlice 33 2 #[(0, .int .i64 (a : Int)), (1, .int .i64 (b : Int))]).run Tryd.prog W = .ok (.slice (some ⟨W.heap.size, 0, none⟩) 2 2) (W.alloc (.cells #[.int .i64 (a : Int), .int .i64 (b : Int)] 3)) := fun W => by as_aux_lemma => kernel_rfl
  have c := asked2_any n a b w
  rw [h] at c
  have hand := and_nat a ha b hb
  have hlt : a &&& b < 128 := Nat.lt_of_le_of_lt Nat.and_le_left ha
  have hc : ∀ W, TabAt W → Calls Tryd.prog 18 #[.int .u64 ((a &&& b : Nat) : Int)] W fun e w' => e = .returned (.int .i64 (tz (a &&& b))) ∧ W = w' := fun W hW => tz_any (a &&& b) W (by omega) hlt hW
  generalize tz (a &&& b) = t at hc
  generalize a &&& b = x at hand hlt hc hz
  have hx : ((x : Int) == 0) = false := by simpa using hz
  have HT := Aside0.mk (show ∀ W, Below w.heap.size w W → TabAt W from fun W hW => hT.below hW)
  clear h hz hT
  go_enter Tryd.func7, Tryd.ntmps7
  go_wp2_with (first
    | (go_at_call 15; refine c.mono ?_; rintro e w' ⟨rfl, hd⟩; have HB := Aside0.mk (((Below.refl w.heap.size w).alloc (Nat.le_refl _) (.cells #[.int .i64 (a : Int), .int .i64 (b : Int)] 3)).trans (hd.below.mono (by simp))); clear hd)
    | (go_at_call 18; refine (hc _ (HT.out _ HB.out)).mono ?_; rintro e w2 ⟨rfl, rfl⟩))
  go_ret3
  exact ⟨rfl, HB.out⟩

end Go.Proofs.YtjlcaamfpglflaaDoor.DT
