-- Printed by wip/tools/myprint.py (over the kit's print.py), with hand-written contracts; Lean checks all of it.
import Derived.Test.YtegfnceepplooaaPTRx0
import Derived.Test.YtegfnceepplooaaPTRx1
import Derived.Test.YtegfnceepplooaaPTRx2
namespace Go.Proofs.Ytegfnceepplooaa.PTR
open Go.RowKit Go.Proofs.YtegfnceepplooaaW.PrintWords Go.Proofs.YtegfnceepplooaaW.PrintLast Go.Proofs.YtegfnceepplooaaW.PrintMore
attribute [local go_sem] max2_int min2_int max_two min_two max_three min_three max_four min_four   -- for this text's walks alone
set_option linter.unusedVariables false
set_option linter.unusedSimpArgs false

attribute [local go_sem high] eqA103
/-! ### fold_History: function 12 -/
theorem rowinfoH : (Try.prog.info? 50).map (fun i => (i.zero, i.size, i.bytes)) = some (some (.agg #[(.int .i64 0), (.int .i64 0), (.int .i64 0), (.int .i64 0), (.int .i64 0), (.int .i64 0), (.string ⟨#[]⟩), (.string ⟨#[]⟩)]), 8, 80) := by kernel_rfl
/-- Is a record a right commit? -/
def isC (r : S50) : Bool := decide (r.f2 = 7) && commitOk r.f0 r.f1 r.f3 r.f4 r.f5 r.f6 r.f7
def histV (l : List S50) : List S50 := l.filter isC
theorem histV_take {l : List S50} {j : Nat} (h : j < l.length) : histV (l.take (j + 1)) = if isC (rd_T50 l (j : Int)) = true then histV (l.take j) ++ [rd_T50 l (j : Int)] else histV (l.take j) := by
  have e : rd_T50 l (j : Int) = l[j] := by unfold rd_T50; simp [h]
  rw [List.take_succ_eq_append_getElem h, e]
  unfold histV
  rw [List.filter_append]
  by_cases hc : isC l[j] = true
  · rw [if_pos hc]; simp [hc]
  · rw [if_neg hc]; simp [hc]
theorem histV_len (l : List S50) : (histV l).length ≤ l.length := List.length_filter_le _ _
theorem check_7 (q0 q1 q3 q4 q5 : Int) (q6 q7 : ByteArray) : record_Check.f q0 q1 7 q3 q4 q5 q6 q7 = some (if commitOk q0 q1 q3 q4 q5 q6 q7 = true then 0 else 90) := by
  unfold record_Check.f
  rw [if_pos rfl]
def fold_History.f (l0 : List S50) : Option (List S50) := if l0.length ≤ 1099511627776 then some (histV l0) else none
set_option maxHeartbeats 8000000 in
set_option maxRecDepth 100000 in
theorem fold_History.calls (A0 : Option Addr) (c0 : Nat) (l0 : List (S50)) (r : List (S50)) (w : World) (hr0 : Kd.C k50 w A0 l0.length l0) (hc0 : l0.length ≤ c0) (h : fold_History.f l0 = some r) :
    Calls Try.prog 12 #[.slice A0 l0.length c0] w fun e w' => ∃ v0_ : Value, e = .returned (v0_) ∧ Kd.R k50 50 w' w.heap.size (fun _ => True) v0_ r ∧ Below w.heap.size w w' := by
  unfold fold_History.f at h
  by_cases hlen : l0.length ≤ 1099511627776
  · rw [if_pos hlen] at h
    obtain rfl := Option.some.inj h
    have HC := Aside0.mk hr0
    clear h hr0 hc0
    go_enter Try.func12, Try.ntmps12
    go_wp2
    go_loopw [3, 8] (fun o i wr => ∃ j : Nat, j ≤ l0.length ∧ i = .int .i64 j ∧ Aside0 (Kd.R k50 50 wr w.heap.size (fun _ => True) o (histV (l0.take j))) ∧ Aside0 (Below w.heap.size w wr)) (fun _ i _ => l0.length - (intOf i).toNat)
    case atStart => exact ⟨0, Nat.zero_le _, rfl, ⟨by rw [List.take_zero]; exact Kd.R_nil _ _ _ _ _⟩, ⟨Below.refl _ _⟩⟩
    case round =>
      obtain ⟨j, hj, rfl, HO, HW⟩ := hrel
      by_cases hlt : j < l0.length
      · have HT := Aside0.mk (histV_take hlt)
        have hln : (histV (l0.take j)).length ≤ j := Nat.le_trans (histV_len _) (List.length_take_le _ _)
        obtain ⟨ad, hA, g0, g1, g2, g3, g4, g5, g6, g7⟩ := at_T50 (Kd.C_below HC.out HW.out) (j : Int) (by omega) (by omega)
        rw [Int.toNat_natCast] at g0 g1 g2 g3 g4 g5 g6 g7
        subst hA
        generalize rd_T50 l0 (j : Int) = q at HT g0 g1 g2 g3 g4 g5 g6 g7
        obtain ⟨q0, q1, q2, q3, q4, q5, q6, q7⟩ := q
        simp only at g0 g1 g2 g3 g4 g5 g6 g7
        by_cases h7 : q2 = 7
        · subst h7
          have cC := record_Check.calls q0 q1 7 q3 q4 q5 q6 q7 _ (wr.alloc (.cells #[.int .i64 q0, .int .i64 q1, .int .i64 7, .int .i64 q3, .int .i64 q4, .int .i64 q5, .string q6, .string q7] 50)) (check_7 q0 q1 q3 q4 q5 q6 q7)
          have HI : Aside0 (isC (⟨q0, q1, 7, q3, q4, q5, q6, q7⟩ : S50) = commitOk q0 q1 q3 q4 q5 q6 q7) := ⟨by unfold isC; simp⟩
          cases hk : commitOk q0 q1 q3 q4 q5 q6 q7
          · rw [hk, if_neg (by decide)] at cC
            have HT2 : Aside0 (histV (l0.take (j + 1)) = histV (l0.take j)) := ⟨by rw [HT.out, HI.out, hk, if_neg (by decide)]⟩
            clear hk HT HI
            go_wp2_with fail
            refine cC.mono ?_
            rintro e w2 ⟨rfl, hb⟩
            have HB := Aside0.mk (((Below.refl _ wr).alloc (Nat.le_refl _) _).trans (hb.mono (by simp)))
            clear hb
            go_wp2
            go_roundw
            case rel => exact ⟨j + 1, by omega, by go_num, ⟨by rw [HT2.out]; exact Kd.R_below HO.out HB.out⟩, ⟨HW.out.trans (HB.out.mono HW.out.size)⟩⟩
            case measure => simp [intOf]; omega
          · rw [hk, if_pos rfl] at cC
            have HT2 : Aside0 (histV (l0.take (j + 1)) = histV (l0.take j) ++ [⟨q0, q1, 7, q3, q4, q5, q6, q7⟩]) := ⟨by rw [HT.out, HI.out, hk, if_pos rfl]⟩
            clear hk HT HI
            go_wp2_with fail
            refine cC.mono ?_
            rintro e w2 ⟨rfl, hb⟩
            have HB := Aside0.mk (((Below.refl _ wr).alloc (Nat.le_refl _) _).trans (hb.mono (by simp)))
            have b0 : w2.cell? ⟨wr.heap.size, 0, none⟩ = some (.int .i64 q0) := (hb.cell (p := ⟨wr.heap.size, 0, none⟩) (by simp)).trans (by simp)
            have b1 : w2.cell? ⟨wr.heap.size, 1, none⟩ = some (.int .i64 q1) := (hb.cell (p := ⟨wr.heap.size, 1, none⟩) (by simp)).trans (by simp)
            have b2 : w2.cell? ⟨wr.heap.size, 2, none⟩ = some (.int .i64 7) := (hb.cell (p := ⟨wr.heap.size, 2, none⟩) (by simp)).trans (by simp)
            have b3 : w2.cell? ⟨wr.heap.size, 3, none⟩ = some (.int .i64 q3) := (hb.cell (p := ⟨wr.heap.size, 3, none⟩) (by simp)).trans (by simp)
            have b4 : w2.cell? ⟨wr.heap.size, 4, none⟩ = some (.int .i64 q4) := (hb.cell (p := ⟨wr.heap.size, 4, none⟩) (by simp)).trans (by simp)
            have b5 : w2.cell? ⟨wr.heap.size, 5, none⟩ = some (.int .i64 q5) := (hb.cell (p := ⟨wr.heap.size, 5, none⟩) (by simp)).trans (by simp)
            have b6 : w2.cell? ⟨wr.heap.size, 6, none⟩ = some (.string q6) := (hb.cell (p := ⟨wr.heap.size, 6, none⟩) (by simp)).trans (by simp)
            have b7 : w2.cell? ⟨wr.heap.size, 7, none⟩ = some (.string q7) := (hb.cell (p := ⟨wr.heap.size, 7, none⟩) (by simp)).trans (by simp)
            have HW2 : Aside0 (Below w.heap.size w w2) := ⟨HW.out.trans (HB.out.mono HW.out.size)⟩
            have HO2 : Aside0 (Kd.R k50 50 w2 w.heap.size (fun _ => True) _ (histV (l0.take j))) := ⟨Kd.R_below HO.out HB.out⟩
            clear hb HO g0 g1 g2 g3 g4 g5 g6 g7
            go_wp2_with ((with_reducible refine gate_builtin (b := .append) (xs := #[.tmp 20, .tmp 22]) rfl ?_); at_builtin; refine Kd.R_append k50 (w0 := w) w.heap.size rfl (.tmp 20) (.tmp 22) 38 50 (.agg #[.int .i64 0, .int .i64 0, .int .i64 0, .int .i64 0, .int .i64 0, .int .i64 0, .string ⟨#[]⟩, .string ⟨#[]⟩]) 80 rfl Try.underlying38 rowinfoH rfl (by decide) (by omega) _ (histV (l0.take j)) (⟨q0, q1, 7, q3, q4, q5, q6, q7⟩ : S50) [.int .i64 q0, .int .i64 q1, .int .i64 7, .int .i64 q3, .int .i64 q4, .int .i64 q5, .string q6, .string q7] (fun _ => True) (fun _ => False) rfl rfl (k50_mkM _ _ _ (⟨q0, q1, 7, q3, q4, q5, q6, q7⟩ : S50)) (fun _ hk => hk.elim) (fun _ _ => trivial) HO2.out HW2.out HW2.out.size (by omega) ?_; intro v1 w3 hR1 hB1 hg1 hv1; rw [← HT2.out] at hR1; have HR1 := Aside0.mk hR1; have HB1 := Aside0.mk hB1; clear hR1 hB1 hg1 hv1)
            go_roundw
            case rel => exact ⟨j + 1, by omega, by go_num, HR1, HB1⟩
            case measure => simp [intOf]; omega
        · have h7b : (q2 == 7) = false := by simpa using h7
          have HT2 : Aside0 (histV (l0.take (j + 1)) = histV (l0.take j)) := ⟨by rw [HT.out, if_neg]; unfold isC; simp [h7]⟩
          clear h7 HT
          go_wp2
          go_roundw
          case rel => exact ⟨j + 1, by omega, by go_num, ⟨by rw [HT2.out]; exact Kd.R_alloc HO.out _⟩, ⟨HW.out.alloc HW.out.size _⟩⟩
          case measure => simp [intOf]; omega
      · obtain rfl : j = l0.length := by omega
        go_wp2
        go_ret
        exact ⟨_, rfl, by have := HO.out; rwa [List.take_length] at this, HW.out⟩
  · rw [if_neg hlen] at h
    cases h


/-! ### api_Entry: function 48 -/
def api_Entry.l0 : Nat → List (S103) → List (S103) → Int → Int → Option (Bool)
  | 0, _, _, _, _ => none
  | k + 1, x0, x1, x12, x13 => if x13 < x12 then (if 0 ≤ x13 then (if x13 < (x0.length : Int) then (if x13 < (x1.length : Int) then (if (!((((rd_T103 x0 x13).f0).toList) == (((rd_T103 x1 x13).f0).toList)) || (!((((rd_T103 x0 x13).f1).toList) == (((rd_T103 x1 x13).f1).toList)))) = true then (some false) else (api_Entry.l0 k x0 x1 x12 (wrap64 (x13 + 1)))) else (none)) else (none)) else (none)) else (some true)
def api_Entry.f (k : Nat) (l0 : List (S103)) (l1 : List (S103)) : Option (Bool) := if (l0.length : Int) = (l1.length : Int) then (api_Entry.l0 k l0 l1 (l0.length : Int) 0) else (some false)
theorem api_Entry.mono_l : ∀ k, (∀ y0 y1 y2 y3, LeO (api_Entry.l0 k y0 y1 y2 y3) (api_Entry.l0 (k + 1) y0 y1 y2 y3))
  | 0 => fun _ _ _ _ r h => by simp [api_Entry.l0] at h
  | k + 1 => by
    have ih0 := api_Entry.mono_l k
    · intro y0 y1 y2 y3
      unfold api_Entry.l0
      repeat' first
      | (with_reducible exact ih0 _ _ _ _)
      | (with_reducible exact LeO.refl _)
      | (with_reducible exact LeO.none _)
      | (with_reducible refine LeO.ite ?_ ?_)
      | (with_reducible refine LeO.bind ?_ (fun _ => ?_))
      | exact ih0 _ _ _ _
      | exact LeO.none _
      | refine LeO.ite ?_ ?_
      | refine LeO.bind ?_ (fun _ => ?_)
theorem api_Entry.mono : ∀ a0 a1 k, LeO (api_Entry.f k a0 a1) (api_Entry.f (k + 1) a0 a1) := by
  intro a0 a1 k
  have ih0 := api_Entry.mono_l k
  unfold api_Entry.f
  repeat' first
      | (with_reducible exact ih0 _ _ _ _)
      | (with_reducible exact LeO.refl _)
      | (with_reducible exact LeO.none _)
      | (with_reducible refine LeO.ite ?_ ?_)
      | (with_reducible refine LeO.bind ?_ (fun _ => ?_))
      | exact ih0 _ _ _ _
      | exact LeO.none _
      | refine LeO.ite ?_ ?_
      | refine LeO.bind ?_ (fun _ => ?_)
set_option maxHeartbeats 8000000 in
set_option maxRecDepth 100000 in
theorem api_Entry.calls (k : Nat) (A0 : Option Addr) (c0 : Nat) (l0 : List (S103)) (A1 : Option Addr) (c1 : Nat) (l1 : List (S103)) (r : Bool) (w : World) (hr0 : Kd.C k103 w A0 l0.length l0) (hc0 : l0.length ≤ c0) (hr1 : Kd.C k103 w A1 l1.length l1) (hc1 : l1.length ≤ c1) (h : api_Entry.f k l0 l1 = some r) :
    Calls Try.prog 48 #[.slice A0 l0.length c0, .slice A1 l1.length c1] w fun e w' => e = .returned (.bool r) ∧ Drawn0 w w' := by
  have hu103 := Try.underlying103
  have HR0 := Aside0.mk hr0
  have HC0 := Aside0.mk hc0
  clear hr0 hc0
  have HR1 := Aside0.mk hr1
  have HC1 := Aside0.mk hc1
  clear hr1 hc1
  have H : (if (l0.length : Int) = (l1.length : Int) then (api_Entry.l0 k l0 l1 (l0.length : Int) 0) else (some false)) = some r := h
  clear h
  by_cases c3 : (l0.length : Int) = (l1.length : Int)
  · rw [if_pos c3] at H
    have c3b0 : ((l0.length : Int) == (l1.length : Int)) = true := beq_iff_eq.mpr c3
    have c3b1 : ((l0.length : Int) != (l1.length : Int)) = false := bne_eq_false_iff_eq.mpr c3
    have c3b2 : (l0.length == l1.length) = true := by first | simpa using c3 | (simp at c3 ⊢; omega)
    clear c3
    have H' := Aside0.mk H
    clear H
    go_enter Try.func48, Try.ntmps48
    go_wp2
    repeat (go_quiet (fail); try go_wp2)
    go_loopg [13] k (fun kq v13 w' => ∃ (x13_1 : Int), v13 = .int .i64 x13_1 ∧ Aside0 (api_Entry.l0 kq l0 l1 (l0.length : Int) x13_1 = some r) ∧ Aside0 (kq ≤ k) ∧ Drawn0 w w')
    case atStart => exact ⟨(0), (by first | rfl | (simp; done) | (simp [*]; done)), H', ⟨Nat.le_refl _⟩, by repeat (first | exact Drawn0.refl _ | apply Drawn0.step)⟩
    case round =>
      clear H'
      try clear c1
      try clear p2
      try clear c3
      try clear c3b0
      try clear c3b1
      try clear c3b2
      obtain ⟨x13_1, rfl, HA, HK1, ⟨m1, rfl⟩⟩ := hrel
      cases gk with
      | zero => exact absurd HA.out (by simp [api_Entry.l0])
      | succ k1 =>
        have H := HA.out
        clear HA
        simp only [api_Entry.l0] at H
        by_cases c4 : x13_1 < (l0.length : Int)
        · rw [if_pos c4] at H
          have c4b0 : decide (x13_1 < (l0.length : Int)) = true := decide_eq_true c4
          clear c4
          by_cases c5 : 0 ≤ x13_1
          · rw [if_pos c5] at H
            have c5b0 : decide (0 ≤ x13_1) = true := decide_eq_true c5
            clear c5
            by_cases c6 : x13_1 < (l0.length : Int)
            · rw [if_pos c6] at H
              have c6b0 : decide (x13_1 < (l0.length : Int)) = true := decide_eq_true c6
              clear c6
              by_cases c7 : x13_1 < (l1.length : Int)
              · rw [if_pos c7] at H
                have c7b0 : decide (x13_1 < (l1.length : Int)) = true := decide_eq_true c7
                clear c7
                by_cases c8 : (!((((rd_T103 l0 x13_1).f0).toList) == (((rd_T103 l1 x13_1).f0).toList)) || (!((((rd_T103 l0 x13_1).f1).toList) == (((rd_T103 l1 x13_1).f1).toList)))) = true
                · rw [if_pos c8] at H
                  have c8b0 : (!((((rd_T103 l0 x13_1).f0).toList) == (((rd_T103 l1 x13_1).f0).toList)) || (!((((rd_T103 l0 x13_1).f1).toList) == (((rd_T103 l1 x13_1).f1).toList)))) = true := c8
                  clear c8
                  as_aux_lemma =>
                    obtain rfl := Option.some.inj H
                    have p101 : 0 ≤ (x13_1 : Int) := of_decide_eq_true (by first | (with_reducible assumption) | assumption)
                    have q101 : x13_1 < (l0.length : Int) := of_decide_eq_true (by first | (with_reducible assumption) | assumption)
                    obtain ⟨ad101, e101, hx101_0, hx101_1⟩ := at_T103 HR0.out x13_1 p101 q101
                    cases e101
                    replace p101 := eq_true p101
                    replace q101 := eq_true q101
                    have p102 : 0 ≤ (x13_1 : Int) := of_decide_eq_true (by first | (with_reducible assumption) | assumption)
                    have q102 : x13_1 < (l1.length : Int) := of_decide_eq_true (by first | (with_reducible assumption) | assumption)
                    obtain ⟨ad102, e102, hx102_0, hx102_1⟩ := at_T103 HR1.out x13_1 p102 q102
                    cases e102
                    replace p102 := eq_true p102
                    replace q102 := eq_true q102
                    go_wp2
                    repeat (go_quiet (fail); try go_wp2)
                    go_ret
                    exact ⟨by first | rfl | (simp; done) | (simp [*]; done), by repeat (first | exact Drawn0.refl _ | apply Drawn0.step)⟩
                · rw [if_neg c8] at H
                  have c8b0 : (!((((rd_T103 l0 x13_1).f0).toList) == (((rd_T103 l1 x13_1).f0).toList)) || (!((((rd_T103 l0 x13_1).f1).toList) == (((rd_T103 l1 x13_1).f1).toList)))) = false := by simpa using c8
                  clear c8
                  as_aux_lemma =>
                    have H' := Aside0.mk H
                    clear H
                    have p101 : 0 ≤ (x13_1 : Int) := of_decide_eq_true (by first | (with_reducible assumption) | assumption)
                    have q101 : x13_1 < (l0.length : Int) := of_decide_eq_true (by first | (with_reducible assumption) | assumption)
                    obtain ⟨ad101, e101, hx101_0, hx101_1⟩ := at_T103 HR0.out x13_1 p101 q101
                    cases e101
                    replace p101 := eq_true p101
                    replace q101 := eq_true q101
                    have p102 : 0 ≤ (x13_1 : Int) := of_decide_eq_true (by first | (with_reducible assumption) | assumption)
                    have q102 : x13_1 < (l1.length : Int) := of_decide_eq_true (by first | (with_reducible assumption) | assumption)
                    obtain ⟨ad102, e102, hx102_0, hx102_1⟩ := at_T103 HR1.out x13_1 p102 q102
                    cases e102
                    replace p102 := eq_true p102
                    replace q102 := eq_true q102
                    go_wp2
                    repeat (go_quiet (fail); try go_wp2)
                    go_roundg k1
                    case measure => have := HK1.out; omega
                    case rel => exact ⟨(wrap64 (x13_1 + 1)), (by first | rfl | (simp; done) | (simp [*]; done)), H', ⟨by have := HK1.out; omega⟩, by repeat (first | exact Drawn0.refl _ | apply Drawn0.step)⟩
              · rw [if_neg c7] at H
                exact absurd H (by simp)
            · rw [if_neg c6] at H
              exact absurd H (by simp)
          · rw [if_neg c5] at H
            exact absurd H (by simp)
        · rw [if_neg c4] at H
          have c4b0 : decide (x13_1 < (l0.length : Int)) = false := decide_eq_false c4
          clear c4
          as_aux_lemma =>
            obtain rfl := Option.some.inj H
            go_wp2
            repeat (go_quiet (fail); try go_wp2)
            go_ret
            exact ⟨by first | rfl | (simp; done) | (simp [*]; done), by repeat (first | exact Drawn0.refl _ | apply Drawn0.step)⟩
  · rw [if_neg c3] at H
    have c3b0 : ((l0.length : Int) == (l1.length : Int)) = false := beq_eq_false_iff_ne.mpr c3
    have c3b1 : ((l0.length : Int) != (l1.length : Int)) = true := bne_iff_ne.mpr c3
    have c3b2 : (l0.length == l1.length) = false := by first | simpa using c3 | (simp at c3 ⊢; omega)
    as_aux_lemma =>
      obtain rfl := Option.some.inj H
      go_enter Try.func48, Try.ntmps48
      go_wp2
      repeat (go_quiet (fail); try go_wp2)
      go_ret
      exact ⟨by first | rfl | (simp; done) | (simp [*]; done), by repeat (first | exact Drawn0.refl _ | apply Drawn0.step)⟩

end Go.Proofs.Ytegfnceepplooaa.PTR
