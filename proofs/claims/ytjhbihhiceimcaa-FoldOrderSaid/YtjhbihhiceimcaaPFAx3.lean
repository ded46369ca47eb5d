-- Printed by wip/tools/myprint.py (over the kit's print.py), with hand-written contracts; Lean checks all of it.
import Derived.Test.YtjhbihhiceimcaaPFAx0
import Derived.Test.YtjhbihhiceimcaaPFAx2
namespace Go.Proofs.Ytjhbihhiceimcaa.PFA
open Go.RowKit Go.Proofs.YtjhbihhiceimcaaW.PrintWords Go.Proofs.YtjhbihhiceimcaaW.PrintLast Go.Proofs.YtjhbihhiceimcaaW.PrintMore
attribute [local go_sem] max2_int min2_int max_two min_two max_three min_three max_four min_four   -- for this text's walks alone
set_option linter.unusedVariables false
set_option linter.unusedSimpArgs false

/-! ### fold_History: function 9 -/
theorem rowinfoH : (Try.prog.info? 43).map (fun i => (i.zero, i.size, i.bytes)) = some (some (.agg #[(.int .i64 0), (.int .i64 0), (.int .i64 0), (.int .i64 0), (.int .i64 0), (.int .i64 0), (.string ⟨#[]⟩), (.string ⟨#[]⟩)]), 8, 80) := by kernel_rfl
/-- Is a record a right commit? -/
def isC (r : S43) : Bool := decide (r.f2 = 7) && commitOk r.f0 r.f1 r.f3 r.f4 r.f5 r.f6 r.f7
def histV (l : List S43) : List S43 := l.filter isC
theorem histV_take {l : List S43} {j : Nat} (h : j < l.length) : histV (l.take (j + 1)) = if isC (rd_T43 l (j : Int)) = true then histV (l.take j) ++ [rd_T43 l (j : Int)] else histV (l.take j) := by
  have e : rd_T43 l (j : Int) = l[j] := by unfold rd_T43; simp [h]
  rw [List.take_succ_eq_append_getElem h, e]
  unfold histV
  rw [List.filter_append]
  by_cases hc : isC l[j] = true
  · rw [if_pos hc]; simp [hc]
  · rw [if_neg hc]; simp [hc]
theorem histV_len (l : List S43) : (histV l).length ≤ l.length := List.length_filter_le _ _
theorem check_7 (q0 q1 q3 q4 q5 : Int) (q6 q7 : ByteArray) : record_Check.f q0 q1 7 q3 q4 q5 q6 q7 = some (if commitOk q0 q1 q3 q4 q5 q6 q7 = true then 0 else 90) := by
  unfold record_Check.f
  rw [if_pos rfl]
def fold_History.f (l0 : List S43) : Option (List S43) := if l0.length ≤ 1099511627776 then some (histV l0) else none
set_option maxHeartbeats 8000000 in
set_option maxRecDepth 100000 in
theorem fold_History.calls (A0 : Option Addr) (c0 : Nat) (l0 : List (S43)) (r : List (S43)) (w : World) (hr0 : Kd.C k43 w A0 l0.length l0) (hc0 : l0.length ≤ c0) (h : fold_History.f l0 = some r) :
    Calls Try.prog 9 #[.slice A0 l0.length c0] w fun e w' => ∃ v0_ : Value, e = .returned (v0_) ∧ Kd.R k43 43 w' w.heap.size (fun _ => True) v0_ r ∧ Below w.heap.size w w' := by
  unfold fold_History.f at h
  by_cases hlen : l0.length ≤ 1099511627776
  · rw [if_pos hlen] at h
    obtain rfl := Option.some.inj h
    have HC := Aside0.mk hr0
    clear h hr0 hc0
    go_enter Try.func9, Try.ntmps9
    go_wp2
    go_loopw [3, 8] (fun o i wr => ∃ j : Nat, j ≤ l0.length ∧ i = .int .i64 j ∧ Aside0 (Kd.R k43 43 wr w.heap.size (fun _ => True) o (histV (l0.take j))) ∧ Aside0 (Below w.heap.size w wr)) (fun _ i _ => l0.length - (intOf i).toNat)
    case atStart => exact ⟨0, Nat.zero_le _, rfl, ⟨by rw [List.take_zero]; exact Kd.R_nil _ _ _ _ _⟩, ⟨Below.refl _ _⟩⟩
    case round =>
      obtain ⟨j, hj, rfl, HO, HW⟩ := hrel
      by_cases hlt : j < l0.length
      · have HT := Aside0.mk (histV_take hlt)
        have hln : (histV (l0.take j)).length ≤ j := Nat.le_trans (histV_len _) (List.length_take_le _ _)
        obtain ⟨ad, hA, g0, g1, g2, g3, g4, g5, g6, g7⟩ := at_T43 (Kd.C_below HC.out HW.out) (j : Int) (by omega) (by omega)
        rw [Int.toNat_natCast] at g0 g1 g2 g3 g4 g5 g6 g7
        subst hA
        generalize rd_T43 l0 (j : Int) = q at HT g0 g1 g2 g3 g4 g5 g6 g7
        obtain ⟨q0, q1, q2, q3, q4, q5, q6, q7⟩ := q
        simp only at g0 g1 g2 g3 g4 g5 g6 g7
        by_cases h7 : q2 = 7
        · subst h7
          have cC := record_Check.calls q0 q1 7 q3 q4 q5 q6 q7 _ (wr.alloc (.cells #[.int .i64 q0, .int .i64 q1, .int .i64 7, .int .i64 q3, .int .i64 q4, .int .i64 q5, .string q6, .string q7] 43)) (check_7 q0 q1 q3 q4 q5 q6 q7)
          have HI : Aside0 (isC (⟨q0, q1, 7, q3, q4, q5, q6, q7⟩ : S43) = commitOk q0 q1 q3 q4 q5 q6 q7) := ⟨by unfold isC; simp⟩
          cases hk : commitOk q0 q1 q3 q4 q5 q6 q7
          · rw [hk, if_neg (by decide)] at cC
            have HT2 : Aside0 (histV (l0.take (j + 1)) = histV (l0.take j)) := ⟨by rw [HT.out, HI.out, hk, if_neg (by decide)]⟩
            clear hk HT HI
            go_wp2_with fail
            refine cC.mono ?_
            rintro e w2 ⟨rfl, hb⟩
            have HB := Aside0.mk (((Below.refl _ wr).alloc (Nat.le_refl _) _).trans (hb.mono (by simp)))
            clear hb
            go_wp2
            go_roundw
            case rel => exact ⟨j + 1, by omega, by go_num, ⟨by rw [HT2.out]; exact Kd.R_below HO.out HB.out⟩, ⟨HW.out.trans (HB.out.mono HW.out.size)⟩⟩
            case measure => simp [intOf]; omega
          · rw [hk, if_pos rfl] at cC
            have HT2 : Aside0 (histV (l0.take (j + 1)) = histV (l0.take j) ++ [⟨q0, q1, 7, q3, q4, q5, q6, q7⟩]) := ⟨by rw [HT.out, HI.out, hk, if_pos rfl]⟩
            clear hk HT HI
            go_wp2_with fail
            refine cC.mono ?_
            rintro e w2 ⟨rfl, hb⟩
            have HB := Aside0.mk (((Below.refl _ wr).alloc (Nat.le_refl _) _).trans (hb.mono (by simp)))
            have b0 : w2.cell? ⟨wr.heap.size, 0, none⟩ = some (.int .i64 q0) := (hb.cell (p := ⟨wr.heap.size, 0, none⟩) (by simp)).trans (by simp)
            have b1 : w2.cell? ⟨wr.heap.size, 1, none⟩ = some (.int .i64 q1) := (hb.cell (p := ⟨wr.heap.size, 1, none⟩) (by simp)).trans (by simp)
            have b2 : w2.cell? ⟨wr.heap.size, 2, none⟩ = some (.int .i64 7) := (hb.cell (p := ⟨wr.heap.size, 2, none⟩) (by simp)).trans (by simp)
            have b3 : w2.cell? ⟨wr.heap.size, 3, none⟩ = some (.int .i64 q3) := (hb.cell (p := ⟨wr.heap.size, 3, none⟩) (by simp)).trans (by simp)
            have b4 : w2.cell? ⟨wr.heap.size, 4, none⟩ = some (.int .i64 q4) := (hb.cell (p := ⟨wr.heap.size, 4, none⟩) (by simp)).trans (by simp)
            have b5 : w2.cell? ⟨wr.heap.size, 5, none⟩ = some (.int .i64 q5) := (hb.cell (p := ⟨wr.heap.size, 5, none⟩) (by simp)).trans (by simp)
            have b6 : w2.cell? ⟨wr.heap.size, 6, none⟩ = some (.string q6) := (hb.cell (p := ⟨wr.heap.size, 6, none⟩) (by simp)).trans (by simp)
            have b7 : w2.cell? ⟨wr.heap.size, 7, none⟩ = some (.string q7) := (hb.cell (p := ⟨wr.heap.size, 7, none⟩) (by simp)).trans (by simp)
            have HW2 : Aside0 (Below w.heap.size w w2) := ⟨HW.out.trans (HB.out.mono HW.out.size)⟩
            have HO2 : Aside0 (Kd.R k43 43 w2 w.heap.size (fun _ => True) _ (histV (l0.take j))) := ⟨Kd.R_below HO.out HB.out⟩
            clear hb HO g0 g1 g2 g3 g4 g5 g6 g7
            go_wp2_with ((with_reducible refine gate_builtin (b := .append) (xs := #[.tmp 20, .tmp 22]) rfl ?_); at_builtin; refine Kd.R_append k43 (w0 := w) w.heap.size rfl (.tmp 20) (.tmp 22) 22 43 (.agg #[.int .i64 0, .int .i64 0, .int .i64 0, .int .i64 0, .int .i64 0, .int .i64 0, .string ⟨#[]⟩, .string ⟨#[]⟩]) 80 rfl Try.underlying22 rowinfoH rfl (by decide) (by omega) _ (histV (l0.take j)) (⟨q0, q1, 7, q3, q4, q5, q6, q7⟩ : S43) [.int .i64 q0, .int .i64 q1, .int .i64 7, .int .i64 q3, .int .i64 q4, .int .i64 q5, .string q6, .string q7] (fun _ => True) (fun _ => False) rfl rfl (k43_mkM _ _ _ (⟨q0, q1, 7, q3, q4, q5, q6, q7⟩ : S43)) (fun _ hk => hk.elim) (fun _ _ => trivial) HO2.out HW2.out HW2.out.size (by omega) ?_; intro v1 w3 hR1 hB1 hg1 hv1; rw [← HT2.out] at hR1; have HR1 := Aside0.mk hR1; have HB1 := Aside0.mk hB1; clear hR1 hB1 hg1 hv1)
            go_roundw
            case rel => exact ⟨j + 1, by omega, by go_num, HR1, HB1⟩
            case measure => simp [intOf]; omega
        · have h7b : (q2 == 7) = false := by simpa using h7
          have HT2 : Aside0 (histV (l0.take (j + 1)) = histV (l0.take j)) := ⟨by rw [HT.out, if_neg]; unfold isC; simp [h7]⟩
          clear h7 HT
          go_wp2
          go_roundw
          case rel => exact ⟨j + 1, by omega, by go_num, ⟨by rw [HT2.out]; exact Kd.R_alloc HO.out _⟩, ⟨HW.out.alloc HW.out.size _⟩⟩
          case measure => simp [intOf]; omega
      · obtain rfl : j = l0.length := by omega
        go_wp2
        go_ret
        exact ⟨_, rfl, by have := HO.out; rwa [List.take_length] at this, HW.out⟩
  · rw [if_neg hlen] at h
    cases h


/-! ### fold_bare: function 18 -/
def fold_bare.f (a0_0 : Int) (a0_1 : Int) (a0_2 : Int) (a0_3 : Int) (a0_4 : Int) (a0_5 : Int) (a0_6 : ByteArray) (a0_7 : ByteArray) : Option (Int × Int × Int × Int × Int × Int × ByteArray × ByteArray) := some (0, 0, a0_2, a0_3, a0_4, a0_5, a0_6, a0_7)
set_option maxHeartbeats 8000000 in
set_option maxRecDepth 100000 in
theorem fold_bare.calls (a0_0 : Int) (a0_1 : Int) (a0_2 : Int) (a0_3 : Int) (a0_4 : Int) (a0_5 : Int) (a0_6 : ByteArray) (a0_7 : ByteArray) (r1 : Int) (r2 : Int) (r3 : Int) (r4 : Int) (r5 : Int) (r6 : Int) (r7 : ByteArray) (r8 : ByteArray) (w : World) (h : fold_bare.f a0_0 a0_1 a0_2 a0_3 a0_4 a0_5 a0_6 a0_7 = some (r1, r2, r3, r4, r5, r6, r7, r8)) :
    Calls Try.prog 18 #[.agg #[.int .i64 a0_0, .int .i64 a0_1, .int .i64 a0_2, .int .i64 a0_3, .int .i64 a0_4, .int .i64 a0_5, .string a0_6, .string a0_7]] w fun e w' => e = .returned (.agg #[.int .i64 r1, .int .i64 r2, .int .i64 r3, .int .i64 r4, .int .i64 r5, .int .i64 r6, .string r7, .string r8]) ∧ Below w.heap.size w w' := by
  unfold fold_bare.f at h
  simp only [Option.some.injEq, Prod.mk.injEq] at h
  obtain ⟨rfl, rfl, rfl, rfl, rfl, rfl, rfl, rfl⟩ := h
  go_enter Try.func18, Try.ntmps18
  go_wp2
  exact bodyPost_ret (v := .agg #[.int .i64 0, .int .i64 0, .int .i64 a0_2, .int .i64 a0_3, .int .i64 a0_4, .int .i64 a0_5, .string a0_6, .string a0_7]) (by simp [results, Try.results18, go_sem]) rfl ⟨rfl, by repeat (first | exact Below.refl _ _ | apply below_drew | refine Below.setCell ?_ (by simp) _ | refine Below.alloc ?_ (by simp) _)⟩


end Go.Proofs.Ytjhbihhiceimcaa.PFA
