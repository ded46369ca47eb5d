-- Printed by wip/tools/myprint.py (over the kit's print.py), with hand-written contracts; Lean checks all of it.
import Derived.Test.YtjhbihhiceimcaaGreatPFZx0
import Derived.Test.YtjhbihhiceimcaaGreatPFZx3
import Derived.Test.YtjhbihhiceimcaaGreatPFZx4
import Derived.Test.YtjhbihhiceimcaaGreatPFZx12
import Derived.Test.YtjhbihhiceimcaaGreatPFZx14
namespace Go.Proofs.YtjhbihhiceimcaaGreat.PFZ
open Go.RowKit Go.Proofs.YtjhbihhiceimcaaGreatW.PrintWords Go.Proofs.YtjhbihhiceimcaaGreatW.PrintLast Go.Proofs.YtjhbihhiceimcaaGreatW.PrintMore
attribute [local go_sem] max2_int min2_int max_two min_two max_three min_three max_four min_four   -- for this text's walks alone
set_option linter.unusedVariables false
set_option linter.unusedSimpArgs false

/-! ### latticeref18_History: function 11 -/
theorem ref_keyC (k : ByteArray) : latticeref05_Check.f k = some (if keyOk k = true then 0 else 50) := by
  unfold latticeref05_Check.f keyOk
  rw [Go.ByteArray.toList_eq]
  have hs : k.size = k.data.toList.length := by rw [Array.length_toList]; rfl
  by_cases h1 : (k.size : Int) < 1
  · rw [if_pos h1]
    have : k.data.toList = [] := List.eq_nil_of_length_eq_zero (by omega)
    simp [this]
  · rw [if_neg h1]
    have : ¬ k.data.toList = [] := fun e => by rw [e, List.length_nil] at hs; omega
    by_cases h2 : (k.size : Int) > 16
    · rw [if_pos h2]; simp; omega
    · rw [if_neg h2]; simp [this]; omega
theorem ref_keyV (v : ByteArray) : latticeref05_Value.f v = some (if (v.size : Int) ≤ 32 then 0 else 51) := by
  unfold latticeref05_Value.f
  by_cases h : (v.size : Int) > 32
  · rw [if_pos h, if_neg (by omega)]
  · rw [if_neg h, if_pos (by omega)]
theorem right_7 (q0 q1 q3 q4 q5 : Int) (q6 q7 : ByteArray) : latticeref09_Right.f 1 q0 q1 7 q3 q4 q5 q6 q7 = some (commitOk q0 q1 q3 q4 q5 q6 q7) := by
  have hz : q7.toList = [] → (q7.size : Int) ≤ 32 := fun e => by
    rw [Go.ByteArray.toList_eq] at e
    have hs : q7.size = q7.data.toList.length := by rw [Array.length_toList]; rfl
    rw [hs, e]; decide
  unfold latticeref09_Right.f
  simp only [latticeref09_Right.j0, ref_keyC, ref_keyV, Option.bind_some]
  unfold commitOk okB okA bareV reqOk
  generalize keyOk q6 = ko
  by_cases h1 : q0 < 1
  · rw [if_pos h1]
    simp; omega
  · rw [if_neg h1]
    by_cases h2 : q0 > 1099511627776
    · rw [if_pos h2]; simp; omega
    · rw [if_neg h2]
      by_cases h3 : q1 < 0
      · rw [if_pos h3]; simp; omega
      · rw [if_neg h3]
        by_cases h4 : q1 > 1099511627776
        · rw [if_pos (by simpa using h4)]; simp; omega
        · rw [if_neg (by simpa using h4), if_pos trivial]
          have e1 : decide (1 ≤ q0) = true := decide_eq_true (by omega)
          have e2 : decide (q0 ≤ 1099511627776) = true := decide_eq_true (by omega)
          have e3 : decide (0 ≤ q1) = true := decide_eq_true (by omega)
          have e4 : decide (q1 ≤ 1099511627776) = true := decide_eq_true (by omega)
          rw [e1, e2, e3, e4]
          by_cases h5 : q3 = 0
          · rw [if_pos h5]
            subst h5
            by_cases h6 : q4 = 1
            · subst h6
              rw [if_pos rfl]
              by_cases h7 : (q7.size : Int) ≤ 32
              · rw [if_pos h7, if_pos rfl]
                have e7 : decide ((q7.size : Int) ≤ 32) = true := decide_eq_true h7
                rw [e7]
                by_cases h8 : q5 ≥ 1
                · rw [if_pos h8]
                  by_cases h9 : q5 ≤ 1099511627776
                  · rw [if_pos h9]
                    have : decide (1 ≤ q5) = true := decide_eq_true h8
                    cases ko <;> simp [h9, this]
                  · rw [if_neg h9]; simp; omega
                · rw [if_neg h8]; simp; omega
              · rw [if_neg h7, if_neg (by decide), if_neg (by decide)]
                have e7 : decide ((q7.size : Int) ≤ 32) = false := decide_eq_false h7
                have e8 : q7.toList.isEmpty = false := by
                  cases e : q7.toList with
                  | nil => exact absurd (hz e) h7
                  | cons _ _ => rfl
                rw [e7, e8]; simp
            · rw [if_neg h6]
              by_cases h6b : q4 = 2
              · subst h6b
                rw [if_pos rfl]
                by_cases h7 : q7.toList = []
                · rw [if_pos h7]
                  have e7 : q7.toList.isEmpty = true := by rw [h7]; rfl
                  rw [e7]
                  by_cases h8 : q5 ≥ 1
                  · rw [if_pos h8]
                    by_cases h9 : q5 ≤ 1099511627776
                    · rw [if_pos h9]
                      have : decide (1 ≤ q5) = true := decide_eq_true h8
                      cases ko <;> simp [h9, this]
                    · rw [if_neg h9]; simp; omega
                  · rw [if_neg h8]; simp; omega
                · rw [if_neg h7]
                  have e7 : q7.toList.isEmpty = false := by
                    cases e : q7.toList with
                    | nil => exact absurd e h7
                    | cons _ _ => rfl
                  rw [e7]; simp
              · rw [if_neg h6b]
                have : (q4 == 1) = false := by simpa using h6
                have h2' : (q4 == 2) = false := by simpa using h6b
                rw [this, h2']; simp
          · rw [if_neg h5]
            have : (q3 == 0) = false := by simpa using h5
            rw [this]; simp
def latticeref18_History.f (l0 : List S51) : Option (List S51) := if l0.length ≤ 1099511627776 then some (histV l0) else none
set_option maxHeartbeats 8000000 in
set_option maxRecDepth 100000 in
theorem latticeref18_History.calls (A0 : Option Addr) (c0 : Nat) (l0 : List (S51)) (r : List (S51)) (w : World) (hr0 : Kd.C k51 w A0 l0.length l0) (hc0 : l0.length ≤ c0) (h : latticeref18_History.f l0 = some r) :
    Calls Tryz.prog 11 #[.slice A0 l0.length c0] w fun e w' => ∃ v0_ : Value, e = .returned (v0_) ∧ Kd.R k51 51 w' w.heap.size (fun _ => True) v0_ r ∧ Below w.heap.size w w' := by
  unfold latticeref18_History.f at h
  by_cases hlen : l0.length ≤ 1099511627776
  · rw [if_pos hlen] at h
    obtain rfl := Option.some.inj h
    have HC := Aside0.mk hr0
    clear h hr0 hc0
    go_enter Tryz.func11, Tryz.ntmps11
    go_wp2
    go_loopw [3, 8] (fun o i wr => ∃ j : Nat, j ≤ l0.length ∧ i = .int .i64 j ∧ Aside0 (Kd.R k51 51 wr w.heap.size (fun _ => True) o (histV (l0.take j))) ∧ Aside0 (Below w.heap.size w wr)) (fun _ i _ => l0.length - (intOf i).toNat)
    case atStart => exact ⟨0, Nat.zero_le _, rfl, ⟨by rw [List.take_zero]; exact Kd.R_nil _ _ _ _ _⟩, ⟨Below.refl _ _⟩⟩
    case round =>
      obtain ⟨j, hj, rfl, HO, HW⟩ := hrel
      by_cases hlt : j < l0.length
      · have HT := Aside0.mk (histV_take hlt)
        have hln : (histV (l0.take j)).length ≤ j := Nat.le_trans (histV_len _) (List.length_take_le _ _)
        obtain ⟨ad, hA, g0, g1, g2, g3, g4, g5, g6, g7⟩ := at_T51 (Kd.C_below HC.out HW.out) (j : Int) (by omega) (by omega)
        rw [Int.toNat_natCast] at g0 g1 g2 g3 g4 g5 g6 g7
        subst hA
        generalize rd_T51 l0 (j : Int) = q at HT g0 g1 g2 g3 g4 g5 g6 g7
        obtain ⟨q0, q1, q2, q3, q4, q5, q6, q7⟩ := q
        simp only at g0 g1 g2 g3 g4 g5 g6 g7
        by_cases h7 : q2 = 7
        · subst h7
          have cC := latticeref09_Right.calls 1 q0 q1 7 q3 q4 q5 q6 q7 _ (wr.alloc (.cells #[.int .i64 q0, .int .i64 q1, .int .i64 7, .int .i64 q3, .int .i64 q4, .int .i64 q5, .string q6, .string q7] 51)) (right_7 q0 q1 q3 q4 q5 q6 q7)
          have HI : Aside0 (isC (⟨q0, q1, 7, q3, q4, q5, q6, q7⟩ : S51) = commitOk q0 q1 q3 q4 q5 q6 q7) := ⟨by unfold isC; simp⟩
          cases hk : commitOk q0 q1 q3 q4 q5 q6 q7
          · rw [hk] at cC
            have HT2 : Aside0 (histV (l0.take (j + 1)) = histV (l0.take j)) := ⟨by rw [HT.out, HI.out, hk, if_neg (by decide)]⟩
            clear hk HT HI
            go_wp2_with fail
            refine cC.mono ?_
            rintro e w2 ⟨rfl, hb⟩
            have HB := Aside0.mk (((Below.refl _ wr).alloc (Nat.le_refl _) _).trans (hb.mono (by simp)))
            clear hb
            go_wp2
            go_roundw
            case rel => exact ⟨j + 1, by omega, by go_num, ⟨by rw [HT2.out]; exact Kd.R_below HO.out HB.out⟩, ⟨HW.out.trans (HB.out.mono HW.out.size)⟩⟩
            case measure => simp [intOf]; omega
          · rw [hk] at cC
            have HT2 : Aside0 (histV (l0.take (j + 1)) = histV (l0.take j) ++ [⟨q0, q1, 7, q3, q4, q5, q6, q7⟩]) := ⟨by rw [HT.out, HI.out, hk, if_pos rfl]⟩
            clear hk HT HI
            go_wp2_with fail
            refine cC.mono ?_
            rintro e w2 ⟨rfl, hb⟩
            have HB := Aside0.mk (((Below.refl _ wr).alloc (Nat.le_refl _) _).trans (hb.mono (by simp)))
            have b0 : w2.cell? ⟨wr.heap.size, 0, none⟩ = some (.int .i64 q0) := (hb.cell (p := ⟨wr.heap.size, 0, none⟩) (by simp)).trans (by simp)
            have b1 : w2.cell? ⟨wr.heap.size, 1, none⟩ = some (.int .i64 q1) := (hb.cell (p := ⟨wr.heap.size, 1, none⟩) (by simp)).trans (by simp)
            have b2 : w2.cell? ⟨wr.heap.size, 2, none⟩ = some (.int .i64 7) := (hb.cell (p := ⟨wr.heap.size, 2, none⟩) (by simp)).trans (by simp)
            have b3 : w2.cell? ⟨wr.heap.size, 3, none⟩ = some (.int .i64 q3) := (hb.cell (p := ⟨wr.heap.size, 3, none⟩) (by simp)).trans (by simp)
            have b4 : w2.cell? ⟨wr.heap.size, 4, none⟩ = some (.int .i64 q4) := (hb.cell (p := ⟨wr.heap.size, 4, none⟩) (by simp)).trans (by simp)
            have b5 : w2.cell? ⟨wr.heap.size, 5, none⟩ = some (.int .i64 q5) := (hb.cell (p := ⟨wr.heap.size, 5, none⟩) (by simp)).trans (by simp)
            have b6 : w2.cell? ⟨wr.heap.size, 6, none⟩ = some (.string q6) := (hb.cell (p := ⟨wr.heap.size, 6, none⟩) (by simp)).trans (by simp)
            have b7 : w2.cell? ⟨wr.heap.size, 7, none⟩ = some (.string q7) := (hb.cell (p := ⟨wr.heap.size, 7, none⟩) (by simp)).trans (by simp)
            have HW2 : Aside0 (Below w.heap.size w w2) := ⟨HW.out.trans (HB.out.mono HW.out.size)⟩
            have HO2 : Aside0 (Kd.R k51 51 w2 w.heap.size (fun _ => True) _ (histV (l0.take j))) := ⟨Kd.R_below HO.out HB.out⟩
            clear hb HO g0 g1 g2 g3 g4 g5 g6 g7
            go_wp2_with ((with_reducible refine gate_builtin (b := .append) (xs := #[.tmp 19, .tmp 21]) rfl ?_); at_builtin; refine Kd.R_append k51 (w0 := w) w.heap.size rfl (.tmp 19) (.tmp 21) 22 51 (.agg #[.int .i64 0, .int .i64 0, .int .i64 0, .int .i64 0, .int .i64 0, .int .i64 0, .string ⟨#[]⟩, .string ⟨#[]⟩]) 80 rfl Tryz.underlying22 rowinfoH rfl (by decide) (by omega) _ (histV (l0.take j)) (⟨q0, q1, 7, q3, q4, q5, q6, q7⟩ : S51) [.int .i64 q0, .int .i64 q1, .int .i64 7, .int .i64 q3, .int .i64 q4, .int .i64 q5, .string q6, .string q7] (fun _ => True) (fun _ => False) rfl rfl (k51_mkM _ _ _ (⟨q0, q1, 7, q3, q4, q5, q6, q7⟩ : S51)) (fun _ hk => hk.elim) (fun _ _ => trivial) HO2.out HW2.out HW2.out.size (by omega) ?_; intro v1 w3 hR1 hB1 hg1 hv1; rw [← HT2.out] at hR1; have HR1 := Aside0.mk hR1; have HB1 := Aside0.mk hB1; clear hR1 hB1 hg1 hv1)
            go_roundw
            case rel => exact ⟨j + 1, by omega, by go_num, HR1, HB1⟩
            case measure => simp [intOf]; omega
        · have h7b : (q2 == 7) = false := by simpa using h7
          have HT2 : Aside0 (histV (l0.take (j + 1)) = histV (l0.take j)) := ⟨by rw [HT.out, if_neg]; unfold isC; simp [h7]⟩
          clear h7 HT
          go_wp2
          go_roundw
          case rel => exact ⟨j + 1, by omega, by go_num, ⟨by rw [HT2.out]; exact Kd.R_alloc HO.out _⟩, ⟨HW.out.alloc HW.out.size _⟩⟩
          case measure => simp [intOf]; omega
      · obtain rfl : j = l0.length := by omega
        go_wp2
        go_ret
        exact ⟨_, rfl, by have := HO.out; rwa [List.take_length] at this, HW.out⟩
  · rw [if_neg hlen] at h
    cases h


end Go.Proofs.YtjhbihhiceimcaaGreat.PFZ
