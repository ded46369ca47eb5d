-- Printed by wip/tools/myprint.py (over the kit's print.py), with hand-written contracts; Lean checks all of it.
import Derived.Test.YtjhbihhiceimcaaPFoldx0
import Derived.Test.YtjhbihhiceimcaaPFoldx3
import Derived.Test.YtjhbihhiceimcaaPFoldx5
import Derived.Test.YtjhbihhiceimcaaPFoldx11
import Derived.Test.YtjhbihhiceimcaaPFoldx12
import Derived.Test.YtjhbihhiceimcaaPFoldx17
namespace Go.Proofs.Ytjhbihhiceimcaa.PFold
open Go.RowKit Go.Proofs.YtjhbihhiceimcaaW.PrintWords Go.Proofs.YtjhbihhiceimcaaW.PrintLast Go.Proofs.YtjhbihhiceimcaaW.PrintMore
attribute [local go_sem] max2_int min2_int max_two min_two max_three min_three max_four min_four   -- for this text's walks alone
set_option linter.unusedVariables false
set_option linter.unusedSimpArgs false

/-! ### latticelaw18_FoldApart: function 6 -/
theorem rowinfoA : (Try.prog.info? 43).map (fun i => (i.zero, i.size, i.bytes)) = some (some (.agg #[(.int .i64 0), (.int .i64 0), (.int .i64 0), (.int .i64 0), (.int .i64 0), (.int .i64 0), (.string ⟨#[]⟩), (.string ⟨#[]⟩)]), 8, 80) := by kernel_rfl
def ownOf (key : ByteArray) (l : List S43) : List S43 := l.filter (fun r => r.f6.toList == key.toList)
theorem ownOf_len (key : ByteArray) (l : List S43) : (ownOf key l).length ≤ l.length := List.length_filter_le _ _
theorem ownOf_take {key : ByteArray} {l : List S43} {j : Nat} (h : j < l.length) : ownOf key (l.take (j + 1)) = if ((rd_T43 l (j : Int)).f6.toList == key.toList) = true then ownOf key (l.take j) ++ [rd_T43 l (j : Int)] else ownOf key (l.take j) := by
  have e : rd_T43 l (j : Int) = l[j] := by unfold rd_T43; simp [h]
  rw [List.take_succ_eq_append_getElem h, e]
  unfold ownOf
  rw [List.filter_append]
  cases hk : (l[j].f6.toList == key.toList)
  · rw [if_neg (by decide)]; simp [hk]
  · rw [if_pos rfl]; simp [hk]
def latticelaw18_FoldApart.f (k : Nat) (l0 : List S43) (a1 : ByteArray) : Option Bool := if (l0.length : Int) > 2000 then latticelaw18_speaks.f k else (fold_History.f l0).bind fun l => (fold_Behind.f l0 (l.length : Int)).bind fun m => (fold_History.f (ownOf a1 l0)).bind fun o => (fold_Behind.f (ownOf a1 l0) (o.length : Int)).bind fun n => (fold_Answer.f k m.1 1 a1 ⟨#[]⟩).bind fun x => (fold_Answer.f k n.1 1 a1 ⟨#[]⟩).bind fun y => (latticeplain_Result.f k x.1 x.2.1 x.2.2.1 y.1 y.2.1 y.2.2.1).bind fun t => if m.2 = 0 ∧ n.2 = 0 ∧ x.2.2.2 = 0 ∧ y.2.2.2 = 0 ∧ t = true then latticelaw18_speaks.f k else none
theorem latticelaw18_FoldApart.mono (l0 : List S43) (a1 : ByteArray) : ∀ k, LeO (latticelaw18_FoldApart.f k l0 a1) (latticelaw18_FoldApart.f (k + 1) l0 a1) := fun k =>
  LeO.ite (latticelaw18_speaks.mono _) (LeO.bind (LeO.refl _) (fun _ => LeO.bind (LeO.refl _) (fun _ => LeO.bind (LeO.refl _) (fun _ => LeO.bind (LeO.refl _) (fun _ => LeO.bind (fold_Answer.mono _ _ _ _ _) (fun _ => LeO.bind (fold_Answer.mono _ _ _ _ _) (fun _ => LeO.bind (latticeplain_Result.mono _ _ _ _ _ _ _) (fun _ => LeO.ite (latticelaw18_speaks.mono _) (LeO.refl _)))))))))
set_option maxHeartbeats 8000000 in
set_option maxRecDepth 100000 in
theorem latticelaw18_FoldApart.calls (k : Nat) (A0 : Option Addr) (c0 : Nat) (l0 : List (S43)) (a1 : ByteArray) (r : Bool) (w : World) (hr0 : Kd.C k43 w A0 l0.length l0) (hc0 : l0.length ≤ c0) (ht_ : Aside0 (r = true)) (h : latticelaw18_FoldApart.f k l0 a1 = some r) :
    Calls Try.prog 6 #[.slice A0 l0.length c0, .string a1] w fun e w' => e = .returned (.bool r) ∧ Below w.heap.size w w' := by
  unfold latticelaw18_FoldApart.f at h
  obtain rfl := ht_.out
  by_cases hb : (l0.length : Int) > 2000
  · rw [if_pos hb] at h
    have hb0 : decide (2000 < (l0.length : Int)) = true := decide_eq_true hb
    have H := Aside0.mk h
    clear h hb
    go_enter Try.func6, Try.ntmps6
    go_wp2_with fail
    refine (latticelaw18_speaks.calls k true w ⟨rfl⟩ H.out).mono ?_
    rintro e w1 ⟨rfl, hB⟩
    have HB := Aside0.mk hB
    clear hB
    go_wp2
    go_ret
    exact ⟨rfl, HB.out⟩
  · rw [if_neg hb] at h
    have hb0 : decide (2000 < (l0.length : Int)) = false := decide_eq_false hb
    have hlen : l0.length ≤ 2000 := by omega
    clear hb
    have h1 := Option.bind_eq_some_iff.1 h
    clear h
    obtain ⟨l, hH, h1⟩ := h1
    have h2 := Option.bind_eq_some_iff.1 h1
    clear h1
    obtain ⟨⟨m1, m2⟩, hM, h2⟩ := h2
    have h3 := Option.bind_eq_some_iff.1 h2
    clear h2
    obtain ⟨o, hO, h3⟩ := h3
    have h4 := Option.bind_eq_some_iff.1 h3
    clear h3
    obtain ⟨⟨n1, n2⟩, hN, h4⟩ := h4
    have h5 := Option.bind_eq_some_iff.1 h4
    clear h4
    obtain ⟨⟨x1, x2, x3, x4⟩, hX, h5⟩ := h5
    have h6 := Option.bind_eq_some_iff.1 h5
    clear h5
    obtain ⟨⟨y1, y2, y3, y4⟩, hY, h6⟩ := h6
    have h7 := Option.bind_eq_some_iff.1 h6
    clear h6
    obtain ⟨t, hT, h7⟩ := h7
    by_cases hc : m2 = 0 ∧ n2 = 0 ∧ x4 = 0 ∧ y4 = 0 ∧ t = true
    · rw [if_pos hc] at h7
      obtain ⟨rfl, rfl, rfl, rfl, rfl⟩ := hc
      have HR0 := Aside0.mk (show ∀ W, Below w.heap.size w W → Kd.C k43 W A0 l0.length l0 from fun W hW => Kd.C_below hr0 hW)
      have HC0 := Aside0.mk hc0
      have HH := Aside0.mk hH
      have HM := Aside0.mk hM
      have HO := Aside0.mk hO
      have HN := Aside0.mk hN
      have HX := Aside0.mk hX
      have HY := Aside0.mk hY
      have HT := Aside0.mk hT
      have HS := Aside0.mk h7
      clear hX hY hT h7 hH hM hO hN hr0 hc0
      go_enter Try.func6, Try.ntmps6
      go_wp2_with fail
      go_loopw [5, 22] (fun o_ i wr => ∃ j : Nat, j ≤ l0.length ∧ i = .int .i64 j ∧ Aside0 (Kd.R k43 43 wr w.heap.size (fun _ => True) o_ (ownOf a1 (l0.take j))) ∧ Aside0 (Below w.heap.size w wr)) (fun _ i _ => l0.length - (intOf i).toNat)
      case atStart => exact ⟨0, Nat.zero_le _, rfl, ⟨by rw [List.take_zero]; exact Kd.R_nil _ _ _ _ _⟩, ⟨Below.refl _ _⟩⟩
      case round =>
        obtain ⟨j, hj, rfl, HL, HW⟩ := hrel
        by_cases hlt : j < l0.length
        · have HTK := Aside0.mk (ownOf_take (key := a1) hlt)
          have hln : (ownOf a1 (l0.take j)).length ≤ j := Nat.le_trans (ownOf_len _ _) (List.length_take_le _ _)
          obtain ⟨ad, hA, g0, g1, g2, g3, g4, g5, g6, g7⟩ := at_T43 (HR0.out wr HW.out) (j : Int) (by omega) (by omega)
          rw [Int.toNat_natCast] at g0 g1 g2 g3 g4 g5 g6 g7
          subst hA
          generalize rd_T43 l0 (j : Int) = q at HTK g0 g1 g2 g3 g4 g5 g6 g7
          obtain ⟨q0, q1, q2, q3, q4, q5, q6, q7⟩ := q
          simp only at g0 g1 g2 g3 g4 g5 g6 g7
          cases hk : (q6.toList == a1.toList)
          · have HT2 : Aside0 (ownOf a1 (l0.take (j + 1)) = ownOf a1 (l0.take j)) := ⟨by rw [HTK.out]; simp only [hk]; rfl⟩
            clear HTK
            go_wp2
            go_roundw
            case rel => exact ⟨j + 1, by omega, by go_num, ⟨by rw [HT2.out]; exact Kd.R_alloc HL.out _⟩, ⟨HW.out.alloc HW.out.size _⟩⟩
            case measure => simp [intOf]; omega
          · have HT2 : Aside0 (ownOf a1 (l0.take (j + 1)) = ownOf a1 (l0.take j) ++ [(⟨q0, q1, q2, q3, q4, q5, q6, q7⟩ : S43)]) := ⟨by rw [HTK.out]; simp only [hk]; rfl⟩
            clear HTK
            have HW2 : Aside0 (Below w.heap.size w (wr.alloc (.cells #[.int .i64 q0, .int .i64 q1, .int .i64 q2, .int .i64 q3, .int .i64 q4, .int .i64 q5, .string q6, .string q7] 43))) := ⟨HW.out.alloc HW.out.size _⟩
            have HL2 : Aside0 (Kd.R k43 43 (wr.alloc (.cells #[.int .i64 q0, .int .i64 q1, .int .i64 q2, .int .i64 q3, .int .i64 q4, .int .i64 q5, .string q6, .string q7] 43)) w.heap.size (fun _ => True) _ (ownOf a1 (l0.take j))) := ⟨Kd.R_alloc HL.out _⟩
            clear HL
            go_wp2_with ((with_reducible refine gate_builtin (b := .append) (xs := #[.tmp 30, .tmp 32]) rfl ?_); at_builtin; refine Kd.R_append k43 (w0 := w) w.heap.size rfl (.tmp 30) (.tmp 32) 22 43 (.agg #[.int .i64 0, .int .i64 0, .int .i64 0, .int .i64 0, .int .i64 0, .int .i64 0, .string ⟨#[]⟩, .string ⟨#[]⟩]) 80 rfl Try.underlying22 rowinfoA rfl (by decide) (by omega) _ (ownOf a1 (l0.take j)) (⟨q0, q1, q2, q3, q4, q5, q6, q7⟩ : S43) [.int .i64 q0, .int .i64 q1, .int .i64 q2, .int .i64 q3, .int .i64 q4, .int .i64 q5, .string q6, .string q7] (fun _ => True) (fun _ => False) rfl (by rw [World.size_alloc]; rfl) (k43_mkM _ _ _ (⟨q0, q1, q2, q3, q4, q5, q6, q7⟩ : S43)) (fun _ hk => hk.elim) (fun _ _ => trivial) HL2.out HW2.out HW2.out.size (by omega) ?_; intro v1 w3 hR1 hB1 hg1 hv1; rw [← HT2.out] at hR1; have HR1 := Aside0.mk hR1; have HB1 := Aside0.mk hB1; clear hR1 hB1 hg1 hv1)
            go_roundw
            case rel => exact ⟨j + 1, by omega, by go_num, HR1, HB1⟩
            case measure => simp [intOf]; omega
        · obtain rfl : j = l0.length := by omega
          rw [List.take_length] at HL
          have HOS : Aside0 ((ownOf a1 l0).length ≤ 2000) := ⟨Nat.le_trans (ownOf_len _ _) hlen⟩
          generalize ownOf a1 l0 = own at HL HO HN HOS
          obtain ⟨A5, c5, rfl, hl5, hC5⟩ := Kd.R_reads HL.out
          have cH := fold_History.calls A0 c0 l0 l wr (HR0.out wr HW.out) HC0.out HH.out
          have HC5 := Aside0.mk (show ∀ W, Below wr.heap.size wr W → Kd.C k43 W A5 own.length own from fun W hW => Kd.C_below hC5 hW)
          have HL5 := Aside0.mk hl5
          clear hC5 hl5 HL
          go_wp2_with fail
          refine cH.mono ?_
          rintro e w1 ⟨v, rfl, hR, hB⟩
          obtain ⟨A1, c1, rfl, hl1, hC1⟩ := Kd.R_reads hR
          have HB1 := Aside0.mk hB
          have cB := fold_Behind.calls A0 c0 l0 (l.length : Int) m1 0 w1 (HR0.out w1 (HW.out.trans (hB.mono HW.out.size))) HC0.out HM.out
          clear hR hB hl1 hC1 cH
          go_wp2_with fail
          refine cB.mono ?_
          rintro e w2 ⟨v, rfl, hR, hB⟩
          obtain ⟨A2, c2, rfl, hl2, hC2⟩ := Kd.R_reads hR
          have HB2 : Aside0 (Below wr.heap.size wr w2) := ⟨HB1.out.trans (hB.mono HB1.out.size)⟩
          have HC2 := Aside0.mk (show ∀ W, Below w2.heap.size w2 W → Kd.C k50 W A2 m1.length m1 from fun W hW => Kd.C_below hC2 hW)
          have HL2 := Aside0.mk hl2
          have cH := fold_History.calls A5 c5 own o w2 (HC5.out w2 HB2.out) HL5.out HO.out
          clear hR hB hl2 hC2 cB HB1
          go_wp2_with fail
          refine cH.mono ?_
          rintro e w3 ⟨v, rfl, hR, hB⟩
          obtain ⟨A3, c3, rfl, hl3, hC3⟩ := Kd.R_reads hR
          have HB3 := Aside0.mk hB
          have cB := fold_Behind.calls A5 c5 own (o.length : Int) n1 0 w3 (HC5.out w3 (HB2.out.trans (hB.mono HB2.out.size))) HL5.out HN.out
          clear hR hB hl3 hC3 cH
          go_wp2_with fail
          refine cB.mono ?_
          rintro e w4 ⟨v, rfl, hR, hB⟩
          obtain ⟨A4, c4, rfl, hl4, hC4⟩ := Kd.R_reads hR
          have HB4 : Aside0 (Below w2.heap.size w2 w4) := ⟨HB3.out.trans (hB.mono HB3.out.size)⟩
          have HC4 := Aside0.mk (show ∀ W, Below w4.heap.size w4 W → Kd.C k50 W A4 n1.length n1 from fun W hW => Kd.C_below hC4 hW)
          have HL4 := Aside0.mk hl4
          have cX := fold_Answer.calls k A2 c2 m1 1 a1 ⟨#[]⟩ x1 x2 x3 0 w4 (HC2.out w4 HB4.out) HL2.out HX.out
          have HBF : Aside0 (Below w.heap.size w w4) := ⟨HW.out.trans ((HB2.out.trans (HB4.out.mono HB2.out.size)).mono HW.out.size)⟩
          clear hR hB hl4 hC4 cB HB3 HB2 HB4 HC2 HL2 HC5 HL5
          go_wp2_with fail
          refine cX.mono ?_
          rintro e w5 ⟨v, rfl, hR, hB⟩
          obtain ⟨A6, c6, rfl, hl6, hC6⟩ := Kd.R_reads hR
          have HB5 := Aside0.mk hB
          have HC6 := Aside0.mk (show ∀ W, Below w5.heap.size w5 W → Kd.C k50 W A6 x3.length x3 from fun W hW => Kd.C_below hC6 hW)
          have HL6 := Aside0.mk hl6
          clear hR hB hl6 hC6 cX
          have hb5 := HB5.out.alloc HB5.out.size (.cells #[.bool x1, .string x2, .slice A6 x3.length c6] 32)
          have HB5a : Aside0 (Below w.heap.size w (w5.alloc (.cells #[.bool x1, .string x2, .slice A6 x3.length c6] 32))) := ⟨HBF.out.trans (hb5.mono HBF.out.size)⟩
          have cY := fold_Answer.calls k A4 c4 n1 1 a1 ⟨#[]⟩ y1 y2 y3 0 (w5.alloc (.cells #[.bool x1, .string x2, .slice A6 x3.length c6] 32)) (HC4.out _ hb5) HL4.out HY.out
          clear HB5 hb5 HC4 HL4 HBF
          go_wp2_with fail
          refine cY.mono ?_
          rintro e w6 ⟨v, rfl, hR, hB⟩
          obtain ⟨A7, c7, rfl, hl7, hC7⟩ := Kd.R_reads hR
          have z0 : w6.cell? ⟨w5.heap.size, 0, none⟩ = some (.bool x1) := (hB.cell (p := ⟨w5.heap.size, 0, none⟩) (by simp)).trans (by simp)
          have z1 : w6.cell? ⟨w5.heap.size, 1, none⟩ = some (.string x2) := (hB.cell (p := ⟨w5.heap.size, 1, none⟩) (by simp)).trans (by simp)
          have z2 : w6.cell? ⟨w5.heap.size, 2, none⟩ = some (.slice A6 x3.length c6) := (hB.cell (p := ⟨w5.heap.size, 2, none⟩) (by simp)).trans (by simp)
          have hsz : w5.heap.size < w6.heap.size := by have := hB.size; simp at this; omega
          have HC7 := Aside0.mk hC7
          have HL7 := Aside0.mk hl7
          have HB6 : Aside0 (Below w.heap.size w w6) := ⟨HB5a.out.trans (hB.mono HB5a.out.size)⟩
          have HC6a : Aside0 (Kd.C k50 w6 A6 x3.length x3) := ⟨HC6.out w6 (((Below.refl _ w5).alloc (Nat.le_refl _) _).trans (hB.mono (by simp)))⟩
          clear hR hB hl7 hC7 cY HB5a HC6
          go_wp2_with fail
          have cT := latticeplain_Result.calls k x1 x2 A6 c6 x3 y1 y2 A7 c7 y3 true (w6.alloc (.cells #[.bool y1, .string y2, .slice A7 y3.length c7] 32)) (Kd.C_alloc HC6a.out _) HL6.out (Kd.C_alloc HC7.out _) HL7.out HT.out
          refine cT.mono ?_
          rintro e w7 ⟨rfl, hB⟩
          have hb6 := HB6.out.alloc HB6.out.size (.cells #[.bool y1, .string y2, .slice A7 y3.length c7] 32)
          have HB7 : Aside0 (Below w.heap.size w w7) := ⟨hb6.trans (hB.mono hb6.size)⟩
          clear hB cT hb6 HB6 HC6a HL6 HC7 HL7 z0 z1 z2 hsz
          go_wp2_with fail
          refine (latticelaw18_speaks.calls k true w7 ⟨rfl⟩ HS.out).mono ?_
          rintro e w8 ⟨rfl, hB⟩
          have HB8 : Aside0 (Below w.heap.size w w8) := ⟨HB7.out.trans (hB.mono HB7.out.size)⟩
          clear hB HB7
          go_wp2
          go_ret
          exact ⟨rfl, HB8.out⟩
    · rw [if_neg hc] at h7
      cases h7


end Go.Proofs.Ytjhbihhiceimcaa.PFold
