-- Printed by wip/tools/myprint.py (over the kit's print.py), with hand-written contracts; Lean checks all of it.
import Derived.Test.YtegfnceepplooaaPTRx0
import Derived.Test.YtegfnceepplooaaPTRx3
namespace Go.Proofs.Ytegfnceepplooaa.PTR
open Go.RowKit Go.Proofs.YtegfnceepplooaaW.PrintWords Go.Proofs.YtegfnceepplooaaW.PrintLast Go.Proofs.YtegfnceepplooaaW.PrintMore
attribute [local go_sem] max2_int min2_int max_two min_two max_three min_three max_four min_four   -- for this text's walks alone
set_option linter.unusedVariables false
set_option linter.unusedSimpArgs false

/-! ### fold_bare: function 35 -/
def fold_bare.f (a0_0 : Int) (a0_1 : Int) (a0_2 : Int) (a0_3 : Int) (a0_4 : Int) (a0_5 : Int) (a0_6 : ByteArray) (a0_7 : ByteArray) : Option (Int × Int × Int × Int × Int × Int × ByteArray × ByteArray) := some (0, 0, a0_2, a0_3, a0_4, a0_5, a0_6, a0_7)
set_option maxHeartbeats 8000000 in
set_option maxRecDepth 100000 in
theorem fold_bare.calls (a0_0 : Int) (a0_1 : Int) (a0_2 : Int) (a0_3 : Int) (a0_4 : Int) (a0_5 : Int) (a0_6 : ByteArray) (a0_7 : ByteArray) (r1 : Int) (r2 : Int) (r3 : Int) (r4 : Int) (r5 : Int) (r6 : Int) (r7 : ByteArray) (r8 : ByteArray) (w : World) (h : fold_bare.f a0_0 a0_1 a0_2 a0_3 a0_4 a0_5 a0_6 a0_7 = some (r1, r2, r3, r4, r5, r6, r7, r8)) :
    Calls Try.prog 35 #[.agg #[.int .i64 a0_0, .int .i64 a0_1, .int .i64 a0_2, .int .i64 a0_3, .int .i64 a0_4, .int .i64 a0_5, .string a0_6, .string a0_7]] w fun e w' => e = .returned (.agg #[.int .i64 r1, .int .i64 r2, .int .i64 r3, .int .i64 r4, .int .i64 r5, .int .i64 r6, .string r7, .string r8]) ∧ Below w.heap.size w w' := by
  unfold fold_bare.f at h
  simp only [Option.some.injEq, Prod.mk.injEq] at h
  obtain ⟨rfl, rfl, rfl, rfl, rfl, rfl, rfl, rfl⟩ := h
  go_enter Try.func35, Try.ntmps35
  go_wp2
  exact bodyPost_ret (v := .agg #[.int .i64 0, .int .i64 0, .int .i64 a0_2, .int .i64 a0_3, .int .i64 a0_4, .int .i64 a0_5, .string a0_6, .string a0_7]) (by simp [results, Try.results35, go_sem]) rfl ⟨rfl, by repeat (first | exact Below.refl _ _ | apply below_drew | refine Below.setCell ?_ (by simp) _ | refine Below.alloc ?_ (by simp) _)⟩


/-! ### fold_Extends: function 27 -/
theorem eqA50 (d : Nat) (w : World) (x0 y0 : Int) (x1 y1 : Int) (x2 y2 : Int) (x3 y3 : Int) (x4 y4 : Int) (x5 y5 : Int) (x6 y6 : ByteArray) (x7 y7 : ByteArray) :
    (Op.equalIn (d + 2) 50 (.agg #[.int .i64 x0, .int .i64 x1, .int .i64 x2, .int .i64 x3, .int .i64 x4, .int .i64 x5, .string x6, .string x7]) (.agg #[.int .i64 y0, .int .i64 y1, .int .i64 y2, .int .i64 y3, .int .i64 y4, .int .i64 y5, .string y6, .string y7])).run Try.prog w = .ok (x0 == y0 && (x1 == y1 && (x2 == y2 && (x3 == y3 && (x4 == y4 && (x5 == y5 && (x6.toList == y6.toList && (x7.toList == y7.toList)))))))) w := by
  refine eqA_of Try.underlying50 (by kernel_rfl) ?_
  refine eqf_cons (by rfl) (by go_simp; rfl) (by go_simp; rfl) (by go_simp) ?_
  refine eqf_cons (by rfl) (by go_simp; rfl) (by go_simp; rfl) (by go_simp) ?_
  refine eqf_cons (by rfl) (by go_simp; rfl) (by go_simp; rfl) (by go_simp) ?_
  refine eqf_cons (by rfl) (by go_simp; rfl) (by go_simp; rfl) (by go_simp) ?_
  refine eqf_cons (by rfl) (by go_simp; rfl) (by go_simp; rfl) (by go_simp) ?_
  refine eqf_cons (by rfl) (by go_simp; rfl) (by go_simp; rfl) (by go_simp) ?_
  refine eqf_cons (by rfl) (by go_simp; rfl) (by go_simp; rfl) (by go_simp) ?_
  exact eqf_last (by rfl) (by go_simp; rfl) (by go_simp; rfl) (by go_simp)
attribute [local go_sem high] eqA50
/-- Do two records part, their LSN and Epoch set aside? -/
def neqR (x y : S50) : Bool := !(x.f2 == y.f2) || (!(x.f3 == y.f3) || (!(x.f4 == y.f4) || (!(x.f5 == y.f5) || (!(x.f6.toList == y.f6.toList) || !(x.f7.toList == y.f7.toList)))))
def extB (a b : List S50) : Bool := decide (b.length ≤ a.length) && (List.range b.length).all fun i => !neqR (rd_T50 a (i : Int)) (rd_T50 b (i : Int))
theorem extB_short {a b : List S50} (h : a.length < b.length) : extB a b = false := by
  unfold extB
  rw [decide_eq_false (by omega)]
  rfl
theorem extB_no {a b : List S50} {i : Nat} (hi : i < b.length) (h : neqR (rd_T50 a (i : Int)) (rd_T50 b (i : Int)) = true) : extB a b = false := by
  unfold extB
  have : ((List.range b.length).all fun i => !neqR (rd_T50 a (i : Int)) (rd_T50 b (i : Int))) = false := by
    rw [List.all_eq_false]
    exact ⟨i, List.mem_range.2 hi, by simp [h]⟩
  rw [this, Bool.and_false]
theorem extB_yes {a b : List S50} (hl : b.length ≤ a.length) (h : ∀ i, i < b.length → neqR (rd_T50 a (i : Int)) (rd_T50 b (i : Int)) = false) : extB a b = true := by
  unfold extB
  have : ((List.range b.length).all fun i => !neqR (rd_T50 a (i : Int)) (rd_T50 b (i : Int))) = true := by
    rw [List.all_eq_true]
    intro i hi
    rw [h i (List.mem_range.1 hi)]
    rfl
  rw [this, Bool.and_true, decide_eq_true hl]
def fold_Extends.f (l0 : List S50) (l1 : List S50) : Option Bool := (fold_History.f l0).bind fun a => (fold_History.f l1).bind fun b => if a.length ≤ 1099511627776 ∧ b.length ≤ 1099511627776 then some (extB a b) else none
set_option maxHeartbeats 8000000 in
set_option maxRecDepth 100000 in
theorem fold_Extends.calls (A0 : Option Addr) (c0 : Nat) (l0 : List (S50)) (A1 : Option Addr) (c1 : Nat) (l1 : List (S50)) (r : Bool) (w : World) (hr0 : Kd.C k50 w A0 l0.length l0) (hc0 : l0.length ≤ c0) (hr1 : Kd.C k50 w A1 l1.length l1) (hc1 : l1.length ≤ c1) (h : fold_Extends.f l0 l1 = some r) :
    Calls Try.prog 27 #[.slice A0 l0.length c0, .slice A1 l1.length c1] w fun e w' => e = .returned (.bool r) ∧ Below w.heap.size w w' := by
  unfold fold_Extends.f at h
  have h9 := Option.bind_eq_some_iff.1 h
  clear h
  obtain ⟨a, hHa, h⟩ := h9
  have h9 := Option.bind_eq_some_iff.1 h
  clear h
  obtain ⟨b, hHb, h⟩ := h9
  by_cases hl : a.length ≤ 1099511627776 ∧ b.length ≤ 1099511627776
  · rw [if_pos hl] at h
    obtain ⟨hla, hlb⟩ := hl
    have HRES := Aside0.mk (Option.some.inj h)
    have cA := fold_History.calls A0 c0 l0 a w hr0 hc0 hHa
    have cB := fun W (hW : Below w.heap.size w W) => fold_History.calls A1 c1 l1 b W (Kd.C_below hr1 hW) hc1 hHb
    clear h hHa hHb hr0 hr1 hc0 hc1
    go_enter Try.func27, Try.ntmps27
    go_wp2_with fail
    refine cA.mono ?_
    rintro e w1 ⟨va, rfl, hRa, hB1⟩
    go_wp2_with fail
    refine (cB w1 hB1).mono ?_
    rintro e w2 ⟨vb, rfl, hRb, hB2⟩
    obtain ⟨Aa, ca, rfl, hca, hCa⟩ := Kd.R_reads (Kd.R_below hRa hB2)
    obtain ⟨Ab, cb, rfl, hcb, hCb⟩ := Kd.R_reads hRb
    have HCA := Aside0.mk hCa
    have HCB := Aside0.mk hCb
    have HB2 : Aside0 (Below w.heap.size w w2) := ⟨hB1.trans (hB2.mono hB1.size)⟩
    clear hRa hRb hB1 hB2 hCa hCb cA cB hca hcb
    by_cases hshort : a.length < b.length
    · have HX := Aside0.mk (extB_short hshort)
      go_wp2
      go_ret
      exact ⟨by rw [← HRES.out, HX.out]; rfl, HB2.out⟩
    · have hd : decide (a.length < b.length) = false := decide_eq_false hshort
      have hle : b.length ≤ a.length := by omega
      clear hshort
      go_wp2
      go_loopw [20] (fun i wr => ∃ j : Nat, j ≤ b.length ∧ i = .int .i64 j ∧ Aside0 (∀ q, q < j → neqR (rd_T50 a (q : Int)) (rd_T50 b (q : Int)) = false) ∧ Aside0 (Below w2.heap.size w2 wr)) (fun i _ => b.length - (intOf i).toNat)
      case atStart => exact ⟨0, Nat.zero_le _, rfl, ⟨fun q hq => by omega⟩, ⟨Below.refl _ _⟩⟩
      case round =>
        obtain ⟨j, hj, rfl, HG, HW⟩ := hrel
        by_cases hlt : j < b.length
        · obtain ⟨ad, hA, g0, g1, g2, g3, g4, g5, g6, g7⟩ := at_T50 (Kd.C_below HCB.out HW.out) (j : Int) (by omega) (by omega)
          obtain ⟨ae, hE, e0, e1, e2, e3, e4, e5, e6, e7⟩ := at_T50 (Kd.C_below HCA.out HW.out) (j : Int) (by omega) (by omega)
          rw [Int.toNat_natCast] at g0 g1 g2 g3 g4 g5 g6 g7 e0 e1 e2 e3 e4 e5 e6 e7
          subst hA hE
          have HN := Aside0.mk (show neqR (rd_T50 a (j : Int)) (rd_T50 b (j : Int)) = neqR (rd_T50 a (j : Int)) (rd_T50 b (j : Int)) from rfl)
          have HNO := Aside0.mk (extB_no (a := a) hlt)
          have HST : Aside0 (neqR (rd_T50 a (j : Int)) (rd_T50 b (j : Int)) = false → ∀ q, q < j + 1 → neqR (rd_T50 a (q : Int)) (rd_T50 b (q : Int)) = false) := ⟨fun h q hq => by
            by_cases e : q = j
            · subst e; exact h
            · exact HG.out q (by omega)⟩
          clear HN HG
          generalize rd_T50 b (j : Int) = q at HNO HST g0 g1 g2 g3 g4 g5 g6 g7
          generalize rd_T50 a (j : Int) = p at HNO HST e0 e1 e2 e3 e4 e5 e6 e7
          obtain ⟨q0, q1, q2, q3, q4, q5, q6, q7⟩ := q
          obtain ⟨p0, p1, p2, p3, p4, p5, p6, p7⟩ := p
          simp only [neqR] at g0 g1 g2 g3 g4 g5 g6 g7 e0 e1 e2 e3 e4 e5 e6 e7
          have hae : (ae.add (j * 8)).block < wr.heap.size := World.block_lt_of_cell? wr _ e0
          obtain ⟨wb, hwb⟩ : ∃ wb, wb = (wr.alloc (.cells #[.int .i64 q0, .int .i64 q1, .int .i64 q2, .int .i64 q3, .int .i64 q4, .int .i64 q5, .string q6, .string q7] 50)) := ⟨_, rfl⟩
          have hBw : Below wr.heap.size wr wb := by rw [hwb]; exact (Below.refl _ _).alloc (Nat.le_refl _) _
          have hwl : wr.heap.size < wb.heap.size := by rw [hwb]; simp
          have hae2 : (ae.add (j * 8)).block < wb.heap.size := Nat.lt_trans hae hwl
          have SX : Aside0 (∀ W, Below wb.heap.size wb W → W.cell? (ae.add (j * 8)) = some (.int .i64 p0) ∧ W.cell? ⟨(ae.add (j * 8)).block, (ae.add (j * 8)).off + 1, none⟩ = some (.int .i64 p1) ∧ W.cell? ⟨(ae.add (j * 8)).block, (ae.add (j * 8)).off + 2, none⟩ = some (.int .i64 p2) ∧ W.cell? ⟨(ae.add (j * 8)).block, (ae.add (j * 8)).off + 3, none⟩ = some (.int .i64 p3) ∧ W.cell? ⟨(ae.add (j * 8)).block, (ae.add (j * 8)).off + 4, none⟩ = some (.int .i64 p4) ∧ W.cell? ⟨(ae.add (j * 8)).block, (ae.add (j * 8)).off + 5, none⟩ = some (.int .i64 p5) ∧ W.cell? ⟨(ae.add (j * 8)).block, (ae.add (j * 8)).off + 6, none⟩ = some (.string p6) ∧ W.cell? ⟨(ae.add (j * 8)).block, (ae.add (j * 8)).off + 7, none⟩ = some (.string p7) ∧ W.cell? ⟨wr.heap.size, 0, none⟩ = some (.int .i64 q0) ∧ W.cell? ⟨wr.heap.size, 1, none⟩ = some (.int .i64 q1) ∧ W.cell? ⟨wr.heap.size, 2, none⟩ = some (.int .i64 q2) ∧ W.cell? ⟨wr.heap.size, 3, none⟩ = some (.int .i64 q3) ∧ W.cell? ⟨wr.heap.size, 4, none⟩ = some (.int .i64 q4) ∧ W.cell? ⟨wr.heap.size, 5, none⟩ = some (.int .i64 q5) ∧ W.cell? ⟨wr.heap.size, 6, none⟩ = some (.string q6) ∧ W.cell? ⟨wr.heap.size, 7, none⟩ = some (.string q7)) := ⟨fun W hW => ⟨(hW.cell (p := ae.add (j * 8)) hae2).trans ((hBw.cell (p := ae.add (j * 8)) hae).trans e0), (hW.cell (p := ⟨(ae.add (j * 8)).block, (ae.add (j * 8)).off + 1, none⟩) hae2).trans ((hBw.cell (p := ⟨(ae.add (j * 8)).block, (ae.add (j * 8)).off + 1, none⟩) hae).trans e1), (hW.cell (p := ⟨(ae.add (j * 8)).block, (ae.add (j * 8)).off + 2, none⟩) hae2).trans ((hBw.cell (p := ⟨(ae.add (j * 8)).block, (ae.add (j * 8)).off + 2, none⟩) hae).trans e2), (hW.cell (p := ⟨(ae.add (j * 8)).block, (ae.add (j * 8)).off + 3, none⟩) hae2).trans ((hBw.cell (p := ⟨(ae.add (j * 8)).block, (ae.add (j * 8)).off + 3, none⟩) hae).trans e3), (hW.cell (p := ⟨(ae.add (j * 8)).block, (ae.add (j * 8)).off + 4, none⟩) hae2).trans ((hBw.cell (p := ⟨(ae.add (j * 8)).block, (ae.add (j * 8)).off + 4, none⟩) hae).trans e4), (hW.cell (p := ⟨(ae.add (j * 8)).block, (ae.add (j * 8)).off + 5, none⟩) hae2).trans ((hBw.cell (p := ⟨(ae.add (j * 8)).block, (ae.add (j * 8)).off + 5, none⟩) hae).trans e5), (hW.cell (p := ⟨(ae.add (j * 8)).block, (ae.add (j * 8)).off + 6, none⟩) hae2).trans ((hBw.cell (p := ⟨(ae.add (j * 8)).block, (ae.add (j * 8)).off + 6, none⟩) hae).trans e6), (hW.cell (p := ⟨(ae.add (j * 8)).block, (ae.add (j * 8)).off + 7, none⟩) hae2).trans ((hBw.cell (p := ⟨(ae.add (j * 8)).block, (ae.add (j * 8)).off + 7, none⟩) hae).trans e7), (hW.cell (p := ⟨wr.heap.size, 0, none⟩) hwl).trans (by rw [hwb]; simp), (hW.cell (p := ⟨wr.heap.size, 1, none⟩) hwl).trans (by rw [hwb]; simp), (hW.cell (p := ⟨wr.heap.size, 2, none⟩) hwl).trans (by rw [hwb]; simp), (hW.cell (p := ⟨wr.heap.size, 3, none⟩) hwl).trans (by rw [hwb]; simp), (hW.cell (p := ⟨wr.heap.size, 4, none⟩) hwl).trans (by rw [hwb]; simp), (hW.cell (p := ⟨wr.heap.size, 5, none⟩) hwl).trans (by rw [hwb]; simp), (hW.cell (p := ⟨wr.heap.size, 6, none⟩) hwl).trans (by rw [hwb]; simp), (hW.cell (p := ⟨wr.heap.size, 7, none⟩) hwl).trans (by rw [hwb]; simp)⟩⟩
          have HBW : Aside0 (Below w2.heap.size w2 wb) := ⟨HW.out.trans (hBw.mono HW.out.size)⟩
          have hja : j < a.length := by omega
          have hjz : (j : Int) < (a.length : Int) := by omega
          have hj0 : 0 ≤ (j : Int) := by omega
          clear hBw hwl hae2 HW
          go_wp2
          rw [← hwb]
          clear hwb g0 g1 g2 g3 g4 g5 g6 g7 e0 e1 e2 e3 e4 e5 e6 e7
          go_region_held3 (fun w' => w'.cell? (ae.add (j * 8)) = some (.int .i64 p0) ∧ w'.cell? ⟨(ae.add (j * 8)).block, (ae.add (j * 8)).off + 1, none⟩ = some (.int .i64 p1) ∧ w'.cell? ⟨(ae.add (j * 8)).block, (ae.add (j * 8)).off + 2, none⟩ = some (.int .i64 p2) ∧ w'.cell? ⟨(ae.add (j * 8)).block, (ae.add (j * 8)).off + 3, none⟩ = some (.int .i64 p3) ∧ w'.cell? ⟨(ae.add (j * 8)).block, (ae.add (j * 8)).off + 4, none⟩ = some (.int .i64 p4) ∧ w'.cell? ⟨(ae.add (j * 8)).block, (ae.add (j * 8)).off + 5, none⟩ = some (.int .i64 p5) ∧ w'.cell? ⟨(ae.add (j * 8)).block, (ae.add (j * 8)).off + 6, none⟩ = some (.string p6) ∧ w'.cell? ⟨(ae.add (j * 8)).block, (ae.add (j * 8)).off + 7, none⟩ = some (.string p7) ∧ w'.cell? ⟨wr.heap.size, 0, none⟩ = some (.int .i64 q0) ∧ w'.cell? ⟨wr.heap.size, 1, none⟩ = some (.int .i64 q1) ∧ w'.cell? ⟨wr.heap.size, 2, none⟩ = some (.int .i64 q2) ∧ w'.cell? ⟨wr.heap.size, 3, none⟩ = some (.int .i64 q3) ∧ w'.cell? ⟨wr.heap.size, 4, none⟩ = some (.int .i64 q4) ∧ w'.cell? ⟨wr.heap.size, 5, none⟩ = some (.int .i64 q5) ∧ w'.cell? ⟨wr.heap.size, 6, none⟩ = some (.string q6) ∧ w'.cell? ⟨wr.heap.size, 7, none⟩ = some (.string q7)) (first | exact SX.out _ HWN.out | exact SX.out _ (below_drew (Below.refl _ _)) | exact SX.out _ (Below.refl _ _)) (first | (go_at_call 35; refine (fold_bare.calls _ _ _ _ _ _ _ _ _ _ _ _ _ _ _ _ _ rfl).mono ?_; rintro e w' ⟨rfl, hb⟩; first | (have HWM := Aside0.mk (HWN.out.trans (hb.mono HWN.out.size)); clear HWN; have HWN := HWM; clear HWM hb) | (have HWN : Aside0 (Below wb.heap.size wb w') := ⟨(below_drew (Below.refl _ _)).trans (hb.mono (Nat.le_refl _))⟩; clear hb)))
          generalize hne : (!p2 == q2 || (!p3 == q3 || (!p4 == q4 || (!p5 == q5 || (!p6.toList == q6.toList || !p7.toList == q7.toList))))) = ne
          cases ne
          · have HS2 := Aside0.mk (HST.out hne)
            clear hne HST HNO
            go_wp2
            go_roundw
            case rel => exact ⟨j + 1, by omega, by go_num, HS2, ⟨HBW.out.trans (HWN.out.mono HBW.out.size)⟩⟩
            case measure => simp [intOf]; omega
          · have HX := Aside0.mk (HNO.out hne)
            clear hne HST HNO
            go_wp2
            go_ret
            exact ⟨by rw [← HRES.out, HX.out]; rfl, HB2.out.trans ((HBW.out.trans (HWN.out.mono HBW.out.size)).mono HB2.out.size)⟩
        · obtain rfl : j = b.length := by omega
          have HX := Aside0.mk (extB_yes hle HG.out)
          go_wp2
          go_ret
          exact ⟨by rw [← HRES.out, HX.out]; rfl, HB2.out.trans (HW.out.mono HB2.out.size)⟩
  · rw [if_neg hl] at h
    cases h


end Go.Proofs.Ytegfnceepplooaa.PTR
