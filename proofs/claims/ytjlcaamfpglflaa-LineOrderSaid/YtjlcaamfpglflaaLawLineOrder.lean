-- Printed by wip/tools/myprint.py (over the kit's print.py), with hand-written contracts; Lean checks all of it.
import Derived.Test.YtjlcaamfpglflaaRows
import Derived.Test.YtjlcaamfpglflaaSpecLineOrder
import Derived.Test.YtjlcaamfpglflaaPureLineOrder
import Derived.WalkKit
import Derived.ProofKit
import Derived.OpenShut
import Derived.ShutString
import Derived.ChangeOld
import Derived.Below
import Derived.SizedLaws
namespace Go.Proofs.Ytjlcaamfpglflaa.lineOrder
open Go.ChangeShapes Go.WideShapes Go.ChangeAt Go.RowKit
open Go.ChangeMaps (open_string shut_string)
open Go.Proofs.YtjlcaamfpglflaaW.PrintWords
set_option linter.unusedVariables false
theorem own : ownKnob Try.prog.godebug = none := by kernel_rfl
theorem laidOut : laidOutB Try.prog = true := by kernel_rfl
set_option maxRecDepth 100000 in
theorem lifted (os : Os) (started : os.Started) (H : Type) (enc : TypeId × Value → H) :
    ReturnsInHanded {} Try.checked os 8 .any (Rows.lineOrderSpec.pre6 enc Try.prog Try.f8 Rows.lineOrderRow.domain false) (Rows.lineOrderSpec.post enc Try.prog Try.f8 false true false false) := by
  refine returnsInHanded_of_change_sized (C := Try.checked) own started (by kernel_rfl) Try.func8
    (ChangeSpec.witness6 (enc := enc) (C := Try.checked) false ⟨#[], #[.agg #[.slice none 0 0, .int .i64 0], .agg #[.slice none 0 0, .int .i64 0], .agg #[.int .i64 0, .int .i64 0]], []⟩ 8 (by kernel_rfl) (by kernel_rfl) (by kernel_rfl) (by kernel_rfl)) ?_
  intro W base args ds gs before hval0 hW hcnd hsz0 _
  have hsz : (DataW.weightsEach Try.prog (Try.f8.params.toList ++ Rows.lineOrderSpec.plain.varTypes Try.prog) (ds ++ gs)).all (· ≤ reachBytes) = true := hsz0
  have hval : ∀ (j : Nat) t v, Try.f8.params[j]? = some t → args[j]? = some v → Value.okWide Try.prog W .any base t v := hval0
  have hW' := hW
  obtain ⟨p, q, hA0, hV, rfl, hfz, hnd⟩ := hW
  have hA : DataW.TrodAll enc Try.prog W 0 (fun _ => true) true Try.f8.params.toList args.toList ds p := hA0
  rw [Try.params8] at hA hval hsz
  obtain ⟨v0, vs0, d0, ds0, p0, q0, hargs, rfl, rfl, h0, r0⟩ := trodAll_cons hA
  obtain ⟨v1, vs1, d1, ds1, p1, q1, rfl, rfl, rfl, h1, r1⟩ := trodAll_cons r0
  obtain ⟨v2, vs2, d2, ds2, p2, q2, rfl, rfl, rfl, h2, r2⟩ := trodAll_cons r1
  obtain ⟨rfl, rfl, rfl⟩ := trodAll_nil r2
  obtain rfl : args = #[v0, v1, v2] := by cases args; simp_all
  obtain ⟨rfl, rfl⟩ := trodVars_none hV
  have k0 := h0
  have lt0 : ∀ x ∈ p0, x.block < W.heap.size := by obtain ⟨m, hm⟩ := k0; exact DataW.trod_lt m _ _ _ hm
  obtain ⟨cs0, rfl, hz0⟩ := okWide_struct Try.underlying34 (hval 0 34 v0 rfl rfl)
  obtain ⟨x0, hx0, hb0⟩ := PLine.op34 W enc _ _ _ _ _ _ h0.choose_spec (Opens.weights_le hsz (j := 0) (t := 34) rfl rfl)
  have hx0' : PLine.k34.K W x0 cs0.toList := hx0
  obtain ⟨A0_0, c0_0, he0, hc0_0, hr0_0⟩ := PLine.k34_open hx0'
  obtain ⟨cl0⟩ := cs0
  simp only at he0
  subst he0
  have k1 := h1
  have lt1 : ∀ x ∈ p1, x.block < W.heap.size := by obtain ⟨m, hm⟩ := k1; exact DataW.trod_lt m _ _ _ hm
  obtain ⟨cs1, rfl, hz1⟩ := okWide_struct Try.underlying34 (hval 1 34 v1 rfl rfl)
  obtain ⟨x1, hx1, hb1⟩ := PLine.op34 W enc _ _ _ _ _ _ h1.choose_spec (Opens.weights_le hsz (j := 1) (t := 34) rfl rfl)
  have hx1' : PLine.k34.K W x1 cs1.toList := hx1
  obtain ⟨A1_0, c1_0, he1, hc1_0, hr1_0⟩ := PLine.k34_open hx1'
  obtain ⟨cl1⟩ := cs1
  simp only at he1
  subst he1
  have k2 := h2
  have lt2 : ∀ x ∈ p2, x.block < W.heap.size := by obtain ⟨m, hm⟩ := k2; exact DataW.trod_lt m _ _ _ hm
  obtain ⟨cs2, rfl, hz2⟩ := okWide_struct Try.underlying53 (hval 2 53 v2 rfl rfl)
  obtain ⟨x2, hx2, hb2⟩ := PLine.op53 W enc _ _ _ _ _ _ h2.choose_spec (Opens.weights_le hsz (j := 2) (t := 53) rfl rfl)
  have hx2' : PLine.k53.K W x2 cs2.toList := hx2
  have he2 := PLine.k53_open hx2'
  obtain ⟨cl2⟩ := cs2
  simp only at he2
  subst he2
  clear hA0 hval0 hsz0 hsz
  obtain ⟨k, h⟩ := Pure.LineOrder x0 x1 x2 hb0 hb1 hb2
  refine (PLine.latticelaw19_LineOrder.calls k _ _ x0.f0 x0.f1 _ _ x1.f0 x1.f1 x2.f0 x2.f1 true W hr0_0 hc0_0 hr1_0 hc1_0 ⟨rfl⟩ h).mono fun e W' ⟨he, bel0⟩ => ?_
  have bel : Below W.heap.size W W' := bel0
  subst he
  exact ⟨_, rfl, _, _, _, [], _, [], hW', trodAll_mk1 (shut_bool Try.underlying4 _), (trodAll_cons_mk (Below.trod laidOut (by kernel_rfl) (of_decide_eq_true (by kernel_rfl)) k0 bel lt0) (trodAll_cons_mk (Below.trod laidOut (by kernel_rfl) (of_decide_eq_true (by kernel_rfl)) k1 bel lt1) (trodAll_cons_mk (Below.trod laidOut (by kernel_rfl) (of_decide_eq_true (by kernel_rfl)) k2 bel lt2) trodAll_mk0))), rfl, bel.frame _, fun h => by cases h⟩
theorem over : Rows.lineOrderRow.holds Try.pinned (OpenSpec.ofChange Rows.lineOrderSpec) :=
  OpenClaim.holds_of_wide 8 Try.f8 rfl rfl rfl rfl rfl rfl rfl ⟨rfl, rfl, rfl, rfl, rfl⟩ rfl rfl rfl rfl rfl (by kernel_rfl) Try.func8 (by kernel_rfl)
    (of_decide_eq_true (by kernel_rfl)) (by unfold Func.isWrapper; first | (rw [if_pos (by decide +kernel)]; kernel_rfl) | (rw [if_neg (by decide +kernel)]; exact ⟨rfl, rfl⟩))
    (fun os started H enc _ => lifted os started H enc)
theorem proved : Rows.LineOrderSaid := over
#print axioms proved
end Go.Proofs.Ytjlcaamfpglflaa.lineOrder
namespace Go.Proofs.Ytjlcaamfpglflaa
/-- The row, under a short name, for the claim. -/
theorem lineOrder_holds : Rows.LineOrderSaid := lineOrder.proved
end Go.Proofs.Ytjlcaamfpglflaa
