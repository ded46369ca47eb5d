/- FoldOrder: a history extends each of its beginnings, and what extends what extends another one extends that: for any three histories in an array and any number. -/
import Derived.Test.YtjhbihhiceimcaaRows
import Derived.Test.YtjhbihhiceimcaaFOrder
import Derived.Test.YtjhbihhiceimcaaOpens
import Derived.WalkKit
import Derived.ProofKit
import Derived.OpenShut
import Derived.ShutString
import Derived.ChangeOld
import Derived.Below
import Derived.SizedLaws
set_option linter.unusedVariables false
namespace Go.Proofs.Ytjhbihhiceimcaa.foldOrder
open Go.ChangeShapes Go.WideShapes Go.ChangeAt Go.RowKit
open Go.ChangeMaps (open_string shut_string)
open Go.Proofs.YtjhbihhiceimcaaW.PrintWords Go.Proofs.Ytjhbihhiceimcaa.PFA

/-- An array of three, its elements one behind the other. -/
theorem opens_array3 {α : Type} {P : Program} {W : World} {t e : TypeId} {d : Kd α} {B : α → Prop} (hu : P.underlying t = some (.array 3 e)) (hC : P.cellsOf t = P.cellsOf e + (P.cellsOf e + P.cellsOf e)) (h : Opens.OpensAt P W e d B) :
    Opens.OpensAt P W t (Kd.pair d (Kd.pair d d)) (fun x => B x.1 ∧ B x.2.1 ∧ B x.2.2) := by
  intro H enc base spare held fuel cs x hx hw
  obtain ⟨xs, n, _, rfl, hcl, hxl, hf⟩ := DataW.trod_array hu hx
  refine Opens.opens_cons h (Opens.opens_cons h (Opens.opens_one h)) enc base spare held n cs xs (by rw [hcl, hC]; simp) hxl (fun i u hi => ?_) (fun q hq => hw q ?_)
  · match i, hi with
    | 0, hi => obtain rfl := Option.some.inj hi; have := hf 0 (by omega); simpa using this
    | 1, hi => obtain rfl := Option.some.inj hi; have := hf 1 (by omega); simpa using this
    | 2, hi =>
      obtain rfl := Option.some.inj hi
      have := hf 2 (by omega)
      rw [show 2 * P.cellsOf e = (((([e, e, e] : List TypeId).take 2).map P.cellsOf).sum) from by simp; omega] at this
      exact this
    | i + 3, hi => simp at hi
  · simp only [DataW.weights, hu]
    match xs, hxl with
    | [a, b, c], _ => simpa [DataW.weightsEach, DataW.weightsAll] using hq

theorem opR (W : World) : Opens.OpensAt Try.prog W 43 k43 (fun _ => True) :=
  Opens.opens_mono (Opens.opens_struct (ts := [3, 3, 3, 3, 3, 3, 9, 9]) Try.underlying43 rfl (by kernel_rfl) (by kernel_rfl) (Opens.opens_cons (Opens.opens_int Try.underlying3) (Opens.opens_cons (Opens.opens_int Try.underlying3) (Opens.opens_cons (Opens.opens_int Try.underlying3) (Opens.opens_cons (Opens.opens_int Try.underlying3) (Opens.opens_cons (Opens.opens_int Try.underlying3) (Opens.opens_cons (Opens.opens_int Try.underlying3) (Opens.opens_cons (Opens.opens_string Try.underlying9) (Opens.opens_one (Opens.opens_string Try.underlying9))))))))) (fun x : S43 => (x.f0, x.f1, x.f2, x.f3, x.f4, x.f5, x.f6, x.f7)) (fun p => ⟨p.1, p.2.1, p.2.2.1, p.2.2.2.1, p.2.2.2.2.1, p.2.2.2.2.2.1, p.2.2.2.2.2.2.1, p.2.2.2.2.2.2.2⟩) (fun _ => rfl)) (fun _ _ => trivial)
theorem okWide_array {P : Program} {w : World} {r : Reach} {base : Nat} {t : TypeId} {v : Value} {n : Nat} {e : TypeId} (ht : P.underlying t = some (.array n e)) (h : Value.okWide P w r base t v) : ∃ cs, v = .agg cs ∧ cs.size = P.cellsOf t := by
  simp only [Value.okWide, ht] at h
  obtain ⟨cs, h1, h2, _⟩ := h
  exact ⟨cs, h1, h2⟩
abbrev kA := Kd.slice 43 k43
def bA (l : List S43) : Prop := l.length * 80 ≤ 140737488351232 ∧ ∀ x ∈ l, (fun _ => True) x
theorem opA (W : World) : Opens.OpensAt Try.prog W 23 (Kd.pair kA (Kd.pair kA kA)) (fun x => bA x.1 ∧ bA x.2.1 ∧ bA x.2.2) :=
  opens_array3 Try.underlying23 (by kernel_rfl) (Opens.opens_slice Try.underlying22 (by kernel_rfl) (by kernel_rfl) (opR W))

theorem order_all (A0 A1 A2 : Option Addr) (c0 c1 c2 : Nat) (a b c : List S43) (n : Int) (w : World) (h0 : Kd.C k43 w A0 a.length a) (h1 : Kd.C k43 w A1 b.length b) (h2 : Kd.C k43 w A2 c.length c)
    (q0 : a.length ≤ c0) (q1 : b.length ≤ c1) (q2 : c.length ≤ c2) (ha : a.length ≤ 1759218604441) (hb : b.length ≤ 1759218604441) (hc : c.length ≤ 1759218604441) :
    Calls Try.prog 3 #[.agg #[.slice A0 a.length c0, .slice A1 b.length c1, .slice A2 c.length c2], .int .i64 n] w fun e w' => e = .returned (.bool true) ∧ Below w.heap.size w w' := by
  by_cases hs : a.length + b.length + c.length ≤ 3000
  · exact FM.Order.order_small A0 A1 A2 c0 c1 c2 a b c n w h0 h1 h2 q0 q1 q2 hs
  · exact FM.Order.order_big A0 A1 A2 c0 c1 c2 a b c n w h0 h1 h2 (by omega) (by omega) (by omega) (by omega)

theorem own : ownKnob Try.prog.godebug = none := by kernel_rfl
theorem laidOut : laidOutB Try.prog = true := by kernel_rfl
set_option maxRecDepth 100000 in
theorem lifted (os : Os) (started : os.Started) (H : Type) (enc : TypeId × Value → H) :
    ReturnsInHanded {} Try.checked os 3 .any (Rows.foldOrderSpec.pre6 enc Try.prog Try.f3 Rows.foldOrderRow.domain false) (Rows.foldOrderSpec.post enc Try.prog Try.f3 false true false false) := by
  refine returnsInHanded_of_change_sized (C := Try.checked) own started (by kernel_rfl) Try.func3
    (ChangeSpec.witness6 (enc := enc) (C := Try.checked) false ⟨#[], #[.agg #[.slice none 0 0, .slice none 0 0, .slice none 0 0], .int .i64 0], []⟩ 8 (by kernel_rfl) (by kernel_rfl) (by kernel_rfl) (by kernel_rfl)) ?_
  intro W base args ds gs before hval0 hW hcnd hsz0 _
  have hsz : (DataW.weightsEach Try.prog (Try.f3.params.toList ++ Rows.foldOrderSpec.plain.varTypes Try.prog) (ds ++ gs)).all (· ≤ reachBytes) = true := hsz0
  have hval : ∀ (j : Nat) t v, Try.f3.params[j]? = some t → args[j]? = some v → Value.okWide Try.prog W .any base t v := hval0
  have hW' := hW
  obtain ⟨p, q, hA0, hV, rfl, hfz, hnd⟩ := hW
  have hA : DataW.TrodAll enc Try.prog W 0 (fun _ => true) true Try.f3.params.toList args.toList ds p := hA0
  rw [Try.params3] at hA hval hsz
  obtain ⟨v0, vs0, d0, ds0, p0, q0, hargs, rfl, rfl, h0, r0⟩ := trodAll_cons hA
  obtain ⟨v1, vs1, d1, ds1, p1, q1, rfl, rfl, rfl, h1, r1⟩ := trodAll_cons r0
  obtain ⟨rfl, rfl, rfl⟩ := trodAll_nil r1
  obtain rfl : args = #[v0, v1] := by cases args; simp_all
  obtain ⟨rfl, rfl⟩ := trodVars_none hV
  have k0 := h0
  have lt0 : ∀ x ∈ p0, x.block < W.heap.size := by obtain ⟨m, hm⟩ := k0; exact DataW.trod_lt m _ _ _ hm
  obtain ⟨cs0, rfl, hz0⟩ := okWide_array Try.underlying23 (hval 0 23 v0 rfl rfl)
  obtain ⟨⟨xa, xb, xc⟩, hx0, hb0⟩ := opA W enc _ _ _ _ _ _ h0.choose_spec (Opens.weights_le hsz (j := 0) (t := 23) rfl rfl)
  obtain ⟨i1, i2, he0, ⟨A0, c0, rfl, hc0, hr0⟩, ⟨i3, i4, rfl, ⟨A1, c1, rfl, hc1, hr1⟩, ⟨A2, c2, rfl, hc2, hr2⟩⟩⟩ := hx0
  obtain ⟨cl0⟩ := cs0
  simp only [Value.cells] at he0
  subst he0
  obtain ⟨⟨la, _⟩, ⟨lb, _⟩, ⟨lc, _⟩⟩ := hb0
  replace la : xa.length * 80 ≤ 140737488351232 := la
  replace lb : xb.length * 80 ≤ 140737488351232 := lb
  replace lc : xc.length * 80 ≤ 140737488351232 := lc
  obtain ⟨x1, rfl, rfl, rfl, w1⟩ := open_int Try.underlying3 (hval 1 3 v1 rfl rfl) h1
  clear hA0 hval0 hsz0 hsz
  refine (order_all A0 A1 A2 c0 c1 c2 xa xb xc x1 W hr0 hr1 hr2 hc0 hc1 hc2 (by omega) (by omega) (by omega)).mono fun e W' ⟨he, bel⟩ => ?_
  subst he
  exact ⟨_, rfl, _, _, _, [], _, [], hW', trodAll_mk1 (shut_bool Try.underlying4 _), (trodAll_cons_mk (Below.trod laidOut (by kernel_rfl) (of_decide_eq_true (by kernel_rfl)) k0 bel lt0) (trodAll_cons_mk (shut_int Try.underlying3 w1) trodAll_mk0)), rfl, bel.frame _, fun h => by cases h⟩
theorem over : Rows.foldOrderRow.holds Try.pinned (OpenSpec.ofChange Rows.foldOrderSpec) :=
  OpenClaim.holds_of_wide 3 Try.f3 rfl rfl rfl rfl rfl rfl rfl ⟨rfl, rfl, rfl, rfl, rfl⟩ rfl rfl rfl rfl rfl (by kernel_rfl) Try.func3 (by kernel_rfl)
    (of_decide_eq_true (by kernel_rfl)) (by unfold Func.isWrapper; first | (rw [if_pos (by decide +kernel)]; kernel_rfl) | (rw [if_neg (by decide +kernel)]; exact ⟨rfl, rfl⟩))
    (fun os started H enc _ => lifted os started H enc)
theorem proved : Rows.FoldOrderSaid := over
#print axioms proved
end Go.Proofs.Ytjhbihhiceimcaa.foldOrder
namespace Go.Proofs.Ytjhbihhiceimcaa
/-- The row, under a short name, for the claim. -/
theorem foldOrder_holds : Rows.FoldOrderSaid := foldOrder.proved
end Go.Proofs.Ytjhbihhiceimcaa
