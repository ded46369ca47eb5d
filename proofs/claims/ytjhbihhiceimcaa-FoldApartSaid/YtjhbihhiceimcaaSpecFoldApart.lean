-- Printed by wip/tools/myprint.py (over the kit's print.py), with hand-written contracts; Lean checks all of it.
import Derived.Test.YtjhbihhiceimcaaPFoldx20
import Derived.Test.YtjhbihhiceimcaaOpens
namespace Go.Proofs.Ytjhbihhiceimcaa.PFold
open Go.RowKit Go.Proofs.YtjhbihhiceimcaaW.PrintWords Go.Proofs.YtjhbihhiceimcaaW.PrintLast Go.Proofs.YtjhbihhiceimcaaW.PrintMore
set_option linter.unusedVariables false
/-- What is known of a struct of type 43 that came in. -/
def b43 (x : S43) : Prop := (Lit.int .i64 x.f0).wf = true ∧ (Lit.int .i64 x.f1).wf = true ∧ (Lit.int .i64 x.f2).wf = true ∧ (Lit.int .i64 x.f3).wf = true ∧ (Lit.int .i64 x.f4).wf = true ∧ (Lit.int .i64 x.f5).wf = true ∧ x.f6.size ≤ 140737488351232 ∧ x.f7.size ≤ 140737488351232
theorem op43 (W : World) : Opens.OpensAt Try.prog W 43 k43 b43 :=
  Opens.opens_mono (Opens.opens_struct (ts := [3, 3, 3, 3, 3, 3, 9, 9]) Try.underlying43 rfl (by kernel_rfl) (by kernel_rfl) (Opens.opens_cons (Opens.opens_int Try.underlying3) (Opens.opens_cons (Opens.opens_int Try.underlying3) (Opens.opens_cons (Opens.opens_int Try.underlying3) (Opens.opens_cons (Opens.opens_int Try.underlying3) (Opens.opens_cons (Opens.opens_int Try.underlying3) (Opens.opens_cons (Opens.opens_int Try.underlying3) (Opens.opens_cons (Opens.opens_string Try.underlying9) (Opens.opens_one (Opens.opens_string Try.underlying9))))))))) (fun x : S43 => (x.f0, x.f1, x.f2, x.f3, x.f4, x.f5, x.f6, x.f7)) (fun p => ⟨p.1, p.2.1, p.2.2.1, p.2.2.2.1, p.2.2.2.2.1, p.2.2.2.2.2.1, p.2.2.2.2.2.2.1, p.2.2.2.2.2.2.2⟩) (fun _ => rfl)) (fun a h => h)
/-- The statement over numbers, strings and lists alone. -/
def latticelaw18_FoldApart.Pure : Prop := ∀ (x0 : List (S43)) (x1 : ByteArray), (x0.length * 80 ≤ 140737488351232 ∧ ∀ y ∈ x0, b43 y) → x1.size ≤ 140737488351232 → ∃ k, latticelaw18_FoldApart.f k x0 x1 = some true
end Go.Proofs.Ytjhbihhiceimcaa.PFold
