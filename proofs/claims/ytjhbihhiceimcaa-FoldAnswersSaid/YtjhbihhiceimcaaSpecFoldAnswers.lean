-- Printed by wip/tools/myprint.py (over the kit's print.py), with hand-written contracts; Lean checks all of it.
import Derived.Test.YtjhbihhiceimcaaPFAx18
import Derived.Test.YtjhbihhiceimcaaOpens
namespace Go.Proofs.Ytjhbihhiceimcaa.PFA
open Go.RowKit Go.Proofs.YtjhbihhiceimcaaW.PrintWords Go.Proofs.YtjhbihhiceimcaaW.PrintLast Go.Proofs.YtjhbihhiceimcaaW.PrintMore
set_option linter.unusedVariables false
/-- What is known of a struct of type 50 that came in. -/
def b50 (x : S50) : Prop := x.f0.size ≤ 140737488351232 ∧ x.f1.size ≤ 140737488351232
theorem op50 (W : World) : Opens.OpensAt Try.prog W 50 k50 b50 :=
  Opens.opens_mono (Opens.opens_struct (ts := [9, 9]) Try.underlying50 rfl (by kernel_rfl) (by kernel_rfl) (Opens.opens_cons (Opens.opens_string Try.underlying9) (Opens.opens_one (Opens.opens_string Try.underlying9))) (fun x : S50 => (x.f0, x.f1)) (fun p => ⟨p.1, p.2⟩) (fun _ => rfl)) (fun a h => h)
/-- What is known of a struct of type 30 that came in. -/
def b30 (x : S30) : Prop := (Lit.int .i64 x.f0).wf = true ∧ x.f1.size ≤ 140737488351232 ∧ x.f2.size ≤ 140737488351232
theorem op30 (W : World) : Opens.OpensAt Try.prog W 30 k30 b30 :=
  Opens.opens_mono (Opens.opens_struct (ts := [3, 9, 9]) Try.underlying30 rfl (by kernel_rfl) (by kernel_rfl) (Opens.opens_cons (Opens.opens_int Try.underlying3) (Opens.opens_cons (Opens.opens_string Try.underlying9) (Opens.opens_one (Opens.opens_string Try.underlying9)))) (fun x : S30 => (x.f0, x.f1, x.f2)) (fun p => ⟨p.1, p.2.1, p.2.2⟩) (fun _ => rfl)) (fun a h => h)
/-- The statement over numbers, strings and lists alone. -/
def latticelaw18_FoldAnswers.Pure : Prop := ∀ (x0 : List (S50)) (x1 : S30), (x0.length * 32 ≤ 140737488351232 ∧ ∀ y ∈ x0, b50 y) → b30 x1 → ∃ k, latticelaw18_FoldAnswers.f k x0 x1.f0 x1.f1 x1.f2 = some true
end Go.Proofs.Ytjhbihhiceimcaa.PFA
