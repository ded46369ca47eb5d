-- Printed by wip/tools/myprint.py (over the kit's print.py), with hand-written contracts; Lean checks all of it.
import Derived.Test.YtjhbihhiceimcaaGreatPFZx27
import Derived.Test.YtjhbihhiceimcaaGreatOpens
namespace Go.Proofs.YtjhbihhiceimcaaGreat.PFZ
open Go.RowKit Go.Proofs.YtjhbihhiceimcaaGreatW.PrintWords Go.Proofs.YtjhbihhiceimcaaGreatW.PrintLast Go.Proofs.YtjhbihhiceimcaaGreatW.PrintMore
set_option linter.unusedVariables false
/-- What is known of a struct of type 51 that came in. -/
def b51 (x : S51) : Prop := (Lit.int .i64 x.f0).wf = true ∧ (Lit.int .i64 x.f1).wf = true ∧ (Lit.int .i64 x.f2).wf = true ∧ (Lit.int .i64 x.f3).wf = true ∧ (Lit.int .i64 x.f4).wf = true ∧ (Lit.int .i64 x.f5).wf = true ∧ x.f6.size ≤ 140737488351232 ∧ x.f7.size ≤ 140737488351232
theorem op51 (W : World) : Opens.OpensAt Tryz.prog W 51 k51 b51 :=
  Opens.opens_mono (Opens.opens_struct (ts := [3, 3, 3, 3, 3, 3, 9, 9]) Tryz.underlying51 rfl (by kernel_rfl) (by kernel_rfl) (Opens.opens_cons (Opens.opens_int Tryz.underlying3) (Opens.opens_cons (Opens.opens_int Tryz.underlying3) (Opens.opens_cons (Opens.opens_int Tryz.underlying3) (Opens.opens_cons (Opens.opens_int Tryz.underlying3) (Opens.opens_cons (Opens.opens_int Tryz.underlying3) (Opens.opens_cons (Opens.opens_int Tryz.underlying3) (Opens.opens_cons (Opens.opens_string Tryz.underlying9) (Opens.opens_one (Opens.opens_string Tryz.underlying9))))))))) (fun x : S51 => (x.f0, x.f1, x.f2, x.f3, x.f4, x.f5, x.f6, x.f7)) (fun p => ⟨p.1, p.2.1, p.2.2.1, p.2.2.2.1, p.2.2.2.2.1, p.2.2.2.2.2.1, p.2.2.2.2.2.2.1, p.2.2.2.2.2.2.2⟩) (fun _ => rfl)) (fun a h => h)
/-- The statement over numbers, strings and lists alone. -/
def latticelaw18_FoldHolds.Pure : Prop := ∀ (x0 : List (S51)) (x1 : List (S51)) (x2 : Int), (x0.length * 80 ≤ 140737488351232 ∧ ∀ y ∈ x0, b51 y) → (x1.length * 80 ≤ 140737488351232 ∧ ∀ y ∈ x1, b51 y) → (Lit.int .i64 x2).wf = true → ∃ k, latticelaw18_FoldHolds.f k x0 x1 x2 = some true
end Go.Proofs.YtjhbihhiceimcaaGreat.PFZ
