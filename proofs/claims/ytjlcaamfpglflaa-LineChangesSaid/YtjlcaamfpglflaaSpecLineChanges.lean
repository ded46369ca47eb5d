-- Printed by wip/tools/myprint.py (over the kit's print.py), with hand-written contracts; Lean checks all of it.
import Derived.Test.YtjlcaamfpglflaaPLinex27
import Derived.Test.YtjlcaamfpglflaaOpens
namespace Go.Proofs.Ytjlcaamfpglflaa.PLine
open Go.RowKit Go.Proofs.YtjlcaamfpglflaaW.PrintWords Go.Proofs.YtjlcaamfpglflaaW.PrintLast Go.Proofs.YtjlcaamfpglflaaW.PrintMore
set_option linter.unusedVariables false
/-- What is known of a struct of type 53 that came in. -/
def b53 (x : S53) : Prop := (Lit.int .i64 x.f0).wf = true ∧ (Lit.int .i64 x.f1).wf = true
theorem op53 (W : World) : Opens.OpensAt Try.prog W 53 k53 b53 :=
  Opens.opens_mono (Opens.opens_struct (ts := [3, 3]) Try.underlying53 rfl (by kernel_rfl) (by kernel_rfl) (Opens.opens_cons (Opens.opens_int Try.underlying3) (Opens.opens_one (Opens.opens_int Try.underlying3))) (fun x : S53 => (x.f0, x.f1)) (fun p => ⟨p.1, p.2⟩) (fun _ => rfl)) (fun a h => h)
/-- What is known of a struct of type 34 that came in. -/
def b34 (x : S34) : Prop := (x.f0.length * 16 ≤ 140737488351232 ∧ ∀ y ∈ x.f0, b53 y) ∧ (Lit.int .i64 x.f1).wf = true
theorem op34 (W : World) : Opens.OpensAt Try.prog W 34 k34 b34 :=
  Opens.opens_mono (Opens.opens_struct (ts := [32, 3]) Try.underlying34 rfl (by kernel_rfl) (by kernel_rfl) (Opens.opens_cons (Opens.opens_slice Try.underlying32 (by kernel_rfl) (by kernel_rfl) (op53 W)) (Opens.opens_one (Opens.opens_int Try.underlying3))) (fun x : S34 => (x.f0, x.f1)) (fun p => ⟨p.1, p.2⟩) (fun _ => rfl)) (fun a h => h)
/-- The statement over numbers, strings and lists alone. -/
def latticelaw19_LineChanges.Pure : Prop := ∀ (x0 : S34) (x1 : Int) (x2 : Int), b34 x0 → (Lit.int .i64 x1).wf = true → (Lit.int .i64 x2).wf = true → ∃ k, latticelaw19_LineChanges.f k x0.f0 x0.f1 x1 x2 = some true
end Go.Proofs.Ytjlcaamfpglflaa.PLine
