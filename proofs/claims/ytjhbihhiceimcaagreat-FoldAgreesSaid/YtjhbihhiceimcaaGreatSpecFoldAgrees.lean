-- Printed by wip/tools/myprint.py (over the kit's print.py), with hand-written contracts; Lean checks all of it.
import Derived.Test.YtjhbihhiceimcaaGreatPFZx23
import Derived.Test.YtjhbihhiceimcaaGreatOpens
namespace Go.Proofs.YtjhbihhiceimcaaGreat.PFZ
open Go.RowKit Go.Proofs.YtjhbihhiceimcaaGreatW.PrintWords Go.Proofs.YtjhbihhiceimcaaGreatW.PrintLast Go.Proofs.YtjhbihhiceimcaaGreatW.PrintMore
set_option linter.unusedVariables false
/-- What is known of a struct of type 51 that came in. -/
def b51 (x : S51) : Prop := (Lit.int .i64 x.f0).wf = true ∧ (Lit.int .i64 x.f1).wf = true ∧ (Lit.int .i64 x.f2).wf = true ∧ (Lit.int .i64 x.f3).wf = true ∧ (Lit.int .i64 x.f4).wf = true ∧ (Lit.int .i64 x.f5).wf = true ∧ x.f6.size ≤ 140737488351232 ∧ x.f7.size ≤ 140737488351232
theorem op51 (W : World) : Opens.OpensAt Tryz.prog W 51 k51 b51 :=
  Opens.opens_mono (Opens.opens_struct (ts := [3, 3, 3, 3, 3, 3, 9, 9]) Tryz.underlying51 rfl (by kernel_rfl) (by kernel_rfl) (Opens.opens_cons (Opens.opens_int Tryz.underlying3) (Opens.opens_cons (Opens.opens_int Tryz.underlying3) (Opens.opens_cons (Opens.opens_int Tryz.underlying3) (Opens.opens_cons (Opens.opens_int Tryz.underlying3) (Opens.opens_cons (Opens.opens_int Tryz.underlying3) (Opens.opens_cons (Opens.opens_int Tryz.underlying3) (Opens.opens_cons (Opens.opens_string Tryz.underlying9) (Opens.opens_one (Opens.opens_string Tryz.underlying9))))))))) (fun x : S51 => (x.f0, x.f1, x.f2, x.f3, x.f4, x.f5, x.f6, x.f7)) (fun p => ⟨p.1, p.2.1, p.2.2.1, p.2.2.2.1, p.2.2.2.2.1, p.2.2.2.2.2.1, p.2.2.2.2.2.2.1, p.2.2.2.2.2.2.2⟩) (fun _ => rfl)) (fun a h => h)
/-- What is known of a struct of type 35 that came in. -/
def b35 (x : S35) : Prop := (Lit.int .i64 x.f0).wf = true ∧ x.f1.size ≤ 140737488351232 ∧ x.f2.size ≤ 140737488351232
theorem op35 (W : World) : Opens.OpensAt Tryz.prog W 35 k35 b35 :=
  Opens.opens_mono (Opens.opens_struct (ts := [3, 9, 9]) Tryz.underlying35 rfl (by kernel_rfl) (by kernel_rfl) (Opens.opens_cons (Opens.opens_int Tryz.underlying3) (Opens.opens_cons (Opens.opens_string Tryz.underlying9) (Opens.opens_one (Opens.opens_string Tryz.underlying9)))) (fun x : S35 => (x.f0, x.f1, x.f2)) (fun p => ⟨p.1, p.2.1, p.2.2⟩) (fun _ => rfl)) (fun a h => h)
/-- What is known of a struct of type 48 that came in. -/
def b48 (x : S48) : Prop := x.f0.size ≤ 140737488351232 ∧ x.f1.size ≤ 140737488351232
theorem op48 (W : World) : Opens.OpensAt Tryz.prog W 48 k48 b48 :=
  Opens.opens_mono (Opens.opens_struct (ts := [9, 9]) Tryz.underlying48 rfl (by kernel_rfl) (by kernel_rfl) (Opens.opens_cons (Opens.opens_string Tryz.underlying9) (Opens.opens_one (Opens.opens_string Tryz.underlying9))) (fun x : S48 => (x.f0, x.f1)) (fun p => ⟨p.1, p.2⟩) (fun _ => rfl)) (fun a h => h)
/-- What is known of a struct of type 37 that came in. -/
def b37 (x : S37) : Prop := True ∧ x.f1.size ≤ 140737488351232 ∧ (x.f2.length * 32 ≤ 140737488351232 ∧ ∀ y ∈ x.f2, b48 y)
theorem op37 (W : World) : Opens.OpensAt Tryz.prog W 37 k37 b37 :=
  Opens.opens_mono (Opens.opens_struct (ts := [4, 9, 24]) Tryz.underlying37 rfl (by kernel_rfl) (by kernel_rfl) (Opens.opens_cons (Opens.opens_bool Tryz.underlying4) (Opens.opens_cons (Opens.opens_string Tryz.underlying9) (Opens.opens_one (Opens.opens_slice Tryz.underlying24 (by kernel_rfl) (by kernel_rfl) (op48 W))))) (fun x : S37 => (x.f0, x.f1, x.f2)) (fun p => ⟨p.1, p.2.1, p.2.2⟩) (fun _ => rfl)) (fun a h => h)
/-- What is known of a struct of type 39 that came in. -/
def b39 (x : S39) : Prop := b35 x.f0 ∧ b37 x.f1 ∧ (Lit.int .i64 x.f2).wf = true
theorem op39 (W : World) : Opens.OpensAt Tryz.prog W 39 k39 b39 :=
  Opens.opens_mono (Opens.opens_struct (ts := [35, 37, 3]) Tryz.underlying39 rfl (by kernel_rfl) (by kernel_rfl) (Opens.opens_cons (op35 W) (Opens.opens_cons (op37 W) (Opens.opens_one (Opens.opens_int Tryz.underlying3)))) (fun x : S39 => (x.f0, x.f1, x.f2)) (fun p => ⟨p.1, p.2.1, p.2.2⟩) (fun _ => rfl)) (fun a h => h)
/-- The statement over numbers, strings and lists alone. -/
def latticelaw18_FoldAgrees.Pure : Prop := ∀ (x0 : List (S51)) (x1 : S39), (x0.length * 80 ≤ 140737488351232 ∧ ∀ y ∈ x0, b51 y) → b39 x1 → ∃ k, latticelaw18_FoldAgrees.f k x0 x1.f0.f0 x1.f0.f1 x1.f0.f2 x1.f1.f0 x1.f1.f1 x1.f1.f2 x1.f2 = some true
end Go.Proofs.YtjhbihhiceimcaaGreat.PFZ
