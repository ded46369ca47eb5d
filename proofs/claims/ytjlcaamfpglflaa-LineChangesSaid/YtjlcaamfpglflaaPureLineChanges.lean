/- LineChanges: a timeline that is cut, and one that goes on: the program's answers are the reference's, for every input. -/
import Derived.Test.YtjlcaamfpglflaaLRCut
import Derived.Test.YtjlcaamfpglflaaSpecLineChanges
set_option linter.unusedSimpArgs false
set_option linter.unusedVariables false
namespace Go.Proofs.Ytjlcaamfpglflaa.LM
open Go.RowKit Go.Proofs.Ytjlcaamfpglflaa.PLine Go.Proofs.YtjlcaamfpglflaaW.PrintWords Go.Proofs.YtjlcaamfpglflaaW.PrintLast

theorem changes_ev (l : List Mk) (last n e : Int) (hl : l.length < 8796093022208 - 1) : Ev (fun k => latticelaw19_LineChanges.f k l last n e) true := by
  unfold latticelaw19_LineChanges.f
  simp only [latticelaw19_ref.f, Option.bind_some]
  refine Ev.bind (cut_v l last n (by omega)) ?_
  refine Ev.bind (rcut_v l last n (by omega)) ?_
  refine Ev.bind (grow_v l last e n (by omega)) ?_
  refine Ev.bind (rgrow_v l last e n (by omega)) ?_
  have hc : (cutV l last n).1.length < 9223372036854775807 := by
    unfold cutV
    split
    · have := List.length_filter_le (fun m : Mk => decide (m.f1 ≤ n)) l
      show (cutL l n).length < _
      unfold cutL
      omega
    · show 0 < _
      omega
  have hg : (growV l last e n).1.length < 9223372036854775807 := by
    unfold growV
    split
    · show (growL l last e n).length < _
      unfold growL
      split
      · rw [List.length_append, List.length_singleton]; omega
      · omega
    · show 0 < _
      omega
  refine Ev.bind (same_ev _ _ hc) ?_
  refine Ev.congr (f := fun k => (latticelaw19_same.f k (growV l last e n).1 (growV l last e n).2.1 (growV l last e n).1 (growV l last e n).2.1).bind fun t => if t = true then (latticelaw19_speaks.f k).bind fun t => some t else some false) (fun k => ?_) (Ev.bind (same_ev _ _ hg) ?_)
  · rw [if_pos rfl, if_pos rfl, if_pos rfl]
  · refine Ev.congr (f := fun k => (latticelaw19_speaks.f k).bind fun t => some t) (fun k => ?_) (Ev.bind speaks_ev (Ev.now _))
    rw [if_pos rfl]

end Go.Proofs.Ytjlcaamfpglflaa.LM
namespace Go.Proofs.Ytjlcaamfpglflaa.Pure
theorem LineChanges : PLine.latticelaw19_LineChanges.Pure := fun x0 x1 x2 h0 _ _ => (LM.changes_ev x0.f0 x0.f1 x1 x2 (by have := h0.1.1; omega)).rounds
end Go.Proofs.Ytjlcaamfpglflaa.Pure
