/- LineTells: which timelines are right, the epoch at each LSN, where two part, which is newer: the program's answers are the reference's, for every input. -/
import Derived.Test.YtjlcaamfpglflaaLVals2
import Derived.Test.YtjlcaamfpglflaaSpecLineTells
set_option linter.unusedSimpArgs false
set_option linter.unusedVariables false
namespace Go.Proofs.Ytjlcaamfpglflaa.LM
open Go.RowKit Go.Proofs.Ytjlcaamfpglflaa.PLine Go.Proofs.YtjlcaamfpglflaaW.PrintWords Go.Proofs.YtjlcaamfpglflaaW.PrintLast

theorem tells_ev (a b : List Mk) (la lb n : Int) (hal : a.length < 9223372036854775807) (hbl : b.length < 9223372036854775807) : Ev (fun k => latticelaw19_LineTells.f k a la b lb n) true := by
  unfold latticelaw19_LineTells.f
  simp only [latticelaw19_ref.f, at_v, check_rt, Option.bind_some]
  refine Ev.bind (rat_v a la n hal) ?_
  refine Ev.bind (fork_v a b la lb) ?_
  refine Ev.bind (rfork_v hal hbl) ?_
  refine Ev.bind (newer_v a b la lb) ?_
  refine Ev.bind (rnewer_v hal hbl) ?_
  refine Ev.bind (right_ev a la hal) ?_
  have h : (((if rt a la = true then (0 : Int) else 4) == 0) == okUpto a la a.length) = true := by
    show (((if rt a la = true then (0 : Int) else 4) == 0) == rt a la) = true
    cases rt a la <;> rfl
  refine Ev.congr (f := fun k => (latticelaw19_speaks.f k).bind fun t => some t) (fun k => ?_) (Ev.bind speaks_ev (Ev.now _))
  rw [if_pos h, if_pos rfl, if_pos rfl, if_pos rfl, if_pos rfl, if_pos (by simp), if_pos rfl]

end Go.Proofs.Ytjlcaamfpglflaa.LM
namespace Go.Proofs.Ytjlcaamfpglflaa.Pure
theorem LineTells : PLine.latticelaw19_LineTells.Pure := fun x0 x1 x2 h0 h1 _ => (LM.tells_ev x0.f0 x1.f0 x0.f1 x1.f1 x2 (by have := h0.1.1; omega) (by have := h1.1.1; omega)).rounds
end Go.Proofs.Ytjlcaamfpglflaa.Pure
