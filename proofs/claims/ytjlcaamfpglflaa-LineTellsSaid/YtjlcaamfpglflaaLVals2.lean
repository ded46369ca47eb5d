/- What the reference's parts answer, as one value each. -/
import Derived.Test.YtjlcaamfpglflaaLVals
import Derived.Test.YtjlcaamfpglflaaLNewer2
import Derived.Test.YtjlcaamfpglflaaLFork2
import Derived.Test.YtjlcaamfpglflaaPLinex8
set_option linter.unusedSimpArgs false
set_option linter.unusedVariables false
namespace Go.Proofs.Ytjlcaamfpglflaa.LM
open Go.RowKit Go.Proofs.Ytjlcaamfpglflaa.PLine Go.Proofs.YtjlcaamfpglflaaW.PrintWords Go.Proofs.YtjlcaamfpglflaaW.PrintLast

theorem rat_v (l : List Mk) (last n : Int) (hlen : l.length < 9223372036854775807) : Ev (fun k => latticeref19_At.f k l last n) (atV l last n) := by
  refine Ev.congr (f := fun k => (latticeref19_Right.f k l last).bind fun x => if x = true then (if n < 0 then some (0, 6) else if n > last then some (0, 6) else (latticeref19_Epoch.f k l last n).bind fun y => some (y, 0)) else some (0, 4)) (fun k => rfl) (Ev.bind (right_ev l last hlen) ?_)
  show Ev (fun k => if rt l last = true then (if n < 0 then some (0, 6) else if n > last then some (0, 6) else (latticeref19_Epoch.f k l last n).bind fun y => some (y, 0)) else some (0, 4)) _
  unfold atV askedV
  cases h : rt l last
  · exact Ev.congr (fun k => by simp) (Ev.now _)
  · by_cases h1 : n < 0
    · exact Ev.congr (fun k => by simp [h1]) (Ev.now _)
    · by_cases h2 : n > last
      · exact Ev.congr (fun k => by simp [h1, h2]) (Ev.now _)
      · refine Ev.congr (f := fun k => (latticeref19_Epoch.f k l last n).bind fun y => some (y, 0)) (fun k => by simp [h1, h2]) ?_
        simp only [h1, h2, if_false, if_true]
        exact Ev.bind (epoch_ev l last n hlen) (Ev.now _)

theorem rfork_v {a b : List Mk} {la lb : Int} (hal : a.length < 9223372036854775807) (hbl : b.length < 9223372036854775807) : Ev (fun k => latticeref19_Fork.f k a la b lb) (forkV a b la lb) := by
  unfold forkV
  by_cases h : (rt a la && rt b lb) = true
  · rw [if_pos h]; exact rfork_right (both.1 h).1 (both.1 h).2
  · rw [if_neg h]; exact rfork_wrong hal hbl (fun h' => h (both.2 h'))
theorem rnewer_v {a b : List Mk} {la lb : Int} (hal : a.length < 9223372036854775807) (hbl : b.length < 9223372036854775807) : Ev (fun k => latticeref19_Newer.f k a la b lb) (newV a b la lb) := by
  unfold newV
  by_cases h : (rt a la && rt b lb) = true
  · rw [if_pos h]; exact rnewer_right (both.1 h).1 (both.1 h).2
  · rw [if_neg h]; exact rnewer_wrong hal hbl (fun h' => h (both.2 h'))

end Go.Proofs.Ytjlcaamfpglflaa.LM
