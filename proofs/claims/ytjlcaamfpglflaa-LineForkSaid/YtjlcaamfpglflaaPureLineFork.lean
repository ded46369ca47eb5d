/- LineFork: up to the fork both timelines are the same, behind it they are not; and it is the same both ways, for every input. -/
import Derived.Test.YtjlcaamfpglflaaLCut
import Derived.Test.YtjlcaamfpglflaaSpecLineFork
set_option linter.unusedSimpArgs false
set_option linter.unusedVariables false
namespace Go.Proofs.Ytjlcaamfpglflaa.LM
open Go.RowKit Go.Proofs.Ytjlcaamfpglflaa.PLine Go.Proofs.YtjlcaamfpglflaaW.PrintWords Go.Proofs.YtjlcaamfpglflaaW.PrintLast

theorem speaks_end : Ev (fun k => (latticelaw19_speaks.f k).bind fun t => some t) true := Ev.bind speaks_ev (Ev.now _)

theorem lfork_ev (a b : List Mk) (la lb : Int) (hal : a.length < 8796093022208) (hbl : b.length < 8796093022208) : Ev (fun k => latticelaw19_LineFork.f k a la b lb) true := by
  unfold latticelaw19_LineFork.f
  refine Ev.bind (fork_v a b la lb) ?_
  refine Ev.bind (fork_v b a lb la) ?_
  by_cases hr : Right a la ∧ Right b lb
  · obtain ⟨ha, hb⟩ := hr
    have e1 : forkV a b la lb = (fork a b la lb, 0) := by unfold forkV; rw [if_pos (both.2 ⟨ha, hb⟩)]
    have e2 : forkV b a lb la = (fork a b la lb, 0) := by unfold forkV; rw [if_pos (both.2 ⟨hb, ha⟩), fork_symm]
    rw [e1, e2]
    have hle := fork_le (a := a) (b := b) (la := la) (lb := lb)
    have hpos := fork_pos ha hb
    have hma := ha.lastM
    have hcs := cut_same ha hb hle.1 hle.2 (fun n hn => fork_same ha hb hn)
    have hnx := fork_next (a := a) (b := b) (la := la) (lb := lb)
    generalize fork a b la lb = R at hle hpos hcs hnx
    refine Ev.congr (f := fun k => latticelaw19_LineFork.j0 k R false a la b lb) (fun k => ?_) ?_
    · rw [if_pos rfl, if_pos rfl, if_pos rfl, if_neg (by omega), if_neg (by omega), decide_eq_false (by omega)]
    · have c1 : cutV a la R = (cutL b R, R, 0) := by unfold cutV; rw [if_pos (asked_zero.2 ⟨ha, hpos, hle.1⟩), hcs]
      have c2 : cutV b lb R = (cutL b R, R, 0) := by unfold cutV; rw [if_pos (asked_zero.2 ⟨hb, hpos, hle.2⟩)]
      have v1 := cut_v a la R (by omega)
      have v2 := cut_v b lb R (by omega)
      rw [c1] at v1
      rw [c2] at v2
      have hl : (cutL b R).length < 9223372036854775807 := by
        have := List.length_filter_le (fun m : Mk => decide (m.f1 ≤ R)) b
        unfold cutL
        omega
      have hj2 : Ev (fun k => latticelaw19_LineFork.j1 k R false a la b lb) true := by
        have w1 : wrap64 (R + 1) = R + 1 := by unfold wrap64; omega
        by_cases h : R < la ∧ R < lb
        · have hne := hnx h.1 h.2
          have p1 : line_At.f a la (R + 1) = some (ep a (R + 1), 0) := by rw [at_v]; unfold atV; rw [if_pos (asked_zero.2 ⟨ha, by omega, by omega⟩)]
          have p2 : line_At.f b lb (R + 1) = some (ep b (R + 1), 0) := by rw [at_v]; unfold atV; rw [if_pos (asked_zero.2 ⟨hb, by omega, by omega⟩)]
          refine Ev.step (f := fun k => latticelaw19_LineFork.j2 k R true a la b lb) (fun k => ?_) (Ev.step (fun k => ?_) speaks_end)
          · simp only [latticelaw19_LineFork.j1]
            rw [if_neg (by simp), if_pos h.1, decide_eq_true h.2]
          · simp only [latticelaw19_LineFork.j2]
            rw [if_pos trivial, w1, p1, Option.bind_some, p2, Option.bind_some, if_neg hne]
        · refine Ev.step (f := fun k => latticelaw19_LineFork.j2 k R false a la b lb) (fun k => ?_) (Ev.step (fun k => ?_) speaks_end)
          · simp only [latticelaw19_LineFork.j1]
            rw [if_neg (by simp)]
            by_cases h1 : R < la
            · rw [if_pos h1, decide_eq_false (fun h2 => h ⟨h1, h2⟩)]
            · rw [if_neg h1]
          · simp only [latticelaw19_LineFork.j2]
            rw [if_neg (by simp)]
      refine Ev.step (f := fun k => (line_Cut.f k a la R).bind fun x => (line_Cut.f k b lb R).bind fun y => if x.2.2 = 0 then (if y.2.2 = 0 then (if x.2.1 = y.2.1 then ((latticeplain_Marks.f k x.1 y.1).bind fun t => latticelaw19_LineFork.j1 k R (!t) a la b lb) else latticelaw19_LineFork.j1 k R true a la b lb) else latticelaw19_LineFork.j1 k R true a la b lb) else latticelaw19_LineFork.j1 k R true a la b lb) (fun k => ?_) (Ev.bind v1 (Ev.bind v2 ?_))
      · simp only [latticelaw19_LineFork.j0]
        rw [if_neg (by simp)]
      · refine Ev.congr (f := fun k => (latticeplain_Marks.f k (cutL b R) (cutL b R)).bind fun t => latticelaw19_LineFork.j1 k R (!t) a la b lb) (fun k => ?_) (Ev.bind (marks_ev _ hl) hj2)
        rw [if_pos rfl, if_pos rfl, if_pos rfl]
  · have e1 : forkV a b la lb = (0, 4) := by unfold forkV; rw [if_neg (fun h => hr (both.1 h))]
    have e2 : forkV b a lb la = (0, 4) := by unfold forkV; rw [if_neg (fun h => hr (both.1 h).symm)]
    rw [e1, e2]
    refine Ev.congr (fun k => ?_) speaks_end
    rw [if_neg (by decide), if_pos rfl, if_pos rfl]

end Go.Proofs.Ytjlcaamfpglflaa.LM
namespace Go.Proofs.Ytjlcaamfpglflaa.Pure
theorem LineFork : PLine.latticelaw19_LineFork.Pure := fun x0 x1 h0 h1 => (LM.lfork_ev x0.f0 x1.f0 x0.f1 x1.f1 (by have := h0.1.1; omega) (by have := h1.1.1; omega)).rounds
end Go.Proofs.Ytjlcaamfpglflaa.Pure
