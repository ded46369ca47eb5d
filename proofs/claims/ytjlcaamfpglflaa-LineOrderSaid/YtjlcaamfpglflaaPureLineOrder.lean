/- LineOrder: of two timelines one is newer, or both have the same last epoch and LSN; and a timeline that goes on is not older than it was: for every input. -/
import Derived.Test.YtjlcaamfpglflaaLGrow
import Derived.Test.YtjlcaamfpglflaaSpecLineOrder
set_option linter.unusedSimpArgs false
set_option linter.unusedVariables false
namespace Go.Proofs.Ytjlcaamfpglflaa.LM
open Go.RowKit Go.Proofs.Ytjlcaamfpglflaa.PLine Go.Proofs.YtjlcaamfpglflaaW.PrintWords Go.Proofs.YtjlcaamfpglflaaW.PrintLast

theorem lorder_j1 {a : List Mk} {la e n : Int} (ha : Right a la) (hal : a.length < 8796093022208) : Ev (fun k => latticelaw19_LineOrder.j1 k e n false a la) true := by
  have he : Ev (fun k => (latticelaw19_speaks.f k).bind fun t => some t) true := Ev.bind speaks_ev (Ev.now _)
  refine Ev.step (f := fun k => (line_Grow.f k a la e n).bind fun x => (if x.2.2 = 0 then ((line_Newer.f k a la x.1 x.2.1).bind fun y => ((line_Fork.f k a la x.1 x.2.1).bind fun z => (if y.2 = 0 then (if z.2 = 0 then (if y.1 = true then (some false) else (if z.1 = la then ((line_Check.f x.1 x.2.1).bind fun t => (if t = 0 then ((latticelaw19_speaks.f k).bind fun t => (some t)) else (some false))) else (some false))) else (some false)) else (some false)))) else ((latticelaw19_speaks.f k).bind fun t => (some t)))) (fun k => ?_) (Ev.bind (grow_v a la e n hal) ?_)
  · simp only [latticelaw19_LineOrder.j1]
    rw [if_neg (by simp)]
  · by_cases hb : growBad a la e n = 0
    · have hz := grow_zero.1 hb
      have hg := grow_right ha hz.2.1 (by omega) (inB_iff.1 hz.2.2.2.1) hz.2.2.2.2
      have e1 : growV a la e n = (growL a la e n, la + n, 0) := by unfold growV; rw [if_pos hb]
      rw [e1]
      have v1 := newer_v a (growL a la e n) la (la + n)
      have v2 := fork_v a (growL a la e n) la (la + n)
      have n1 : newV a (growL a la e n) la (la + n) = (false, 0) := by
        unfold newV
        rw [if_pos (both.2 ⟨ha, hg⟩)]
        have := grow_ep ha hz.2.1 hz.2.2.2.2
        unfold newer
        rw [decide_eq_false (by omega)]
      have n2 : forkV a (growL a la e n) la (la + n) = (la, 0) := by
        unfold forkV
        rw [if_pos (both.2 ⟨ha, hg⟩), grow_fork ha hz.2.1]
      rw [n1] at v1
      rw [n2] at v2
      refine Ev.congr (f := fun k => (line_Newer.f k a la (growL a la e n) (la + n)).bind fun y => ((line_Fork.f k a la (growL a la e n) (la + n)).bind fun z => (if y.2 = 0 then (if z.2 = 0 then (if y.1 = true then (some false) else (if z.1 = la then ((latticelaw19_speaks.f k).bind fun t => (some t)) else (some false))) else (some false)) else (some false)))) (fun k => ?_) (Ev.bind v1 (Ev.bind v2 ?_))
      · rw [if_pos rfl]
        simp only [check_rt, rt_iff.2 hg, if_true, Option.bind_some]
      · refine Ev.congr (fun k => ?_) he
        rw [if_pos rfl, if_pos rfl, if_neg (by simp), if_pos rfl]
    · refine Ev.congr (fun k => ?_) he
      unfold growV
      rw [if_neg hb, if_neg hb]

theorem lorder_ev (a b : List Mk) (la lb e n : Int) (hal : a.length < 8796093022208) : Ev (fun k => latticelaw19_LineOrder.f k a la b lb e n) true := by
  have he : Ev (fun k => (latticelaw19_speaks.f k).bind fun t => some t) true := Ev.bind speaks_ev (Ev.now _)
  unfold latticelaw19_LineOrder.f
  refine Ev.bind (newer_v a b la lb) ?_
  refine Ev.bind (newer_v b a lb la) ?_
  by_cases hr : Right a la ∧ Right b lb
  · obtain ⟨ha, hb⟩ := hr
    have e1 : newV a b la lb = (newer a b la lb, 0) := by unfold newV; rw [if_pos (both.2 ⟨ha, hb⟩)]
    have e2 : newV b a lb la = (newer b a lb la, 0) := by unfold newV; rw [if_pos (both.2 ⟨hb, ha⟩)]
    rw [e1, e2]
    have p1 : line_At.f a la la = some (ep a la, 0) := by rw [at_v]; unfold atV; rw [if_pos (asked_zero.2 ⟨ha, ha.last0, by omega⟩)]
    have p2 : line_At.f b lb lb = some (ep b lb, 0) := by rw [at_v]; unfold atV; rw [if_pos (asked_zero.2 ⟨hb, hb.last0, by omega⟩)]
    refine Ev.congr (f := fun k => latticelaw19_LineOrder.j0 k e n (newer a b la lb) 0 (newer b a lb la) 0 false a la b lb) (fun k => ?_) (Ev.step (f := fun k => latticelaw19_LineOrder.j1 k e n false a la) (fun k => ?_) (lorder_j1 ha hal))
    · rw [if_pos rfl]; rfl
    · simp only [latticelaw19_LineOrder.j0]
      rw [if_neg (by simp), p1, Option.bind_some, p2, Option.bind_some]
      unfold newer
      by_cases h1 : ep a la > ep b lb ∨ ep a la = ep b lb ∧ la > lb
      · rw [if_pos (by simpa using h1), if_neg (by simp; omega)]
      · rw [if_neg (by simpa using h1)]
        by_cases h2 : ep b lb > ep a la ∨ ep b lb = ep a la ∧ lb > la
        · rw [if_pos (by simpa using h2)]
        · rw [if_neg (by simpa using h2), if_pos (by show ep a la = ep b lb; omega)]
          have : la = lb := by omega
          rw [this]
          simp
  · have e1 : newV a b la lb = (false, 4) := by unfold newV; rw [if_neg (fun h => hr (both.1 h))]
    have e2 : newV b a lb la = (false, 4) := by unfold newV; rw [if_neg (fun h => hr (both.1 h).symm)]
    rw [e1, e2]
    refine Ev.congr (f := fun k => latticelaw19_LineOrder.j0 k e n false 4 false 4 true a la b lb) (fun k => ?_) (Ev.step (fun k => ?_) he)
    · rw [if_neg (by decide)]
    · simp only [latticelaw19_LineOrder.j0]
      rw [if_pos trivial, if_pos trivial, if_neg (by simp), if_neg (by simp)]

end Go.Proofs.Ytjlcaamfpglflaa.LM
namespace Go.Proofs.Ytjlcaamfpglflaa.Pure
theorem LineOrder : PLine.latticelaw19_LineOrder.Pure := fun x0 x1 x2 h0 h1 _ => (LM.lorder_ev x0.f0 x1.f0 x0.f1 x1.f1 x2.f0 x2.f1 (by have := h0.1.1; omega)).rounds
end Go.Proofs.Ytjlcaamfpglflaa.Pure
