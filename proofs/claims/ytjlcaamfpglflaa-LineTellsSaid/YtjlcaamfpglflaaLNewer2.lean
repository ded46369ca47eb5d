/- Which timeline is newer: the reference's answer. -/
import Derived.Test.YtjlcaamfpglflaaLNewer
import Derived.Test.YtjlcaamfpglflaaLRef
import Derived.Test.YtjlcaamfpglflaaPLinex15
set_option linter.unusedSimpArgs false
set_option linter.unusedVariables false
namespace Go.Proofs.Ytjlcaamfpglflaa.LM
open Go.RowKit Go.Proofs.Ytjlcaamfpglflaa.PLine Go.Proofs.YtjlcaamfpglflaaW.PrintWords Go.Proofs.YtjlcaamfpglflaaW.PrintLast

theorem rnewer_j0 {a b : List Mk} {la lb : Int} : Ev (fun k => latticeref19_Newer.j0 k true a la b lb) (false, 4) := by
  refine Ev.step (fun k => ?_) (Ev.now _)
  simp only [latticeref19_Newer.j0]
  rw [if_pos trivial]

theorem rnewer_right {a b : List Mk} {la lb : Int} (ha : Right a la) (hb : Right b lb) : Ev (fun k => latticeref19_Newer.f k a la b lb) (newer a b la lb, 0) := by
  have hla := right_len ha
  have hlb := right_len hb
  have hma := ha.lastM
  have hmb := hb.lastM
  have hj : Ev (fun k => latticeref19_Newer.j0 k false a la b lb) (newer a b la lb, 0) := by
    refine Ev.step (f := fun k => (latticeref19_Epoch.f k a la la).bind fun x => (latticeref19_Epoch.f k b lb lb).bind fun y => if x > y then some (true, 0) else if x = y then some (decide (la > lb), 0) else some (false, 0)) (fun k => ?_) (Ev.bind (epoch_ev a la la (by omega)) (Ev.bind (epoch_ev b lb lb (by omega)) ?_))
    · simp only [latticeref19_Newer.j0]
      rw [if_neg (by simp)]
    · unfold newer
      refine Ev.congr (fun k => ?_) (Ev.now _)
      by_cases h1 : ep a la > ep b lb
      · rw [if_pos h1, decide_eq_true (.inl h1)]
      · rw [if_neg h1]
        by_cases h2 : ep a la = ep b lb
        · rw [if_pos h2]
          congr 2
          rw [decide_eq_decide]
          omega
        · rw [if_neg h2, decide_eq_false (by omega)]
  refine Ev.congr (f := fun k => (latticeref19_Right.f k a la).bind fun x => if x = true then ((latticeref19_Right.f k b lb).bind fun y => latticeref19_Newer.j0 k (!y) a la b lb) else latticeref19_Newer.j0 k true a la b lb) (fun k => rfl) (Ev.bind (right_ev a la (by omega)) ?_)
  rw [right_iff.2 ha]
  refine Ev.congr (f := fun k => (latticeref19_Right.f k b lb).bind fun y => latticeref19_Newer.j0 k (!y) a la b lb) (fun k => by rw [if_pos rfl]) (Ev.bind (right_ev b lb (by omega)) ?_)
  rw [right_iff.2 hb]
  exact hj

theorem rnewer_wrong {a b : List Mk} {la lb : Int} (hal : a.length < 9223372036854775807) (hbl : b.length < 9223372036854775807) (h : ¬ (Right a la ∧ Right b lb)) : Ev (fun k => latticeref19_Newer.f k a la b lb) (false, 4) := by
  refine Ev.congr (f := fun k => (latticeref19_Right.f k a la).bind fun x => if x = true then ((latticeref19_Right.f k b lb).bind fun y => latticeref19_Newer.j0 k (!y) a la b lb) else latticeref19_Newer.j0 k true a la b lb) (fun k => rfl) (Ev.bind (right_ev a la hal) ?_)
  cases ha : okUpto a la a.length with
  | false => exact Ev.congr (fun k => by rw [if_neg (by simp)]) rnewer_j0
  | true =>
    refine Ev.congr (f := fun k => (latticeref19_Right.f k b lb).bind fun y => latticeref19_Newer.j0 k (!y) a la b lb) (fun k => by rw [if_pos rfl]) (Ev.bind (right_ev b lb hbl) ?_)
    cases hb : okUpto b lb b.length with
    | false => exact rnewer_j0
    | true => exact absurd ⟨right_iff.1 ha, right_iff.1 hb⟩ h

end Go.Proofs.Ytjlcaamfpglflaa.LM
