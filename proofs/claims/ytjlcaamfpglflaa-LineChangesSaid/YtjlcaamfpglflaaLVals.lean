/- What the parts answer, as one value each; and the small cases that each law asks last. -/
import Derived.Test.YtjlcaamfpglflaaLNewer
import Derived.Test.YtjlcaamfpglflaaPLinex16
set_option linter.unusedSimpArgs false
set_option linter.unusedVariables false
namespace Go.Proofs.Ytjlcaamfpglflaa.LM
open Go.RowKit Go.Proofs.Ytjlcaamfpglflaa.PLine Go.Proofs.YtjlcaamfpglflaaW.PrintWords Go.Proofs.YtjlcaamfpglflaaW.PrintLast

def rt (l : List Mk) (last : Int) : Bool := okUpto l last l.length
theorem rt_iff {l : List Mk} {last : Int} : rt l last = true ↔ Right l last := right_iff
theorem rt_not {l : List Mk} {last : Int} : rt l last = false ↔ ¬ Right l last := by rw [← rt_iff]; simp
theorem check_rt (l : List Mk) (last : Int) : line_Check.f l last = some (if rt l last = true then 0 else 4) := rfl

def askedV (l : List Mk) (last n : Int) : Int := if rt l last = true then (if n < 0 then 6 else if n > last then 6 else 0) else 4
theorem asked_v (l : List Mk) (last n : Int) : line_asked.f l last n = some (askedV l last n) := by
  unfold line_asked.f askedV
  rw [check_rt, Option.bind_some]
  cases h : rt l last
  · simp
  · rw [if_pos rfl, if_pos rfl, if_pos rfl]
    by_cases h1 : n < 0
    · rw [if_pos h1, if_pos h1]
    · rw [if_neg h1, if_neg h1]
      by_cases h2 : n > last
      · rw [if_pos h2, if_pos h2]
      · rw [if_neg h2, if_neg h2]

def atV (l : List Mk) (last n : Int) : Int × Int := if askedV l last n = 0 then (ep l n, 0) else (0, askedV l last n)
theorem asked_zero {l : List Mk} {last n : Int} : askedV l last n = 0 ↔ Right l last ∧ 0 ≤ n ∧ n ≤ last := by
  unfold askedV
  rw [← rt_iff]
  cases rt l last
  · simp
  · rw [if_pos rfl]
    by_cases h1 : n < 0
    · rw [if_pos h1]
      exact ⟨fun h => by omega, fun h => by omega⟩
    · rw [if_neg h1]
      by_cases h2 : n > last
      · rw [if_pos h2]
        exact ⟨fun h => by omega, fun h => by omega⟩
      · rw [if_neg h2]
        exact ⟨fun _ => ⟨rfl, by omega, by omega⟩, fun _ => rfl⟩

theorem at_v (l : List Mk) (last n : Int) : line_At.f l last n = some (atV l last n) := by
  unfold line_At.f atV
  rw [asked_v, Option.bind_some]
  by_cases h : askedV l last n = 0
  · rw [if_pos h, if_pos h, right_at (asked_zero.1 h).1, Option.bind_some]
  · rw [if_neg h, if_neg h]

noncomputable def forkV (a b : List Mk) (la lb : Int) : Int × Int := if (rt a la && rt b lb) = true then (fork a b la lb, 0) else (0, 4)
def newV (a b : List Mk) (la lb : Int) : Bool × Int := if (rt a la && rt b lb) = true then (newer a b la lb, 0) else (false, 4)
theorem both {a b : List Mk} {la lb : Int} : (rt a la && rt b lb) = true ↔ Right a la ∧ Right b lb := by rw [Bool.and_eq_true, rt_iff, rt_iff]

theorem fork_v (a b : List Mk) (la lb : Int) : Ev (fun k => line_Fork.f k a la b lb) (forkV a b la lb) := by
  unfold forkV
  by_cases h : (rt a la && rt b lb) = true
  · rw [if_pos h]; exact fork_right (both.1 h).1 (both.1 h).2
  · rw [if_neg h]; exact fork_wrong (fun h' => h (both.2 h'))
theorem newer_v (a b : List Mk) (la lb : Int) : Ev (fun k => line_Newer.f k a la b lb) (newV a b la lb) := by
  unfold newV
  by_cases h : (rt a la && rt b lb) = true
  · rw [if_pos h]; exact newer_right (both.1 h).1 (both.1 h).2
  · rw [if_neg h]; exact newer_wrong (fun h' => h (both.2 h'))
/-! ### the small cases -/
def lA : List Mk := [⟨1, 1⟩, ⟨3, 4⟩]
def lB : List Mk := [⟨1, 1⟩, ⟨2, 3⟩]
theorem rA : Right lA 6 := right_iff.1 (by decide)
theorem rB : Right lB 5 := right_iff.1 (by decide)
theorem fork_AB : fork lA lB 6 5 = 2 := by
  refine Parts.unique (P := differ lA lB) (T := lsns lA ++ lsns lB) (T' := lsns lA ++ lsns lB) (out := 5) (fun n => Iff.rfl) ?_ ?_
  · have h := fork_parts lA lB 6 5
    rwa [if_neg (by decide)] at h
  · refine ⟨by decide, fun n hn hp => ?_, .inr ⟨3, by decide, by decide, by unfold differ; decide, by decide⟩⟩
    have : n = 1 ∨ n = 4 ∨ n = 3 := by
      simp [lsns, lA, lB] at hn; omega
    rcases this with rfl | rfl | rfl
    · exact absurd hp (by unfold differ; decide)
    · decide
    · decide

theorem speaks_ev : Ev (fun k => latticelaw19_speaks.f k) true := by
  have h1 : forkV lA lB 6 5 = (2, 0) := by
    unfold forkV; rw [if_pos (both.2 ⟨rA, rB⟩), fork_AB]
  have h2 : newV lA lB 6 5 = (true, 0) := by decide
  have h3 : atV lA 6 4 = (3, 0) := by decide
  have hf := fork_v lA lB 6 5
  have hn := newer_v lA lB 6 5
  rw [h1] at hf
  rw [h2] at hn
  refine Ev.congr (f := fun k => (line_Fork.f k lA 6 lB 5).bind fun x => (line_Newer.f k lA 6 lB 5).bind fun y => if x.2 = 0 then (if y.2 = 0 then (if x.1 = 2 then (if y.1 = true then some true else some false) else some false) else some false) else some false) (fun k => ?_) (Ev.bind hf (Ev.bind hn (Ev.now _)))
  unfold latticelaw19_speaks.f
  have ha : line_At.f [(⟨1, 1⟩ : Mk), (⟨3, 4⟩ : Mk)] 6 4 = some (3, 0) := by rw [← h3]; exact at_v _ _ _
  have hc : line_Check.f ([] : List Mk) 1 = some 4 := by rw [check_rt]; decide
  simp only [Option.bind_some, ha, hc, if_true]
  rfl

end Go.Proofs.Ytjlcaamfpglflaa.LM
