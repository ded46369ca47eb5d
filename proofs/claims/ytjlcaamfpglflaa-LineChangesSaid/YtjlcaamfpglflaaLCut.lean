/- Cut timelines: the program's answer as one value; equal lists of marks. -/
import Derived.Test.YtjlcaamfpglflaaLVals
import Derived.Test.YtjlcaamfpglflaaLMath3
import Derived.Test.YtjlcaamfpglflaaPLinex18
import Derived.Test.YtjlcaamfpglflaaPLinex19
set_option linter.unusedSimpArgs false
set_option linter.unusedVariables false
namespace Go.Proofs.Ytjlcaamfpglflaa.LM
open Go.RowKit Go.Proofs.Ytjlcaamfpglflaa.PLine Go.Proofs.YtjlcaamfpglflaaW.PrintWords Go.Proofs.YtjlcaamfpglflaaW.PrintLast

theorem marks_l0 (l : List Mk) (hlen : l.length < 9223372036854775807) (d : Nat) : ∀ i : Nat, i + d = l.length → Ev (fun k => latticeplain_Marks.l0 k l l (l.length : Int) (i : Int)) true := by
  induction d with
  | zero =>
    intro i hi
    refine Ev.step (fun k => ?_) (Ev.now _)
    simp only [latticeplain_Marks.l0]
    rw [if_neg (by omega)]
  | succ d ih =>
    intro i hi
    refine Ev.step (fun k => ?_) (ih (i + 1) (by omega))
    simp only [latticeplain_Marks.l0]
    rw [if_pos (by omega), if_pos (by omega), if_pos (by omega), if_pos (by omega), if_neg (by simp), wrap_succ (by omega)]

theorem marks_ev (l : List Mk) (hlen : l.length < 9223372036854775807) : Ev (fun k => latticeplain_Marks.f k l l) true := by
  unfold latticeplain_Marks.f
  refine Ev.congr (fun k => ?_) (marks_l0 l hlen l.length 0 (by omega))
  rw [if_pos rfl]
  rfl

theorem cut_drop {l : List Mk} {n : Int} {i : Nat} (h : i < l.length) : cutL (l.drop i) n = (if (rd_T53 l (i : Int)).f1 ≤ n then rd_T53 l (i : Int) :: cutL (l.drop (i + 1)) n else cutL (l.drop (i + 1)) n) := by
  unfold cutL
  rw [drop_cons h, List.filter_cons]
  by_cases hc : (rd_T53 l (i : Int)).f1 ≤ n
  · rw [if_pos hc, if_pos (by simpa using hc)]
  · rw [if_neg hc, if_neg (by simpa using hc)]

theorem cut_l0 (l : List Mk) (n x : Int) (hlen : l.length < 8796093022208) (d : Nat) : ∀ (i : Nat) (acc : List Mk), i + d = l.length → acc.length ≤ i → Ev (fun k => line_Cut.l0 k n l (l.length : Int) (i : Int) acc x) (acc ++ cutL (l.drop i) n, x, 0) := by
  induction d with
  | zero =>
    intro i acc hi ha
    rw [List.drop_eq_nil_of_le (by omega)]
    refine Ev.step (fun k => ?_) (Ev.now _)
    simp only [line_Cut.l0]
    rw [if_neg (by omega)]
    simp [cutL]
  | succ d ih =>
    intro i acc hi ha
    rw [cut_drop (by omega)]
    by_cases hc : (rd_T53 l (i : Int)).f1 ≤ n
    · rw [if_pos hc]
      have h := ih (i + 1) (acc ++ [rd_T53 l (i : Int)]) (by omega) (by simp; omega)
      rw [List.append_assoc, List.singleton_append] at h
      refine Ev.step (fun k => ?_) h
      simp only [line_Cut.l0]
      rw [if_pos (by omega), if_pos (by omega), if_pos (by omega), if_pos hc, if_pos (by omega), wrap_succ (by omega)]
    · rw [if_neg hc]
      refine Ev.step (fun k => ?_) (ih (i + 1) acc (by omega) (by omega))
      simp only [line_Cut.l0]
      rw [if_pos (by omega), if_pos (by omega), if_pos (by omega), if_neg hc, wrap_succ (by omega)]

def cutV (l : List Mk) (last n : Int) : List Mk × Int × Int := if askedV l last n = 0 then (cutL l n, n, 0) else ([], 0, askedV l last n)

theorem cut_v (l : List Mk) (last n : Int) (hlen : l.length < 8796093022208) : Ev (fun k => line_Cut.f k l last n) (cutV l last n) := by
  unfold line_Cut.f cutV
  rw [asked_v]
  by_cases h : askedV l last n = 0
  · rw [if_pos h]
    refine Ev.congr (fun k => ?_) (cut_l0 l n n hlen l.length 0 [] (by omega) (by simp))
    rw [Option.bind_some, if_pos h]
    rfl
  · rw [if_neg h]
    refine Ev.congr (fun k => ?_) (Ev.now _)
    rw [Option.bind_some, if_neg h]

end Go.Proofs.Ytjlcaamfpglflaa.LM
