/- What the printed functions of the timelines compute: right, the epoch. -/
import Derived.Test.YtjlcaamfpglflaaLMath2
import Derived.Test.YtjlcaamfpglflaaPLinex6
import Derived.Test.YtjlcaamfpglflaaPLinex7
set_option linter.unusedSimpArgs false
set_option linter.unusedVariables false
namespace Go.Proofs.Ytjlcaamfpglflaa.LM
open Go.RowKit Go.Proofs.Ytjlcaamfpglflaa.PLine Go.Proofs.YtjlcaamfpglflaaW.PrintWords Go.Proofs.YtjlcaamfpglflaaW.PrintLast

theorem wrap_succ {n : Nat} (h : n < 9223372036854775807) : wrap64 ((n : Int) + 1) = ((n + 1 : Nat) : Int) := by unfold wrap64; omega

theorem rin (n : Int) : latticeref19_in.f n = some (inB n) := by
  unfold latticeref19_in.f inB
  by_cases h : n ≥ 0
  · rw [if_pos h, decide_eq_true (show 0 ≤ n from h)]; rfl
  · rw [if_neg h, decide_eq_false (show ¬ 0 ≤ n from h)]; rfl

theorem right_l0 (l : List Mk) (last : Int) (hlen : l.length < 9223372036854775807) (d : Nat) : ∀ i, i + d = l.length →
    Ev (fun k => latticeref19_Right.l0 k l (l.length : Int) (i : Int) l last) ((List.range' i d).all (markAt l last)) := by
  induction d with
  | zero =>
    intro i hi
    refine Ev.step (fun k => ?_) (Ev.now _)
    simp only [latticeref19_Right.l0]
    rw [if_neg (by omega)]
    rfl
  | succ d ih =>
    intro i hi
    have hlt : i < l.length := by omega
    have ih' := ih (i + 1) (by omega)
    rw [List.range'_succ, List.all_cons]
    -- the third test
    have h3 : Ev (fun k => latticeref19_Right.j3 k (i : Int) l (l.length : Int) (i : Int) (if i = 0 then ((rd_T53 l (i : Int)).f1 != 1) else false) l last (rd_T53 l (i : Int)).f0 (rd_T53 l (i : Int)).f1)
        ((if i = 0 then decide ((rd_T53 l (i : Int)).f1 = 1) else decide ((rd_T53 l ((i - 1 : Nat) : Int)).f1 < (rd_T53 l (i : Int)).f1) && decide ((rd_T53 l ((i - 1 : Nat) : Int)).f0 < (rd_T53 l (i : Int)).f0)) && (List.range' (i + 1) d).all (markAt l last)) := by
      by_cases h0 : i = 0
      · rw [if_pos h0, if_pos h0]
        by_cases h1 : (rd_T53 l (i : Int)).f1 = 1
        · rw [decide_eq_true h1, Bool.true_and]
          refine Ev.step (fun k => ?_) ih'
          simp only [latticeref19_Right.j3]
          rw [if_neg (by simp [h1]), if_neg (by omega), wrap_succ (by omega)]
        · rw [decide_eq_false h1, Bool.false_and]
          refine Ev.step (fun k => ?_) (Ev.now _)
          simp only [latticeref19_Right.j3]
          rw [if_pos (by simpa using h1)]
      · rw [if_neg h0, if_neg h0]
        have hw : wrap64 ((i : Int) - 1) = ((i - 1 : Nat) : Int) := by unfold wrap64; omega
        by_cases h1 : (rd_T53 l ((i - 1 : Nat) : Int)).f1 < (rd_T53 l (i : Int)).f1
        · rw [decide_eq_true h1, Bool.true_and]
          by_cases h2 : (rd_T53 l ((i - 1 : Nat) : Int)).f0 < (rd_T53 l (i : Int)).f0
          · rw [decide_eq_true h2, Bool.true_and]
            refine Ev.step (fun k => ?_) ih'
            simp only [latticeref19_Right.j3]
            rw [if_neg (by simp), if_pos (by omega), hw, if_pos (by omega), if_pos (by omega), if_neg (by omega), if_neg (by omega), wrap_succ (by omega)]
          · rw [decide_eq_false h2, Bool.false_and]
            refine Ev.step (fun k => ?_) (Ev.now _)
            simp only [latticeref19_Right.j3]
            rw [if_neg (by simp), if_pos (by omega), hw, if_pos (by omega), if_pos (by omega), if_neg (by omega), if_pos (by omega)]
        · rw [decide_eq_false h1, Bool.false_and, Bool.false_and]
          refine Ev.step (fun k => ?_) (Ev.now _)
          simp only [latticeref19_Right.j3]
          rw [if_neg (by simp), if_pos (by omega), hw, if_pos (by omega), if_pos (by omega), if_pos (by omega)]
    have h2 : ∀ x : Bool, Ev (fun k => latticeref19_Right.j2 k (i : Int) l (l.length : Int) (i : Int) x l last (rd_T53 l (i : Int)).f0 (rd_T53 l (i : Int)).f1)
        (!x && ((if i = 0 then decide ((rd_T53 l (i : Int)).f1 = 1) else decide ((rd_T53 l ((i - 1 : Nat) : Int)).f1 < (rd_T53 l (i : Int)).f1) && decide ((rd_T53 l ((i - 1 : Nat) : Int)).f0 < (rd_T53 l (i : Int)).f0)) && (List.range' (i + 1) d).all (markAt l last))) := by
      intro x
      cases x with
      | true =>
        refine Ev.step (fun k => ?_) (Ev.now _)
        simp only [latticeref19_Right.j2]
        rw [if_pos trivial]; rfl
      | false =>
        refine Ev.step (fun k => ?_) h3
        simp only [latticeref19_Right.j2]
        rw [if_neg (by simp)]
        by_cases h0 : i = 0
        · rw [if_pos (by omega), if_pos h0]
        · rw [if_neg (by omega), if_neg h0]
    have key : (markAt l last i && (List.range' (i + 1) d).all (markAt l last)) = (!(if inB (rd_T53 l (i : Int)).f0 = true then decide ((rd_T53 l (i : Int)).f1 > last) else true) && ((if i = 0 then decide ((rd_T53 l (i : Int)).f1 = 1) else decide ((rd_T53 l ((i - 1 : Nat) : Int)).f1 < (rd_T53 l (i : Int)).f1) && decide ((rd_T53 l ((i - 1 : Nat) : Int)).f0 < (rd_T53 l (i : Int)).f0)) && (List.range' (i + 1) d).all (markAt l last))) := by
      unfold markAt
      generalize (if i = 0 then decide ((rd_T53 l (i : Int)).f1 = 1) else decide ((rd_T53 l ((i - 1 : Nat) : Int)).f1 < (rd_T53 l (i : Int)).f1) && decide ((rd_T53 l ((i - 1 : Nat) : Int)).f0 < (rd_T53 l (i : Int)).f0)) = u
      generalize (List.range' (i + 1) d).all _ = v
      have hn : decide ((rd_T53 l (i : Int)).f1 ≤ last) = !decide ((rd_T53 l (i : Int)).f1 > last) := by
        by_cases h : (rd_T53 l (i : Int)).f1 ≤ last
        · rw [decide_eq_true h, decide_eq_false (by omega)]; rfl
        · rw [decide_eq_false h, decide_eq_true (by omega)]; rfl
      rw [hn]
      cases inB (rd_T53 l (i : Int)).f0 <;> cases decide ((rd_T53 l (i : Int)).f1 > last) <;> cases u <;> cases v <;> rfl
    rw [key]
    refine Ev.step (fun k => ?_) (h2 _)
    simp only [latticeref19_Right.l0]
    rw [if_pos (by omega), if_pos (by omega), if_pos (by omega), rin, Option.bind_some]
    cases inB (rd_T53 l (i : Int)).f0
    · rw [if_neg (by simp), if_neg (by simp)]
    · rw [if_pos rfl, if_pos rfl]

theorem okUpto_range {l : List Mk} {last : Int} (k : Nat) : okUpto l last k = (headOk l last && (List.range' 0 k).all (markAt l last)) := by
  rw [Bool.eq_iff_iff, okUpto_all, Bool.and_eq_true, List.all_eq_true]
  constructor
  · rintro ⟨h1, h2⟩
    refine ⟨h1, fun i hi => h2 i ?_⟩
    rw [List.mem_range'] at hi
    omega
  · rintro ⟨h1, h2⟩
    refine ⟨h1, fun i hi => h2 i ?_⟩
    rw [List.mem_range']
    exact ⟨i, by omega, by omega⟩

theorem right_ev (l : List Mk) (last : Int) (hlen : l.length < 9223372036854775807) : Ev (fun k => latticeref19_Right.f k l last) (okUpto l last l.length) := by
  have hj : ∀ x : Bool, Ev (fun k => latticeref19_Right.j0 k x l last) (!x && (List.range' 0 l.length).all (markAt l last)) := by
    intro x
    cases x with
    | true =>
      refine Ev.step (fun k => ?_) (Ev.now _)
      simp only [latticeref19_Right.j0]
      rw [if_pos trivial]; rfl
    | false =>
      refine Ev.step (fun k => ?_) (right_l0 l last hlen l.length 0 (by omega))
      simp only [latticeref19_Right.j0]
      rw [if_neg (by simp)]
      rfl
  rw [okUpto_range]
  unfold headOk
  cases hb : inB last with
  | false =>
    refine Ev.congr (fun k => ?_) (hj true)
    unfold latticeref19_Right.f
    rw [rin, Option.bind_some, hb, if_neg (by simp)]
  | true =>
    have hx : (!((last == 0) != ((l.length : Int) == 0))) = (decide ((l.length : Int) = 0) == decide (last = 0)) := by
      show (!(decide (last = 0) != decide ((l.length : Int) = 0))) = (decide ((l.length : Int) = 0) == decide (last = 0))
      cases decide (last = 0) <;> cases decide ((l.length : Int) = 0) <;> rfl
    rw [Bool.true_and, ← hx]
    refine Ev.congr (fun k => ?_) (hj _)
    unfold latticeref19_Right.f
    rw [rin, Option.bind_some, hb, if_pos rfl]

/-! ### the epoch -/
def epFrom (acc : Int) (l : List Mk) (n : Int) : Int := l.foldl (fun acc m => if m.f1 ≤ n then m.f0 else acc) acc
theorem drop_cons {l : List Mk} {i : Nat} (h : i < l.length) : l.drop i = rd_T53 l (i : Int) :: l.drop (i + 1) := by
  rw [List.drop_eq_getElem_cons h, rd_get h]

theorem epoch_l0 (l : List Mk) (n : Int) (hlen : l.length < 9223372036854775807) (d : Nat) : ∀ (i : Nat) (acc : Int), i + d = l.length →
    Ev (fun k => latticeref19_Epoch.l0 k n acc l (l.length : Int) (i : Int)) (epFrom acc (l.drop i) n) := by
  induction d with
  | zero =>
    intro i acc hi
    rw [List.drop_eq_nil_of_le (by omega)]
    refine Ev.step (fun k => ?_) (Ev.now _)
    simp only [latticeref19_Epoch.l0]
    rw [if_neg (by omega)]
    rfl
  | succ d ih =>
    intro i acc hi
    have hlt : i < l.length := by omega
    rw [drop_cons hlt]
    show Ev _ (epFrom (if (rd_T53 l (i : Int)).f1 ≤ n then (rd_T53 l (i : Int)).f0 else acc) (l.drop (i + 1)) n)
    refine Ev.step (fun k => ?_) (ih (i + 1) _ (by omega))
    simp only [latticeref19_Epoch.l0]
    rw [if_pos (by omega), if_pos (by omega), if_pos (by omega), wrap_succ (by omega)]
    by_cases h : (rd_T53 l (i : Int)).f1 ≤ n
    · rw [if_pos h, if_pos h]
    · rw [if_neg h, if_neg h]

theorem epoch_ev (l : List Mk) (last n : Int) (hlen : l.length < 9223372036854775807) : Ev (fun k => latticeref19_Epoch.f k l last n) (ep l n) := by
  have h := epoch_l0 l n hlen l.length 0 0 (by omega)
  rw [List.drop_zero] at h
  exact Ev.congr (fun k => rfl) h

end Go.Proofs.Ytjlcaamfpglflaa.LM
