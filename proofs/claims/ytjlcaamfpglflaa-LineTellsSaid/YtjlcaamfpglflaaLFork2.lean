/- Where two timelines part: the reference's answer. -/
import Derived.Test.YtjlcaamfpglflaaLRef
import Derived.Test.YtjlcaamfpglflaaPLinex12
set_option linter.unusedSimpArgs false
set_option linter.unusedVariables false
namespace Go.Proofs.Ytjlcaamfpglflaa.LM
open Go.RowKit Go.Proofs.Ytjlcaamfpglflaa.PLine Go.Proofs.YtjlcaamfpglflaaW.PrintWords Go.Proofs.YtjlcaamfpglflaaW.PrintLast

theorem mark_pos2 {l : List Mk} {last : Int} (h : Right l last) {m : Mk} (hm : m ∈ l) : 1 ≤ m.f1 ∧ m.f1 ≤ 1099511627776 := by
  refine ⟨?_, by have := (h.rng m hm).2.2; have := h.lastM; omega⟩
  obtain ⟨i, hi, rfl⟩ := List.getElem_of_mem hm
  have h0 := h.first (by omega)
  by_cases e : i = 0
  · subst e; omega
  · have := (List.pairwise_iff_getElem.1 h.asc 0 i (by omega) hi (by omega)).1
    omega

theorem cut_step {P : Int → Prop} {out n : Int} (h : n ≤ out) (hp : P n) : cutAt P out n = n - 1 := by unfold cutAt; rw [if_pos ⟨h, hp⟩]
theorem cut_stay {P : Int → Prop} {out n : Int} (h : ¬ (n ≤ out ∧ P n)) : cutAt P out n = out := by unfold cutAt; rw [if_neg h]


theorem rfork_l1 {a b : List Mk} {la lb : Int} (ha : Right a la) (hb : Right b lb) (d : Nat) : ∀ (i : Nat) (out : Int), i + d = b.length →
    Ev (fun k => latticeref19_Fork.l1 k out b (b.length : Int) (i : Int) a la) ((lsns (b.drop i)).foldl (cutAt (differ a b)) out, 0) := by
  have hla := right_len ha
  have hlb := right_len hb
  have hma := ha.lastM
  have hmb := hb.lastM
  induction d with
  | zero =>
    intro i out hi
    rw [List.drop_eq_nil_of_le (by omega)]
    refine Ev.step (fun k => ?_) (Ev.now _)
    simp only [latticeref19_Fork.l1]
    rw [if_neg (by omega)]
    rfl
  | succ d ih =>
    intro i out hi
    have hlt : i < b.length := by omega
    rw [drop_cons hlt]
    have hmem : rd_T53 b (i : Int) ∈ b := by rw [rd_get hlt]; exact List.getElem_mem hlt
    have hm := mark_pos2 hb hmem
    have hep := ep_mark hb.ascs hmem
    show Ev _ ((lsns (b.drop (i + 1))).foldl (cutAt (differ a b)) (cutAt (differ a b) out (rd_T53 b (i : Int)).f1), 0)
    by_cases h1 : (rd_T53 b (i : Int)).f1 ≤ out
    · refine Ev.step (f := fun k => (latticeref19_Epoch.f k a la (rd_T53 b (i : Int)).f1).bind fun t => if t = (rd_T53 b (i : Int)).f0 then latticeref19_Fork.l1 k out b (b.length : Int) ((i + 1 : Nat) : Int) a la else latticeref19_Fork.l1 k (wrap64 ((rd_T53 b (i : Int)).f1 - 1)) b (b.length : Int) ((i + 1 : Nat) : Int) a la) (fun k => ?_) (Ev.bind (epoch_ev a la _ (by omega)) ?_)
      · simp only [latticeref19_Fork.l1]
        rw [if_pos (by omega), if_pos (by omega), if_pos (by omega), if_pos h1, wrap_succ (by omega)]
      · by_cases h2 : ep a (rd_T53 b (i : Int)).f1 = (rd_T53 b (i : Int)).f0
        · rw [cut_stay (by rintro ⟨_, h⟩; exact h (by rw [h2, hep]))]
          refine Ev.congr (fun k => ?_) (ih (i + 1) out (by omega))
          rw [if_pos h2]
        · rw [cut_step h1 (by intro h; exact h2 (by rw [h, hep]))]
          refine Ev.congr (fun k => ?_) (ih (i + 1) _ (by omega))
          have : wrap64 ((rd_T53 b (i : Int)).f1 - 1) = (rd_T53 b (i : Int)).f1 - 1 := by unfold wrap64; omega
          rw [if_neg h2, this]
    · rw [cut_stay (fun h => h1 h.1)]
      refine Ev.step (fun k => ?_) (ih (i + 1) out (by omega))
      simp only [latticeref19_Fork.l1]
      rw [if_pos (by omega), if_pos (by omega), if_pos (by omega), if_neg h1, wrap_succ (by omega)]

theorem rfork_l0 {a b : List Mk} {la lb : Int} (ha : Right a la) (hb : Right b lb) (d : Nat) : ∀ (i : Nat) (out : Int), i + d = a.length →
    Ev (fun k => latticeref19_Fork.l0 k out a (a.length : Int) (i : Int) a la b lb) ((lsns (a.drop i) ++ lsns b).foldl (cutAt (differ a b)) out, 0) := by
  have hla := right_len ha
  have hlb := right_len hb
  have hma := ha.lastM
  have hmb := hb.lastM
  induction d with
  | zero =>
    intro i out hi
    rw [List.drop_eq_nil_of_le (by omega)]
    have h := rfork_l1 ha hb b.length 0 out (by omega)
    rw [List.drop_zero] at h
    refine Ev.step (fun k => ?_) h
    simp only [latticeref19_Fork.l0]
    rw [if_neg (by omega)]
    rfl
  | succ d ih =>
    intro i out hi
    have hlt : i < a.length := by omega
    rw [drop_cons hlt]
    have hmem : rd_T53 a (i : Int) ∈ a := by rw [rd_get hlt]; exact List.getElem_mem hlt
    have hm := mark_pos2 ha hmem
    have hep := ep_mark ha.ascs hmem
    show Ev _ ((lsns (a.drop (i + 1)) ++ lsns b).foldl (cutAt (differ a b)) (cutAt (differ a b) out (rd_T53 a (i : Int)).f1), 0)
    by_cases h1 : (rd_T53 a (i : Int)).f1 ≤ out
    · refine Ev.step (f := fun k => (latticeref19_Epoch.f k b lb (rd_T53 a (i : Int)).f1).bind fun t => if t = (rd_T53 a (i : Int)).f0 then latticeref19_Fork.l0 k out a (a.length : Int) ((i + 1 : Nat) : Int) a la b lb else latticeref19_Fork.l0 k (wrap64 ((rd_T53 a (i : Int)).f1 - 1)) a (a.length : Int) ((i + 1 : Nat) : Int) a la b lb) (fun k => ?_) (Ev.bind (epoch_ev b lb _ (by omega)) ?_)
      · simp only [latticeref19_Fork.l0]
        rw [if_pos (by omega), if_pos (by omega), if_pos (by omega), if_pos h1, wrap_succ (by omega)]
      · by_cases h2 : ep b (rd_T53 a (i : Int)).f1 = (rd_T53 a (i : Int)).f0
        · rw [cut_stay (by rintro ⟨_, h⟩; exact h (by rw [h2, hep]))]
          refine Ev.congr (fun k => ?_) (ih (i + 1) out (by omega))
          rw [if_pos h2]
        · rw [cut_step h1 (by intro h; exact h2 (by rw [← h, hep]))]
          refine Ev.congr (fun k => ?_) (ih (i + 1) _ (by omega))
          have : wrap64 ((rd_T53 a (i : Int)).f1 - 1) = (rd_T53 a (i : Int)).f1 - 1 := by unfold wrap64; omega
          rw [if_neg h2, this]
    · rw [cut_stay (fun h => h1 h.1)]
      refine Ev.step (fun k => ?_) (ih (i + 1) out (by omega))
      simp only [latticeref19_Fork.l0]
      rw [if_pos (by omega), if_pos (by omega), if_pos (by omega), if_neg h1, wrap_succ (by omega)]

theorem rfork_j0 {a b : List Mk} {la lb : Int} : Ev (fun k => latticeref19_Fork.j0 k true a la b lb) (0, 4) := by
  refine Ev.step (fun k => ?_) (Ev.now _)
  simp only [latticeref19_Fork.j0]
  rw [if_pos trivial]

theorem rfork_right {a b : List Mk} {la lb : Int} (ha : Right a la) (hb : Right b lb) : Ev (fun k => latticeref19_Fork.f k a la b lb) (fork a b la lb, 0) := by
  have hla := right_len ha
  have hlb := right_len hb
  have hma := ha.lastM
  have hmb := hb.lastM
  have h0 := fun out => rfork_l0 ha hb a.length 0 out (by omega)
  simp only [List.drop_zero] at h0
  have h1 : ∀ out, Ev (fun k => latticeref19_Fork.j1 k out a la b lb) ((lsns a ++ lsns b).foldl (cutAt (differ a b)) out, 0) := fun out => by
    refine Ev.step (fun k => ?_) (h0 out)
    simp only [latticeref19_Fork.j1]
    rfl
  have hj : Ev (fun k => latticeref19_Fork.j0 k false a la b lb) (fork a b la lb, 0) := by
    refine Ev.step (f := fun k => if lb < la then latticeref19_Fork.j1 k lb a la b lb else latticeref19_Fork.j1 k la a la b lb) (fun k => ?_) ?_
    · simp only [latticeref19_Fork.j0]
      rw [if_neg (by simp)]
    · unfold fork
      by_cases h : lb < la
      · rw [if_neg (by omega)]
        refine Ev.congr (fun k => ?_) (h1 lb)
        rw [if_pos h]
      · rw [if_pos (by omega)]
        refine Ev.congr (fun k => ?_) (h1 la)
        rw [if_neg h]
  refine Ev.congr (f := fun k => (latticeref19_Right.f k a la).bind fun x => if x = true then ((latticeref19_Right.f k b lb).bind fun y => latticeref19_Fork.j0 k (!y) a la b lb) else latticeref19_Fork.j0 k true a la b lb) (fun k => rfl) (Ev.bind (right_ev a la (by omega)) ?_)
  rw [right_iff.2 ha]
  refine Ev.congr (f := fun k => (latticeref19_Right.f k b lb).bind fun y => latticeref19_Fork.j0 k (!y) a la b lb) (fun k => by rw [if_pos rfl]) (Ev.bind (right_ev b lb (by omega)) ?_)
  rw [right_iff.2 hb]
  exact hj

theorem rfork_wrong {a b : List Mk} {la lb : Int} (hal : a.length < 9223372036854775807) (hbl : b.length < 9223372036854775807) (h : ¬ (Right a la ∧ Right b lb)) : Ev (fun k => latticeref19_Fork.f k a la b lb) (0, 4) := by
  refine Ev.congr (f := fun k => (latticeref19_Right.f k a la).bind fun x => if x = true then ((latticeref19_Right.f k b lb).bind fun y => latticeref19_Fork.j0 k (!y) a la b lb) else latticeref19_Fork.j0 k true a la b lb) (fun k => rfl) (Ev.bind (right_ev a la hal) ?_)
  cases ha : okUpto a la a.length with
  | false => exact Ev.congr (fun k => by rw [if_neg (by simp)]) rfork_j0
  | true =>
    refine Ev.congr (f := fun k => (latticeref19_Right.f k b lb).bind fun y => latticeref19_Fork.j0 k (!y) a la b lb) (fun k => by rw [if_pos rfl]) (Ev.bind (right_ev b lb hbl) ?_)
    cases hb : okUpto b lb b.length with
    | false => exact rfork_j0
    | true => exact absurd ⟨right_iff.1 ha, right_iff.1 hb⟩ h

end Go.Proofs.Ytjlcaamfpglflaa.LM
