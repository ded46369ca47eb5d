/- Cut and grown timelines: the reference's answers, as one value each. -/
import Derived.Test.YtjlcaamfpglflaaLCut
import Derived.Test.YtjlcaamfpglflaaLGrow
import Derived.Test.YtjlcaamfpglflaaPLinex24
import Derived.Test.YtjlcaamfpglflaaPLinex25
import Derived.Test.YtjlcaamfpglflaaPLinex26
set_option linter.unusedSimpArgs false
set_option linter.unusedVariables false
namespace Go.Proofs.Ytjlcaamfpglflaa.LM
open Go.RowKit Go.Proofs.Ytjlcaamfpglflaa.PLine Go.Proofs.YtjlcaamfpglflaaW.PrintWords Go.Proofs.YtjlcaamfpglflaaW.PrintLast

theorem same_ev (l : List Mk) (n : Int) (hlen : l.length < 9223372036854775807) : Ev (fun k => latticelaw19_same.f k l n l n) true := by
  unfold latticelaw19_same.f
  refine Ev.congr (f := fun k => (latticeplain_Marks.f k l l).bind fun t => some t) (fun k => ?_) (Ev.bind (marks_ev l hlen) (Ev.now _))
  rw [if_pos rfl]

theorem rcut_l0 (l : List Mk) (n x : Int) (hlen : l.length < 8796093022208) (d : Nat) : ∀ (i : Nat) (acc : List Mk), i + d = l.length → acc.length ≤ i → Ev (fun k => latticeref19_Cut.l0 k n l (l.length : Int) (i : Int) acc x) (acc ++ cutL (l.drop i) n, x, 0) := by
  induction d with
  | zero =>
    intro i acc hi ha
    rw [List.drop_eq_nil_of_le (by omega)]
    refine Ev.step (fun k => ?_) (Ev.now _)
    simp only [latticeref19_Cut.l0]
    rw [if_neg (by omega)]
    simp [cutL]
  | succ d ih =>
    intro i acc hi ha
    rw [cut_drop (by omega)]
    by_cases hc : (rd_T53 l (i : Int)).f1 ≤ n
    · rw [if_pos hc]
      have h := ih (i + 1) (acc ++ [rd_T53 l (i : Int)]) (by omega) (by simp; omega)
      rw [List.append_assoc, List.singleton_append] at h
      refine Ev.step (fun k => ?_) h
      simp only [latticeref19_Cut.l0]
      rw [if_pos (by omega), if_pos (by omega), if_pos (by omega), if_pos hc, if_pos (by omega), wrap_succ (by omega)]
    · rw [if_neg hc]
      refine Ev.step (fun k => ?_) (ih (i + 1) acc (by omega) (by omega))
      simp only [latticeref19_Cut.l0]
      rw [if_pos (by omega), if_pos (by omega), if_pos (by omega), if_neg hc, wrap_succ (by omega)]

theorem rcut_v (l : List Mk) (last n : Int) (hlen : l.length < 8796093022208) : Ev (fun k => latticeref19_Cut.f k l last n) (cutV l last n) := by
  refine Ev.congr (f := fun k => (latticeref19_Right.f k l last).bind fun x => if x = true then (if n < 0 then latticeref19_Cut.j0 k n true l last else latticeref19_Cut.j0 k n (decide (n > last)) l last) else some ([], 0, 4)) (fun k => rfl) (Ev.bind (right_ev l last (by omega)) ?_)
  show Ev (fun k => if rt l last = true then (if n < 0 then latticeref19_Cut.j0 k n true l last else latticeref19_Cut.j0 k n (decide (n > last)) l last) else some ([], 0, 4)) _
  have hj : Ev (fun k => latticeref19_Cut.j0 k n true l last) ([], 0, 6) := by
    refine Ev.step (fun k => ?_) (Ev.now _)
    simp only [latticeref19_Cut.j0]
    rw [if_pos trivial]
  unfold cutV askedV
  cases h : rt l last
  · exact Ev.congr (fun k => by simp) (Ev.now _)
  · by_cases h1 : n < 0
    · rw [if_pos rfl, if_pos h1, if_neg (by decide)]
      refine Ev.congr (fun k => ?_) hj
      rw [if_pos rfl, if_pos h1]
    · by_cases h2 : n > last
      · rw [if_pos rfl, if_neg h1, if_pos h2, if_neg (by omega)]
        refine Ev.congr (fun k => ?_) hj
        rw [if_pos rfl, if_neg h1, decide_eq_true h2]
      · rw [if_pos rfl, if_neg h1, if_neg h2, if_pos rfl]
        have h0 := rcut_l0 l n n hlen l.length 0 [] (by omega) (by simp)
        refine Ev.congr (f := fun k => latticeref19_Cut.j0 k n false l last) (fun k => ?_) (Ev.step (fun k => ?_) h0)
        · rw [if_pos rfl, if_neg h1, decide_eq_false h2]
        · simp only [latticeref19_Cut.j0]
          rw [if_neg (by simp)]
          rfl

theorem rgrow_j0_bad (l : List Mk) (last e n : Int) : Ev (fun k => latticeref19_Grow.j0 k e n true l last) ([], 0, 1) := by
  refine Ev.step (fun k => ?_) (Ev.now _)
  simp only [latticeref19_Grow.j0]
  rw [if_pos trivial]

theorem rgrow_j0 {l : List Mk} {last e n : Int} (hr : Right l last) (hlen : l.length < 8796093022208) (h1 : ¬ n < 0) (h2 : ¬ n > 1099511627776 - last) (hin : inB e = true) : Ev (fun k => latticeref19_Grow.j0 k e n false l last) (growV l last e n) := by
  have h0 := hr.last0
  have hM := hr.lastM
  have w1 : wrap64 (last + n) = last + n := by unfold wrap64; omega
  have w2 : wrap64 (last + 1) = last + 1 := by unfold wrap64; omega
  have hv : growV l last e n = if e < ep l last then ([], 0, 7) else (growL l last e n, last + n, 0) := by
    have hg : growBad l last e n = if e < ep l last then 7 else 0 := by
      unfold growBad
      rw [if_pos (rt_iff.2 hr), if_neg]
      intro h
      rcases h with h | h | h
      · exact h1 h
      · exact h2 h
      · rw [hin] at h; cases h
    unfold growV
    rw [hg]
    by_cases h7 : e < ep l last
    · rw [if_pos h7, if_pos h7]; rfl
    · rw [if_neg h7, if_neg h7]; rfl
  refine Ev.step (f := fun k => (latticeref19_Epoch.f k l last last).bind fun t => if e < t then some ([], 0, 7) else if ([] : List Mk).length + l.length < 8796093022208 then ((some ([] ++ l)).bind fun y => if n > 0 then (if (l.length : Int) = 0 then (if y.length < 8796093022208 then some (y ++ [⟨e, wrap64 (last + 1)⟩], wrap64 (last + n), 0) else none) else if e = t then some (y, wrap64 (last + n), 0) else if y.length < 8796093022208 then some (y ++ [⟨e, wrap64 (last + 1)⟩], wrap64 (last + n), 0) else none) else some (y, wrap64 (last + n), 0)) else none) (fun k => ?_) (Ev.bind (epoch_ev l last last (by omega)) ?_)
  · simp only [latticeref19_Grow.j0]
    rw [if_neg (by simp)]
  · rw [hv]
    refine Ev.congr (fun k => ?_) (Ev.now _)
    by_cases h7 : e < ep l last
    · rw [if_pos h7, if_pos h7]
    · rw [if_neg h7, if_neg h7, if_pos (by simpa using hlen), Option.bind_some, List.nil_append, w1, w2]
      have he := hr.empty
      unfold growL
      by_cases hn : n > 0
      · rw [if_pos hn]
        by_cases hl : (l.length : Int) = 0
        · rw [if_pos hl, if_pos (by omega), if_pos ⟨hn, .inl (by omega)⟩]
        · rw [if_neg hl]
          by_cases hee : e = ep l last
          · rw [if_pos hee, if_neg (by omega)]
          · rw [if_neg hee, if_pos (by omega), if_pos ⟨hn, .inr (by omega)⟩]
      · rw [if_neg hn, if_neg (by omega)]

theorem rgrow_v (l : List Mk) (last e n : Int) (hlen : l.length < 8796093022208) : Ev (fun k => latticeref19_Grow.f k l last e n) (growV l last e n) := by
  refine Ev.congr (f := fun k => (latticeref19_Right.f k l last).bind fun x => if x = true then (if n < 0 then (latticeref19_Grow.j0 k e n true l last) else (if n > 1099511627776 then (latticeref19_Grow.j0 k e n true l last) else (if (wrap64 (last + n)) > 1099511627776 then (latticeref19_Grow.j0 k e n true l last) else ((latticeref19_in.f e).bind fun t => (latticeref19_Grow.j0 k e n (!t) l last))))) else some ([], 0, 4)) (fun k => rfl) (Ev.bind (right_ev l last (by omega)) ?_)
  show Ev (fun k => if rt l last = true then (if n < 0 then (latticeref19_Grow.j0 k e n true l last) else (if n > 1099511627776 then (latticeref19_Grow.j0 k e n true l last) else (if (wrap64 (last + n)) > 1099511627776 then (latticeref19_Grow.j0 k e n true l last) else ((latticeref19_in.f e).bind fun t => (latticeref19_Grow.j0 k e n (!t) l last))))) else some ([], 0, 4)) _
  cases h : rt l last
  · have hb : growBad l last e n = 4 := by unfold growBad; rw [h]; rfl
    have hv : growV l last e n = ([], 0, 4) := by unfold growV; rw [hb]; rfl
    rw [hv]
    exact Ev.congr (fun k => by simp) (Ev.now _)
  · have hr := rt_iff.1 h
    have h0 := hr.last0
    have hM := hr.lastM
    by_cases hc : n < 0 ∨ n > 1099511627776 - last ∨ inB e = false
    · have hb : growBad l last e n = 1 := by unfold growBad; rw [h, if_pos rfl, if_pos hc]
      have hv : growV l last e n = ([], 0, 1) := by unfold growV; rw [hb]; rfl
      rw [hv]
      refine Ev.congr (fun k => ?_) (rgrow_j0_bad l last e n)
      rw [if_pos rfl]
      by_cases h1 : n < 0
      · rw [if_pos h1]
      · rw [if_neg h1]
        by_cases h2 : n > 1099511627776
        · rw [if_pos h2]
        · have hw : wrap64 (last + n) = last + n := by unfold wrap64; omega
          rw [if_neg h2, hw]
          by_cases h3 : last + n > 1099511627776
          · rw [if_pos h3]
          · rw [if_neg h3, rin, Option.bind_some]
            rcases hc with hc | hc | hc
            · exact absurd hc h1
            · omega
            · rw [hc]; rfl
    · have hin : inB e = true := by
        cases hb : inB e with
        | true => rfl
        | false => exact absurd (Or.inr (Or.inr hb)) hc
      have h1 : ¬ n < 0 := fun h => hc (.inl h)
      have h2 : ¬ n > 1099511627776 - last := fun h => hc (.inr (.inl h))
      have hw : wrap64 (last + n) = last + n := by unfold wrap64; omega
      refine Ev.congr (fun k => ?_) (rgrow_j0 hr hlen h1 h2 hin)
      rw [if_pos rfl, if_neg h1, if_neg (by omega), hw, if_neg (by omega), rin, Option.bind_some, hin]
      rfl

end Go.Proofs.Ytjlcaamfpglflaa.LM
