/- Plain laws of what the printed functions of QuorumCommits compute. -/
import Derived.Test.YtjlcaamfpglflaaQLemmas
namespace Go.Proofs.Ytjlcaamfpglflaa.QL
open Go.RowKit Go.Proofs.Ytjlcaamfpglflaa.PQuorum Go.Proofs.YtjlcaamfpglflaaW.PrintWords Go.Proofs.YtjlcaamfpglflaaW.PrintLast
open Go.Proofs.Ytjlcaamfpglflaa

theorem wrap_nat {n : Nat} (h : n ≤ 1000) : wrap64 (n : Int) = n := by unfold wrap64; omega
theorem wrap_succ {n : Nat} (h : n ≤ 1000) : wrap64 ((n : Int) + 1) = ((n + 1 : Nat) : Int) := by unfold wrap64; omega

theorem drop_cons {l : List Int} {i : Nat} (h : i < l.length) : l.drop i = rd l (i : Int) :: l.drop (i + 1) := by
  rw [List.drop_eq_getElem_cons h]
  unfold rd
  simp [h]

theorem l2_ev (l : List Int) (hl : l.length ≤ 7) (x4 a : Int) (x33 : List Int) (x34 x35 : Int) (R : Int × Int) (d : Nat) : ∀ (i c : Nat), i + d = l.length → c ≤ i →
    Ev (fun k => if wrap64 (2 * ((c + QMath.cnt a (l.drop i) : Nat) : Int)) > (l.length : Int) then (if a > x4 then (latticeref21_Commit.l1 k l a x33 x34 (wrap64 (x35 + 1))) else (latticeref21_Commit.l1 k l x4 x33 x34 (wrap64 (x35 + 1)))) else (latticeref21_Commit.l1 k l x4 x33 x34 (wrap64 (x35 + 1)))) R →
    Ev (fun k => latticeref21_Commit.l2 k l x4 a (c : Int) x33 x34 x35 l (l.length : Int) (i : Int)) R := by
  induction d with
  | zero =>
    intro i c hi hc h
    have hd : l.drop i = [] := List.drop_eq_nil_of_le (by omega)
    rw [hd] at h
    refine Ev.step (fun k => ?_) h
    simp only [latticeref21_Commit.l2]
    rw [if_neg (by omega)]
    rfl
  | succ d ih =>
    intro i c hi hc h
    have hlt : i < l.length := by omega
    rw [drop_cons hlt] at h
    by_cases ha : a ≤ rd l (i : Int)
    · have e : QMath.cnt a (rd l (i : Int) :: l.drop (i + 1)) = QMath.cnt a (l.drop (i + 1)) + 1 := by simp [QMath.cnt, ha]
      rw [e] at h
      refine Ev.step (fun k => ?_) (ih (i + 1) (c + 1) (by omega) (by omega) (by rw [show c + 1 + QMath.cnt a (l.drop (i + 1)) = c + (QMath.cnt a (l.drop (i + 1)) + 1) by omega]; exact h))
      simp only [latticeref21_Commit.l2]
      rw [if_pos (by omega), if_pos (by omega), if_pos (by omega), if_pos ha, wrap_succ (by omega), wrap_succ (by omega)]
    · have e : QMath.cnt a (rd l (i : Int) :: l.drop (i + 1)) = QMath.cnt a (l.drop (i + 1)) := by simp [QMath.cnt, ha]
      rw [e] at h
      refine Ev.step (fun k => ?_) (ih (i + 1) c (by omega) (by omega) h)
      simp only [latticeref21_Commit.l2]
      rw [if_pos (by omega), if_pos (by omega), if_pos (by omega), if_neg ha, wrap_succ (by omega)]

theorem l1_ev (l : List Int) (hl : l.length ≤ 7) (d : Nat) : ∀ (i : Nat) (b : Int), i + d = l.length →
    Ev (fun k => latticeref21_Commit.l1 k l b l (l.length : Int) (i : Int)) (QMath.best l b (l.drop i), 0) := by
  induction d with
  | zero =>
    intro i b hi
    have hd : l.drop i = [] := List.drop_eq_nil_of_le (by omega)
    rw [hd]
    refine Ev.step (fun k => ?_) (Ev.now _)
    simp only [latticeref21_Commit.l1]
    rw [if_neg (by omega)]
    rfl
  | succ d ih =>
    intro i b hi
    have hlt : i < l.length := by omega
    rw [drop_cons hlt]
    have hc : QMath.cnt (rd l (i : Int)) l ≤ 7 := Nat.le_trans (by unfold QMath.cnt; exact List.countP_le_length) hl
    have h2 := l2_ev l hl b (rd l (i : Int)) l (l.length : Int) (i : Int) (QMath.best l b (rd l (i : Int) :: l.drop (i + 1)), 0) l.length 0 0 (by omega) (Nat.le_refl _) (by
      rw [Nat.zero_add, List.drop_zero]
      have hw : wrap64 (2 * ((QMath.cnt (rd l (i : Int)) l : Nat) : Int)) = ((2 * QMath.cnt (rd l (i : Int)) l : Nat) : Int) := by unfold wrap64; omega
      unfold QMath.best
      by_cases h1 : l.length < 2 * QMath.cnt (rd l (i : Int)) l
      · by_cases h3 : b < rd l (i : Int)
        · rw [if_pos ⟨h1, h3⟩]
          refine Ev.congr (fun k => ?_) (ih (i + 1) (rd l (i : Int)) (by omega))
          rw [hw, if_pos (by omega), if_pos (by omega), wrap_succ (by omega)]
        · rw [if_neg (by omega)]
          refine Ev.congr (fun k => ?_) (ih (i + 1) b (by omega))
          rw [hw, if_pos (by omega), if_neg (by omega), wrap_succ (by omega)]
      · rw [if_neg (by omega)]
        refine Ev.congr (fun k => ?_) (ih (i + 1) b (by omega))
        rw [hw, if_neg (by omega), wrap_succ (by omega)])
    refine Ev.step (fun k => ?_) h2
    simp only [latticeref21_Commit.l1]
    rw [if_pos (by omega), if_pos (by omega), if_pos (by omega)]
    rfl

theorem l0_ev (l : List Int) (hl : l.length ≤ 7) (d : Nat) : ∀ (i : Nat), i + d = l.length →
    Ev (fun k => latticeref21_Commit.l0 k l 0 l (l.length : Int) (i : Int)) (if (l.drop i).any CommitA.bad = true then (0, 1) else (QMath.best l 0 l, 0)) := by
  induction d with
  | zero =>
    intro i hi
    have hd : l.drop i = [] := List.drop_eq_nil_of_le (by omega)
    rw [hd, List.any_nil, if_neg (by simp)]
    have h := l1_ev l hl l.length 0 0 (by omega)
    rw [List.drop_zero] at h
    refine Ev.step (fun k => ?_) h
    simp only [latticeref21_Commit.l0]
    rw [if_neg (by omega)]
    rfl
  | succ d ih =>
    intro i hi
    have hlt : i < l.length := by omega
    rw [drop_cons hlt, List.any_cons]
    by_cases h1 : rd l (i : Int) < 0
    · rw [if_pos (by simp [CommitA.bad, h1])]
      refine Ev.step (fun k => ?_) (Ev.now _)
      simp only [latticeref21_Commit.l0]
      rw [if_pos (by omega), if_pos (by omega), if_pos (by omega), if_pos h1]
    · by_cases h2 : rd l (i : Int) > 1099511627776
      · rw [if_pos (by have : 1099511627776 < rd l (i : Int) := h2; simp [CommitA.bad, this])]
        refine Ev.step (fun k => ?_) (Ev.now _)
        simp only [latticeref21_Commit.l0]
        rw [if_pos (by omega), if_pos (by omega), if_pos (by omega), if_neg h1, if_pos h2]
      · have hb : CommitA.bad (rd l (i : Int)) = false := by simp [CommitA.bad]; omega
        rw [hb, Bool.false_or]
        refine Ev.step (fun k => ?_) (ih (i + 1) (by omega))
        simp only [latticeref21_Commit.l0]
        rw [if_pos (by omega), if_pos (by omega), if_pos (by omega), if_neg h1, if_neg h2, wrap_succ (by omega)]

theorem ref_ev (l : List Int) : ∃ r, quorum_Commit.f l = some r ∧ Ev (fun k => latticeref21_Commit.f k l) r := by
  by_cases h0 : l.length < 1
  · have hl : l = [] := List.eq_nil_of_length_eq_zero (by omega)
    subst hl
    refine ⟨(0, 1), rfl, ?_⟩
    refine Ev.congr (fun k => ?_) (Ev.step (f := fun _ => some (0, 1)) (fun k => ?_) (Ev.now _)) (g := fun k => latticeref21_Commit.f k []) (f := fun k => latticeref21_Commit.j0 k [] true)
    · unfold latticeref21_Commit.f; rfl
    · simp [latticeref21_Commit.j0]
  · by_cases h7 : 7 < l.length
    · refine ⟨(0, 1), by unfold quorum_Commit.f; rw [if_pos (by simp [CommitC.commitBad, h7])], ?_⟩
      refine Ev.congr (fun k => ?_) (Ev.step (f := fun _ => some (0, 1)) (fun k => ?_) (Ev.now _)) (g := fun k => latticeref21_Commit.f k l) (f := fun k => latticeref21_Commit.j0 k l true)
      · unfold latticeref21_Commit.f
        rw [if_neg (by omega), decide_eq_true (by omega)]
      · simp [latticeref21_Commit.j0]
    · have he := l0_ev l (by omega) l.length 0 (by omega)
      rw [List.drop_zero] at he
      have hem : l.isEmpty = false := by cases l <;> simp_all
      have hcb : CommitC.commitBad l = l.any CommitA.bad := by simp [CommitC.commitBad, hem]; omega
      have hj : Ev (fun k => latticeref21_Commit.f k l) (if l.any CommitA.bad = true then (0, 1) else (QMath.best l 0 l, 0)) := by
        refine Ev.congr (f := fun k => latticeref21_Commit.j0 k l false) (fun k => ?_) (Ev.step (fun k => ?_) he)
        · unfold latticeref21_Commit.f
          rw [if_neg (by omega), decide_eq_false (by omega)]
        · simp [latticeref21_Commit.j0]
      refine ⟨_, ?_, hj⟩
      unfold quorum_Commit.f
      rw [hcb]
      cases hb : l.any CommitA.bad with
      | true => simp
      | false =>
        have hn : ∀ a ∈ l, 0 ≤ a := fun a ha => by
          have := List.any_eq_false.1 hb a ha
          simp [CommitA.bad] at this
          exact this.1
        rw [QMath.best_mid (by omega) hn]
        rfl

theorem QuorumCommits : latticelaw21_QuorumCommits.Pure := by
  intro l _ _ _
  obtain ⟨r, h1, h2⟩ := ref_ev l
  have : Ev (fun k => latticelaw21_QuorumCommits.f k l) true := by
    refine Ev.congr (f := fun k => (latticeref21_Commit.f k l).bind fun bt => (if r.1 = bt.1 then (if r.2 = bt.2 then ((latticelaw21_speaks.f k).bind fun t => (some t)) else (some false)) else (some false))) (fun k => ?_) (Ev.bind h2 ?_)
    · unfold latticelaw21_QuorumCommits.f
      rw [h1]
      rfl
    · refine Ev.congr (fun k => ?_) (Ev.bind (f := fun _ t => some t) ⟨10, fun k hk => speaks_ge hk⟩ (Ev.now true))
      rw [if_pos rfl, if_pos rfl]
  exact this.rounds

end Go.Proofs.Ytjlcaamfpglflaa.QL
