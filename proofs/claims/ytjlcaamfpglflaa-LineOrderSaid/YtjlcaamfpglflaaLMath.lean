/- Plain mathematics of timelines: what is right, the epoch at an LSN. -/
import Derived.Test.YtjlcaamfpglflaaPLinex5
set_option linter.unusedSimpArgs false
set_option linter.unusedVariables false
namespace Go.Proofs.Ytjlcaamfpglflaa.LM
open Go.RowKit Go.Proofs.Ytjlcaamfpglflaa.PLine Go.Proofs.YtjlcaamfpglflaaW.PrintWords Go.Proofs.YtjlcaamfpglflaaW.PrintLast

abbrev Mk := S53
theorem rd_get {l : List Mk} {i : Nat} (h : i < l.length) : rd_T53 l (i : Int) = l[i] := by unfold rd_T53; simp [h]

structure Right (l : List Mk) (last : Int) : Prop where
  last0 : 0 ≤ last
  lastM : last ≤ 1099511627776
  empty : l.length = 0 ↔ last = 0
  first : ∀ h : 0 < l.length, (l[0]).f1 = 1
  asc : l.Pairwise (fun a b => a.f1 < b.f1 ∧ a.f0 < b.f0)
  rng : ∀ m ∈ l, 0 ≤ m.f0 ∧ m.f0 ≤ 1099511627776 ∧ m.f1 ≤ last

theorem okUpto_all {l : List Mk} {last : Int} : ∀ k, okUpto l last k = true ↔ headOk l last = true ∧ ∀ i, i < k → markAt l last i = true
  | 0 => by simp [okUpto]
  | k + 1 => by
    rw [okUpto, Bool.and_eq_true, okUpto_all k]
    constructor
    · rintro ⟨⟨h1, h2⟩, h3⟩
      refine ⟨h1, fun i hi => ?_⟩
      by_cases e : i = k
      · rw [e]; exact h3
      · exact h2 i (by omega)
    · rintro ⟨h1, h2⟩
      exact ⟨⟨h1, fun i hi => h2 i (by omega)⟩, h2 k (by omega)⟩

theorem inB_iff {n : Int} : inB n = true ↔ 0 ≤ n ∧ n ≤ 1099511627776 := by simp [inB]

theorem pair_of_next {l : List Mk} (h : ∀ i (hi : i + 1 < l.length), l[i].f1 < l[i + 1].f1 ∧ l[i].f0 < l[i + 1].f0) : l.Pairwise (fun a b => a.f1 < b.f1 ∧ a.f0 < b.f0) := by
  rw [List.pairwise_iff_getElem]
  intro i j hi hj hij
  obtain ⟨d, rfl⟩ : ∃ d, j = i + d + 1 := ⟨j - i - 1, by omega⟩
  clear hij
  induction d with
  | zero => exact h i hj
  | succ d ih =>
    have h1 := ih (by omega)
    have h2 := h (i + d + 1) hj
    exact ⟨Int.lt_trans h1.1 h2.1, Int.lt_trans h1.2 h2.2⟩

theorem right_iff {l : List Mk} {last : Int} : okUpto l last l.length = true ↔ Right l last := by
  rw [okUpto_all]
  constructor
  · rintro ⟨h1, h2⟩
    simp only [headOk, Bool.and_eq_true, inB_iff, beq_iff_eq, decide_eq_decide] at h1
    obtain ⟨⟨h3, h4⟩, h5⟩ := h1
    have hm : ∀ i (hi : i < l.length), (if i = 0 then l[i].f1 = 1 else (rd_T53 l ((i - 1 : Nat) : Int)).f1 < l[i].f1 ∧ (rd_T53 l ((i - 1 : Nat) : Int)).f0 < l[i].f0) ∧ (0 ≤ l[i].f0 ∧ l[i].f0 ≤ 1099511627776) ∧ l[i].f1 ≤ last := by
      intro i hi
      have := h2 i hi
      unfold markAt at this
      rw [rd_get hi] at this
      simp only [Bool.and_eq_true, inB_iff, decide_eq_true_eq] at this
      obtain ⟨⟨a, b⟩, c⟩ := this
      refine ⟨?_, b, c⟩
      split
      · next e => rw [if_pos e] at a; simpa using a
      · next e => rw [if_neg e] at a; simpa using a
    refine ⟨h3, h4, by omega, fun h => ?_, pair_of_next fun i hi => ?_, fun m hm' => ?_⟩
    · have := (hm 0 h).1
      rwa [if_pos rfl] at this
    · have := (hm (i + 1) hi).1
      rw [if_neg (by omega), Nat.add_sub_cancel, rd_get (by omega)] at this
      exact this
    · obtain ⟨i, hi, rfl⟩ := List.getElem_of_mem hm'
      have := (hm i hi).2
      exact ⟨this.1.1, this.1.2, this.2⟩
  · intro h
    refine ⟨?_, fun i hi => ?_⟩
    · simp only [headOk, Bool.and_eq_true, inB_iff, beq_iff_eq, decide_eq_decide]
      exact ⟨⟨h.last0, h.lastM⟩, by have := h.empty; omega⟩
    · unfold markAt
      rw [rd_get hi]
      have hr := h.rng _ (List.getElem_mem hi)
      simp only [Bool.and_eq_true, inB_iff, decide_eq_true_eq]
      refine ⟨⟨?_, hr.1, hr.2.1⟩, hr.2.2⟩
      by_cases e : i = 0
      · subst e
        rw [if_pos rfl]
        simpa using h.first hi
      · rw [if_neg e, rd_get (by omega)]
        have := List.pairwise_iff_getElem.1 h.asc (i - 1) i (by omega) hi (by omega)
        simpa using this

/-- The epoch at an LSN. -/
def ep (l : List Mk) (n : Int) : Int := l.foldl (fun acc m => if m.f1 ≤ n then m.f0 else acc) 0

theorem ep_snoc (l : List Mk) (x : Mk) (n : Int) : ep (l ++ [x]) n = if x.f1 ≤ n then x.f0 else ep l n := by simp [ep, List.foldl_append]

def Asc (l : List Mk) : Prop := l.Pairwise (fun a b => a.f1 < b.f1)
theorem Right.ascs {l : List Mk} {last : Int} (h : Right l last) : Asc l := h.asc.imp fun h => h.1

theorem asc_snoc {l : List Mk} {x : Mk} : Asc (l ++ [x]) ↔ Asc l ∧ ∀ m ∈ l, m.f1 < x.f1 := by
  unfold Asc
  rw [List.pairwise_append]
  simp

/-- What the epoch at n is: that of the last mark up to n; 0 if there is none. -/
theorem ep_spec {n : Int} : ∀ (l : List Mk), Asc l → (∃ m ∈ l, m.f1 ≤ n ∧ ep l n = m.f0 ∧ ∀ m' ∈ l, m'.f1 ≤ n → m'.f1 ≤ m.f1) ∨ ((∀ m ∈ l, n < m.f1) ∧ ep l n = 0) := by
  intro l
  induction h : l.length generalizing l with
  | zero =>
    intro _
    have : l = [] := List.eq_nil_of_length_eq_zero h
    subst this
    exact .inr ⟨by simp, rfl⟩
  | succ k ih =>
    intro ha
    obtain ⟨t, x, rfl⟩ : ∃ t x, l = t ++ [x] := ⟨l.dropLast, l.getLast (by intro e; simp [e] at h), (List.dropLast_concat_getLast _).symm⟩
    obtain ⟨h1, h2⟩ := asc_snoc.1 ha
    rw [ep_snoc]
    by_cases hx : x.f1 ≤ n
    · rw [if_pos hx]
      refine .inl ⟨x, by simp, hx, rfl, fun m' hm' _ => ?_⟩
      rcases List.mem_append.1 hm' with hm' | hm'
      · have := h2 m' hm'; omega
      · simp at hm'; rw [hm']; exact Int.le_refl _
    · rw [if_neg hx]
      rcases ih t (by simpa using h) h1 with ⟨m, hm, h3, h4, h5⟩ | ⟨h3, h4⟩
      · refine .inl ⟨m, by simp [hm], h3, h4, fun m' hm' hn => ?_⟩
        rcases List.mem_append.1 hm' with hm' | hm'
        · exact h5 m' hm' hn
        · simp at hm'; subst hm'; omega
      · refine .inr ⟨fun m hm => ?_, h4⟩
        rcases List.mem_append.1 hm with hm | hm
        · exact h3 m hm
        · simp at hm; subst hm; omega

theorem ep_mark {l : List Mk} (ha : Asc l) {m : Mk} (hm : m ∈ l) : ep l m.f1 = m.f0 := by
  rcases ep_spec (n := m.f1) l ha with ⟨m', h1, h2, h3, h4⟩ | ⟨h1, _⟩
  · have := h4 m hm (Int.le_refl _)
    have e : m'.f1 = m.f1 := by omega
    rw [h3]
    obtain ⟨i, hi, rfl⟩ := List.getElem_of_mem h1
    obtain ⟨j, hj, rfl⟩ := List.getElem_of_mem hm
    by_cases hij : i = j
    · subst hij; rfl
    · rcases Nat.lt_or_gt_of_ne hij with h | h
      · have := List.pairwise_iff_getElem.1 ha i j hi hj h; omega
      · have := List.pairwise_iff_getElem.1 ha j i hj hi h; omega
  · have := h1 m hm; omega

/-- The program's look-up. -/
theorem at_val {n : Int} : ∀ (l : List Mk), Asc l → (if marksUpto n l = 0 then 0 else (rd_T53 l ((marksUpto n l - 1 : Nat) : Int)).f0) = ep l n := by
  intro l
  induction h : l.length generalizing l with
  | zero =>
    intro _
    have : l = [] := List.eq_nil_of_length_eq_zero h
    subst this
    rfl
  | succ k ih =>
    intro ha
    obtain ⟨t, x, rfl⟩ : ∃ t x, l = t ++ [x] := ⟨l.dropLast, l.getLast (by intro e; simp [e] at h), (List.dropLast_concat_getLast _).symm⟩
    obtain ⟨h1, h2⟩ := asc_snoc.1 ha
    have hle : marksUpto n t ≤ t.length := by unfold marksUpto; exact Nat.le_trans List.countP_le_length (by simp)
    have hpre : ∀ i, i < t.length → rd_T53 (t ++ [x]) (i : Int) = rd_T53 t (i : Int) := fun i hi => by
      rw [rd_get (by simp; omega), rd_get hi, List.getElem_append_left hi]
    have hlast : rd_T53 (t ++ [x]) (t.length : Int) = x := by rw [rd_get (by simp)]; simp
    have hup : marksUpto n (t ++ [x]) = marksUpto n t + (if x.f1 ≤ n then 1 else 0) := by
      unfold marksUpto
      rw [List.length_append, List.length_singleton, List.range_succ, List.countP_append]
      congr 1
      · apply List.countP_congr
        intro i hi
        rw [hpre i (List.mem_range.1 hi)]
      · rw [List.countP_singleton, hlast]
        by_cases hx : x.f1 ≤ n
        · rw [if_pos hx, if_pos (by simp; omega)]
        · rw [if_neg hx, if_neg (by simp; omega)]
    rw [ep_snoc, hup]
    by_cases hx : x.f1 ≤ n
    · rw [if_pos hx, if_pos hx, if_neg (by omega), Nat.add_sub_cancel]
      have hall : marksUpto n t = t.length := by
        unfold marksUpto
        have e := List.countP_eq_length (p := fun (i : Nat) => !decide (n < (rd_T53 t (i : Int)).f1)) (l := List.range t.length)
        rw [List.length_range] at e
        refine e.2 fun i hi => ?_
        have hi' := List.mem_range.1 hi
        have := h2 _ (List.getElem_mem hi')
        rw [rd_get hi']
        simp
        omega
      rw [hall, hlast]
    · rw [if_neg hx, if_neg hx, Nat.add_zero, ← ih t (by simpa using h) h1]
      by_cases h0 : marksUpto n t = 0
      · rw [if_pos h0, if_pos h0]
      · rw [if_neg h0, if_neg h0, hpre _ (by omega)]

theorem at_eq {l : List Mk} {last n : Int} (ha : Asc l) (hlen : l.length < 4611686018427387904) : line_at.f l last n = some (ep l n) := by
  unfold line_at.f
  rw [if_pos, if_pos hlen, at_val l ha]
  intro b hb a hab
  rw [rd_get (show a < l.length by omega), rd_get hb]
  by_cases e : a = b
  · subst e; exact Int.le_refl _
  · exact Int.le_of_lt (List.pairwise_iff_getElem.1 ha a b (by omega) hb (by omega))

theorem right_len {l : List Mk} {last : Int} (h : Right l last) : (l.length : Int) ≤ last := by
  have key : ∀ i (hi : i < l.length), (i : Int) + 1 ≤ l[i].f1 := by
    intro i
    induction i with
    | zero => intro hi; have := h.first hi; omega
    | succ i ih =>
      intro hi
      have h1 := ih (by omega)
      have h2 := (List.pairwise_iff_getElem.1 h.asc i (i + 1) (by omega) hi (by omega)).1
      omega
  by_cases h0 : l.length = 0
  · have := h.last0; omega
  · have h1 := key (l.length - 1) (by omega)
    have h2 := (h.rng _ (List.getElem_mem (show l.length - 1 < l.length by omega))).2.2
    omega

theorem right_at {l : List Mk} {last n : Int} (h : Right l last) : line_at.f l last n = some (ep l n) := at_eq h.ascs (by have := right_len h; have := h.lastM; omega)

end Go.Proofs.Ytjlcaamfpglflaa.LM
