/- Plain mathematics for the quorum laws: what a sorted list's middle says of the list. No program in sight. -/
import Derived.Lib.SlKeysI
namespace Go.Proofs.YtjlcaamfpglflaaDoor.QMath
open Go

theorem leI_tr : ∀ a b c : Int, leI a b = true → leI b c = true → leI a c = true := fun a b c h1 h2 => by simp only [leI, decide_eq_true_eq] at *; omega
theorem leI_to : ∀ a b : Int, (leI a b || leI b a) = true := fun a b => by simp only [leI, Bool.or_eq_true, decide_eq_true_eq]; omega

theorem sorted_pairwise (l : List Int) : (l.mergeSort leI).Pairwise (· ≤ ·) := by
  have h := List.pairwise_mergeSort leI_tr leI_to l
  exact h.imp fun h => by simpa [leI] using h

theorem sort_eq {l s : List Int} (hp : l.Perm s) (hs : s.Pairwise (· ≤ ·)) : l.mergeSort leI = s :=
  List.Perm.eq_of_pairwise (le := fun a b => a ≤ b) (fun _ _ _ _ h1 h2 => Int.le_antisymm h1 h2) (sorted_pairwise l) hs ((List.mergeSort_perm l leI).trans hp)

def cnt (a : Int) (l : List Int) : Nat := l.countP fun b => decide (a ≤ b)

theorem cnt_perm {l s : List Int} (h : l.Perm s) (a : Int) : cnt a l = cnt a s := h.countP_eq _

theorem cnt_ge {s : List Int} (hs : s.Pairwise (· ≤ ·)) {p : Nat} (hp : p < s.length) : s.length - p ≤ cnt (s.getD p 0) s := by
  have e : s = s.take p ++ s.drop p := (List.take_append_drop p s).symm
  have hd : (s.drop p).countP (fun b => decide (s.getD p 0 ≤ b)) = (s.drop p).length := by
    rw [List.countP_eq_length]
    intro b hb
    have hd : s.drop p = s.getD p 0 :: s.drop (p + 1) := by
      rw [List.drop_eq_getElem_cons hp, List.getD_eq_getElem?_getD, List.getElem?_eq_getElem hp]; rfl
    have hq : (s.drop p).Pairwise (· ≤ ·) := hs.sublist (List.drop_sublist p s)
    rw [hd] at hq hb
    rcases List.mem_cons.1 hb with rfl | hb
    · simp
    · simpa using (List.pairwise_cons.1 hq).1 b hb
  have : cnt (s.getD p 0) s = (s.take p).countP (fun b => decide (s.getD p 0 ≤ b)) + (s.drop p).countP (fun b => decide (s.getD p 0 ≤ b)) := by
    unfold cnt
    conv => lhs; rw [e]
    rw [List.countP_append]
    congr 1 <;> simp
  rw [this, hd, List.length_drop]
  omega

theorem cnt_le {s : List Int} (hs : s.Pairwise (· ≤ ·)) {p : Nat} (hp : p < s.length) {a : Int} (ha : s.getD p 0 < a) : cnt a s ≤ s.length - p - 1 := by
  have e : s = s.take (p + 1) ++ s.drop (p + 1) := (List.take_append_drop (p + 1) s).symm
  have h0 : (s.take (p + 1)).countP (fun b => decide (a ≤ b)) = 0 := by
    rw [List.countP_eq_zero]
    intro b hb
    obtain ⟨i, hi, rfl⟩ := List.getElem_of_mem hb
    have hi' : i < p + 1 := by simp at hi; omega
    have hle : (s.take (p + 1))[i] ≤ s.getD p 0 := by
      rw [List.getElem_take, List.getD_eq_getElem?_getD, List.getElem?_eq_getElem hp]
      show s[i] ≤ s[p]
      by_cases hip : i = p
      · subst hip; exact Int.le_refl _
      · exact List.pairwise_iff_getElem.1 hs i p _ hp (by omega)
    have hlt := Int.lt_of_le_of_lt hle ha
    simp only [decide_eq_true_eq]
    omega
  have : cnt a s = (s.take (p + 1)).countP (fun b => decide (a ≤ b)) + (s.drop (p + 1)).countP (fun b => decide (a ≤ b)) := by
    unfold cnt
    conv => lhs; rw [e]
    rw [List.countP_append]
  rw [this, h0]
  have := List.countP_le_length (p := fun b => decide (a ≤ b)) (l := s.drop (p + 1))
  rw [List.length_drop] at this
  omega

/-- The greatest number that a majority has. -/
def mid (l : List Int) : Int := (l.mergeSort leI).getD (l.length - (l.length / 2 + 1)) 0

theorem mid_perm {l s : List Int} (h : l.Perm s) : mid l = mid s := by unfold mid; rw [mergeSort_of_perm_i h, h.length_eq]

theorem mid_mem {l : List Int} (h : 0 < l.length) : mid l ∈ l := by
  unfold mid
  have hp : l.length - (l.length / 2 + 1) < (l.mergeSort leI).length := by rw [List.length_mergeSort]; omega
  rw [List.getD_eq_getElem?_getD, List.getElem?_eq_getElem hp]
  exact (List.mergeSort_perm l leI).mem_iff.1 (List.getElem_mem hp)

theorem mid_has {l : List Int} (h : 0 < l.length) : l.length < 2 * cnt (mid l) l := by
  have hp : l.length - (l.length / 2 + 1) < (l.mergeSort leI).length := by rw [List.length_mergeSort]; omega
  have := cnt_ge (sorted_pairwise l) hp
  rw [cnt_perm (List.mergeSort_perm l leI), List.length_mergeSort] at this
  unfold mid
  omega

theorem mid_max {l : List Int} (h : 0 < l.length) {a : Int} (ha : mid l < a) : 2 * cnt a l ≤ l.length := by
  have hp : l.length - (l.length / 2 + 1) < (l.mergeSort leI).length := by rw [List.length_mergeSort]; omega
  have := cnt_le (sorted_pairwise l) hp (a := a) ha
  rw [cnt_perm (List.mergeSort_perm l leI), List.length_mergeSort] at this
  omega

/-- What has a majority is at most the middle. -/
theorem le_mid {l : List Int} (h : 0 < l.length) {a : Int} (ha : l.length < 2 * cnt a l) : a ≤ mid l := by
  by_cases hc : mid l < a
  · have := mid_max h hc; omega
  · omega

theorem cnt_anti {l : List Int} {a b : Int} (h : a ≤ b) : cnt b l ≤ cnt a l := by
  unfold cnt
  exact List.countP_mono_left fun x _ hx => by simp at hx ⊢; omega

/-- The reference's search: the best so far, over what is left. -/
def best (l : List Int) : Int → List Int → Int
  | b, [] => b
  | b, a :: t => best l (if l.length < 2 * cnt a l ∧ b < a then a else b) t

theorem best_spec (l : List Int) (h : 0 < l.length) : ∀ (t : List Int) (b : Int), b ≤ mid l → (mid l ∈ t ∨ b = mid l) → best l b t = mid l
  | [], b, _, h2 => by
    rcases h2 with h2 | h2
    · cases h2
    · exact h2
  | a :: t, b, h1, h2 => by
    unfold best
    by_cases hc : l.length < 2 * cnt a l ∧ b < a
    · rw [if_pos hc]
      have ha := le_mid h hc.1
      refine best_spec l h t a ha ?_
      rcases h2 with h2 | h2
      · rcases List.mem_cons.1 h2 with h2 | h2
        · exact .inr h2.symm
        · exact .inl h2
      · exact .inr (by omega)
    · rw [if_neg hc]
      refine best_spec l h t b h1 ?_
      rcases h2 with h2 | h2
      · rcases List.mem_cons.1 h2 with h2 | h2
        · right
          have := mid_has h
          rw [← h2] at hc
          omega
        · exact .inl h2
      · exact .inr h2

theorem best_mid {l : List Int} (h : 0 < l.length) (hn : ∀ a ∈ l, 0 ≤ a) : best l 0 l = mid l :=
  best_spec l h l 0 (hn _ (mid_mem h)) (.inl (mid_mem h))

end Go.Proofs.YtjlcaamfpglflaaDoor.QMath
