/- Plain mathematics of timelines: where two part. -/
import Derived.Test.YtjlcaamfpglflaaLMath
set_option linter.unusedSimpArgs false
set_option linter.unusedVariables false
namespace Go.Proofs.Ytjlcaamfpglflaa.LM
open Go.RowKit Go.Proofs.Ytjlcaamfpglflaa.PLine Go.Proofs.YtjlcaamfpglflaaW.PrintWords Go.Proofs.YtjlcaamfpglflaaW.PrintLast

/-- R is where the numbers of T first part by P, looked at up to out. -/
structure Parts (P : Int → Prop) (T : List Int) (out R : Int) : Prop where
  le : R ≤ out
  no : ∀ n ∈ T, P n → R < n
  at_ : R = out ∨ ∃ n ∈ T, n ≤ out ∧ P n ∧ R = n - 1

theorem Parts.unique {P : Int → Prop} {T T' : List Int} (hT : ∀ n, n ∈ T ↔ n ∈ T') {out R R' : Int} (h : Parts P T out R) (h' : Parts P T' out R') : R = R' := by
  have key : ∀ {T T' : List Int} {R R' : Int}, (∀ n, n ∈ T → n ∈ T') → Parts P T out R → Parts P T' out R' → ¬ R < R' := by
    intro T T' R R' hT h h' hlt
    rcases h.at_ with e | ⟨n, hn, _, hp, e⟩
    · have := h'.le; omega
    · have := h'.no n (hT n hn) hp; omega
  have h1 := key (fun n hn => (hT n).1 hn) h h'
  have h2 := key (fun n hn => (hT n).2 hn) h' h
  omega

theorem Parts.nil {P : Int → Prop} {out : Int} (h : True) : Parts P [] out out := ⟨Int.le_refl _, by simp, .inl rfl⟩

open Classical in
/-- The reference's step at a number. -/
noncomputable def cutAt (P : Int → Prop) (out n : Int) : Int := if n ≤ out ∧ P n then n - 1 else out

theorem parts_fold {P : Int → Prop} : ∀ (T : List Int) (out : Int), Parts P T out (T.foldl (cutAt P) out)
  | [], out => ⟨Int.le_refl _, by simp, .inl rfl⟩
  | n :: T, out => by
    have ih := parts_fold (P := P) T (cutAt P out n)
    have hc : cutAt P out n ≤ out := by unfold cutAt; split <;> omega
    have hle := ih.le
    refine ⟨by simp only [List.foldl_cons]; omega, fun m hm hp => ?_, ?_⟩
    · simp only [List.foldl_cons]
      rcases List.mem_cons.1 hm with rfl | hm
      · by_cases h : m ≤ out
        · have e : cutAt P out m = m - 1 := by unfold cutAt; rw [if_pos ⟨h, hp⟩]
          omega
        · omega
      · exact ih.no m hm hp
    · simp only [List.foldl_cons]
      by_cases h : n ≤ out ∧ P n
      · have e : cutAt P out n = n - 1 := by unfold cutAt; rw [if_pos h]
        rcases ih.at_ with h1 | ⟨m, hm, h1, h2, h3⟩
        · exact .inr ⟨n, by simp, h.1, h.2, by omega⟩
        · exact .inr ⟨m, by simp [hm], by omega, h2, h3⟩
      · have e : cutAt P out n = out := by unfold cutAt; rw [if_neg h]
        rw [e] at ih ⊢
        rcases ih.at_ with h1 | ⟨m, hm, h1, h2, h3⟩
        · exact .inl h1
        · exact .inr ⟨m, by simp [hm], h1, h2, h3⟩

/-- The program's: the first of an ascending row. -/
theorem parts_first {P : Int → Prop} {out : Int} : ∀ (T : List Int), T.Pairwise (· ≤ ·) →
    (∃ T1 n T2, T = T1 ++ n :: T2 ∧ (∀ m ∈ T1, ¬ (m ≤ out ∧ P m)) ∧ n ≤ out ∧ P n ∧ Parts P T out (n - 1)) ∨ ((∀ m ∈ T, ¬ (m ≤ out ∧ P m)) ∧ Parts P T out out)
  | [], _ => .inr ⟨by simp, ⟨Int.le_refl _, by simp, .inl rfl⟩⟩
  | x :: T, hs => by
    obtain ⟨h1, h2⟩ := List.pairwise_cons.1 hs
    by_cases hx : x ≤ out ∧ P x
    · refine .inl ⟨[], x, T, rfl, by simp, hx.1, hx.2, ⟨by omega, fun m hm _ => ?_, .inr ⟨x, by simp, hx.1, hx.2, rfl⟩⟩⟩
      rcases List.mem_cons.1 hm with rfl | hm
      · omega
      · have := h1 m hm; omega
    · rcases parts_first T h2 with ⟨T1, n, T2, rfl, h3, h4, h5, h6⟩ | ⟨h3, h4⟩
      · refine .inl ⟨x :: T1, n, T2, rfl, fun m hm => ?_, h4, h5, ⟨h6.le, fun m hm hp => ?_, ?_⟩⟩
        · rcases List.mem_cons.1 hm with rfl | hm
          · exact hx
          · exact h3 m hm
        · rcases List.mem_cons.1 hm with rfl | hm
          · have : ¬ m ≤ out := fun h => hx ⟨h, hp⟩
            omega
          · exact h6.no m hm hp
        · rcases h6.at_ with h | ⟨m, hm, h⟩
          · exact .inl h
          · exact .inr ⟨m, List.mem_cons_of_mem _ hm, h⟩
      · refine .inr ⟨fun m hm => ?_, ⟨Int.le_refl _, fun m hm hp => ?_, .inl rfl⟩⟩
        · rcases List.mem_cons.1 hm with rfl | hm
          · exact hx
          · exact h3 m hm
        · rcases List.mem_cons.1 hm with rfl | hm
          · have : ¬ m ≤ out := fun h => hx ⟨h, hp⟩
            omega
          · exact h4.no m hm hp

def differ (a b : List Mk) (n : Int) : Prop := ep a n ≠ ep b n
def lsns (l : List Mk) : List Int := l.map (·.f1)
open Classical in
/-- Where two timelines part. -/
noncomputable def fork (a b : List Mk) (la lb : Int) : Int := (lsns a ++ lsns b).foldl (cutAt (differ a b)) (if la ≤ lb then la else lb)

theorem fork_parts (a b : List Mk) (la lb : Int) : Parts (differ a b) (lsns a ++ lsns b) (if la ≤ lb then la else lb) (fork a b la lb) := parts_fold _ _

/-- Between two turns the epoch stays. -/
theorem ep_turn {l : List Mk} (ha : Asc l) (n : Int) : (∃ t ∈ lsns l, t ≤ n ∧ ep l n = ep l t ∧ ∀ t' ∈ lsns l, t' ≤ n → t' ≤ t) ∨ ((∀ t ∈ lsns l, n < t) ∧ ep l n = 0) := by
  rcases ep_spec (n := n) l ha with ⟨m, hm, h1, h2, h3⟩ | ⟨h1, h2⟩
  · refine .inl ⟨m.f1, List.mem_map.2 ⟨m, hm, rfl⟩, h1, by rw [h2, ep_mark ha hm], fun t' ht' hn => ?_⟩
    obtain ⟨m', hm', rfl⟩ := List.mem_map.1 ht'
    exact h3 m' hm' hn
  · refine .inr ⟨fun t ht => ?_, h2⟩
    obtain ⟨m', hm', rfl⟩ := List.mem_map.1 ht
    exact h1 m' hm'

/-- If no turn lies in (t, n], the epoch at n is that at t. -/
theorem ep_same {l : List Mk} (ha : Asc l) {t n : Int} (htn : t ≤ n) (h : ∀ s ∈ lsns l, s ≤ n → s ≤ t) : ep l n = ep l t := by
  rcases ep_turn ha n with ⟨s, hs, h1, h2, h3⟩ | ⟨h1, h2⟩
  · have hst := h s hs h1
    rcases ep_turn ha t with ⟨u, hu, g1, g2, g3⟩ | ⟨g1, g2⟩
    · have e : u = s := by
        have := g3 s hs hst
        have := h3 u hu (by omega)
        omega
      rw [h2, g2, e]
    · have := g1 s hs; omega
  · rcases ep_turn ha t with ⟨u, hu, g1, g2, g3⟩ | ⟨g1, g2⟩
    · have := h1 u hu; omega
    · rw [h2, g2]

/-- Up to the fork both have the same epoch. -/
theorem same_upto {a b : List Mk} (ha : Asc a) (hb : Asc b) {R : Int} (h : ∀ t ∈ lsns a ++ lsns b, ep a t ≠ ep b t → R < t) {n : Int} (hn : n ≤ R) : ep a n = ep b n := by
  -- the last turn of both up to n
  rcases ep_turn ha n with ⟨s, hs, h1, h2, h3⟩ | ⟨h1, h2⟩
  · rcases ep_turn hb n with ⟨u, hu, g1, g2, g3⟩ | ⟨g1, g2⟩
    · by_cases hsu : s ≤ u
      · have e1 : ep a n = ep a u := ep_same ha g1 (fun t ht htn => by have := h3 t ht htn; omega)
        rw [e1, g2]
        by_cases e : ep a u = ep b u
        · exact e
        · have := h u (by simp [hu]) e; omega
      · have e1 : ep b n = ep b s := ep_same hb h1 (fun t ht htn => by have := g3 t ht htn; omega)
        rw [e1, h2]
        by_cases e : ep a s = ep b s
        · exact e
        · have := h s (by simp [hs]) e; omega
    · have e1 : ep b n = ep b s := ep_same hb h1 (fun t ht htn => by have := g1 t ht; omega)
      rw [e1, h2]
      by_cases e : ep a s = ep b s
      · exact e
      · have := h s (by simp [hs]) e; omega
  · rcases ep_turn hb n with ⟨u, hu, g1, g2, g3⟩ | ⟨g1, g2⟩
    · have e1 : ep a n = ep a u := ep_same ha g1 (fun t ht htn => by have := h1 t ht; omega)
      rw [e1, g2]
      by_cases e : ep a u = ep b u
      · exact e
      · have := h u (by simp [hu]) e; omega
    · rw [h2, g2]

end Go.Proofs.Ytjlcaamfpglflaa.LM
