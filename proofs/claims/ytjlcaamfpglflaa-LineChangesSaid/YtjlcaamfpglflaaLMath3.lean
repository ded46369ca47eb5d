/- Plain mathematics of timelines: cut, grown, the same up to the fork. -/
import Derived.Test.YtjlcaamfpglflaaLMath2
set_option linter.unusedSimpArgs false
set_option linter.unusedVariables false
namespace Go.Proofs.Ytjlcaamfpglflaa.LM
open Go.RowKit Go.Proofs.Ytjlcaamfpglflaa.PLine Go.Proofs.YtjlcaamfpglflaaW.PrintWords Go.Proofs.YtjlcaamfpglflaaW.PrintLast

theorem eq_of_mem : ∀ {a b : List Mk}, Asc a → Asc b → (∀ m, m ∈ a ↔ m ∈ b) → a = b
  | [], [], _, _, _ => rfl
  | [], y :: u, _, _, h => by have := (h y).2 (by simp); simp at this
  | x :: t, [], _, _, h => by have := (h x).1 (by simp); simp at this
  | x :: t, y :: u, ha, hb, h => by
    obtain ⟨a1, a2⟩ := List.pairwise_cons.1 ha
    obtain ⟨b1, b2⟩ := List.pairwise_cons.1 hb
    have hxy : x = y := by
      rcases List.mem_cons.1 ((h x).1 (by simp)) with e | hx
      · exact e
      · rcases List.mem_cons.1 ((h y).2 (by simp)) with e | hy
        · exact e.symm
        · have := b1 x hx; have := a1 y hy; omega
    subst hxy
    congr 1
    refine eq_of_mem a2 b2 (fun m => ⟨fun hm => ?_, fun hm => ?_⟩)
    · rcases List.mem_cons.1 ((h m).1 (List.mem_cons_of_mem _ hm)) with e | hm'
      · subst e; have := a1 m hm; omega
      · exact hm'
    · rcases List.mem_cons.1 ((h m).2 (List.mem_cons_of_mem _ hm)) with e | hm'
      · subst e; have := b1 m hm; omega
      · exact hm'

theorem Right.lt0 {l : List Mk} {last : Int} (h : Right l last) {m m' : Mk} (hm : m ∈ l) (hm' : m' ∈ l) (hlt : m.f1 < m'.f1) : m.f0 < m'.f0 := by
  obtain ⟨i, hi, rfl⟩ := List.getElem_of_mem hm
  obtain ⟨j, hj, rfl⟩ := List.getElem_of_mem hm'
  rcases Nat.lt_trichotomy i j with hij | hij | hij
  · exact (List.pairwise_iff_getElem.1 h.asc i j hi hj hij).2
  · subst hij; omega
  · have := (List.pairwise_iff_getElem.1 h.asc j i hj hi hij).1; omega

theorem Right.inj {l : List Mk} {last : Int} (h : Right l last) {m m' : Mk} (hm : m ∈ l) (hm' : m' ∈ l) (he : m.f1 = m'.f1) : m = m' := by
  obtain ⟨i, hi, rfl⟩ := List.getElem_of_mem hm
  obtain ⟨j, hj, rfl⟩ := List.getElem_of_mem hm'
  rcases Nat.lt_trichotomy i j with hij | hij | hij
  · have := (List.pairwise_iff_getElem.1 h.asc i j hi hj hij).1; omega
  · subst hij; rfl
  · have := (List.pairwise_iff_getElem.1 h.asc j i hj hi hij).1; omega

theorem Right.pos {l : List Mk} {last : Int} (h : Right l last) {m : Mk} (hm : m ∈ l) : 1 ≤ m.f1 := by
  obtain ⟨i, hi, rfl⟩ := List.getElem_of_mem hm
  have h0 := h.first (by omega)
  by_cases e : i = 0
  · subst e; omega
  · have := (List.pairwise_iff_getElem.1 h.asc 0 i (by omega) hi (by omega)).1
    omega

theorem Right.one {l : List Mk} {last : Int} (h : Right l last) (hl : 1 ≤ last) : ∃ m ∈ l, m.f1 = 1 := by
  have hp : 0 < l.length := by
    rcases Nat.eq_zero_or_pos l.length with e | e
    · have := h.empty.1 e; omega
    · exact e
  exact ⟨l[0], List.getElem_mem hp, h.first hp⟩

theorem mark_other {a b : List Mk} {la lb R : Int} (ha : Right a la) (hb : Right b lb) (hR : R ≤ lb) (hs : ∀ n, n ≤ R → ep a n = ep b n) {m : Mk} (hm : m ∈ a) (hmR : m.f1 ≤ R) : m ∈ b := by
  have h1 := ha.pos hm
  have e1 := ep_mark ha.ascs hm
  rcases ep_spec (n := m.f1) b hb.ascs with ⟨m', hm', h2, h3, h4⟩ | ⟨h2, _⟩
  · have e2 : m'.f0 = m.f0 := by rw [← h3, ← hs _ hmR, e1]
    by_cases hlt : m'.f1 < m.f1
    · exfalso
      have e3 : ep b (m.f1 - 1) = m'.f0 := by
        rw [← h3]
        rw [ep_same hb.ascs (show m.f1 - 1 ≤ m.f1 by omega) (fun s hs' hsn => by
          obtain ⟨q, hq, rfl⟩ := List.mem_map.1 hs'
          have := h4 q hq hsn
          omega)]
      have e4 : ep a (m.f1 - 1) = m.f0 := by rw [hs _ (by omega), e3, e2]
      rcases ep_spec (n := m.f1 - 1) a ha.ascs with ⟨q, hq, h5, h6, _⟩ | ⟨h5, _⟩
      · have := ha.lt0 hq hm (by omega)
        omega
      · obtain ⟨q, hq, hq1⟩ := ha.one (by have := (ha.rng m hm).2.2; omega)
        have := h5 q hq
        have := hb.pos hm'
        omega
    · have e : m'.f1 = m.f1 := by omega
      have : m' = m := by
        obtain ⟨x, y⟩ := m'
        obtain ⟨x', y'⟩ := m
        simp only at e e2
        rw [e, e2]
      rw [← this]; exact hm'
  · obtain ⟨q, hq, hq1⟩ := hb.one (by omega)
    have := h2 q hq
    omega

def cutL (l : List Mk) (n : Int) : List Mk := l.filter (fun m => decide (m.f1 ≤ n))

theorem cut_same {a b : List Mk} {la lb R : Int} (ha : Right a la) (hb : Right b lb) (hRa : R ≤ la) (hRb : R ≤ lb) (hs : ∀ n, n ≤ R → ep a n = ep b n) : cutL a R = cutL b R := by
  refine eq_of_mem (List.Pairwise.filter _ ha.ascs) (List.Pairwise.filter _ hb.ascs) (fun m => ?_)
  unfold cutL
  rw [List.mem_filter, List.mem_filter, decide_eq_true_eq]
  constructor
  · rintro ⟨h1, h2⟩; exact ⟨mark_other ha hb hRb hs h1 h2, h2⟩
  · rintro ⟨h1, h2⟩; exact ⟨mark_other hb ha hRa (fun n hn => (hs n hn).symm) h1 h2, h2⟩

theorem fork_le {a b : List Mk} {la lb : Int} : fork a b la lb ≤ la ∧ fork a b la lb ≤ lb := by
  have := (fork_parts a b la lb).le
  split at this <;> omega

theorem fork_pos {a b : List Mk} {la lb : Int} (ha : Right a la) (hb : Right b lb) : 0 ≤ fork a b la lb := by
  have h1 := ha.last0
  have h2 := hb.last0
  rcases (fork_parts a b la lb).at_ with h | ⟨n, hn, _, _, h⟩
  · split at h <;> omega
  · rcases List.mem_append.1 hn with hn | hn <;> obtain ⟨m, hm, rfl⟩ := List.mem_map.1 hn
    · have := ha.pos hm; omega
    · have := hb.pos hm; omega

theorem fork_symm (a b : List Mk) (la lb : Int) : fork b a lb la = fork a b la lb := by
  have h1 := fork_parts b a lb la
  have e : (if lb ≤ la then lb else la) = (if la ≤ lb then la else lb) := by split <;> split <;> omega
  rw [e] at h1
  refine Parts.unique (P := differ a b) (T := lsns b ++ lsns a) (T' := lsns a ++ lsns b) (fun n => by simp [or_comm]) ⟨h1.le, fun n hn hp => h1.no n hn (fun h => hp h.symm), ?_⟩ (fork_parts a b la lb)
  rcases h1.at_ with h | ⟨n, hn, h2, h3, h4⟩
  · exact .inl h
  · exact .inr ⟨n, hn, h2, fun h => h3 h.symm, h4⟩

theorem fork_same {a b : List Mk} {la lb : Int} (ha : Right a la) (hb : Right b lb) {n : Int} (hn : n ≤ fork a b la lb) : ep a n = ep b n :=
  same_upto ha.ascs hb.ascs (fun t ht hp => (fork_parts a b la lb).no t ht hp) hn

theorem fork_next {a b : List Mk} {la lb : Int} (h1 : fork a b la lb < la) (h2 : fork a b la lb < lb) : ep a (fork a b la lb + 1) ≠ ep b (fork a b la lb + 1) := by
  rcases (fork_parts a b la lb).at_ with h | ⟨n, hn, _, hp, h⟩
  · split at h <;> omega
  · rw [h, Int.sub_add_cancel]; exact hp

/-! ### a timeline that goes on -/
def growL (l : List Mk) (last e n : Int) : List Mk := if 0 < n ∧ (last = 0 ∨ ep l last < e) then l ++ [⟨e, last + 1⟩] else l

theorem ep_top {l : List Mk} {last : Int} (h : Right l last) {m : Mk} (hm : m ∈ l) : m.f0 ≤ ep l last := by
  rcases ep_spec (n := last) l h.ascs with ⟨m', hm', _, h3, h4⟩ | ⟨h1, _⟩
  · have := h4 m hm (h.rng m hm).2.2
    rw [h3]
    by_cases e : m.f1 = m'.f1
    · rw [h.inj hm hm' e]; exact Int.le_refl _
    · exact Int.le_of_lt (h.lt0 hm hm' (by omega))
  · have := h1 m hm; have := (h.rng m hm).2.2; omega

theorem ep_past {l : List Mk} {last n : Int} (h : Right l last) (hn : last ≤ n) : ep l n = ep l last :=
  ep_same h.ascs hn (fun s hs _ => by obtain ⟨m, hm, rfl⟩ := List.mem_map.1 hs; exact (h.rng m hm).2.2)

theorem grow_right {l : List Mk} {last e n : Int} (h : Right l last) (hn : 0 ≤ n) (hM : last + n ≤ 1099511627776) (he : 0 ≤ e ∧ e ≤ 1099511627776) (hep : ep l last ≤ e) : Right (growL l last e n) (last + n) := by
  have h0 := h.last0
  unfold growL
  by_cases hc : 0 < n ∧ (last = 0 ∨ ep l last < e)
  · rw [if_pos hc]
    refine ⟨by omega, hM, ⟨fun hl => by simp at hl, fun hl => by omega⟩, fun hp => ?_, ?_, ?_⟩
    · by_cases e0 : l.length = 0
      · have : l = [] := List.eq_nil_of_length_eq_zero e0
        have hl0 := h.empty.1 e0
        subst this
        simp [hl0]
      · rw [List.getElem_append_left (by omega)]
        exact h.first (by omega)
    · rw [List.pairwise_append]
      refine ⟨h.asc, by simp, fun m hm x hx => ?_⟩
      simp at hx
      subst hx
      have h1 := (h.rng m hm).2.2
      have h2 := ep_top h hm
      refine ⟨by show m.f1 < last + 1; omega, ?_⟩
      show m.f0 < e
      rcases hc.2 with e0 | e0
      · have := h.empty.2 e0
        have : l = [] := List.eq_nil_of_length_eq_zero this
        subst this
        simp at hm
      · omega
    · intro m hm
      rcases List.mem_append.1 hm with hm | hm
      · have := h.rng m hm; omega
      · simp at hm
        subst hm
        exact ⟨he.1, he.2, by show last + 1 ≤ last + n; omega⟩
  · rw [if_neg hc]
    refine ⟨by omega, hM, ⟨fun hl => ?_, fun hl => ?_⟩, h.first, h.asc, fun m hm => ?_⟩
    · have := h.empty.1 hl; omega
    · exact h.empty.2 (by omega)
    · have := h.rng m hm; omega

theorem grow_ep {l : List Mk} {last e n : Int} (h : Right l last) (hn : 0 ≤ n) (hep : ep l last ≤ e) : ep l last ≤ ep (growL l last e n) (last + n) := by
  unfold growL
  by_cases hc : 0 < n ∧ (last = 0 ∨ ep l last < e)
  · rw [if_pos hc, ep_snoc, if_pos (by show last + 1 ≤ last + n; omega)]
    exact hep
  · rw [if_neg hc]
    have := ep_past h (show last ≤ last + n by omega)
    omega

theorem grow_fork {l : List Mk} {last e n : Int} (h : Right l last) (hn : 0 ≤ n) : fork l (growL l last e n) last (last + n) = last := by
  have h1 := fork_parts l (growL l last e n) last (last + n)
  rw [if_pos (by omega)] at h1
  refine Parts.unique (P := differ l (growL l last e n)) (fun n => Iff.rfl) h1 ⟨Int.le_refl _, fun t _ hp => ?_, .inl rfl⟩
  by_cases hlt : last < t
  · exact hlt
  · exfalso
    refine hp ?_
    unfold growL
    by_cases hc : 0 < n ∧ (last = 0 ∨ ep l last < e)
    · rw [if_pos hc, ep_snoc, if_neg (by show ¬ last + 1 ≤ t; omega)]
    · rw [if_neg hc]

end Go.Proofs.Ytjlcaamfpglflaa.LM
