/- Where two timelines part: the program's and the reference's answers. -/
import Derived.Test.YtjlcaamfpglflaaLRef
import Derived.Test.YtjlcaamfpglflaaPLinex11
set_option linter.unusedSimpArgs false
set_option linter.unusedVariables false
namespace Go.Proofs.Ytjlcaamfpglflaa.LM
open Go.RowKit Go.Proofs.Ytjlcaamfpglflaa.PLine Go.Proofs.YtjlcaamfpglflaaW.PrintWords Go.Proofs.YtjlcaamfpglflaaW.PrintLast

theorem check_val (l : List Mk) (last : Int) : line_Check.f l last = some (if okUpto l last l.length = true then 0 else 4) := rfl

theorem or_ev (x y : Int) : Ev (fun k => api_Errno.f k [x, y]) (if x = 0 then y else x) := by
  refine Ev.of (k := 4) (fun k => api_Errno.mono _ k) ?_
  by_cases hx : x = 0
  · subst hx
    by_cases hy : y = 0
    · subst hy; simp [api_Errno.f, api_Errno.l0, rd, wrap64]
    · simp [api_Errno.f, api_Errno.l0, rd, wrap64, hy]
  · simp [api_Errno.f, api_Errno.l0, rd, hx]

theorem concat_ev (a b : List Mk) (ha : a.length ≤ 1099511627776) (hb : b.length ≤ 1099511627776) : Ev (fun k => api_Mark_40.f k [a, b]) (a ++ b) := by
  refine Ev.of (k := 8) (fun k => api_Mark_40.mono _ k) ?_
  unfold api_Mark_40.f
  have e0 : wrap64 (0 + (a.length : Int)) = (a.length : Int) := by unfold wrap64; omega
  have e1 : wrap64 ((a.length : Int) + (b.length : Int)) = ((a.length + b.length : Nat) : Int) := by unfold wrap64; omega
  have g : api_Mark_53.f [] ((a.length + b.length : Nat) : Int) = some [] := by
    unfold api_Mark_53.f
    rw [if_pos (by rfl), if_pos (by omega), if_pos (by omega)]
  have r0 : rd_L2 [a, b] 0 = a := rfl
  have w1 : wrap64 (0 + 1) = 1 := by simp [wrap64]
  have w2 : wrap64 (1 + 1) = 2 := by simp [wrap64]
  have r1 : rd_L2 [a, b] 1 = b := rfl
  have c2 : ¬ ((2 : Int) < (([a, b] : List (List Mk)).length : Int)) := by simp
  simp only [api_Mark_40.l0]
  rw [if_pos (by simp), if_pos (by omega), if_pos (by simp), r0, e0, if_neg (by omega), w1, if_pos (by simp), if_pos (by omega), if_pos (by simp), r1, e1, if_neg (by omega), w2, if_neg c2, g, Option.bind_some]
  simp only [api_Mark_40.l1]
  rw [if_pos (by simp), if_pos (by omega), if_pos (by simp), r0, if_pos (by simp; omega), w1, if_pos (by simp), if_pos (by omega), if_pos (by simp), r1, if_pos (by simp; omega), w2, if_neg c2]
  simp

/-- The program's search: the first turn at which the epochs differ. -/
def firstAt (a b : List Mk) (out : Int) : List Int → Int
  | [] => out
  | x :: t => if x ≤ out ∧ ep a x ≠ ep b x then x - 1 else firstAt a b out t

theorem firstAt_parts (a b : List Mk) (out : Int) : ∀ (T : List Int), T.Pairwise (· ≤ ·) → Parts (differ a b) T out (firstAt a b out T)
  | [], _ => ⟨Int.le_refl _, by simp, .inl rfl⟩
  | x :: T, hs => by
    obtain ⟨h1, h2⟩ := List.pairwise_cons.1 hs
    unfold firstAt
    by_cases hx : x ≤ out ∧ ep a x ≠ ep b x
    · rw [if_pos hx]
      refine ⟨by omega, fun m hm _ => ?_, .inr ⟨x, by simp, hx.1, hx.2, rfl⟩⟩
      rcases List.mem_cons.1 hm with rfl | hm
      · omega
      · have := h1 m hm; omega
    · rw [if_neg hx]
      have ih := firstAt_parts a b out T h2
      refine ⟨ih.le, fun m hm hp => ?_, ?_⟩
      · rcases List.mem_cons.1 hm with rfl | hm
        · have : ¬ m ≤ out := fun h => hx ⟨h, hp⟩
          have := ih.le
          omega
        · exact ih.no m hm hp
      · rcases ih.at_ with h | ⟨m, hm, h⟩
        · exact .inl h
        · exact .inr ⟨m, List.mem_cons_of_mem _ hm, h⟩

theorem rdi {T : List Int} {i : Nat} (h : i < T.length) : rd T (i : Int) = T[i] := by unfold rd; simp [h]
theorem dropi {T : List Int} {i : Nat} (h : i < T.length) : T.drop i = rd T (i : Int) :: T.drop (i + 1) := by rw [List.drop_eq_getElem_cons h, rdi h]

theorem mark_pos {l : List Mk} {last : Int} (h : Right l last) {t : Int} (ht : t ∈ lsns l) : 1 ≤ t ∧ t ≤ 1099511627776 := by
  obtain ⟨m, hm, rfl⟩ := List.mem_map.1 ht
  refine ⟨?_, by have := (h.rng m hm).2.2; have := h.lastM; omega⟩
  obtain ⟨i, hi, rfl⟩ := List.getElem_of_mem hm
  have h0 := h.first (by omega)
  by_cases e : i = 0
  · subst e; omega
  · have := (List.pairwise_iff_getElem.1 h.asc 0 i (by omega) hi (by omega)).1
    omega

theorem fork_l1 {a b : List Mk} {la lb : Int} (ha : Right a la) (hb : Right b lb) (out : Int) (T : List Int) (hT : ∀ t ∈ T, 1 ≤ t ∧ t ≤ 1099511627776) (hlen : T.length < 9223372036854775807) (d : Nat) : ∀ i, i + d = T.length →
    Ev (fun k => line_Fork.l1 k out T (T.length : Int) (i : Int) a la b lb) (firstAt a b out (T.drop i), 0) := by
  induction d with
  | zero =>
    intro i hi
    rw [List.drop_eq_nil_of_le (by omega)]
    refine Ev.step (fun k => ?_) (Ev.now _)
    simp only [line_Fork.l1]
    rw [if_neg (by omega)]
    rfl
  | succ d ih =>
    intro i hi
    have hlt : i < T.length := by omega
    rw [dropi hlt]
    have hm := hT (rd T (i : Int)) (by rw [rdi hlt]; exact List.getElem_mem hlt)
    by_cases h1 : rd T (i : Int) ≤ out
    · by_cases h2 : ep a (rd T (i : Int)) = ep b (rd T (i : Int))
      · have e : firstAt a b out (rd T (i : Int) :: T.drop (i + 1)) = firstAt a b out (T.drop (i + 1)) := by rw [firstAt, if_neg (by simp [h2])]
        rw [e]
        refine Ev.step (fun k => ?_) (ih (i + 1) (by omega))
        simp only [line_Fork.l1]
        rw [if_pos (by omega), if_pos (by omega), if_pos (by omega), if_pos h1, right_at ha, right_at hb, Option.bind_some, Option.bind_some, if_pos h2, wrap_succ (by omega)]
      · have e : firstAt a b out (rd T (i : Int) :: T.drop (i + 1)) = rd T (i : Int) - 1 := by rw [firstAt, if_pos ⟨h1, h2⟩]
        rw [e]
        refine Ev.step (fun k => ?_) (Ev.now _)
        simp only [line_Fork.l1]
        rw [if_pos (by omega), if_pos (by omega), if_pos (by omega), if_pos h1, right_at ha, right_at hb, Option.bind_some, Option.bind_some, if_neg h2]
        have : wrap64 (rd T (i : Int) - 1) = rd T (i : Int) - 1 := by unfold wrap64; omega
        rw [this]
    · have e : firstAt a b out (rd T (i : Int) :: T.drop (i + 1)) = firstAt a b out (T.drop (i + 1)) := by rw [firstAt, if_neg (by simp [h1])]
      rw [e]
      refine Ev.step (fun k => ?_) (ih (i + 1) (by omega))
      simp only [line_Fork.l1]
      rw [if_pos (by omega), if_pos (by omega), if_pos (by omega), if_neg h1, wrap_succ (by omega)]

theorem fork_l0 {a b : List Mk} {la lb : Int} (out : Int) (t : List Mk) (hlen : t.length < 17592186044416) (R : Int × Int) (d : Nat) : ∀ i, i + d = t.length →
    Ev (fun k => (slices_Sort_int_int.f (lsns t)).bind fun s => line_Fork.l1 k out s ((lsns t).length : Int) 0 a la b lb) R →
    Ev (fun k => line_Fork.l0 k out (lsns (t.take i)) t (t.length : Int) (i : Int) a la b lb) R := by
  induction d with
  | zero =>
    intro i hi h
    rw [List.take_of_length_le (by omega)]
    refine Ev.step (fun k => ?_) h
    simp only [line_Fork.l0]
    rw [if_neg (by omega)]
  | succ d ih =>
    intro i hi h
    have hlt : i < t.length := by omega
    refine Ev.step (fun k => ?_) (ih (i + 1) (by omega) h)
    simp only [line_Fork.l0]
    have hl : (lsns (t.take i)).length = i := by simp [lsns]; omega
    have e : lsns (t.take i) ++ [(rd_T53 t (i : Int)).f1] = lsns (t.take (i + 1)) := by
      rw [List.take_succ_eq_append_getElem hlt, rd_get hlt]; unfold lsns; rw [List.map_append]; rfl
    rw [if_pos (by omega), if_pos (by omega), if_pos (by omega), if_pos (by omega), e, wrap_succ (by omega)]

theorem pairwise_sorted (l : List Int) : (l.mergeSort leI).Pairwise (· ≤ ·) := by
  have tr : ∀ a b c : Int, leI a b = true → leI b c = true → leI a c = true := fun a b c h1 h2 => by simp only [leI, decide_eq_true_eq] at *; omega
  have tot : ∀ a b : Int, (leI a b || leI b a) = true := fun a b => by simp only [leI, Bool.or_eq_true, decide_eq_true_eq]; omega
  exact (List.pairwise_mergeSort tr tot l).imp fun h => by simpa [leI] using h

theorem fork_right {a b : List Mk} {la lb : Int} (ha : Right a la) (hb : Right b lb) : Ev (fun k => line_Fork.f k a la b lb) (fork a b la lb, 0) := by
  have hla := right_len ha
  have hlb := right_len hb
  have hma := ha.lastM
  have hmb := hb.lastM
  have hT : ∀ t ∈ (lsns (a ++ b)).mergeSort leI, 1 ≤ t ∧ t ≤ 1099511627776 := fun t ht => by
    have := (List.mergeSort_perm _ _).mem_iff.1 ht
    rw [show lsns (a ++ b) = lsns a ++ lsns b by simp [lsns]] at this
    rcases List.mem_append.1 this with h | h
    · exact mark_pos ha h
    · exact mark_pos hb h
  have hsl : ((lsns (a ++ b)).mergeSort leI).length = (lsns (a ++ b)).length := List.length_mergeSort _
  have hll : (lsns (a ++ b)).length = a.length + b.length := by simp [lsns]
  have hmn : mn la lb = (if la ≤ lb then la else lb) := by unfold mn; split <;> (split <;> omega)
  have hv : firstAt a b (mn la lb) ((lsns (a ++ b)).mergeSort leI) = fork a b la lb := by
    rw [hmn]
    refine Parts.unique (fun n => ?_) (firstAt_parts a b _ _ (pairwise_sorted _)) (fork_parts a b la lb)
    rw [(List.mergeSort_perm _ _).mem_iff, show lsns (a ++ b) = lsns a ++ lsns b by simp [lsns]]
  have h1 := fork_l1 ha hb (mn la lb) _ hT (by rw [hsl, hll]; omega) _ 0 (Nat.zero_add _)
  rw [List.drop_zero, hv] at h1
  have h0 := fork_l0 (a := a) (b := b) (la := la) (lb := lb) (mn la lb) (a ++ b) (by simp; omega) (fork a b la lb, 0) _ 0 (Nat.zero_add _) (by
    refine Ev.congr (fun k => ?_) h1
    unfold slices_Sort_int_int.f
    rw [if_pos (by rw [hll]; omega), Option.bind_some, hsl]
    rfl)
  have hc := concat_ev a b (by omega) (by omega)
  refine Ev.congr (f := fun k => (api_Errno.f k [0, 0]).bind fun e => if e = 0 then (api_Mark_40.f k [a, b]).bind fun t => line_Fork.l0 k (mn la lb) [] t (t.length : Int) 0 a la b lb else some (0, e)) (fun k => ?_) (Ev.bind (or_ev 0 0) ?_)
  · unfold line_Fork.f
    rw [check_val, check_val, Option.bind_some, Option.bind_some, if_pos (right_iff.2 ha), if_pos (right_iff.2 hb)]
  · refine Ev.congr (f := fun k => (api_Mark_40.f k [a, b]).bind fun t => line_Fork.l0 k (mn la lb) [] t (t.length : Int) 0 a la b lb) (fun k => ?_) (Ev.bind hc ?_)
    · rw [if_pos rfl, if_pos rfl]
    · exact Ev.congr (fun k => rfl) h0

theorem fork_wrong {a b : List Mk} {la lb : Int} (h : ¬ (Right a la ∧ Right b lb)) : Ev (fun k => line_Fork.f k a la b lb) (0, 4) := by
  have key : ∀ x y : Int, (x = 0 ∨ x = 4) → (y = 0 ∨ y = 4) → ¬ (x = 0 ∧ y = 0) → (if x = 0 then y else x) = 4 := by
    intro x y h1 h2 h3
    split <;> omega
  have hx : ∀ (l : List Mk) (n : Int), ((if okUpto l n l.length = true then (0 : Int) else 4) = 0 ∨ (if okUpto l n l.length = true then (0 : Int) else 4) = 4) := fun l n => by split <;> simp
  refine Ev.congr (f := fun k => (api_Errno.f k [(if okUpto a la a.length = true then 0 else 4), (if okUpto b lb b.length = true then 0 else 4)]).bind fun e => if e = 0 then (api_Mark_40.f k [a, b]).bind fun t => line_Fork.l0 k (mn la lb) [] t (t.length : Int) 0 a la b lb else some (0, e)) (fun k => ?_) (Ev.bind (or_ev _ _) ?_)
  · unfold line_Fork.f
    rw [check_val, check_val, Option.bind_some, Option.bind_some]
  · rw [key _ _ (hx a la) (hx b lb) (by
      rintro ⟨h1, h2⟩
      refine h ⟨right_iff.1 ?_, right_iff.1 ?_⟩
      · by_cases e : okUpto a la a.length = true
        · exact e
        · rw [if_neg e] at h1; omega
      · by_cases e : okUpto b lb b.length = true
        · exact e
        · rw [if_neg e] at h2; omega)]
    exact Ev.now _

end Go.Proofs.Ytjlcaamfpglflaa.LM
