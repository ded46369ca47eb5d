/- Trace: which calls are open, in plain words: those that were made and have no answer. -/
import Derived.Test.YtegfnceepplooaaTAns
set_option linter.unusedVariables false
set_option linter.unusedSimpArgs false
namespace Go.Proofs.Ytegfnceepplooaa.TR
open Go.RowKit Go.Maps Go.Proofs.Ytegfnceepplooaa.FMap Go.Proofs.Ytegfnceepplooaa.PTR Go.Proofs.YtegfnceepplooaaW.PrintWords Go.Proofs.YtegfnceepplooaaW.PrintLast

def made (t : List Seen) (q : Int) : Bool := t.any fun s => (s.f0.f0 == 1) && (s.f0.f4.f0 == q)
def answd (t : List Seen) (q : Int) : Bool := t.any fun s => s.f1.any fun a => a.f0 == q
/-- The requests of the calls, each where it is made first; pre: the steps ahead. -/
def ordL : List Seen → List Seen → List Int
  | _, [] => []
  | pre, s :: r => (if ((s.f0.f0 == 1) && !made pre s.f0.f4.f0) = true then [s.f0.f4.f0] else []) ++ ordL (pre ++ [s]) r
theorem ordL_snoc (s : Seen) : ∀ (x pre : List Seen), ordL pre (x ++ [s]) = ordL pre x ++ (if ((s.f0.f0 == 1) && !made (pre ++ x) s.f0.f4.f0) = true then [s.f0.f4.f0] else [])
  | [], pre => by simp [ordL]
  | y :: x, pre => by
    rw [List.cons_append]
    simp only [ordL]
    rw [ordL_snoc s x (pre ++ [y]), List.append_assoc, List.append_assoc, List.singleton_append]
theorem ordL_len : ∀ (t pre : List Seen), (ordL pre t).length ≤ t.length
  | [], pre => by simp [ordL]
  | s :: r, pre => by
    have := ordL_len r (pre ++ [s])
    simp only [ordL]
    split <;> simp <;> omega
theorem made_snoc (pre : List Seen) (s : Seen) (q : Int) : made (pre ++ [s]) q = (made pre q || ((s.f0.f0 == 1) && (s.f0.f4.f0 == q))) := by simp [made]
theorem answd_snoc (pre : List Seen) (s : Seen) (q : Int) : answd (pre ++ [s]) q = (answd pre q || s.f1.any fun a => a.f0 == q) := by simp [answd]
theorem choice_calls (st so : St) (c : Cho) (h : st.calls = so.calls) : (choiceV st c).calls = (choiceV so c).calls := by
  unfold choiceV
  split
  · rw [h]
    cases so.calls c.f4.f0 with
    | none => rfl
    | some y => exact h
  · split <;> exact h
theorem choice_made (st : St) (pre : List Seen) (s : Seen) (h : ∀ q, (st.calls q).isSome = made pre q) : (∀ q, ((choiceV st s.f0).calls q).isSome = made (pre ++ [s]) q) ∧ (choiceV st s.f0).order = st.order ++ (if ((s.f0.f0 == 1) && !made pre s.f0.f4.f0) = true then [s.f0.f4.f0] else []) := by
  have h0 := h s.f0.f4.f0
  unfold choiceV
  by_cases h1 : s.f0.f0 = 1
  · rw [if_pos h1]
    have h1b : (s.f0.f0 == 1) = true := by simpa using h1
    cases hc : st.calls s.f0.f4.f0 with
    | none =>
      rw [hc] at h0
      simp only [Option.isSome_none] at h0
      refine ⟨fun q => ?_, by rw [← h0, h1b]; rfl⟩
      rw [made_snoc, h1b, Bool.true_and, ← h q]
      show (upd st.calls s.f0.f4.f0 s.f0.f4 q).isSome = _
      unfold upd
      by_cases e : q = s.f0.f4.f0
      · rw [if_pos e, e]; simp
      · rw [if_neg e, show (s.f0.f4.f0 == q) = false by simpa using fun h => e h.symm, Bool.or_false]
    | some y =>
      rw [hc] at h0
      simp only [Option.isSome_some] at h0
      refine ⟨fun q => ?_, by rw [← h0, h1b]; simp⟩
      rw [made_snoc, h1b, Bool.true_and, h q]
      by_cases e : q = s.f0.f4.f0
      · rw [e, ← h0]; rfl
      · rw [show (s.f0.f4.f0 == q) = false by simpa using fun h => e h.symm, Bool.or_false]
  · have h1b : (s.f0.f0 == 1) = false := by simpa using h1
    rw [if_neg h1]
    have hm : ∀ q, made (pre ++ [s]) q = made pre q := fun q => by rw [made_snoc, h1b]; simp
    split
    · exact ⟨fun q => by rw [hm]; exact h q, by rw [h1b]; simp⟩
    · exact ⟨fun q => by rw [hm]; exact h q, by rw [h1b]; simp⟩
theorem order_ordL : ∀ (t pre : List Seen) (st : St) (told : Int → Option Bool), (∀ q, (st.calls q).isSome = made pre q) → (openS st told t).1.order = st.order ++ ordL pre t
  | [], pre, st, told, h => by simp [openS, ordL]
  | s :: r, pre, st, told, h => by
    obtain ⟨h1, h2⟩ := choice_made st pre s h
    simp only [openS, ordL]
    rw [order_ordL r (pre ++ [s]) _ _ h1, h2, List.append_assoc]
/-! ### the answers -/
theorem answer_calls (st : St) (h : List Rec) (a : Ans) : (answerV st h a).2.calls = st.calls := by
  unfold answerV
  cases st.calls a.f0 with
  | none => rfl
  | some c =>
    show (if knownV st a = true then _ else _ : Int × St).2.calls = _
    by_cases h1 : knownV st a = true
    · rw [if_pos h1]
      by_cases h2 : thereV h a c.f2 = true
      · rw [if_pos h2]
        by_cases h3 : asksV a c.f2 = true
        · rw [if_pos h3]
          by_cases h4 : (agR h c.f2 a.f3 ((st.floors a.f1).getD 0)).2 = true
          · rw [if_pos h4]
          · rw [if_neg h4]
        · rw [if_neg h3]
          by_cases h4 : emptyV a c.f2 = true
          · rw [if_pos h4]
          · rw [if_neg h4]
      · rw [if_neg h2]
    · rw [if_neg h1]
theorem answer_known {st : St} {h : List Rec} {a : Ans} (e : (answerV st h a).1 = 0) : (st.calls a.f0).isSome = true ∧ knownV st a = true := by
  unfold answerV at e
  cases hc : st.calls a.f0 with
  | none => rw [hc] at e; exact absurd e (by simp)
  | some c =>
    refine ⟨rfl, ?_⟩
    rw [hc] at e
    simp only at e
    by_cases h1 : knownV st a = true
    · exact h1
    · rw [if_neg h1] at e
      exact absurd e (by simp)
theorem answers_calls (h : List Rec) : ∀ (l : List Ans) (st : St), (answersV h st l).2.calls = st.calls
  | [], st => rfl
  | a :: r, st => by
    unfold answersV
    by_cases h0 : (answerV st h a).1 = 0
    · rw [if_pos h0, answers_calls h r, answer_calls]
    · rw [if_neg h0, answer_calls]
theorem answers_known (h : List Rec) : ∀ (l : List Ans) (st : St), (answersV h st l).1 = 0 → ∀ a ∈ l, (st.calls a.f0).isSome = true
  | [], st, e, a, ha => by cases ha
  | b :: r, st, e, a, ha => by
    unfold answersV at e
    by_cases h0 : (answerV st h b).1 = 0
    · rw [if_pos h0] at e
      rcases List.mem_cons.1 ha with rfl | ha
      · exact (answer_known h0).1
      · have := answers_known h r _ e a ha
        rwa [answer_calls] at this
    · rw [if_neg h0] at e
      exact absurd e h0
theorem step_calls {st : St} {s : Seen} (h : (stepV st s).1 = 0) : (answersV s.f2 (choiceV st s.f0) s.f1).1 = 0 ∧ (stepV st s).2.calls = (choiceV st s.f0).calls := by
  by_cases h1 : (answersV s.f2 (choiceV st s.f0) s.f1).1 = 0
  · refine ⟨h1, ?_⟩
    have h2 := answers_calls s.f2 s.f1 (choiceV st s.f0)
    unfold stepV
    rw [if_pos h1]
    split
    · split <;> exact h2
    · exact h2
  · unfold stepV at h
    rw [if_neg h1] at h
    exact absurd h h1
theorem told_all (so : St) (q : Int) : ∀ (l : List Ans) (told : Int → Option Bool), (∀ a ∈ l, (so.calls a.f0).isSome = true) → ((l.foldl (toldA so) told) q).getD false = ((told q).getD false || l.any fun a => a.f0 == q)
  | [], told, h => by simp
  | a :: r, told, h => by
    rw [List.foldl_cons, told_all so q r _ (fun b hb => h b (List.mem_cons_of_mem _ hb)), List.any_cons]
    have e : toldA so told a = upd told a.f0 true := by
      unfold toldA
      rw [if_pos (h a (List.mem_cons_self ..))]
    rw [e]
    unfold upd
    by_cases e2 : q = a.f0
    · rw [if_pos e2, e2]; simp
    · rw [if_neg e2, show (a.f0 == q) = false by simpa using fun h => e2 h.symm]; simp
theorem open_told (q : Int) : ∀ (t : List Seen) (st so : St) (told : Int → Option Bool) (i : Nat), st.calls = so.calls → (runV st t i).1 = 0 → ((openS so told t).2 q).getD false = ((told q).getD false || answd t q)
  | [], st, so, told, i, hc, hr => by simp [openS, answd]
  | s :: r, st, so, told, i, hc, hr => by
    unfold runV at hr
    by_cases h0 : (stepV st s).1 = 0
    · rw [if_pos h0] at hr
      obtain ⟨h1, h2⟩ := step_calls h0
      have h3 := choice_calls st so s.f0 hc
      simp only [openS]
      rw [open_told q r (stepV st s).2 (choiceV so s.f0) _ (i + 1) (h2.trans h3) hr, told_all]
      · simp [answd, Bool.or_assoc]
      · rw [← h3]
        exact answers_known _ _ _ h1
    · rw [if_neg h0] at hr
      exact absurd hr h0
/-- What is wanted behind the first j steps. -/
def wantAt (t : List Seen) (j : Nat) : List Int := (ordL [] (t.take j)).filter fun q => !answd t q
theorem want_open {t : List Seen} (h : (runV st0 t 0).1 = 0) : wantAt t t.length = openV t := by
  unfold wantAt openV
  rw [List.take_length, order_ordL t [] st0 _ (fun q => rfl)]
  show _ = List.filter _ (ordL [] t)
  congr 1
  funext q
  rw [open_told q t st0 st0 _ 0 rfl h]
  simp
theorem want_len (t : List Seen) (j : Nat) : (wantAt t j).length ≤ t.length := by
  unfold wantAt
  refine Nat.le_trans (List.length_filter_le _ _) (Nat.le_trans (ordL_len _ _) ?_)
  rw [List.length_take]
  omega
theorem want_next {t : List Seen} {j : Nat} (h : j < t.length) : wantAt t (j + 1) = wantAt t j ++ (if ((t[j].f0.f0 == 1) && (!made (t.take j) t[j].f0.f4.f0 && !answd t t[j].f0.f4.f0)) = true then [t[j].f0.f4.f0] else []) := by
  unfold wantAt
  rw [List.take_succ_eq_append_getElem h, ordL_snoc, List.filter_append, List.nil_append]
  congr 1
  have hx : ∀ (a b : Bool) (x : Int), List.filter (fun q => !answd t q) (if (a && !b) = true then [x] else []) = if (a && (!b && !answd t x)) = true then [x] else [] := by
    intro a b x
    cases a <;> cases b <;> cases h : answd t x <;> simp [h]
  exact hx _ _ _
/-- Is the call still open behind the first k steps that are looked through? -/
def flagAt (t : List Seen) (i : Nat) (q : Int) (k : Nat) : Bool := !made (t.take (min k i)) q && !answd (t.take k) q
theorem flag_zero (t : List Seen) (i : Nat) (q : Int) : flagAt t i q 0 = true := by simp [flagAt, made, answd]
theorem flag_next {t : List Seen} {i : Nat} {q : Int} {k : Nat} (h : k < t.length) : flagAt t i q (k + 1) = ((if (decide (k < i) && ((t[k].f0.f0 == 1) && (t[k].f0.f4.f0 == q))) = true then false else flagAt t i q k) && !t[k].f1.any fun a => a.f0 == q) := by
  unfold flagAt
  rw [show t.take (k + 1) = t.take k ++ [t[k]] from List.take_succ_eq_append_getElem h, answd_snoc]
  by_cases hk : k < i
  · rw [show min (k + 1) i = k + 1 by omega, show min k i = k by omega, show t.take (k + 1) = t.take k ++ [t[k]] from List.take_succ_eq_append_getElem h, made_snoc, decide_eq_true hk, Bool.true_and]
    generalize made (t.take k) q = a
    generalize answd (t.take k) q = b
    generalize ((t[k].f0.f0 == 1) && (t[k].f0.f4.f0 == q)) = c
    generalize (t[k].f1.any fun a => a.f0 == q) = d
    revert a b c d
    decide
  · rw [show min (k + 1) i = min k i by omega, decide_eq_false hk, Bool.false_and]
    generalize made (t.take (min k i)) q = a
    generalize answd (t.take k) q = b
    generalize (t[k].f1.any fun a => a.f0 == q) = d
    revert a b d
    decide
theorem flag_all (t : List Seen) (i : Nat) (q : Int) (h : i ≤ t.length) : flagAt t i q t.length = (!made (t.take i) q && !answd t q) := by
  unfold flagAt
  rw [show min t.length i = i by omega, List.take_length]
end Go.Proofs.Ytegfnceepplooaa.TR
