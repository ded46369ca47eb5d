/- Trace: how one answer, and one step, come out, case by case. -/
import Derived.Test.YtegfnceepplooaaTCoded
import Derived.Test.YtegfnceepplooaaTEmpty
set_option linter.unusedVariables false
set_option linter.unusedSimpArgs false
namespace Go.Proofs.Ytegfnceepplooaa.TR
open Go.RowKit Go.Maps Go.Proofs.Ytegfnceepplooaa.FMap Go.Proofs.Ytegfnceepplooaa.PTR Go.Proofs.YtegfnceepplooaaW.PrintWords Go.Proofs.YtegfnceepplooaaW.PrintLast

theorem known_call {st : St} {a : Ans} (h : knownV st a = true) : ∃ c, st.calls a.f0 = some c := by
  unfold knownV at h
  cases hc : st.calls a.f0 with
  | none => rw [hc] at h; cases h
  | some c => exact ⟨c, rfl⟩
theorem ans_unknown (st : St) (h : List Rec) {a : Ans} (hk : knownV st a = false) : answerV st h a = (2, st) := by
  unfold answerV
  cases st.calls a.f0 with
  | none => rfl
  | some c => simp only; rw [if_neg (by rw [hk]; decide)]
section
variable {st : St} {h : List Rec} {a : Ans} {c : Call} {ask rok : Bool} {rn : Int}
theorem ans_nothere (hc : st.calls a.f0 = some c) (hk : knownV st a = true) (ht : thereV h a c.f2 = false) : answerV st h a = (3, st) := by
  unfold answerV
  rw [hc]
  simp only
  rw [if_pos hk, if_neg (by rw [ht]; decide)]
theorem ans_noagree (hc : st.calls a.f0 = some c) (hk : knownV st a = true) (ht : thereV h a c.f2 = true) (hask : asksV a c.f2 = ask) (hag : agR h c.f2 a.f3 ((st.floors a.f1).getD 0) = (rn, rok)) (ho : (!ask || rok) = false) : answerV st h a = (5, st) := by
  cases ask
  · cases ho
  · cases rok
    · unfold answerV
      rw [hc]
      simp only
      rw [if_pos hk, if_pos ht, if_pos hask, hag, if_neg Bool.false_ne_true]
    · cases ho
theorem ans_noempty (hc : st.calls a.f0 = some c) (hk : knownV st a = true) (ht : thereV h a c.f2 = true) (he : emptyV a c.f2 = false) : answerV st h a = (6, st) := by
  have hask : asksV a c.f2 = false := by
    unfold emptyV at he
    cases h1 : asksV a c.f2
    · rfl
    · rw [h1] at he; cases he
  unfold answerV
  rw [hc]
  simp only
  rw [if_pos hk, if_pos ht, if_neg (by rw [hask]; decide), if_neg (by rw [he]; decide)]
theorem ans_pass (hc : st.calls a.f0 = some c) (hk : knownV st a = true) (ht : thereV h a c.f2 = true) (hask : asksV a c.f2 = ask) (hag : agR h c.f2 a.f3 ((st.floors a.f1).getD 0) = (rn, rok)) (ho : (!ask || rok) = true) (he : emptyV a c.f2 = true) :
    answerV st h a = (0, { agSt st ask rok a.f1 rn with codes := upd (agSt st ask rok a.f1 rn).codes a.f0 a.f2 }) := by
  cases ask
  · unfold answerV
    rw [hc]
    simp only
    rw [if_pos hk, if_pos ht, if_neg (by rw [hask]; decide), if_pos he, agSt_no]
  · cases rok
    · cases ho
    · unfold answerV
      rw [hc]
      simp only
      rw [if_pos hk, if_pos ht, if_pos hask, hag, if_pos rfl]
      rfl
theorem agSt_before (st : St) (ask rok : Bool) (a1 rn : Int) : (agSt st ask rok a1 rn).before = st.before := by cases ask <;> cases rok <;> rfl
theorem agSt_order (st : St) (ask rok : Bool) (a1 rn : Int) : (agSt st ask rok a1 rn).order = st.order := by cases ask <;> cases rok <;> rfl
end
theorem choice_before (st : St) (c : Cho) : (choiceV st c).before = st.before := by
  unfold choiceV
  split
  · split <;> rfl
  · split <;> rfl
theorem choice_order (st : St) (c : Cho) : (choiceV st c).order.length ≤ st.order.length + 1 := by
  unfold choiceV
  split
  · split
    · omega
    · simp
  · split <;> simp
theorem answers_drop (h : List Rec) (st : St) {la : List Ans} {j : Nat} (hj : j < la.length) : answersV h st (la.drop j) = if (answerV st h (rd_T45 la (j : Int))).1 = 0 then answersV h (answerV st h (rd_T45 la (j : Int))).2 (la.drop (j + 1)) else answerV st h (rd_T45 la (j : Int)) := by
  rw [List.drop_eq_getElem_cons hj]
  have : rd_T45 la (j : Int) = la[j] := by
    unfold rd_T45
    simp [List.getD_eq_getElem?_getD, hj]
  rw [this]
  rfl
theorem rdA_mem {l : List Ans} {j : Nat} (h : j < l.length) : rd_T45 l (j : Int) ∈ l := by
  unfold rd_T45
  simp [List.getD_eq_getElem?_getD, h]
theorem step_fell {st : St} {s : Seen} {r : Int × St} (h : answersV s.f2 (choiceV st s.f0) s.f1 = r) (hr : r.1 ≠ 0) : stepV st s = r := by
  unfold stepV
  rw [h, if_neg hr]
theorem step_past {st : St} {s : Seen} {st' : St} (h : answersV s.f2 (choiceV st s.f0) s.f1 = (0, st')) :
    stepV st s = if onceV (histV s.f2) = true ∧ extB (histV s.f2) (histV st'.before) = true then (if subV { st' with before := s.f2 } s.f2 = true then (0, { st' with before := s.f2 }) else (4, { st' with before := s.f2 })) else (1, st') := by
  unfold stepV
  rw [h, if_pos rfl]
theorem ok_req {hh : List Rec} (hR : ∀ r ∈ hh, (Lit.int .i64 r.f5).wf = true) (hl : hh.length ≤ 1099511627776) : okReq (histV hh) = true := by
  unfold okReq
  have h1 : (histV hh).all (fun r => decide ((Lit.int .i64 r.f5).wf = true)) = true := by
    rw [List.all_eq_true]
    intro r hr
    exact decide_eq_true (hR r (List.mem_filter.1 hr).1)
  have h2 := histV_len hh
  rw [h1, decide_eq_true (by omega)]
  rfl
/-- The numbers of an answer fit. -/
def okA (a : Ans) : Prop := (Lit.int .i64 a.f0).wf = true ∧ (Lit.int .i64 a.f1).wf = true ∧ (Lit.int .i64 a.f2).wf = true
end Go.Proofs.Ytegfnceepplooaa.TR
