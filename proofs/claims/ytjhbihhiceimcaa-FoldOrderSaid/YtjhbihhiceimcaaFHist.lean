/- The map behind a history: its entries are right, in the keys' order, and say what the last write says. -/
import Derived.Test.YtjhbihhiceimcaaFLook
import Derived.Test.YtjhbihhiceimcaaPFAx12
import Derived.Test.YtjhbihhiceimcaaPFAx5
set_option linter.unusedSimpArgs false
set_option linter.unusedVariables false
namespace Go.Proofs.Ytjhbihhiceimcaa.FM
open Go.RowKit Go.Proofs.Ytjhbihhiceimcaa.FMap Go.Proofs.Ytjhbihhiceimcaa.PFA Go.Proofs.YtjhbihhiceimcaaW.PrintWords Go.Proofs.YtjhbihhiceimcaaW.PrintLast
abbrev Rec := S43
abbrev Ent := S50

theorem tl (s : ByteArray) : s.toList = kb s := Go.ByteArray.toList_eq s
theorem size_kb (s : ByteArray) : s.size = (kb s).length := by unfold kb; rw [Array.length_toList]; rfl

theorem isC_sizes {r : Rec} (h : isC r = true) : keyR r.f6 = true ∧ valR r.f7 = true := by
  unfold isC commitOk okB bareV keyOk at h
  simp only [Bool.and_eq_true, Bool.or_eq_true, decide_eq_true_eq] at h
  obtain ⟨_, ⟨⟨⟨⟨_, _⟩, hk⟩, hb⟩, _⟩⟩ := h
  refine ⟨?_, ?_⟩
  · unfold keyR
    rw [Bool.and_eq_true, decide_eq_true_eq]
    refine ⟨?_, hk.2⟩
    cases e : r.f6.toList with
    | nil => exact absurd e hk.1
    | cons _ _ => rfl
  · unfold valR
    rw [decide_eq_true_eq]
    rcases hb with hb | hb
    · have h0 : r.f7.toList = [] := by simpa using hb
      rw [tl] at h0
      have : r.f7.size = 0 := by rw [size_kb, h0]; rfl
      omega
    · exact hb.2

theorem valR_size {v : ByteArray} (h : valR v = true) : v.size ≤ maxLen := by
  unfold valR at h
  rw [decide_eq_true_eq] at h
  unfold maxLen
  omega
theorem keyR_size {v : ByteArray} (h : keyR v = true) : v.size ≤ maxLen := by
  unfold keyR at h
  rw [Bool.and_eq_true, decide_eq_true_eq] at h
  have := h.2
  unfold maxLen
  omega

theorem hist_small {l : List Rec} (hl : l.length ≤ 1099511627776) : smallR (histV l) = true := by
  unfold smallR
  rw [Bool.and_eq_true, decide_eq_true_eq, List.all_eq_true]
  refine ⟨fun r hr => ?_, Nat.le_trans (histV_len l) hl⟩
  obtain ⟨h1, h2⟩ := isC_sizes (List.mem_filter.1 hr).2
  simp only [Bool.and_eq_true, decide_eq_true_eq]
  exact ⟨keyR_size h1, valR_size h2⟩

theorem behind_rising : ∀ (n : Nat) (l : List Rec), l.length = n → Rising (behindV l)
  | 0, l, h => by
    have : l = [] := List.eq_nil_of_length_eq_zero h
    subst this
    exact List.Pairwise.nil
  | n + 1, l, h => by
    obtain ⟨t, x, rfl⟩ : ∃ t x, l = t ++ [x] := ⟨l.dropLast, l.getLast (by intro e; simp [e] at h), (List.dropLast_concat_getLast _).symm⟩
    rw [behindV_snoc]
    exact rising_do (behind_rising n t (by simpa using h)) _ _ _

def lastF (key : ByteArray) (st : Bool × ByteArray) (r : Rec) : Bool × ByteArray := if kb r.f6 = kb key then (if r.f4 = 1 then (true, r.f7) else (false, ⟨#[]⟩)) else st
theorem behind_look (key : ByteArray) : ∀ (n : Nat) (l : List Rec), l.length = n → (behindV l).foldl (lookF key) (false, ⟨#[]⟩) = l.foldl (lastF key) (false, ⟨#[]⟩)
  | 0, l, h => by
    have : l = [] := List.eq_nil_of_length_eq_zero h
    subst this
    rfl
  | n + 1, l, h => by
    obtain ⟨t, x, rfl⟩ : ∃ t x, l = t ++ [x] := ⟨l.dropLast, l.getLast (by intro e; simp [e] at h), (List.dropLast_concat_getLast _).symm⟩
    rw [behindV_snoc, look_do, behind_look key n t (by simpa using h), List.foldl_append]
    rfl

theorem rdE {m : List KV} {i : Nat} (h : i < m.length) : rd_T50 (m.map mkE) (i : Int) = mkE m[i] := by
  unfold rd_T50
  simp [h]

theorem good_behind {l : List Rec} (h : ∀ r ∈ l, isC r = true) : goodE ((behindV l).map mkE) = true := by
  refine goodE_yes (fun i hi => ?_)
  rw [List.length_map] at hi
  unfold goodAt
  rw [rdE hi]
  obtain ⟨r, hr, he⟩ := behindV_mem _ l rfl (List.getElem_mem hi)
  obtain ⟨h1, h2⟩ := isC_sizes (h r hr)
  have e0 : (mkE (behindV l)[i]).f0 = r.f6 := by rw [he]; rfl
  have e1 : (mkE (behindV l)[i]).f1 = r.f7 := by rw [he]; rfl
  rw [e1, h2]
  have hk : keyR (mkE (behindV l)[i]).f0 = true := by rw [e0]; exact h1
  rw [hk, Bool.true_and, Bool.true_and]
  by_cases hz : i = 0
  · rw [decide_eq_true hz]; rfl
  · rw [decide_eq_false hz, Bool.false_or, rdE (by omega), tl, tl, bl_eq]
    have := List.pairwise_iff_getElem.1 (behind_rising _ l rfl) (i - 1) i (by omega) hi (by omega)
    exact this

theorem wrap_up {n : Nat} (h : n < 9223372036854775807) : wrap64 ((n : Int) + 1) = ((n + 1 : Nat) : Int) := by unfold wrap64; omega

theorem drop_kv {m : List KV} {i : Nat} (h : i < m.length) : m.drop i = m[i] :: m.drop (i + 1) := List.drop_eq_getElem_cons h

theorem given_l0 (m : List KV) (key : ByteArray) (hm : m.length < 9223372036854775807) (d : Nat) : ∀ (i : Nat) (st : Bool × ByteArray), i + d = m.length →
    Ev (fun k => fold_given.l0 k (m.map mkE) (m.length : Int) (i : Int) 1 key ⟨#[]⟩ st.1 st.2 []) (((m.drop i).foldl (lookF key) st).1, ((m.drop i).foldl (lookF key) st).2, []) := by
  induction d with
  | zero =>
    intro i st hi
    rw [List.drop_eq_nil_of_le (by omega)]
    refine Ev.step (fun k => ?_) (Ev.now _)
    simp only [fold_given.l0]
    rw [if_neg (by omega)]
    rfl
  | succ d ih =>
    intro i st hi
    have hlt : i < m.length := by omega
    rw [drop_kv hlt, List.foldl_cons]
    have hr := rdE hlt
    by_cases hk : kb m[i].1 = kb key
    · have e : lookF key st m[i] = (true, m[i].2) := by unfold lookF; rw [if_pos hk]
      rw [e]
      refine Ev.step (f := fun k => fold_given.j1 k (m.map mkE) (m.length : Int) (i : Int) false 1 key ⟨#[]⟩ st.1 st.2 [] (mkE m[i]).f0 (mkE m[i]).f1) (fun k => ?_) (Ev.step (f := fun k => fold_given.j2 k (m.map mkE) (m.length : Int) (i : Int) true 1 key ⟨#[]⟩ st.1 st.2 [] (mkE m[i]).f0 (mkE m[i]).f1) (fun k => ?_) (Ev.step (fun k => ?_) (ih (i + 1) (true, m[i].2) (by omega))))
      · simp only [fold_given.l0]
        rw [if_pos (by omega), if_pos (by omega), if_pos (by rw [List.length_map]; omega), if_neg (by decide), hr]
      · simp only [fold_given.j1]
        rw [if_neg (by simp), if_neg (by decide)]
        have : ((mkE m[i]).f0.toList == key.toList) = true := by rw [tl, tl]; simpa [mkE] using hk
        rw [this]
      · simp only [fold_given.j2]
        rw [if_pos trivial, if_pos trivial, wrap_up (by omega)]
        rfl
    · have e : lookF key st m[i] = st := by unfold lookF; rw [if_neg hk]
      rw [e]
      refine Ev.step (f := fun k => fold_given.j1 k (m.map mkE) (m.length : Int) (i : Int) false 1 key ⟨#[]⟩ st.1 st.2 [] (mkE m[i]).f0 (mkE m[i]).f1) (fun k => ?_) (Ev.step (f := fun k => fold_given.j2 k (m.map mkE) (m.length : Int) (i : Int) false 1 key ⟨#[]⟩ st.1 st.2 [] (mkE m[i]).f0 (mkE m[i]).f1) (fun k => ?_) (Ev.step (fun k => ?_) (ih (i + 1) st (by omega))))
      · simp only [fold_given.l0]
        rw [if_pos (by omega), if_pos (by omega), if_pos (by rw [List.length_map]; omega), if_neg (by decide), hr]
      · simp only [fold_given.j1]
        rw [if_neg (by simp), if_neg (by decide)]
        have : ((mkE m[i]).f0.toList == key.toList) = false := by rw [tl, tl]; simpa [mkE] using hk
        rw [this]
      · simp only [fold_given.j2]
        rw [if_neg (by simp), wrap_up (by omega)]

/-- What the map behind a history has of a key is what the last write says. -/
theorem answer_ev (l : List Rec) (key : ByteArray) (hl : l.length ≤ 1099511627776) (hc : ∀ r ∈ l, isC r = true) :
    Ev (fun k => fold_Answer.f k ((behindV l).map mkE) 1 key ⟨#[]⟩) ((l.foldl (lastF key) (false, ⟨#[]⟩)).1, (l.foldl (lastF key) (false, ⟨#[]⟩)).2, [], 0) := by
  have hlen := behindV_len _ l rfl
  have hg := given_l0 (behindV l) key (by omega) (behindV l).length 0 (false, ⟨#[]⟩) (by omega)
  rw [List.drop_zero, behind_look key _ l rfl] at hg
  unfold fold_Answer.f
  refine Ev.congr (f := fun k => (fold_given.f k ((behindV l).map mkE) 1 key ⟨#[]⟩).bind fun g => some (g.1, g.2.1, g.2.2, 0)) (fun k => ?_) (Ev.bind (a := (((l.foldl (lastF key) (false, ⟨#[]⟩)).1, (l.foldl (lastF key) (false, ⟨#[]⟩)).2, []) : Bool × ByteArray × List Ent)) ?_ (Ev.now _))
  · rw [if_pos (by rw [List.length_map]; omega), if_pos (good_behind hc), if_neg (by decide), if_neg (by decide)]
  · refine Ev.congr (fun k => ?_) hg
    unfold fold_given.f
    rw [List.length_map]
    rfl

end Go.Proofs.Ytjhbihhiceimcaa.FM
