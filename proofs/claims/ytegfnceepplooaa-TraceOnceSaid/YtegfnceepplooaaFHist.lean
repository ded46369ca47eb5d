/- The map behind a history: its entries are right, in the keys' order, and say what the last write says. -/
import Derived.Test.YtegfnceepplooaaFLook
import Derived.Test.YtegfnceepplooaaPTRx5
import Derived.Test.YtegfnceepplooaaPTRx6
set_option linter.unusedSimpArgs false
set_option linter.unusedVariables false
namespace Go.Proofs.Ytegfnceepplooaa.FM
open Go.RowKit Go.Proofs.Ytegfnceepplooaa.FMap Go.Proofs.Ytegfnceepplooaa.PTR Go.Proofs.YtegfnceepplooaaW.PrintWords Go.Proofs.YtegfnceepplooaaW.PrintLast
abbrev Rec := S50
abbrev Ent := S103

theorem tl (s : ByteArray) : s.toList = kb s := Go.ByteArray.toList_eq s
theorem size_kb (s : ByteArray) : s.size = (kb s).length := by unfold kb; rw [Array.length_toList]; rfl

/-- Is a key right, a value? -/
def keyR (k : ByteArray) : Bool := !k.toList.isEmpty && decide ((k.size : Int) ≤ 16)
def valR (v : ByteArray) : Bool := decide ((v.size : Int) ≤ 32)
theorem isC_sizes {r : Rec} (h : isC r = true) : keyR r.f6 = true ∧ valR r.f7 = true := by
  unfold isC commitOk okB bareV keyOk at h
  simp only [Bool.and_eq_true, Bool.or_eq_true, decide_eq_true_eq] at h
  obtain ⟨_, ⟨⟨⟨⟨_, _⟩, hk⟩, hb⟩, _⟩⟩ := h
  refine ⟨?_, ?_⟩
  · unfold keyR
    rw [Bool.and_eq_true, decide_eq_true_eq]
    refine ⟨?_, hk.2⟩
    cases e : r.f6.toList with
    | nil => exact absurd e hk.1
    | cons _ _ => rfl
  · unfold valR
    rw [decide_eq_true_eq]
    rcases hb with hb | hb
    · have h0 : r.f7.toList = [] := by simpa using hb
      rw [tl] at h0
      have : r.f7.size = 0 := by rw [size_kb, h0]; rfl
      omega
    · exact hb.2

theorem valR_size {v : ByteArray} (h : valR v = true) : v.size ≤ maxLen := by
  unfold valR at h
  rw [decide_eq_true_eq] at h
  unfold maxLen
  omega
theorem keyR_size {v : ByteArray} (h : keyR v = true) : v.size ≤ maxLen := by
  unfold keyR at h
  rw [Bool.and_eq_true, decide_eq_true_eq] at h
  have := h.2
  unfold maxLen
  omega

theorem hist_small {l : List Rec} (hl : l.length ≤ 1099511627776) : smallR (histV l) = true := by
  unfold smallR
  rw [Bool.and_eq_true, decide_eq_true_eq, List.all_eq_true]
  refine ⟨fun r hr => ?_, Nat.le_trans (histV_len l) hl⟩
  obtain ⟨h1, h2⟩ := isC_sizes (List.mem_filter.1 hr).2
  simp only [Bool.and_eq_true, decide_eq_true_eq]
  exact ⟨keyR_size h1, valR_size h2⟩

theorem behind_rising : ∀ (n : Nat) (l : List Rec), l.length = n → Rising (behindV l)
  | 0, l, h => by
    have : l = [] := List.eq_nil_of_length_eq_zero h
    subst this
    exact List.Pairwise.nil
  | n + 1, l, h => by
    obtain ⟨t, x, rfl⟩ : ∃ t x, l = t ++ [x] := ⟨l.dropLast, l.getLast (by intro e; simp [e] at h), (List.dropLast_concat_getLast _).symm⟩
    rw [behindV_snoc]
    exact rising_do (behind_rising n t (by simpa using h)) _ _ _

def lastF (key : ByteArray) (st : Bool × ByteArray) (r : Rec) : Bool × ByteArray := if kb r.f6 = kb key then (if r.f4 = 1 then (true, r.f7) else (false, ⟨#[]⟩)) else st
theorem behind_look (key : ByteArray) : ∀ (n : Nat) (l : List Rec), l.length = n → (behindV l).foldl (lookF key) (false, ⟨#[]⟩) = l.foldl (lastF key) (false, ⟨#[]⟩)
  | 0, l, h => by
    have : l = [] := List.eq_nil_of_length_eq_zero h
    subst this
    rfl
  | n + 1, l, h => by
    obtain ⟨t, x, rfl⟩ : ∃ t x, l = t ++ [x] := ⟨l.dropLast, l.getLast (by intro e; simp [e] at h), (List.dropLast_concat_getLast _).symm⟩
    rw [behindV_snoc, look_do, behind_look key n t (by simpa using h), List.foldl_append]
    rfl

theorem rdE {m : List KV} {i : Nat} (h : i < m.length) : rd_T103 (m.map mkE) (i : Int) = mkE m[i] := by
  unfold rd_T103
  simp [h]

theorem wrap_up {n : Nat} (h : n < 9223372036854775807) : wrap64 ((n : Int) + 1) = ((n + 1 : Nat) : Int) := by unfold wrap64; omega

theorem drop_kv {m : List KV} {i : Nat} (h : i < m.length) : m.drop i = m[i] :: m.drop (i + 1) := List.drop_eq_getElem_cons h

theorem given_l0 (m : List KV) (key : ByteArray) (hm : m.length < 9223372036854775807) (d : Nat) : ∀ (i : Nat) (st : Bool × ByteArray), i + d = m.length →
    Ev (fun k => fold_given.l0 k (m.map mkE) (m.length : Int) (i : Int) 1 key ⟨#[]⟩ st.1 st.2 []) (((m.drop i).foldl (lookF key) st).1, ((m.drop i).foldl (lookF key) st).2, []) := by
  induction d with
  | zero =>
    intro i st hi
    rw [List.drop_eq_nil_of_le (by omega)]
    refine Ev.step (fun k => ?_) (Ev.now _)
    simp only [fold_given.l0]
    rw [if_neg (by omega)]
    rfl
  | succ d ih =>
    intro i st hi
    have hlt : i < m.length := by omega
    rw [drop_kv hlt, List.foldl_cons]
    have hr := rdE hlt
    by_cases hk : kb m[i].1 = kb key
    · have e : lookF key st m[i] = (true, m[i].2) := by unfold lookF; rw [if_pos hk]
      rw [e]
      refine Ev.step (f := fun k => fold_given.j1 k (m.map mkE) (m.length : Int) (i : Int) false 1 key ⟨#[]⟩ st.1 st.2 [] (mkE m[i]).f0 (mkE m[i]).f1) (fun k => ?_) (Ev.step (f := fun k => fold_given.j2 k (m.map mkE) (m.length : Int) (i : Int) true 1 key ⟨#[]⟩ st.1 st.2 [] (mkE m[i]).f0 (mkE m[i]).f1) (fun k => ?_) (Ev.step (fun k => ?_) (ih (i + 1) (true, m[i].2) (by omega))))
      · simp only [fold_given.l0]
        rw [if_pos (by omega), if_pos (by omega), if_pos (by rw [List.length_map]; omega), if_neg (by decide), hr]
      · simp only [fold_given.j1]
        rw [if_neg (by simp), if_neg (by decide)]
        have : ((mkE m[i]).f0.toList == key.toList) = true := by rw [tl, tl]; simpa [mkE] using hk
        rw [this]
      · simp only [fold_given.j2]
        rw [if_pos trivial, if_pos trivial, wrap_up (by omega)]
        rfl
    · have e : lookF key st m[i] = st := by unfold lookF; rw [if_neg hk]
      rw [e]
      refine Ev.step (f := fun k => fold_given.j1 k (m.map mkE) (m.length : Int) (i : Int) false 1 key ⟨#[]⟩ st.1 st.2 [] (mkE m[i]).f0 (mkE m[i]).f1) (fun k => ?_) (Ev.step (f := fun k => fold_given.j2 k (m.map mkE) (m.length : Int) (i : Int) false 1 key ⟨#[]⟩ st.1 st.2 [] (mkE m[i]).f0 (mkE m[i]).f1) (fun k => ?_) (Ev.step (fun k => ?_) (ih (i + 1) st (by omega))))
      · simp only [fold_given.l0]
        rw [if_pos (by omega), if_pos (by omega), if_pos (by rw [List.length_map]; omega), if_neg (by decide), hr]
      · simp only [fold_given.j1]
        rw [if_neg (by simp), if_neg (by decide)]
        have : ((mkE m[i]).f0.toList == key.toList) = false := by rw [tl, tl]; simpa [mkE] using hk
        rw [this]
      · simp only [fold_given.j2]
        rw [if_neg (by simp), wrap_up (by omega)]

end Go.Proofs.Ytegfnceepplooaa.FM
