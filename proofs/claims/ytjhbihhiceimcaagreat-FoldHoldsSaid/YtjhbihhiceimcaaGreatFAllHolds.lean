/- The plain laws behind FoldHolds. -/
import Derived.Test.YtjhbihhiceimcaaGreatFMap
import Derived.Test.YtjhbihhiceimcaaGreatPFZx8
import Derived.Test.YtjhbihhiceimcaaGreatPFZx4
import Derived.Test.YtjhbihhiceimcaaGreatPFZx12
import Derived.Test.YtjhbihhiceimcaaGreatPFZx13
import Derived.Test.YtjhbihhiceimcaaGreatPFZx17
import Derived.Test.YtjhbihhiceimcaaGreatPFZx27
set_option linter.unusedSimpArgs false
set_option linter.unusedVariables false
namespace Go.Proofs.YtjhbihhiceimcaaGreat.FMap

theorem bb_irr : ∀ l : List UInt8, bytesBefore l l = false
  | [] => rfl
  | a :: r => by unfold bytesBefore; simp [bb_irr r]
theorem bb_trans : ∀ {a b c : List UInt8}, bytesBefore a b = true → bytesBefore b c = true → bytesBefore a c = true
  | [], [], _, h, _ => by cases h
  | [], _ :: _, [], _, h => by cases h
  | [], _ :: _, _ :: _, _, _ => rfl
  | _ :: _, [], _, h, _ => by cases h
  | _ :: _, _ :: _, [], _, h => by cases h
  | x :: a, y :: b, z :: c, h1, h2 => by
    unfold bytesBefore at h1 h2 ⊢
    simp only [Bool.or_eq_true, decide_eq_true_eq, Bool.and_eq_true, beq_iff_eq] at h1 h2 ⊢
    rcases h1 with h1 | ⟨e1, h1⟩
    · rcases h2 with h2 | ⟨e2, h2⟩
      · exact .inl (UInt8.lt_trans h1 h2)
      · subst e2; exact .inl h1
    · subst e1
      rcases h2 with h2 | ⟨e2, h2⟩
      · exact .inl h2
      · exact .inr ⟨e2, bb_trans h1 h2⟩
theorem bb_total : ∀ {a b : List UInt8}, bytesBefore a b = false → a ≠ b → bytesBefore b a = true
  | [], [], _, h => absurd rfl h
  | [], _ :: _, h, _ => by cases h
  | _ :: _, [], _, _ => rfl
  | x :: a, y :: b, h, hne => by
    unfold bytesBefore at h ⊢
    simp only [Bool.or_eq_false_iff, decide_eq_false_iff_not, Bool.and_eq_false_iff, beq_eq_false_iff_ne] at h
    simp only [Bool.or_eq_true, decide_eq_true_eq, Bool.and_eq_true, beq_iff_eq]
    obtain ⟨h1, h2⟩ := h
    by_cases e : x = y
    · subst e
      refine .inr ⟨rfl, bb_total ?_ (fun e2 => hne (by rw [e2]))⟩
      rcases h2 with h2 | h2
      · exact absurd rfl h2
      · exact h2
    · refine .inl ?_
      rcases UInt8.lt_or_lt_of_ne e with h3 | h3
      · exact absurd h3 h1
      · exact h3
theorem bl_eq : ∀ (a b : List UInt8), Op.bytesLess a b = bytesBefore a b
  | [], [] => rfl
  | [], _ :: _ => rfl
  | _ :: _, [] => rfl
  | x :: a, y :: b => by unfold Op.bytesLess bytesBefore; rw [bl_eq a b]

theorem rising_del {m : List KV} (h : Rising m) (k : ByteArray) : Rising (del m k) := List.Pairwise.filter _ h
theorem rising_ins {x : KV} : ∀ {m : List KV}, Rising m → (∀ p ∈ m, kb p.1 ≠ kb x.1) → Rising (ins x m)
  | [], _, _ => by simp [ins, Rising]
  | y :: r, h, hne => by
    obtain ⟨h1, h2⟩ := List.pairwise_cons.1 h
    unfold ins
    by_cases hb : bytesBefore (kb x.1) (kb y.1) = true
    · rw [if_pos hb]
      refine List.pairwise_cons.2 ⟨fun p hp => ?_, h⟩
      rcases List.mem_cons.1 hp with rfl | hp
      · exact hb
      · exact bb_trans hb (h1 p hp)
    · rw [if_neg hb]
      have hyx : bytesBefore (kb y.1) (kb x.1) = true := bb_total (by simpa using hb) (fun e => hne y (by simp) e.symm)
      refine List.pairwise_cons.2 ⟨fun p hp => ?_, rising_ins h2 (fun p hp => hne p (List.mem_cons_of_mem _ hp))⟩
      rcases ins_mem hp with rfl | hp
      · exact hyx
      · exact h1 p hp
theorem del_ne {m : List KV} {k : ByteArray} : ∀ p ∈ del m k, kb p.1 ≠ kb k := fun p hp => by
  have := (List.mem_filter.1 hp).2
  simpa using this
theorem rising_do {m : List KV} (h : Rising m) (o : Int) (k v : ByteArray) : Rising (doV m o k v) := by
  unfold doV put
  split
  · exact rising_ins (rising_del h k) (fun p hp => del_ne p hp)
  · exact rising_del h k

/-! ### what a map has of a key: whether, and the value -/
def lookF (key : ByteArray) (st : Bool × ByteArray) (p : KV) : Bool × ByteArray := if kb p.1 = kb key then (true, p.2) else st
theorem look_none {key : ByteArray} : ∀ {m : List KV} (st : Bool × ByteArray), (∀ p ∈ m, kb p.1 ≠ kb key) → m.foldl (lookF key) st = st
  | [], _, _ => rfl
  | y :: r, st, h => by
    rw [List.foldl_cons]
    have : lookF key st y = st := by unfold lookF; rw [if_neg (h y (by simp))]
    rw [this]
    exact look_none st (fun p hp => h p (List.mem_cons_of_mem _ hp))
theorem look_del_ne {key k : ByteArray} (hk : kb k ≠ kb key) : ∀ (m : List KV) (st : Bool × ByteArray), (del m k).foldl (lookF key) st = m.foldl (lookF key) st
  | [], _ => rfl
  | y :: r, st => by
    have ih := look_del_ne hk r
    unfold del at ih ⊢
    rw [List.filter_cons, List.foldl_cons]
    by_cases e : kb y.1 = kb k
    · rw [if_neg (by simp [e])]
      have : lookF key st y = st := by unfold lookF; rw [if_neg (by rw [e]; exact hk)]
      rw [this]
      exact ih st
    · rw [if_pos (by simpa using e), List.foldl_cons]
      exact ih _
theorem look_ins_ne {key : ByteArray} {x : KV} (hk : kb x.1 ≠ kb key) : ∀ (m : List KV) (st : Bool × ByteArray), (ins x m).foldl (lookF key) st = m.foldl (lookF key) st
  | [], st => by
    simp only [ins, List.foldl_cons, List.foldl_nil]
    unfold lookF; rw [if_neg hk]
  | y :: r, st => by
    unfold ins
    split
    · rw [List.foldl_cons]
      have : lookF key st x = st := by unfold lookF; rw [if_neg hk]
      rw [this]
    · rw [List.foldl_cons, List.foldl_cons]
      exact look_ins_ne hk r _
theorem look_ins_eq {key : ByteArray} {x : KV} (hk : kb x.1 = kb key) : ∀ (m : List KV) (st : Bool × ByteArray), (∀ p ∈ m, kb p.1 ≠ kb key) → (ins x m).foldl (lookF key) st = (true, x.2)
  | [], st, _ => by
    simp only [ins, List.foldl_cons, List.foldl_nil]
    unfold lookF; rw [if_pos hk]
  | y :: r, st, h => by
    unfold ins
    split
    · rw [List.foldl_cons]
      have : lookF key st x = (true, x.2) := by unfold lookF; rw [if_pos hk]
      rw [this]
      exact look_none _ h
    · rw [List.foldl_cons]
      exact look_ins_eq hk r _ (fun p hp => h p (List.mem_cons_of_mem _ hp))
/-- A write to the key says what is there, one to another key nothing. -/
theorem look_do (key : ByteArray) (m : List KV) (o : Int) (k v : ByteArray) : (doV m o k v).foldl (lookF key) (false, ⟨#[]⟩) = if kb k = kb key then (if o = 1 then (true, v) else (false, ⟨#[]⟩)) else m.foldl (lookF key) (false, ⟨#[]⟩) := by
  unfold doV put
  by_cases hk : kb k = kb key
  · rw [if_pos hk]
    have hn : ∀ p ∈ del m k, kb p.1 ≠ kb key := fun p hp => by rw [← hk]; exact del_ne p hp
    split
    · exact look_ins_eq (x := (k, v)) hk _ _ hn
    · exact look_none _ hn
  · rw [if_neg hk]
    split
    · rw [look_ins_ne (x := (k, v)) hk, look_del_ne hk]
    · exact look_del_ne hk _ _

end Go.Proofs.YtjhbihhiceimcaaGreat.FMap

set_option linter.unusedSimpArgs false
set_option linter.unusedVariables false
namespace Go.Proofs.YtjhbihhiceimcaaGreat.FM
open Go.RowKit Go.Proofs.YtjhbihhiceimcaaGreat.FMap Go.Proofs.YtjhbihhiceimcaaGreat.PFZ Go.Proofs.YtjhbihhiceimcaaGreatW.PrintWords Go.Proofs.YtjhbihhiceimcaaGreatW.PrintLast
abbrev Rec := S51
abbrev Ent := S48

theorem tl (s : ByteArray) : s.toList = kb s := Go.ByteArray.toList_eq s
theorem size_kb (s : ByteArray) : s.size = (kb s).length := by unfold kb; rw [Array.length_toList]; rfl

/-- Is a key right, a value? -/
def keyR (k : ByteArray) : Bool := !k.toList.isEmpty && decide ((k.size : Int) ≤ 16)
def valR (v : ByteArray) : Bool := decide ((v.size : Int) ≤ 32)
theorem isC_sizes {r : Rec} (h : isC r = true) : keyR r.f6 = true ∧ valR r.f7 = true := by
  unfold isC commitOk okB bareV keyOk at h
  simp only [Bool.and_eq_true, Bool.or_eq_true, decide_eq_true_eq] at h
  obtain ⟨_, ⟨⟨⟨⟨_, _⟩, hk⟩, hb⟩, _⟩⟩ := h
  refine ⟨?_, ?_⟩
  · unfold keyR
    rw [Bool.and_eq_true, decide_eq_true_eq]
    refine ⟨?_, hk.2⟩
    cases e : r.f6.toList with
    | nil => exact absurd e hk.1
    | cons _ _ => rfl
  · unfold valR
    rw [decide_eq_true_eq]
    rcases hb with hb | hb
    · have h0 : r.f7.toList = [] := by simpa using hb
      rw [tl] at h0
      have : r.f7.size = 0 := by rw [size_kb, h0]; rfl
      omega
    · exact hb.2

theorem valR_size {v : ByteArray} (h : valR v = true) : v.size ≤ maxLen := by
  unfold valR at h
  rw [decide_eq_true_eq] at h
  unfold maxLen
  omega
theorem keyR_size {v : ByteArray} (h : keyR v = true) : v.size ≤ maxLen := by
  unfold keyR at h
  rw [Bool.and_eq_true, decide_eq_true_eq] at h
  have := h.2
  unfold maxLen
  omega

theorem hist_small {l : List Rec} (hl : l.length ≤ 1099511627776) : smallR (histV l) = true := by
  unfold smallR
  rw [Bool.and_eq_true, decide_eq_true_eq, List.all_eq_true]
  refine ⟨fun r hr => ?_, Nat.le_trans (histV_len l) hl⟩
  obtain ⟨h1, h2⟩ := isC_sizes (List.mem_filter.1 hr).2
  simp only [Bool.and_eq_true, decide_eq_true_eq]
  exact ⟨keyR_size h1, valR_size h2⟩

theorem behind_rising : ∀ (n : Nat) (l : List Rec), l.length = n → Rising (behindV l)
  | 0, l, h => by
    have : l = [] := List.eq_nil_of_length_eq_zero h
    subst this
    exact List.Pairwise.nil
  | n + 1, l, h => by
    obtain ⟨t, x, rfl⟩ : ∃ t x, l = t ++ [x] := ⟨l.dropLast, l.getLast (by intro e; simp [e] at h), (List.dropLast_concat_getLast _).symm⟩
    rw [behindV_snoc]
    exact rising_do (behind_rising n t (by simpa using h)) _ _ _

def lastF (key : ByteArray) (st : Bool × ByteArray) (r : Rec) : Bool × ByteArray := if kb r.f6 = kb key then (if r.f4 = 1 then (true, r.f7) else (false, ⟨#[]⟩)) else st
theorem behind_look (key : ByteArray) : ∀ (n : Nat) (l : List Rec), l.length = n → (behindV l).foldl (lookF key) (false, ⟨#[]⟩) = l.foldl (lastF key) (false, ⟨#[]⟩)
  | 0, l, h => by
    have : l = [] := List.eq_nil_of_length_eq_zero h
    subst this
    rfl
  | n + 1, l, h => by
    obtain ⟨t, x, rfl⟩ : ∃ t x, l = t ++ [x] := ⟨l.dropLast, l.getLast (by intro e; simp [e] at h), (List.dropLast_concat_getLast _).symm⟩
    rw [behindV_snoc, look_do, behind_look key n t (by simpa using h), List.foldl_append]
    rfl

theorem rdE {m : List KV} {i : Nat} (h : i < m.length) : rd_T48 (m.map mkE) (i : Int) = mkE m[i] := by
  unfold rd_T48
  simp [h]

theorem wrap_up {n : Nat} (h : n < 9223372036854775807) : wrap64 ((n : Int) + 1) = ((n + 1 : Nat) : Int) := by unfold wrap64; omega

theorem drop_kv {m : List KV} {i : Nat} (h : i < m.length) : m.drop i = m[i] :: m.drop (i + 1) := List.drop_eq_getElem_cons h

theorem given_l0 (m : List KV) (key : ByteArray) (hm : m.length < 9223372036854775807) (d : Nat) : ∀ (i : Nat) (st : Bool × ByteArray), i + d = m.length →
    Ev (fun k => fold_given.l0 k (m.map mkE) (m.length : Int) (i : Int) 1 key ⟨#[]⟩ st.1 st.2 []) (((m.drop i).foldl (lookF key) st).1, ((m.drop i).foldl (lookF key) st).2, []) := by
  induction d with
  | zero =>
    intro i st hi
    rw [List.drop_eq_nil_of_le (by omega)]
    refine Ev.step (fun k => ?_) (Ev.now _)
    simp only [fold_given.l0]
    rw [if_neg (by omega)]
    rfl
  | succ d ih =>
    intro i st hi
    have hlt : i < m.length := by omega
    rw [drop_kv hlt, List.foldl_cons]
    have hr := rdE hlt
    by_cases hk : kb m[i].1 = kb key
    · have e : lookF key st m[i] = (true, m[i].2) := by unfold lookF; rw [if_pos hk]
      rw [e]
      refine Ev.step (f := fun k => fold_given.j1 k (m.map mkE) (m.length : Int) (i : Int) false 1 key ⟨#[]⟩ st.1 st.2 [] (mkE m[i]).f0 (mkE m[i]).f1) (fun k => ?_) (Ev.step (f := fun k => fold_given.j2 k (m.map mkE) (m.length : Int) (i : Int) true 1 key ⟨#[]⟩ st.1 st.2 [] (mkE m[i]).f0 (mkE m[i]).f1) (fun k => ?_) (Ev.step (fun k => ?_) (ih (i + 1) (true, m[i].2) (by omega))))
      · simp only [fold_given.l0]
        rw [if_pos (by omega), if_pos (by omega), if_pos (by rw [List.length_map]; omega), if_neg (by decide), hr]
      · simp only [fold_given.j1]
        rw [if_neg (by simp), if_neg (by decide)]
        have : ((mkE m[i]).f0.toList == key.toList) = true := by rw [tl, tl]; simpa [mkE] using hk
        rw [this]
      · simp only [fold_given.j2]
        rw [if_pos trivial, if_pos trivial, wrap_up (by omega)]
        rfl
    · have e : lookF key st m[i] = st := by unfold lookF; rw [if_neg hk]
      rw [e]
      refine Ev.step (f := fun k => fold_given.j1 k (m.map mkE) (m.length : Int) (i : Int) false 1 key ⟨#[]⟩ st.1 st.2 [] (mkE m[i]).f0 (mkE m[i]).f1) (fun k => ?_) (Ev.step (f := fun k => fold_given.j2 k (m.map mkE) (m.length : Int) (i : Int) false 1 key ⟨#[]⟩ st.1 st.2 [] (mkE m[i]).f0 (mkE m[i]).f1) (fun k => ?_) (Ev.step (fun k => ?_) (ih (i + 1) st (by omega))))
      · simp only [fold_given.l0]
        rw [if_pos (by omega), if_pos (by omega), if_pos (by rw [List.length_map]; omega), if_neg (by decide), hr]
      · simp only [fold_given.j1]
        rw [if_neg (by simp), if_neg (by decide)]
        have : ((mkE m[i]).f0.toList == key.toList) = false := by rw [tl, tl]; simpa [mkE] using hk
        rw [this]
      · simp only [fold_given.j2]
        rw [if_neg (by simp), wrap_up (by omega)]

end Go.Proofs.YtjhbihhiceimcaaGreat.FM

set_option linter.unusedSimpArgs false
set_option linter.unusedVariables false
namespace Go.Proofs.YtjhbihhiceimcaaGreat.FM
open Go.RowKit Go.Proofs.YtjhbihhiceimcaaGreat.FMap Go.Proofs.YtjhbihhiceimcaaGreat.PFZ Go.Proofs.YtjhbihhiceimcaaGreatW.PrintWords Go.Proofs.YtjhbihhiceimcaaGreatW.PrintLast

theorem given_ev (l : List Rec) (key : ByteArray) (hl : l.length ≤ 1099511627776) :
    Ev (fun k => fold_given.f k ((behindV l).map mkE) 1 key ⟨#[]⟩) ((l.foldl (lastF key) (false, ⟨#[]⟩)).1, (l.foldl (lastF key) (false, ⟨#[]⟩)).2, []) := by
  have hlen := behindV_len _ l rfl
  have hg := given_l0 (behindV l) key (by omega) (behindV l).length 0 (false, ⟨#[]⟩) (by omega)
  rw [List.drop_zero, behind_look key _ l rfl] at hg
  refine Ev.congr (fun k => ?_) hg
  unfold fold_given.f
  rw [List.length_map]
  rfl

theorem ev_pos {α : Type} {c : Prop} [Decidable c] {f g : Nat → Option α} {r : α} (hc : c) (h : Ev f r) : Ev (fun k => if c then f k else g k) r := Ev.congr (fun k => if_pos hc) h
theorem ev_neg {α : Type} {c : Prop} [Decidable c] {f g : Nat → Option α} {r : α} (hc : ¬ c) (h : Ev g r) : Ev (fun k => if c then f k else g k) r := Ev.congr (fun k => if_neg hc) h
theorem entries_nil : Ev (fun k => latticeplain_Entries.f k [] []) true := by
  refine Ev.step (f := fun _ => some true) (fun k => ?_) (Ev.now _)
  rfl
theorem entry_nil : Ev (fun k => api_Entry.f k [] []) true := by
  refine Ev.step (f := fun _ => some true) (fun k => ?_) (Ev.now _)
  rfl
theorem same_yes (a : Bool) (b : ByteArray) : Ev (fun k => fold_same.f k a b [] a b []) true := by
  unfold fold_same.f
  exact ev_pos (by simp) (ev_pos rfl (Ev.bind entry_nil (Ev.now _)))

theorem agrees_no {l : List Rec} {key : ByteArray} {b0 : Bool} {b1 : ByteArray} {d n : Nat} {r : Int × Bool} (hl : l.length ≤ 1099511627776) (hn : n ≤ l.length)
    (hs : Ev (fun k => fold_same.f k ((l.take n).foldl (lastF key) (false, ⟨#[]⟩)).1 ((l.take n).foldl (lastF key) (false, ⟨#[]⟩)).2 [] b0 b1 []) false)
    (h : Ev (fun k => agreesL k l 1 key ⟨#[]⟩ b0 b1 [] 0 d (n + 1)) r) : Ev (fun k => agreesL k l 1 key ⟨#[]⟩ b0 b1 [] 0 (d + 1) n) r := by
  simp only [agreesL]
  exact ev_neg (by omega) (ev_pos (by omega) (Ev.bind (given_ev (l.take n) key (by rw [List.length_take]; omega)) (Ev.bind hs h)))
theorem agrees_yes {l : List Rec} {key : ByteArray} {b0 : Bool} {b1 : ByteArray} {d n : Nat} (hl : l.length ≤ 1099511627776) (hn : n ≤ l.length)
    (hs : (l.take n).foldl (lastF key) (false, ⟨#[]⟩) = (b0, b1)) : Ev (fun k => agreesL k l 1 key ⟨#[]⟩ b0 b1 [] 0 (d + 1) n) ((n : Int), true) := by
  simp only [agreesL]
  refine ev_neg (by omega) (ev_pos (by omega) ?_)
  refine Ev.bind (given_ev (l.take n) key (by rw [List.length_take]; omega)) ?_
  rw [hs]
  exact Ev.bind (same_yes b0 b1) (Ev.now _)

theorem agrees_ev : Ev (fun k => fold_Agrees.f k littleR 1 ⟨#[97]⟩ ⟨#[]⟩ true ⟨#[122]⟩ [] 0) (3, true) := by
  unfold fold_Agrees.f
  rw [little_H]
  refine ev_neg (by decide) (ev_neg (by decide) (Ev.bind (a := littleR) (Ev.now littleR) (ev_pos (f := fun k => agreesL k littleR 1 ⟨#[97]⟩ ⟨#[]⟩ true ⟨#[122]⟩ [] 0 (littleR.length + 2) 0) (g := fun _ => none) little_small ?_)))
  have e1 : (littleR.take 1).foldl (lastF ⟨#[97]⟩) (false, ⟨#[]⟩) = (true, ⟨#[120]⟩) := rfl
  have e2 : (littleR.take 2).foldl (lastF ⟨#[97]⟩) (false, ⟨#[]⟩) = (true, ⟨#[120]⟩) := rfl
  have n0 : ∀ k, fold_same.f k false ⟨#[]⟩ [] true ⟨#[122]⟩ [] = some false := fun k => by
    unfold fold_same.f
    rw [if_neg (by decide)]
  have n1 : ∀ k, fold_same.f k true ⟨#[120]⟩ [] true ⟨#[122]⟩ [] = some false := fun k => by
    unfold fold_same.f
    rw [if_pos (by decide), if_neg (by rw [tl, tl]; decide)]
  refine agrees_no (d := 5) (n := 0) (by decide) (by decide) ?_ (agrees_no (d := 4) (n := 1) (by decide) (by decide) ?_ (agrees_no (d := 3) (n := 2) (by decide) (by decide) ?_ (agrees_yes (d := 2) (n := 3) (by decide) (by decide) rfl)))
  · exact Ev.congr (fun k => n0 k) (Ev.now _)
  · rw [e1]; exact Ev.congr (fun k => n1 k) (Ev.now _)
  · rw [e2]; exact Ev.congr (fun k => n1 k) (Ev.now _)

theorem entries_little : Ev (fun k => latticeplain_Entries.f k littleE littleE) true := by
  refine Ev.step (f := fun k => latticeplain_Entries.l0 k littleE littleE 1 1) (fun k => ?_) (Ev.step (f := fun _ => some true) (fun k => rfl) (Ev.now _))
  show latticeplain_Entries.l0 (k + 1) littleE littleE 1 0 = _
  simp only [latticeplain_Entries.l0]
  rw [if_pos (by decide), if_pos (by decide), if_pos (by decide), if_pos (by decide), if_neg (by simp)]
  show latticeplain_Entries.l0 k littleE littleE 1 (wrap64 (0 + 1)) = _
  rw [show wrap64 (0 + 1) = 1 from by unfold wrap64; omega]

theorem speaks_ev : Ev (fun k => latticelaw18_speaks.f k) true := by
  obtain ⟨K1, h1⟩ := agrees_ev
  obtain ⟨K2, h2⟩ := entries_little
  refine ⟨K1 + K2, fun k hk => ?_⟩
  show latticelaw18_speaks.f k = some true
  unfold latticelaw18_speaks.f
  rw [if_pos (h1 k (by omega)), if_pos (h2 k (by omega))]

end Go.Proofs.YtjhbihhiceimcaaGreat.FM

set_option linter.unusedSimpArgs false
set_option linter.unusedVariables false
namespace Go.Proofs.YtjhbihhiceimcaaGreat.FM
open Go.RowKit Go.Proofs.YtjhbihhiceimcaaGreat.FMap Go.Proofs.YtjhbihhiceimcaaGreat.PFZ Go.Proofs.YtjhbihhiceimcaaGreatW.PrintWords Go.Proofs.YtjhbihhiceimcaaGreatW.PrintLast

def cmpL : List UInt8 → List UInt8 → Int
  | [], [] => 0
  | [], _ :: _ => -1
  | _ :: _, [] => 1
  | x :: a, y :: b => if (x.toNat : Int) < (y.toNat : Int) then -1 else if (x.toNat : Int) > (y.toNat : Int) then 1 else cmpL a b

theorem bt_kb {s : ByteArray} {i : Nat} (h : i < (kb s).length) : bt s (i : Int) = ((kb s)[i].toNat : Int) := by
  have h' : i < s.size := by rw [size_kb]; exact h
  unfold bt
  rw [Int.toNat_natCast, dif_pos h']
  rfl

theorem compare_l0 (a b : ByteArray) (ha : a.size < 9223372036854775807) : ∀ (d i : Nat), i + d = (kb a).length → i ≤ (kb b).length →
    Ev (fun k => latticeref05_Compare.l0 k a b (i : Int)) (cmpL ((kb a).drop i) ((kb b).drop i)) := by
  have hA := size_kb a
  have hB := size_kb b
  intro d
  induction d with
  | zero =>
    intro i hi hb
    rw [List.drop_eq_nil_of_le (by omega)]
    refine Ev.step (f := fun k => latticeref05_Compare.j1 k a b (i : Int) false) (fun k => ?_) (Ev.step (f := fun _ => some (cmpL [] ((kb b).drop i))) (fun k => ?_) (Ev.now _))
    · simp only [latticeref05_Compare.l0]
      rw [if_neg (by omega)]
    · simp only [latticeref05_Compare.j1]
      rw [if_neg (by decide)]
      by_cases h : i < (kb b).length
      · rw [List.drop_eq_getElem_cons h, if_pos (by omega)]
        rfl
      · rw [List.drop_eq_nil_of_le (by omega), if_neg (by omega), if_neg (by omega)]
        rfl
  | succ d ih =>
    intro i hi hb
    have hlt : i < (kb a).length := by omega
    rw [List.drop_eq_getElem_cons hlt]
    by_cases h : i < (kb b).length
    · rw [List.drop_eq_getElem_cons h]
      have ea := bt_kb hlt
      have eb := bt_kb h
      have hstep : ∀ k, latticeref05_Compare.l0 (k + 1) a b (i : Int) = latticeref05_Compare.j1 k a b (i : Int) true := fun k => by
        simp only [latticeref05_Compare.l0]
        rw [if_pos (by omega), decide_eq_true (by omega)]
      refine Ev.step hstep ?_
      have hj : ∀ k, latticeref05_Compare.j1 (k + 1) a b (i : Int) true = if ((kb a)[i].toNat : Int) < ((kb b)[i].toNat : Int) then some (-1) else if ((kb a)[i].toNat : Int) > ((kb b)[i].toNat : Int) then some 1 else latticeref05_Compare.l0 k a b ((i + 1 : Nat) : Int) := fun k => by
        simp only [latticeref05_Compare.j1]
        rw [if_pos trivial, if_pos (by omega), if_pos (by omega), if_pos (by omega), ea, eb, wrap_up (by omega)]
      refine Ev.step hj ?_
      unfold cmpL
      by_cases h1 : ((kb a)[i].toNat : Int) < ((kb b)[i].toNat : Int)
      · refine Ev.congr (f := fun _ => some (-1)) (fun k => by rw [if_pos h1]) ?_
        rw [if_pos h1]
        exact Ev.now _
      · by_cases h2 : ((kb a)[i].toNat : Int) > ((kb b)[i].toNat : Int)
        · refine Ev.congr (f := fun _ => some 1) (fun k => by rw [if_neg h1, if_pos h2]) ?_
          rw [if_neg h1, if_pos h2]
          exact Ev.now _
        · refine Ev.congr (f := fun k => latticeref05_Compare.l0 k a b ((i + 1 : Nat) : Int)) (fun k => by rw [if_neg h1, if_neg h2]) ?_
          rw [if_neg h1, if_neg h2]
          exact ih (i + 1) (by omega) (by omega)
    · rw [List.drop_eq_nil_of_le (by omega : (kb b).length ≤ i)]
      refine Ev.step (f := fun k => latticeref05_Compare.j1 k a b (i : Int) false) (fun k => ?_) (Ev.step (f := fun _ => some 1) (fun k => ?_) (Ev.now _))
      · simp only [latticeref05_Compare.l0]
        rw [if_pos (by omega), decide_eq_false (by omega)]
      · simp only [latticeref05_Compare.j1]
        rw [if_neg (by decide), if_neg (by omega), if_pos (by omega)]

theorem compare_ev (a b : ByteArray) (ha : a.size < 9223372036854775807) : Ev (fun k => latticeref05_Compare.f k a b) (cmpL (kb a) (kb b)) :=
  compare_l0 a b ha (kb a).length 0 (by omega) (by omega)

theorem cmpL_less : ∀ (a b : List UInt8), (cmpL a b < 0) ↔ Op.bytesLess a b = true
  | [], [] => by simp [cmpL, Op.bytesLess]
  | [], _ :: _ => by simp [cmpL, Op.bytesLess]
  | _ :: _, [] => by simp [cmpL, Op.bytesLess]
  | x :: a, y :: b => by
    have ih := cmpL_less a b
    unfold cmpL Op.bytesLess
    by_cases h1 : (x.toNat : Int) < (y.toNat : Int)
    · have : x < y := by rw [UInt8.lt_iff_toNat_lt]; omega
      rw [if_pos h1]
      simp [this]
    · have n1 : ¬ x < y := by rw [UInt8.lt_iff_toNat_lt]; omega
      rw [if_neg h1]
      by_cases h2 : (x.toNat : Int) > (y.toNat : Int)
      · have n2 : x ≠ y := fun e => by rw [e] at h2; omega
        rw [if_pos h2]
        simp [n1, n2]
      · have e : x = y := by apply UInt8.toNat_inj.1; omega
        rw [if_neg h2, ih]
        simp [e]

end Go.Proofs.YtjhbihhiceimcaaGreat.FM

set_option linter.unusedSimpArgs false
set_option linter.unusedVariables false
namespace Go.Proofs.YtjhbihhiceimcaaGreat.FM
open Go.RowKit Go.Proofs.YtjhbihhiceimcaaGreat.FMap Go.Proofs.YtjhbihhiceimcaaGreat.PFZ Go.Proofs.YtjhbihhiceimcaaGreatW.PrintWords Go.Proofs.YtjhbihhiceimcaaGreatW.PrintLast

theorem ins_head {x : KV} : ∀ {l : List KV}, (∀ p ∈ l, bytesBefore (kb x.1) (kb p.1) = true) → ins x l = x :: l
  | [], _ => rfl
  | y :: r, h => by unfold ins; rw [if_pos (h y (by simp))]
theorem del_cons_ne {y : KV} {r : List KV} {k : ByteArray} (h : kb y.1 ≠ kb k) : del (y :: r) k = y :: del r k := by
  unfold del
  rw [List.filter_cons_of_pos (by simpa using h)]
theorem del_cons_eq {y : KV} {r : List KV} {k : ByteArray} (h : kb y.1 = kb k) : del (y :: r) k = del r k := by
  unfold del
  rw [List.filter_cons_of_neg (by simpa using h)]
theorem mkE_len (m : List KV) : (m.map mkE).length = m.length := List.length_map _

section
variable (m : List KV) (q0 q1 q2 q3 q4 q5 : Int) (k v : ByteArray)

theorem with_true (hm : m.length ≤ 1099511627776) : ∀ (d i : Nat) (out : List Ent), i + d = m.length → out.length + d < 4398046511104 →
    Ev (fun n => latticeref18_With.l0 n out true (m.map mkE) (m.length : Int) (i : Int) q0 q1 q2 q3 q4 q5 k v) (out ++ (del (m.drop i) k).map mkE) := by
  intro d
  induction d with
  | zero =>
    intro i out hi ho
    rw [List.drop_eq_nil_of_le (by omega)]
    refine Ev.step (f := fun _ => some (out ++ (del [] k).map mkE)) (fun n => ?_) (Ev.now _)
    simp only [latticeref18_With.l0]
    rw [if_neg (by omega), if_pos trivial]
    simp [del]
  | succ d ih =>
    intro i out hi ho
    have hlt : i < m.length := by omega
    have hr := rdE hlt
    rw [drop_kv hlt]
    refine Ev.step (f := fun n => latticeref18_With.j1 n out true (m.map mkE) (m.length : Int) (i : Int) false q0 q1 q2 q3 q4 q5 k v (mkE m[i]).f0 (mkE m[i]).f1) (fun n => ?_) ?_
    · simp only [latticeref18_With.l0]
      rw [if_pos (by omega), if_pos (by omega), if_pos (by rw [mkE_len]; omega), if_pos trivial, hr]
    · by_cases e : kb m[i].1 = kb k
      · rw [del_cons_eq e]
        refine Ev.step (fun n => ?_) (ih (i + 1) out (by omega) (by omega))
        simp only [latticeref18_With.j1]
        rw [if_neg (by simp), if_pos (by rw [tl, tl]; exact e), wrap_up (by omega)]
      · rw [del_cons_ne e, List.map_cons]
        have := ih (i + 1) (out ++ [mkE m[i]]) (by omega) (by rw [List.length_append, List.length_singleton]; omega)
        rw [List.append_assoc] at this
        refine Ev.step (fun n => ?_) this
        simp only [latticeref18_With.j1]
        rw [if_neg (by simp), if_neg (by rw [tl, tl]; exact e), if_pos (by omega), wrap_up (by omega)]

theorem with_false (hm : m.length ≤ 1099511627776) (hR : Rising m) (hz : ∀ p ∈ m, p.1.size ≤ 16) : ∀ (d i : Nat) (out : List Ent), i + d = m.length → out.length + d + 1 < 4398046511104 →
    Ev (fun n => latticeref18_With.l0 n out false (m.map mkE) (m.length : Int) (i : Int) q0 q1 q2 q3 q4 q5 k v) (out ++ (ins (k, v) (del (m.drop i) k)).map mkE) := by
  intro d
  induction d with
  | zero =>
    intro i out hi ho
    rw [List.drop_eq_nil_of_le (by omega)]
    refine Ev.step (f := fun _ => some (out ++ (ins (k, v) (del [] k)).map mkE)) (fun n => ?_) (Ev.now _)
    simp only [latticeref18_With.l0]
    rw [if_neg (by omega), if_neg (by simp), if_pos (by omega)]
    simp [del, ins, mkE]
  | succ d ih =>
    intro i out hi ho
    have hlt : i < m.length := by omega
    have hr := rdE hlt
    have hc := compare_ev m[i].1 k (by have := hz m[i] (List.getElem_mem hlt); omega)
    have hn := cmpL_less (kb m[i].1) (kb k)
    rw [bl_eq] at hn
    have hafter : ∀ p ∈ m.drop (i + 1), bytesBefore (kb m[i].1) (kb p.1) = true := by
      have h2 : (m.drop i).Pairwise (fun p q => bytesBefore (kb p.1) (kb q.1) = true) := List.Pairwise.sublist (List.drop_sublist i m) hR
      rw [drop_kv hlt] at h2
      exact (List.pairwise_cons.1 h2).1
    rw [drop_kv hlt]
    have hl0 : ∀ n, latticeref18_With.l0 (n + 1) out false (m.map mkE) (m.length : Int) (i : Int) q0 q1 q2 q3 q4 q5 k v = (latticeref05_Compare.f n m[i].1 k).bind fun t => latticeref18_With.j1 n out false (m.map mkE) (m.length : Int) (i : Int) (decide (t ≥ 0)) q0 q1 q2 q3 q4 q5 k v (mkE m[i]).f0 (mkE m[i]).f1 := fun n => by
      simp only [latticeref18_With.l0]
      rw [if_pos (by omega), if_pos (by omega), if_pos (by rw [mkE_len]; omega), if_neg (by simp), hr]
      rfl
    refine Ev.step hl0 (Ev.bind hc ?_)
    by_cases hb : bytesBefore (kb m[i].1) (kb k) = true
    · have hlt0 := hn.2 hb
      have e : kb m[i].1 ≠ kb k := fun e => by rw [e, bb_irr] at hb; cases hb
      have hnb : ¬ bytesBefore (kb k) (kb m[i].1) = true := fun h => by have := bb_trans hb h; rw [bb_irr] at this; cases this
      rw [decide_eq_false (by omega), del_cons_ne e]
      have e2 : ins (k, v) (m[i] :: del (m.drop (i + 1)) k) = m[i] :: ins (k, v) (del (m.drop (i + 1)) k) := by rw [ins]; rw [if_neg hnb]
      rw [e2, List.map_cons]
      have := ih (i + 1) (out ++ [mkE m[i]]) (by omega) (by rw [List.length_append, List.length_singleton]; omega)
      rw [List.append_assoc] at this
      refine Ev.step (fun n => ?_) this
      simp only [latticeref18_With.j1]
      rw [if_neg (by simp), if_neg (by rw [tl, tl]; exact e), if_pos (by omega), wrap_up (by omega)]
    · have hge : ¬ cmpL (kb m[i].1) (kb k) < 0 := fun h => hb (hn.1 h)
      rw [decide_eq_true (by omega)]
      by_cases e : kb m[i].1 = kb k
      · have e2 : ins (k, v) (del (m[i] :: m.drop (i + 1)) k) = (k, v) :: del (m.drop (i + 1)) k := by
          rw [del_cons_eq e]
          exact ins_head fun p hp => by
            have := hafter p (List.mem_filter.1 hp).1
            rwa [e] at this
        rw [e2, List.map_cons]
        have := with_true m q0 q1 q2 q3 q4 q5 k v hm d (i + 1) (out ++ [mkE (k, v)]) (by omega) (by rw [List.length_append, List.length_singleton]; omega)
        rw [List.append_assoc] at this
        refine Ev.step (fun n => ?_) this
        simp only [latticeref18_With.j1]
        rw [if_pos trivial, if_pos (by omega), Option.bind_some, if_pos (by rw [tl, tl]; exact e), wrap_up (by omega)]
        rfl
      · have hkb : bytesBefore (kb k) (kb m[i].1) = true := bb_total (by simpa using hb) e
        have e2 : ins (k, v) (del (m[i] :: m.drop (i + 1)) k) = (k, v) :: m[i] :: del (m.drop (i + 1)) k := by
          rw [del_cons_ne e]
          refine ins_head fun p hp => ?_
          rcases List.mem_cons.1 hp with rfl | hp
          · exact hkb
          · exact bb_trans hkb (hafter p (List.mem_filter.1 hp).1)
        rw [e2, List.map_cons, List.map_cons]
        have := with_true m q0 q1 q2 q3 q4 q5 k v hm d (i + 1) (out ++ [mkE (k, v)] ++ [mkE m[i]]) (by omega) (by simp only [List.length_append, List.length_singleton]; omega)
        rw [List.append_assoc, List.append_assoc] at this
        refine Ev.step (fun n => ?_) this
        simp only [latticeref18_With.j1]
        rw [if_pos trivial, if_pos (by omega), Option.bind_some, if_neg (by rw [tl, tl]; exact e), if_pos (by simp only [List.length_append, List.length_singleton]; omega), wrap_up (by omega)]
        rw [List.append_assoc]
        rfl
end

theorem with_ev (m : List KV) (q0 q1 q2 q3 q4 q5 : Int) (k v : ByteArray) (hm : m.length ≤ 1099511627776) (hR : Rising m) (hz : ∀ p ∈ m, p.1.size ≤ 16) :
    Ev (fun n => latticeref18_With.f n (m.map mkE) q0 q1 q2 q3 q4 q5 k v) ((doV m q4 k v).map mkE) := by
  unfold latticeref18_With.f doV put
  rw [mkE_len]
  by_cases h4 : q4 = 1
  · have e : (q4 != 1) = false := by simpa using h4
    rw [if_pos h4, e]
    have := with_false m q0 q1 q2 q3 q4 q5 k v hm hR hz m.length 0 [] (by omega) (by simp; omega)
    rw [List.drop_zero, List.nil_append] at this
    exact this
  · have e : (q4 != 1) = true := by simpa using h4
    rw [if_neg h4, e]
    have := with_true m q0 q1 q2 q3 q4 q5 k v hm m.length 0 [] (by omega) (by simp; omega)
    rw [List.drop_zero, List.nil_append] at this
    exact this

theorem rdRec {l : List Rec} {i : Nat} (h : i < l.length) : rd_T51 l (i : Int) = l[i] := by
  unfold rd_T51
  simp [h]

theorem behind_sizes {l : List Rec} (hc : ∀ r ∈ l, isC r = true) : ∀ p ∈ behindV l, p.1.size ≤ 16 := fun p hp => by
  obtain ⟨r, hr, he⟩ := behindV_mem _ l rfl hp
  have hk := (isC_sizes (hc r hr)).1
  unfold keyR at hk
  rw [Bool.and_eq_true, decide_eq_true_eq] at hk
  rw [he]
  show r.f6.size ≤ 16
  omega

theorem rbehind_l0 (l : List Rec) (hl : l.length ≤ 1099511627776) (hc : ∀ r ∈ l, isC r = true) (n : Nat) (hn : n ≤ l.length) : ∀ (d i : Nat), i + d = n →
    Ev (fun k => latticeref18_Behind.l0 k (n : Int) l ((behindV (l.take i)).map mkE) (i : Int)) ((behindV (l.take n)).map mkE, 0) := by
  intro d
  induction d with
  | zero =>
    intro i hi
    obtain rfl : i = n := by omega
    refine Ev.step (f := fun _ => some ((behindV (l.take i)).map mkE, (0 : Int))) (fun k => ?_) (Ev.now _)
    simp only [latticeref18_Behind.l0]
    rw [if_neg (by omega)]
  | succ d ih =>
    intro i hi
    have hlt : i < l.length := by omega
    have hr := rdRec hlt
    have hb := behindV_take hlt
    have hlen := behindV_len _ (l.take i) rfl
    rw [List.length_take] at hlen
    have hw := with_ev (behindV (l.take i)) l[i].f0 l[i].f1 l[i].f2 l[i].f3 l[i].f4 l[i].f5 l[i].f6 l[i].f7 (by omega) (behind_rising _ _ rfl) (behind_sizes (fun r hr => hc r (List.mem_of_mem_take hr)))
    rw [hr] at hb
    rw [← hb] at hw
    refine Ev.step (f := fun k => (latticeref18_With.f k ((behindV (l.take i)).map mkE) l[i].f0 l[i].f1 l[i].f2 l[i].f3 l[i].f4 l[i].f5 l[i].f6 l[i].f7).bind fun t => latticeref18_Behind.l0 k (n : Int) l t ((i + 1 : Nat) : Int)) (fun k => ?_) (Ev.bind hw (ih (i + 1) (by omega)))
    simp only [latticeref18_Behind.l0]
    rw [if_pos (by omega), if_pos (by omega), if_pos (by omega), hr, wrap_up (by omega)]

theorem hist_f {l : List Rec} (hl : l.length ≤ 1099511627776) : fold_History.f l = some (histV l) := by unfold fold_History.f; rw [if_pos hl]
theorem rhist_f {l : List Rec} (hl : l.length ≤ 1099511627776) : latticeref18_History.f l = some (histV l) := by unfold latticeref18_History.f; rw [if_pos hl]
theorem hist_isC (l : List Rec) : ∀ r ∈ histV l, isC r = true := fun r hr => (List.mem_filter.1 hr).2
theorem hist_hist (l : List Rec) : histV (histV l) = histV l := List.filter_eq_self.2 (hist_isC l)

def bothB (l : List Rec) (n : Int) : List Ent × Int := if n < 0 then ([], 1) else if n > (l.length : Int) then ([], 1) else ((behindV (l.take n.toNat)).map mkE, 0)
theorem fbehind_ev {h : List Rec} (hl : h.length ≤ 1099511627776) (n : Int) : fold_Behind.f h n = some (bothB (histV h) n) := by
  unfold fold_Behind.f bothB
  rw [hist_f hl, Option.bind_some, if_pos (hist_small hl)]
  by_cases h1 : n < 0
  · rw [if_pos h1, if_pos h1]
  · rw [if_neg h1, if_neg h1]
    by_cases h2 : n > ((histV h).length : Int)
    · rw [if_pos h2, if_pos h2]
    · rw [if_neg h2, if_neg h2]
theorem rbehind_ev {h : List Rec} (hl : h.length ≤ 1099511627776) (n : Int) : Ev (fun k => latticeref18_Behind.f k h n) (bothB (histV h) n) := by
  unfold latticeref18_Behind.f bothB
  rw [rhist_f hl]
  have hlh := histV_len h
  refine Ev.bind (a := histV h) (Ev.now _) ?_
  by_cases h1 : n < 0
  · rw [if_pos h1]
    refine ev_pos h1 (Ev.step (f := fun _ => some ([], (1 : Int))) (fun k => ?_) (Ev.now _))
    simp only [latticeref18_Behind.j0]
    rw [if_pos trivial]
  · rw [if_neg h1]
    refine ev_neg h1 ?_
    by_cases h2 : n > ((histV h).length : Int)
    · rw [if_pos h2, decide_eq_true h2]
      refine Ev.step (f := fun _ => some ([], (1 : Int))) (fun k => ?_) (Ev.now _)
      simp only [latticeref18_Behind.j0]
      rw [if_pos trivial]
    · rw [if_neg h2, decide_eq_false h2]
      obtain ⟨m, rfl⟩ : ∃ m : Nat, n = (m : Int) := ⟨n.toNat, by omega⟩
      rw [Int.toNat_natCast]
      refine Ev.step (fun k => ?_) (rbehind_l0 (histV h) (by omega) (hist_isC h) m (by omega) m 0 (by omega))
      simp only [latticeref18_Behind.j0]
      rw [if_neg (by simp)]
      rfl
theorem bothB_len (l : List Rec) (n : Int) : (bothB l n).1.length ≤ l.length := by
  unfold bothB
  split
  · simp
  · split
    · simp
    · rw [mkE_len]
      have := behindV_len _ (l.take n.toNat) rfl
      rw [List.length_take] at this
      omega

theorem entries_self' (l : List Ent) (hl : l.length < 9223372036854775807) : Ev (fun k => latticeplain_Entries.f k l l) true := by
  have h : ∀ (d i : Nat), i + d = l.length → Ev (fun k => latticeplain_Entries.l0 k l l (l.length : Int) (i : Int)) true := by
    intro d
    induction d with
    | zero =>
      intro i hi
      refine Ev.step (f := fun _ => some true) (fun k => ?_) (Ev.now _)
      simp only [latticeplain_Entries.l0]
      rw [if_neg (by omega)]
    | succ d ih =>
      intro i hi
      refine Ev.step (fun k => ?_) (ih (i + 1) (by omega))
      simp only [latticeplain_Entries.l0]
      rw [if_pos (by omega), if_pos (by omega), if_pos (by omega), if_pos (by omega), if_neg (by simp), wrap_up (by omega)]
  unfold latticeplain_Entries.f
  exact ev_pos rfl (h l.length 0 (by omega))

end Go.Proofs.YtjhbihhiceimcaaGreat.FM

set_option linter.unusedSimpArgs false
set_option linter.unusedVariables false
namespace Go.Proofs.YtjhbihhiceimcaaGreat.FM
open Go.RowKit Go.Proofs.YtjhbihhiceimcaaGreat.FMap Go.Proofs.YtjhbihhiceimcaaGreat.PFZ Go.Proofs.YtjhbihhiceimcaaGreatW.PrintWords Go.Proofs.YtjhbihhiceimcaaGreatW.PrintLast

/-! ### where a request stands -/
theorem fplace_ev {h : List Rec} (hl : h.length ≤ 1099511627776) (req : Int) : fold_Place.f h req = some (placeV (histV h) req) := by
  unfold fold_Place.f
  have := histV_len h
  rw [hist_f hl, Option.bind_some, if_pos (by omega)]
theorem rplace_ev {h : List Rec} (hl : h.length ≤ 1099511627776) (req : Int) : latticeref18_Place.f h req = some (placeV (histV h) req) := by
  unfold latticeref18_Place.f
  have := histV_len h
  rw [rhist_f hl, Option.bind_some, if_pos (by omega)]

/-! ### whether a history begins with another one -/
theorem isC_flat {r : Rec} (h : isC r = true) : r.f2 = 7 ∧ r.f3 = 0 := by
  unfold isC commitOk okB at h
  simp only [Bool.and_eq_true, decide_eq_true_eq, beq_iff_eq] at h
  exact ⟨h.1, h.2.1.1.1.1.2⟩
theorem neq_same {x y : Rec} (hx : isC x = true) (hy : isC y = true) : neqR x y = neqQ x y := by
  obtain ⟨a, b⟩ := isC_flat hx
  obtain ⟨c, d⟩ := isC_flat hy
  unfold neqR neqQ
  rw [a, b, c, d]
  cases (x.f4 == y.f4) <;> cases (x.f5 == y.f5) <;> simp
theorem ext_same {a b : List Rec} (ha : ∀ r ∈ a, isC r = true) (hb : ∀ r ∈ b, isC r = true) : extB a b = rextB a b := by
  by_cases hs : a.length < b.length
  · rw [extB_short hs, rextB_no (i := a.length) hs (fun h => by omega)]
  · have hle : b.length ≤ a.length := by omega
    by_cases hx : ∃ i, i < b.length ∧ neqR (rd_T51 a (i : Int)) (rd_T51 b (i : Int)) = true
    · obtain ⟨i, hi, hn⟩ := hx
      rw [extB_no hi hn, rextB_no hi (fun h => by
        rw [rdRec h, rdRec hi] at hn ⊢
        rw [← neq_same (ha _ (List.getElem_mem h)) (hb _ (List.getElem_mem hi))]
        exact hn)]
    · have hn : ∀ i, i < b.length → neqR (rd_T51 a (i : Int)) (rd_T51 b (i : Int)) = false := fun i hi => by
        cases e : neqR (rd_T51 a (i : Int)) (rd_T51 b (i : Int))
        · rfl
        · exact absurd ⟨i, hi, e⟩ hx
      rw [extB_yes hle hn, rextB_yes (fun i hi => ⟨by omega, by
        have := hn i hi
        rw [rdRec (by omega), rdRec hi] at this ⊢
        rw [← neq_same (ha _ (List.getElem_mem _)) (hb _ (List.getElem_mem hi))]
        exact this⟩)]
theorem fext_ev {h o : List Rec} (hl : h.length ≤ 1099511627776) (ho : o.length ≤ 1099511627776) : fold_Extends.f h o = some (extB (histV h) (histV o)) := by
  have h1 := histV_len h
  have h2 := histV_len o
  unfold fold_Extends.f
  rw [hist_f hl, hist_f ho, Option.bind_some, Option.bind_some, if_pos ⟨by omega, by omega⟩]
theorem rext_ev {h o : List Rec} (hl : h.length ≤ 1099511627776) (ho : o.length ≤ 1099511627776) : latticeref18_Extends.f h o = some (extB (histV h) (histV o)) := by
  have h1 := histV_len h
  have h2 := histV_len o
  unfold latticeref18_Extends.f
  rw [rhist_f hl, rhist_f ho, Option.bind_some, Option.bind_some, if_pos ⟨by omega, by omega⟩, ext_same (hist_isC h) (hist_isC o)]

/-! ### whether each request is there once -/
theorem once_no {l : List Rec} {a b : Nat} (hab : a < b) (hb : b < l.length) (e : (rd_T51 l (a : Int)).f5 = (rd_T51 l (b : Int)).f5) : onceV l = false := by
  unfold onceV
  rw [decide_eq_false_iff_not]
  intro hn
  rw [rdRec (by omega), rdRec hb] at e
  have := (List.pairwise_iff_getElem.1 hn) a b (by simp; omega) (by simpa using hb) hab
  simp at this
  exact this e
theorem once_yes {l : List Rec} (h : ∀ a b, a < b → b < l.length → (rd_T51 l (a : Int)).f5 ≠ (rd_T51 l (b : Int)).f5) : onceV l = true := by
  unfold onceV
  rw [decide_eq_true_eq]
  refine List.pairwise_iff_getElem.2 (fun a b ha hb hab => ?_)
  rw [List.length_map] at ha hb
  have := h a b hab hb
  rw [rdRec ha, rdRec hb] at this
  simpa using this
theorem once_l0 (l : List Rec) (hl : l.length ≤ 1099511627776) : ∀ (d i : Nat), i + d = l.length → (∀ a b, a < b → b < i → (rd_T51 l (a : Int)).f5 ≠ (rd_T51 l (b : Int)).f5) →
    Ev (fun k => latticeref18_Once.l0 k l l (l.length : Int) (i : Int)) (onceV l) := by
  intro d
  induction d with
  | zero =>
    intro i hi hn
    obtain rfl : i = l.length := by omega
    rw [once_yes hn]
    refine Ev.step (f := fun _ => some true) (fun k => ?_) (Ev.now _)
    simp only [latticeref18_Once.l0]
    rw [if_neg (by omega)]
  | succ d ih =>
    intro i hi hn
    have hlt : i < l.length := by omega
    have inner : ∀ (e j : Nat), j + e = i → (∀ a, a < j → (rd_T51 l (a : Int)).f5 ≠ (rd_T51 l (i : Int)).f5) →
        Ev (fun k => latticeref18_Once.l1 k l (i : Int) (j : Int) l (l.length : Int) (i : Int) (rd_T51 l (i : Int)).f0 (rd_T51 l (i : Int)).f1 (rd_T51 l (i : Int)).f2 (rd_T51 l (i : Int)).f3 (rd_T51 l (i : Int)).f4 (rd_T51 l (i : Int)).f5 (rd_T51 l (i : Int)).f6 (rd_T51 l (i : Int)).f7) (onceV l) := by
      intro e
      induction e with
      | zero =>
        intro j hj hj2
        obtain rfl : j = i := by omega
        refine Ev.step (fun k => ?_) (ih (j + 1) (by omega) (fun a b hab hb => ?_))
        · simp only [latticeref18_Once.l1]
          rw [if_neg (by omega), wrap_up (by omega)]
        · by_cases e : b = j
          · subst e; exact hj2 a hab
          · exact hn a b hab (by omega)
      | succ e ih2 =>
        intro j hj hj2
        by_cases hq : (rd_T51 l (j : Int)).f5 = (rd_T51 l (i : Int)).f5
        · rw [once_no (by omega) hlt hq]
          refine Ev.step (f := fun _ => some false) (fun k => ?_) (Ev.now _)
          simp only [latticeref18_Once.l1]
          rw [if_pos (by omega), if_pos (by omega), if_pos (by omega), if_pos hq]
        · refine Ev.step (fun k => ?_) (ih2 (j + 1) (by omega) (fun a ha => ?_))
          · simp only [latticeref18_Once.l1]
            rw [if_pos (by omega), if_pos (by omega), if_pos (by omega), if_neg hq, wrap_up (by omega)]
          · by_cases e : a = j
            · subst e; exact hq
            · exact hj2 a (by omega)
    refine Ev.step (fun k => ?_) (inner i 0 (by omega) (fun a ha => by omega))
    simp only [latticeref18_Once.l0]
    rw [if_pos (by omega), if_pos (by omega), if_pos (by omega)]
    rfl
theorem isC_req {r : Rec} (h : isC r = true) : (Lit.int .i64 r.f5).wf = true := by
  unfold isC commitOk reqOk at h
  simp only [Bool.and_eq_true, decide_eq_true_eq] at h
  have := h.2.2
  exact WalkArith.wf_i64 (by omega)
theorem fonce_ev {h : List Rec} (hl : h.length ≤ 1099511627776) : fold_Once.f h = some (onceV (histV h)) := by
  have h1 := histV_len h
  unfold fold_Once.f
  rw [hist_f hl, Option.bind_some, if_pos]
  unfold okReq
  rw [Bool.and_eq_true, decide_eq_true_eq, List.all_eq_true]
  exact ⟨fun r hr => by rw [decide_eq_true_eq]; exact isC_req (hist_isC h r hr), by omega⟩
theorem ronce_ev {h : List Rec} (hl : h.length ≤ 1099511627776) : Ev (fun k => latticeref18_Once.f k h) (onceV (histV h)) := by
  have h1 := histV_len h
  unfold latticeref18_Once.f
  rw [rhist_f hl]
  exact Ev.bind (a := histV h) (Ev.now _) (once_l0 (histV h) (by omega) (histV h).length 0 (by omega) (fun a b _ hb => by omega))

theorem holds_ev (h o : List Rec) (req : Int) : Ev (fun k => latticelaw18_FoldHolds.f k h o req) true := by
  have hj : ∀ b : Bool, (b = false → h.length ≤ 2000 ∧ o.length ≤ 2000) → Ev (fun k => latticelaw18_FoldHolds.j0 k h o req b) true := by
    intro b hb
    cases b with
    | true =>
      refine Ev.step (fun k => ?_) speaks_ev
      simp only [latticelaw18_FoldHolds.j0]
      rw [if_pos trivial]
      cases latticelaw18_speaks.f k <;> rfl
    | false =>
      obtain ⟨h1, h2⟩ := hb rfl
      have e1 := fplace_ev (h := h) (by omega) req
      have e2 := rplace_ev (h := h) (by omega) req
      have e3 := fext_ev (h := h) (o := o) (by omega) (by omega)
      have e4 := rext_ev (h := h) (o := o) (by omega) (by omega)
      have e5 := fonce_ev (h := h) (by omega)
      have e6 := ronce_ev (h := h) (by omega)
      refine Ev.step (f := fun k => ((fold_Place.f h req).bind fun bt218 => ((latticeref18_Place.f h req).bind fun bt220 => ((fold_Extends.f h o).bind fun t222 => ((latticeref18_Extends.f h o).bind fun t223 => (if (t222 == t223) = true then ((fold_Once.f h).bind fun t224 => ((latticeref18_Once.f k h).bind fun t225 => (if (t224 == t225) = true then (if bt218.1 = bt220.1 then (if (bt218.2 == bt220.2) = true then ((latticelaw18_speaks.f k).bind fun t226 => (some t226)) else (some false)) else (some false)) else (some false)))) else (some false))))))) (fun k => ?_) ?_
      · simp only [latticelaw18_FoldHolds.j0]
        rw [if_neg (by simp)]
      · rw [e1, e2, e3, e4, e5]
        refine Ev.bind (a := placeV (histV h) req) (Ev.now _) (Ev.bind (a := placeV (histV h) req) (Ev.now _) (Ev.bind (a := extB (histV h) (histV o)) (Ev.now _) (Ev.bind (a := extB (histV h) (histV o)) (Ev.now _) (ev_pos (by simp) (Ev.bind (a := onceV (histV h)) (Ev.now _) (Ev.bind e6 (ev_pos (by simp) (ev_pos rfl (ev_pos (by simp) (Ev.bind speaks_ev (Ev.now _)))))))))))
  unfold latticelaw18_FoldHolds.f
  by_cases hb : (h.length : Int) > 2000
  · exact ev_pos hb (hj true (fun h => by cases h))
  · refine ev_neg hb (hj _ (fun e => ?_))
    have := of_decide_eq_false e
    omega

end Go.Proofs.YtjhbihhiceimcaaGreat.FM
