/- A map as a list of pairs in the keys' order: it stays in order; what it has of a key. -/
import Derived.Test.YtegfnceepplooaaFMap
set_option linter.unusedSimpArgs false
set_option linter.unusedVariables false
namespace Go.Proofs.Ytegfnceepplooaa.FMap

theorem bb_irr : ∀ l : List UInt8, bytesBefore l l = false
  | [] => rfl
  | a :: r => by unfold bytesBefore; simp [bb_irr r]
theorem bb_trans : ∀ {a b c : List UInt8}, bytesBefore a b = true → bytesBefore b c = true → bytesBefore a c = true
  | [], [], _, h, _ => by cases h
  | [], _ :: _, [], _, h => by cases h
  | [], _ :: _, _ :: _, _, _ => rfl
  | _ :: _, [], _, h, _ => by cases h
  | _ :: _, _ :: _, [], _, h => by cases h
  | x :: a, y :: b, z :: c, h1, h2 => by
    unfold bytesBefore at h1 h2 ⊢
    simp only [Bool.or_eq_true, decide_eq_true_eq, Bool.and_eq_true, beq_iff_eq] at h1 h2 ⊢
    rcases h1 with h1 | ⟨e1, h1⟩
    · rcases h2 with h2 | ⟨e2, h2⟩
      · exact .inl (UInt8.lt_trans h1 h2)
      · subst e2; exact .inl h1
    · subst e1
      rcases h2 with h2 | ⟨e2, h2⟩
      · exact .inl h2
      · exact .inr ⟨e2, bb_trans h1 h2⟩
theorem bb_total : ∀ {a b : List UInt8}, bytesBefore a b = false → a ≠ b → bytesBefore b a = true
  | [], [], _, h => absurd rfl h
  | [], _ :: _, h, _ => by cases h
  | _ :: _, [], _, _ => rfl
  | x :: a, y :: b, h, hne => by
    unfold bytesBefore at h ⊢
    simp only [Bool.or_eq_false_iff, decide_eq_false_iff_not, Bool.and_eq_false_iff, beq_eq_false_iff_ne] at h
    simp only [Bool.or_eq_true, decide_eq_true_eq, Bool.and_eq_true, beq_iff_eq]
    obtain ⟨h1, h2⟩ := h
    by_cases e : x = y
    · subst e
      refine .inr ⟨rfl, bb_total ?_ (fun e2 => hne (by rw [e2]))⟩
      rcases h2 with h2 | h2
      · exact absurd rfl h2
      · exact h2
    · refine .inl ?_
      rcases UInt8.lt_or_lt_of_ne e with h3 | h3
      · exact absurd h3 h1
      · exact h3
theorem bl_eq : ∀ (a b : List UInt8), Op.bytesLess a b = bytesBefore a b
  | [], [] => rfl
  | [], _ :: _ => rfl
  | _ :: _, [] => rfl
  | x :: a, y :: b => by unfold Op.bytesLess bytesBefore; rw [bl_eq a b]

theorem rising_del {m : List KV} (h : Rising m) (k : ByteArray) : Rising (del m k) := List.Pairwise.filter _ h
theorem rising_ins {x : KV} : ∀ {m : List KV}, Rising m → (∀ p ∈ m, kb p.1 ≠ kb x.1) → Rising (ins x m)
  | [], _, _ => by simp [ins, Rising]
  | y :: r, h, hne => by
    obtain ⟨h1, h2⟩ := List.pairwise_cons.1 h
    unfold ins
    by_cases hb : bytesBefore (kb x.1) (kb y.1) = true
    · rw [if_pos hb]
      refine List.pairwise_cons.2 ⟨fun p hp => ?_, h⟩
      rcases List.mem_cons.1 hp with rfl | hp
      · exact hb
      · exact bb_trans hb (h1 p hp)
    · rw [if_neg hb]
      have hyx : bytesBefore (kb y.1) (kb x.1) = true := bb_total (by simpa using hb) (fun e => hne y (by simp) e.symm)
      refine List.pairwise_cons.2 ⟨fun p hp => ?_, rising_ins h2 (fun p hp => hne p (List.mem_cons_of_mem _ hp))⟩
      rcases ins_mem hp with rfl | hp
      · exact hyx
      · exact h1 p hp
theorem del_ne {m : List KV} {k : ByteArray} : ∀ p ∈ del m k, kb p.1 ≠ kb k := fun p hp => by
  have := (List.mem_filter.1 hp).2
  simpa using this
theorem rising_do {m : List KV} (h : Rising m) (o : Int) (k v : ByteArray) : Rising (doV m o k v) := by
  unfold doV put
  split
  · exact rising_ins (rising_del h k) (fun p hp => del_ne p hp)
  · exact rising_del h k

/-! ### what a map has of a key: whether, and the value -/
def lookF (key : ByteArray) (st : Bool × ByteArray) (p : KV) : Bool × ByteArray := if kb p.1 = kb key then (true, p.2) else st
theorem look_none {key : ByteArray} : ∀ {m : List KV} (st : Bool × ByteArray), (∀ p ∈ m, kb p.1 ≠ kb key) → m.foldl (lookF key) st = st
  | [], _, _ => rfl
  | y :: r, st, h => by
    rw [List.foldl_cons]
    have : lookF key st y = st := by unfold lookF; rw [if_neg (h y (by simp))]
    rw [this]
    exact look_none st (fun p hp => h p (List.mem_cons_of_mem _ hp))
theorem look_del_ne {key k : ByteArray} (hk : kb k ≠ kb key) : ∀ (m : List KV) (st : Bool × ByteArray), (del m k).foldl (lookF key) st = m.foldl (lookF key) st
  | [], _ => rfl
  | y :: r, st => by
    have ih := look_del_ne hk r
    unfold del at ih ⊢
    rw [List.filter_cons, List.foldl_cons]
    by_cases e : kb y.1 = kb k
    · rw [if_neg (by simp [e])]
      have : lookF key st y = st := by unfold lookF; rw [if_neg (by rw [e]; exact hk)]
      rw [this]
      exact ih st
    · rw [if_pos (by simpa using e), List.foldl_cons]
      exact ih _
theorem look_ins_ne {key : ByteArray} {x : KV} (hk : kb x.1 ≠ kb key) : ∀ (m : List KV) (st : Bool × ByteArray), (ins x m).foldl (lookF key) st = m.foldl (lookF key) st
  | [], st => by
    simp only [ins, List.foldl_cons, List.foldl_nil]
    unfold lookF; rw [if_neg hk]
  | y :: r, st => by
    unfold ins
    split
    · rw [List.foldl_cons]
      have : lookF key st x = st := by unfold lookF; rw [if_neg hk]
      rw [this]
    · rw [List.foldl_cons, List.foldl_cons]
      exact look_ins_ne hk r _
theorem look_ins_eq {key : ByteArray} {x : KV} (hk : kb x.1 = kb key) : ∀ (m : List KV) (st : Bool × ByteArray), (∀ p ∈ m, kb p.1 ≠ kb key) → (ins x m).foldl (lookF key) st = (true, x.2)
  | [], st, _ => by
    simp only [ins, List.foldl_cons, List.foldl_nil]
    unfold lookF; rw [if_pos hk]
  | y :: r, st, h => by
    unfold ins
    split
    · rw [List.foldl_cons]
      have : lookF key st x = (true, x.2) := by unfold lookF; rw [if_pos hk]
      rw [this]
      exact look_none _ h
    · rw [List.foldl_cons]
      exact look_ins_eq hk r _ (fun p hp => h p (List.mem_cons_of_mem _ hp))
/-- A write to the key says what is there, one to another key nothing. -/
theorem look_do (key : ByteArray) (m : List KV) (o : Int) (k v : ByteArray) : (doV m o k v).foldl (lookF key) (false, ⟨#[]⟩) = if kb k = kb key then (if o = 1 then (true, v) else (false, ⟨#[]⟩)) else m.foldl (lookF key) (false, ⟨#[]⟩) := by
  unfold doV put
  by_cases hk : kb k = kb key
  · rw [if_pos hk]
    have hn : ∀ p ∈ del m k, kb p.1 ≠ kb key := fun p hp => by rw [← hk]; exact del_ne p hp
    split
    · exact look_ins_eq (x := (k, v)) hk _ _ hn
    · exact look_none _ hn
  · rw [if_neg hk]
    split
    · rw [look_ins_ne (x := (k, v)) hk, look_del_ne hk]
    · exact look_del_ne hk _ _

end Go.Proofs.Ytegfnceepplooaa.FMap
