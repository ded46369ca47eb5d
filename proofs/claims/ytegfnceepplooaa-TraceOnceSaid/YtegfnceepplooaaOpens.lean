/- How an argument of any type (numbers, bools, strings, structs, slices, nested) is read: whatever reads as data of the type holds a value of the print's kind, within the reach. No program in sight. -/
import Derived.Deep.Slices
import Derived.Deep.Fields
import Derived.ChangeSame
import Derived.SizedLaws
import Derived.Test.YtegfnceepplooaaWWords
namespace Go.Proofs.Ytegfnceepplooaa.Opens
open Go Go.RowKit Go.ChangeShapes Go.WideShapes Go.Deep Go.Proofs.YtegfnceepplooaaW.PrintWords

/-- Whatever reads as data of type t lies in cells that hold a value of kind d, of which B holds. -/
def OpensAt {α : Type} (P : Program) (W : World) (t : TypeId) (d : Kd α) (B : α → Prop) : Prop :=
  ∀ {H : Type} (enc : TypeId × Value → H) (base : Nat) (spare : Nat → Bool) (held : Bool) (fuel : Nat) (cs : List Value) (x : DataW H × List MemPlace),
    DataW.trod enc P W base spare held fuel t cs = some x → (∀ n ∈ x.1.weights P t, n ≤ reachBytes) → ∃ a : α, d.K W a cs ∧ B a

theorem opens_int {P : Program} {W : World} {t : TypeId} {k : IntKind} (hu : P.underlying t = some (.int k)) : OpensAt P W t (Kd.int k) (fun n => (Lit.int k n).wf = true) := by
  intro H enc base spare held fuel cs x h _
  obtain ⟨n, rfl, _, hw⟩ := DataW.trod_int hu h
  exact ⟨n, rfl, hw⟩
theorem opens_bool {P : Program} {W : World} {t : TypeId} (hu : P.underlying t = some .bool) : OpensAt P W t Kd.bool (fun _ => True) := by
  intro H enc base spare held fuel cs x h _
  obtain ⟨n, rfl, _⟩ := DataW.trod_bool hu h
  exact ⟨n, rfl, trivial⟩
theorem opens_string {P : Program} {W : World} {t : TypeId} (hu : P.underlying t = some .string) : OpensAt P W t Kd.string (fun s => s.size ≤ 140737488351232) := by
  intro H enc base spare held fuel cs x h hw
  obtain ⟨s, rfl, rfl, _⟩ := DataW.trod_string hu h
  refine ⟨s, rfl, ?_⟩
  have := hw s.data.toList.length (by simp [DataW.weights])
  simpa [reachBytes] using this

theorem mem_weightsAll {H : Type} {P : Program} {e : TypeId} : ∀ {l : List (DataW H)} {d : DataW H} {n : Nat}, d ∈ l → n ∈ d.weights P e → n ∈ DataW.weightsAll P e l
  | d0 :: l, d, n, hd, hn => by
    simp only [DataW.weightsAll, List.mem_append]
    rcases List.mem_cons.1 hd with rfl | hd
    · exact .inl hn
    · exact .inr (mem_weightsAll hd hn)

theorem collect {α : Type} {Q : Nat → α → Prop} : ∀ (len : Nat), (∀ i, i < len → ∃ y, Q i y) → ∃ l : List α, l.length = len ∧ ∀ i (hi : i < l.length), Q i l[i]
  | 0, _ => ⟨[], rfl, fun i hi => by simp at hi⟩
  | len + 1, hel => by
    obtain ⟨l, hll, hli⟩ := collect len (fun i h => hel i (by omega))
    obtain ⟨y, hy⟩ := hel len (by omega)
    refine ⟨l ++ [y], by simp [hll], fun i hi => ?_⟩
    by_cases h : i < l.length
    · rw [List.getElem_append_left h]
      exact hli i h
    · have : i = len := by simp at hi; omega
      subst this
      rw [List.getElem_append_right (by omega)]
      simpa [hll] using hy

/-- A slice. -/
theorem opens_slice {α : Type} {P : Program} {W : World} {t e : TypeId} {d : Kd α} {B : α → Prop} {b : Nat} (hu : P.underlying t = some (.slice e)) (hc : P.cellsOf e = d.sz) (hb : P.bytesOf e = b) (he : OpensAt P W e d B) :
    OpensAt P W t (Kd.slice e d) (fun l => l.length * b ≤ 140737488351232 ∧ ∀ x ∈ l, B x) := by
  intro H enc base spare held fuel cs x h hw
  rcases open_slice hu h with ⟨rfl, rfl⟩ | ⟨a, len, cap, m, n, D, Pl, rfl, _, hl, hm, hmm, rfl, hi⟩
  · exact ⟨[], ⟨none, 0, rfl, Nat.le_refl _, Kd.C_nil _ _⟩, by simp, by simp⟩
  · have hlm : len ≤ m := by rw [hmm]; split <;> omega
    have hel : ∀ i, i < len → ∃ y : α, (∃ cs', cs'.length = d.sz ∧ d.K W y cs' ∧ ∀ j u, cs'[j]? = some u → W.cell? (a.add (i * d.sz + j)) = some u) ∧ B y := by
      intro i hil
      obtain ⟨cs', hcs, ht⟩ := hi i (by omega)
      rw [hc] at hcs
      have hwt : ∀ n ∈ (D i).weights P e, n ≤ reachBytes := fun q hq => hw q (by
        simp only [DataW.weights, hu, List.mem_cons, List.mem_append]
        exact .inr (.inl (mem_weightsAll (List.mem_map.2 ⟨i, List.mem_range.2 hil, rfl⟩) hq)))
      obtain ⟨y, hy, hB⟩ := he enc base spare held n cs' (D i, Pl i) ht hwt
      obtain ⟨_, hcl, hat⟩ := World.cells?_some hcs
      refine ⟨y, ⟨cs', hcl, hy, fun j u hj => ?_⟩, hB⟩
      have hjl : j < d.sz := by rw [← hcl]; exact (List.getElem?_eq_some_iff.1 hj).1
      have := hat j hjl
      rw [← Go.Deep.add_add, this, hj]
    have hex := collect (Q := fun i y => (∃ cs', cs'.length = d.sz ∧ d.K W y cs' ∧ ∀ j u, cs'[j]? = some u → W.cell? (a.add (i * d.sz + j)) = some u) ∧ B y) len hel
    obtain ⟨l, hll, hli⟩ := hex
    have hsum := hw ((((List.range len).map D).length + ((List.range (m - len)).map fun j => D (len + j)).length) * P.bytesOf e) (by simp [DataW.weights, hu])
    rw [hb] at hsum
    simp only [List.length_map, List.length_range, reachBytes] at hsum
    have hbytes : l.length * b ≤ 140737488351232 := Nat.le_trans (Nat.mul_le_mul_right b (by omega)) hsum
    subst hll
    refine ⟨l, ⟨some a, cap, rfl, hl, rfl, ?_, fun _ => ⟨a, rfl, fun j p hj => ?_⟩⟩, hbytes, fun x hx => ?_⟩
    · unfold maxLen at hm; omega
    · obtain ⟨hjl, rfl⟩ := List.getElem?_eq_some_iff.1 hj
      exact (hli j hjl).1
    · obtain ⟨i, hil, rfl⟩ := List.getElem_of_mem hx
      exact (hli i hil).2

def offs (P : Program) (ts : List TypeId) : List Nat := (List.range ts.length).map fun i => ((ts.take i).map P.cellsOf).sum

/-- Fields, one behind the other. -/
def OpensFs {α : Type} (P : Program) (W : World) (ts : List TypeId) (d : Kd α) (B : α → Prop) : Prop :=
  ∀ {H : Type} (enc : TypeId × Value → H) (base : Nat) (spare : Nat → Bool) (held : Bool) (fuel : Nat) (cs : List Value) (xs : List (DataW H × List MemPlace)),
    cs.length = (ts.map P.cellsOf).sum → xs.length = ts.length →
    (∀ (i : Nat) (t : TypeId), ts[i]? = some t → DataW.trod enc P W base spare held fuel t ((cs.drop ((ts.take i).map P.cellsOf).sum).take (P.cellsOf t)) = xs[i]?) →
    (∀ n ∈ DataW.weightsEach P ts (xs.map (·.1)), n ≤ reachBytes) → ∃ a : α, d.K W a cs ∧ B a

theorem opens_one {α : Type} {P : Program} {W : World} {t : TypeId} {d : Kd α} {B : α → Prop} (h : OpensAt P W t d B) : OpensFs P W [t] d B := by
  intro H enc base spare held fuel cs xs hcl hxl hf hw
  match xs, hxl with
  | [x], _ =>
    have h0 := hf 0 t rfl
    simp at hcl
    simp [List.take_of_length_le (Nat.le_of_eq hcl)] at h0
    exact h enc base spare held fuel cs x h0 (fun n hn => hw n (by simp [DataW.weightsEach, hn]))

theorem opens_cons {α β : Type} {P : Program} {W : World} {t : TypeId} {ts : List TypeId} {d : Kd α} {B : α → Prop} {d' : Kd β} {B' : β → Prop} (h : OpensAt P W t d B) (h' : OpensFs P W ts d' B') : OpensFs P W (t :: ts) (Kd.pair d d') (fun x => B x.1 ∧ B' x.2) := by
  intro H enc base spare held fuel cs xs hcl hxl hf hw
  match xs, hxl with
  | x :: xs, hxl =>
    have h0 := hf 0 t rfl
    simp at h0 hcl
    obtain ⟨a, ha, hB⟩ := h enc base spare held fuel _ x h0 (fun n hn => hw n (by simp [DataW.weightsEach, hn]))
    obtain ⟨b, hb, hB'⟩ := h' enc base spare held fuel (cs.drop (P.cellsOf t)) xs (by simp; omega) (by simpa using hxl) (fun i u hu => by
      have := hf (i + 1) u (by simpa using hu)
      simpa [List.drop_drop] using this) (fun n hn => hw n (by simp [DataW.weightsEach, hn]))
    exact ⟨(a, b), ⟨_, _, (List.take_append_drop _ _).symm, ha, hb⟩, hB, hB'⟩

theorem opens_struct {α β : Type} {P : Program} {W : World} {t : TypeId} {fs : Array Field} {ts : List TypeId} {d : Kd α} {B : α → Prop} (hu : P.underlying t = some (.struct fs)) (hts : fs.toList.map (·.type) = ts) (hoff : fs.toList.map (·.offset) = offs P ts) (hC : P.cellsOf t = (ts.map P.cellsOf).sum)
    (h : OpensFs P W ts d B) (f : β → α) (g : α → β) (hfg : ∀ a, f (g a) = a) : OpensAt P W t (Kd.iso d f) (fun x => B (f x)) := by
  intro H enc base spare held fuel cs x hx hw
  obtain ⟨xs, n, _, rfl, hcl, hxl, hf⟩ := DataW.trod_struct hu hx
  obtain ⟨a, ha, hB⟩ := h enc base spare held n cs xs (by rw [hcl, hC]) (by rw [hxl, ← hts]; simp) (fun i u hi => by
    have hil : i < ts.length := (List.getElem?_eq_some_iff.1 hi).1
    have hfl : i < fs.size := by rw [← hts] at hil; simpa using hil
    have hfi : fs[i]? = some fs[i] := Array.getElem?_eq_getElem hfl
    have h1 := hf i fs[i] hfi
    have ht : fs[i].type = u := by
      rw [← hts] at hi
      simpa [hfl] using hi
    have ho : fs[i].offset = ((ts.take i).map P.cellsOf).sum := by
      have e1 : (fs.toList.map (·.offset))[i]? = some fs[i].offset := by simp [hfl]
      rw [hoff] at e1
      simp only [offs, List.getElem?_map, List.getElem?_range hil, Option.map_some, Option.some.injEq] at e1
      exact e1.symm
    rw [ht, ho] at h1
    exact h1) (fun q hq => hw q (by
      simp only [DataW.weights, hu]
      rw [hts]
      exact hq))
  refine ⟨g a, ?_, ?_⟩
  · show d.K W (f (g a)) cs
    rw [hfg]; exact ha
  · show B (f (g a))
    rw [hfg]; exact hB

theorem opens_mono {α : Type} {P : Program} {W : World} {t : TypeId} {d : Kd α} {B B' : α → Prop} (h : OpensAt P W t d B) (hB : ∀ a, B a → B' a) : OpensAt P W t d B' := by
  intro H enc base spare held fuel cs x hx hw
  obtain ⟨a, ha, hb⟩ := h enc base spare held fuel cs x hx hw
  exact ⟨a, ha, hB a hb⟩

theorem weights_le {H : Type} {P : Program} {ts : List TypeId} {ds : List (DataW H)} (h : (DataW.weightsEach P ts ds).all (· ≤ reachBytes) = true) {j : Nat} {t : TypeId} {d : DataW H} (ht : ts[j]? = some t) (hd : ds[j]? = some d) : ∀ n ∈ d.weights P t, n ≤ reachBytes := fun n hn => by
  have := List.all_eq_true.1 h n (DataW.weights_mem_each ht hd n hn)
  simpa using this

end Go.Proofs.Ytegfnceepplooaa.Opens
