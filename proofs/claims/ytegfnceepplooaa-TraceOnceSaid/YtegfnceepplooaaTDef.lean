/- Trace: what the watcher does, in plain words: calls, codes, floors as functions, the history ahead. -/
import Derived.Test.YtegfnceepplooaaPTRx6
import Derived.Test.YtegfnceepplooaaPTRx8
import Derived.Test.YtegfnceepplooaaPTRx7
import Derived.Test.YtegfnceepplooaaPTRx7
set_option linter.unusedVariables false
set_option linter.unusedSimpArgs false
namespace Go.Proofs.Ytegfnceepplooaa.TR
open Go.RowKit Go.Proofs.Ytegfnceepplooaa.FMap Go.Proofs.Ytegfnceepplooaa.PTR Go.Proofs.YtegfnceepplooaaW.PrintWords Go.Proofs.YtegfnceepplooaaW.PrintLast

abbrev Rec := S50
abbrev Ent := S103
abbrev Opn := S31
abbrev Call := S33
abbrev Cho := S36
abbrev Res := S43
abbrev Ans := S45
abbrev Seen := S40

/-- What a trace came to. -/
structure St where
  calls : Int → Option Call
  codes : Int → Option Int
  order : List Int
  floors : Int → Option Int
  before : List Rec
def st0 : St := ⟨fun _ => none, fun _ => none, [], fun _ => none, []⟩
def upd {α : Type} (f : Int → Option α) (k : Int) (v : α) : Int → Option α := fun x => if x = k then some v else f x

def choiceV (st : St) (c : Cho) : St :=
  if c.f0 = 1 then (match st.calls c.f4.f0 with | some _ => st | none => { st with calls := upd st.calls c.f4.f0 c.f4, order := st.order ++ [c.f4.f0] })
  else if c.f0 = 8 ∨ c.f0 = 9 then { st with floors := upd st.floors c.f1 0 } else st
def writeV (op : Opn) : Bool := op.f0 == 2 || op.f0 == 3
def knownV (st : St) (a : Ans) : Bool :=
  match st.calls a.f0 with
  | some c => (st.codes a.f0).isNone && ((a.f1 == c.f1) && (decide (1 ≤ a.f2) && decide (a.f2 ≤ 8)))
  | none => false
def thereV (h : List Rec) (a : Ans) (op : Opn) : Bool := !((a.f2 == 1) && writeV op) || (placeV (histV h) a.f0).2
/-- Does an answer tell what was read? -/
def asksV (a : Ans) (op : Opn) : Bool := (a.f2 == 1) && !writeV op
def bareA (a : Ans) : Bool := a.f3.f1.toList.isEmpty && a.f3.f2.isEmpty
def emptyV (a : Ans) (op : Opn) : Bool := asksV a op || (bareA a && ((a.f2 == 1) || !a.f3.f0))

/-- The least beginning behind which an operation gives a result, from n on, d more at the most. -/
noncomputable def agR (h : List Rec) (op : Opn) (r : Res) (fl : Int) : Int × Bool :=
  Classical.epsilon fun x => ∃ k, fold_Agrees.f k h op.f0 op.f1 op.f2 r.f0 r.f1 r.f2 fl = some x
theorem agR_of {h : List Rec} {op : Opn} {r : Res} {fl : Int} {x : Int × Bool} {k : Nat} (hk : fold_Agrees.f k h op.f0 op.f1 op.f2 r.f0 r.f1 r.f2 fl = some x) : agR h op r fl = x := by
  obtain ⟨k', hk'⟩ := Classical.epsilon_spec (p := fun x => ∃ k, fold_Agrees.f k h op.f0 op.f1 op.f2 r.f0 r.f1 r.f2 fl = some x) ⟨x, k, hk⟩
  have h1 := at_rounds (fold_Agrees.mono h op.f0 op.f1 op.f2 r.f0 r.f1 r.f2 fl) (Nat.le_max_left k k') hk
  have h2 := at_rounds (fold_Agrees.mono h op.f0 op.f1 op.f2 r.f0 r.f1 r.f2 fl) (Nat.le_max_right k k') hk'
  rw [h1] at h2
  exact (Option.some.inj h2).symm

noncomputable def answerV (st : St) (h : List Rec) (a : Ans) : Int × St :=
  match st.calls a.f0 with
  | none => (2, st)
  | some c =>
    if knownV st a = true then
      (if thereV h a c.f2 = true then
        (if asksV a c.f2 = true then
          (if (agR h c.f2 a.f3 ((st.floors a.f1).getD 0)).2 = true then
            (0, { st with floors := upd st.floors a.f1 (agR h c.f2 a.f3 ((st.floors a.f1).getD 0)).1, codes := upd st.codes a.f0 a.f2 })
          else (5, st))
        else (if emptyV a c.f2 = true then (0, { st with codes := upd st.codes a.f0 a.f2 }) else (6, st)))
      else (3, st))
    else (2, st)
noncomputable def answersV (h : List Rec) : St → List Ans → Int × St
  | st, [] => (0, st)
  | st, a :: r => if (answerV st h a).1 = 0 then answersV h (answerV st h a).2 r else answerV st h a
def okCode (c : Int) : Bool := !((c == 2) || ((c == 5) || ((c == 8) || (c == 6))))
def sameOp (a b : Opn) : Bool := (a.f0 == b.f0) && ((a.f1.toList == b.f1.toList) && (a.f2.toList == b.f2.toList))
def subR (st : St) (r : Rec) : Bool :=
  match st.calls r.f5 with
  | none => false
  | some c => sameOp c.f2 ⟨if r.f4 = 1 then 2 else 3, r.f6, r.f7⟩ && okCode ((st.codes r.f5).getD 0)
def subV (st : St) (h : List Rec) : Bool := (histV h).all (subR st)
/-- The rule that a step breaks; 0: none. -/
noncomputable def stepV (st : St) (s : Seen) : Int × St :=
  if (answersV s.f2 (choiceV st s.f0) s.f1).1 = 0 then
    (if onceV (histV s.f2) = true ∧ extB (histV s.f2) (histV (answersV s.f2 (choiceV st s.f0) s.f1).2.before) = true then
      (if subV { (answersV s.f2 (choiceV st s.f0) s.f1).2 with before := s.f2 } s.f2 = true then (0, { (answersV s.f2 (choiceV st s.f0) s.f1).2 with before := s.f2 })
      else (4, { (answersV s.f2 (choiceV st s.f0) s.f1).2 with before := s.f2 }))
    else (1, (answersV s.f2 (choiceV st s.f0) s.f1).2))
  else answersV s.f2 (choiceV st s.f0) s.f1
/-- The first rule that is broken, and in which step. -/
noncomputable def runV : St → List Seen → Nat → Int × Nat
  | _, [], _ => (0, 0)
  | st, s :: r, i => if (stepV st s).1 = 0 then runV (stepV st s).2 r (i + 1) else ((stepV st s).1, i)
/-- Beyond what the statements look at. -/
def smallL (l : List Seen) : Prop := l.length ≤ 300 ∧ (l.map fun s => s.f1.length + s.f2.length).sum ≤ 2000

/-! ### which calls are open -/
def toldA (st : St) (told : Int → Option Bool) (a : Ans) : Int → Option Bool := if (st.calls a.f0).isSome = true then upd told a.f0 true else told
def openS : St → (Int → Option Bool) → List Seen → St × (Int → Option Bool)
  | st, told, [] => (st, told)
  | st, told, s :: r => openS (choiceV st s.f0) (s.f1.foldl (toldA (choiceV st s.f0)) told) r
def openV (l : List Seen) : List Int := (openS st0 (fun _ => none) l).1.order.filter fun q => !((openS st0 (fun _ => none) l).2 q).getD false
def ackA (st : St) (out : List Int) (a : Ans) : List Int :=
  match st.calls a.f0 with
  | some c => if (a.f2 == 1) && writeV c.f2 then out ++ [a.f0] else out
  | none => out
def ackS : St → List Int → List Seen → List Int
  | _, out, [] => out
  | st, out, s :: r => ackS (choiceV st s.f0) (s.f1.foldl (ackA (choiceV st s.f0)) out) r
def ackV (l : List Seen) : List Int := ackS st0 [] l

/-! ### TraceBegins -/
theorem run_take : ∀ (l : List Seen) (st : St) (i n : Nat), n ≤ l.length → runV st (l.take n) i = if (runV st l i).1 = 0 ∨ i + n ≤ (runV st l i).2 then (0, 0) else runV st l i := by
  intro l
  induction l with
  | nil =>
    intro st i n hn
    obtain rfl : n = 0 := by simpa using hn
    simp [runV]
  | cons s r ih =>
    intro st i n hn
    cases n with
    | zero =>
      rw [List.take_zero]
      have hge : ∀ (l : List Seen) (st : St) (i : Nat), (runV st l i).1 = 0 ∨ i ≤ (runV st l i).2 := by
        intro l
        induction l with
        | nil => intro st i; left; rfl
        | cons s r ih =>
          intro st i
          unfold runV
          by_cases h : (stepV st s).1 = 0
          · rw [if_pos h]
            rcases ih (stepV st s).2 (i + 1) with h1 | h1
            · exact .inl h1
            · exact .inr (by omega)
          · rw [if_neg h]
            exact .inr (Nat.le_refl _)
      rw [if_pos (by simpa using hge (s :: r) st i)]
      rfl
    | succ n =>
      rw [List.take_succ_cons]
      unfold runV
      by_cases h : (stepV st s).1 = 0
      · rw [if_pos h, if_pos h, ih _ _ _ (by simpa using hn)]
        rw [show i + 1 + n = i + (n + 1) by omega]
      · rw [if_neg h, if_neg h, if_neg]
        rintro (h1 | h1)
        · exact h h1
        · simp only at h1
          omega
theorem run_zero : ∀ (l : List Seen) (st : St) (i : Nat), (runV st l i).1 = 0 → runV st l i = (0, 0) := by
  intro l
  induction l with
  | nil => intro st i _; rfl
  | cons s r ih =>
    intro st i h
    unfold runV at h ⊢
    by_cases hs : (stepV st s).1 = 0
    · rw [if_pos hs] at h ⊢
      exact ih _ _ h
    · rw [if_neg hs] at h
      exact absurd h hs

end Go.Proofs.Ytegfnceepplooaa.TR
