/- Trace: the search for the least beginning always ends. -/
import Derived.Test.YtegfnceepplooaaFLook
import Derived.Test.YtegfnceepplooaaFHist
import Derived.Test.YtegfnceepplooaaTDef
import Derived.Test.YtegfnceepplooaaPTRx4
set_option linter.unusedSimpArgs false
set_option linter.unusedVariables false
namespace Go.Proofs.Ytegfnceepplooaa.FM
open Go.RowKit Go.Proofs.Ytegfnceepplooaa.FMap Go.Proofs.Ytegfnceepplooaa.PTR Go.Proofs.YtegfnceepplooaaW.PrintWords Go.Proofs.YtegfnceepplooaaW.PrintLast

theorem ev_pos {α : Type} {c : Prop} [Decidable c] {f g : Nat → Option α} {r : α} (hc : c) (h : Ev f r) : Ev (fun k => if c then f k else g k) r := Ev.congr (fun k => if_pos hc) h
theorem ev_neg {α : Type} {c : Prop} [Decidable c] {f g : Nat → Option α} {r : α} (hc : ¬ c) (h : Ev g r) : Ev (fun k => if c then f k else g k) r := Ev.congr (fun k => if_neg hc) h
/-- What an entry adds to an operation's result. -/
def gstep (op : Int) (lo hi : ByteArray) (st : Bool × ByteArray × List Ent) (e : Ent) : Bool × ByteArray × List Ent :=
  if op = 4 then (if Op.bytesLess e.f0.toList lo.toList = false ∧ (hi.toList = [] ∨ Op.bytesLess e.f0.toList hi.toList = true) then (st.1, st.2.1, st.2.2 ++ [e]) else st)
  else (if e.f0.toList = lo.toList then (true, (if op = 1 then e.f1 else st.2.1), st.2.2) else st)
def givenV (op : Int) (lo hi : ByteArray) (l : List Ent) : Bool × ByteArray × List Ent := l.foldl (gstep op lo hi) (false, ⟨#[]⟩, [])

theorem gstep_len (op : Int) (lo hi : ByteArray) (st : Bool × ByteArray × List Ent) (e : Ent) : (gstep op lo hi st e).2.2.length ≤ st.2.2.length + 1 := by
  unfold gstep
  split
  · split
    · simp
    · omega
  · split
    · show st.2.2.length ≤ _; omega
    · omega
theorem given_len (op : Int) (lo hi : ByteArray) : ∀ (l : List Ent) (st : Bool × ByteArray × List Ent), (l.foldl (gstep op lo hi) st).2.2.length ≤ st.2.2.length + l.length
  | [], st => by simp
  | e :: r, st => by
    rw [List.foldl_cons, List.length_cons]
    have h1 := given_len op lo hi r (gstep op lo hi st e)
    have h2 := gstep_len op lo hi st e
    omega

theorem rdEnt {l : List Ent} {i : Nat} (h : i < l.length) : rd_T103 l (i : Int) = l[i] := by
  unfold rd_T103
  simp [h]

theorem given_pos (op : Int) (lo hi : ByteArray) (l : List Ent) (hl : l.length ≤ 4398046511104) : ∀ (d i : Nat) (st : Bool × ByteArray × List Ent), i + d = l.length → st.2.2.length ≤ i →
    Ev (fun k => fold_given.l0 k l (l.length : Int) (i : Int) op lo hi st.1 st.2.1 st.2.2) ((l.drop i).foldl (gstep op lo hi) st) := by
  intro d
  induction d with
  | zero =>
    intro i st hi' hs
    rw [List.drop_eq_nil_of_le (by omega)]
    refine Ev.step (fun k => ?_) (Ev.now _)
    simp only [fold_given.l0]
    rw [if_neg (by omega)]
    rfl
  | succ d ih =>
    intro i st hi' hs
    have hlt : i < l.length := by omega
    have hg := gstep_len op lo hi st l[i]
    have ih' := ih (i + 1) (gstep op lo hi st l[i]) (by omega) (by omega)
    rw [List.drop_eq_getElem_cons hlt, List.foldl_cons]
    have hr := rdEnt hlt
    by_cases h4 : op = 4
    · subst h4
      by_cases hc : Op.bytesLess l[i].f0.toList lo.toList = false ∧ (hi.toList = [] ∨ Op.bytesLess l[i].f0.toList hi.toList = true)
      · have e : gstep 4 lo hi st l[i] = (st.1, st.2.1, st.2.2 ++ [l[i]]) := by unfold gstep; rw [if_pos rfl, if_pos hc]
        rw [e] at ih' ⊢
        refine Ev.step (f := fun k => fold_given.j1 k l (l.length : Int) (i : Int) true 4 lo hi st.1 st.2.1 st.2.2 l[i].f0 l[i].f1) (fun k => ?_) (Ev.step (fun k => ?_) ih')
        · simp only [fold_given.l0]
          rw [if_pos (by omega), if_pos (by omega), if_pos (by omega), if_pos trivial, hr, if_neg (by rw [hc.1]; decide)]
          by_cases hh : hi.toList = []
          · rw [if_pos hh]
          · rw [if_neg hh, hc.2.resolve_left hh]
        · simp only [fold_given.j1]
          rw [if_pos trivial, if_pos (by omega), wrap_up (by omega)]
      · have e : gstep 4 lo hi st l[i] = st := by unfold gstep; rw [if_pos rfl, if_neg hc]
        rw [e] at ih' ⊢
        refine Ev.step (f := fun k => fold_given.j1 k l (l.length : Int) (i : Int) false 4 lo hi st.1 st.2.1 st.2.2 l[i].f0 l[i].f1) (fun k => ?_) (Ev.step (f := fun k => fold_given.j2 k l (l.length : Int) (i : Int) false 4 lo hi st.1 st.2.1 st.2.2 l[i].f0 l[i].f1) (fun k => ?_) (Ev.step (fun k => ?_) ih'))
        · simp only [fold_given.l0]
          rw [if_pos (by omega), if_pos (by omega), if_pos (by omega), if_pos trivial, hr]
          by_cases hb : Op.bytesLess l[i].f0.toList lo.toList = true
          · rw [if_pos hb]
          · rw [if_neg hb]
            by_cases hh : hi.toList = []
            · exact absurd ⟨by simpa using hb, .inl hh⟩ hc
            · rw [if_neg hh]
              have : Op.bytesLess l[i].f0.toList hi.toList = false := by
                cases hx : Op.bytesLess l[i].f0.toList hi.toList
                · rfl
                · exact absurd ⟨by simpa using hb, .inr hx⟩ hc
              rw [this]
        · simp only [fold_given.j1]
          rw [if_neg (by simp), if_pos trivial]
        · simp only [fold_given.j2]
          rw [if_neg (by simp), wrap_up (by omega)]
    · have hl0 : ∀ k, fold_given.l0 (k + 1) l (l.length : Int) (i : Int) op lo hi st.1 st.2.1 st.2.2 = fold_given.j1 k l (l.length : Int) (i : Int) false op lo hi st.1 st.2.1 st.2.2 l[i].f0 l[i].f1 := fun k => by
        simp only [fold_given.l0]
        rw [if_pos (by omega), if_pos (by omega), if_pos (by omega), if_neg h4, hr]
      by_cases hk : l[i].f0.toList = lo.toList
      · have hkb : (l[i].f0.toList == lo.toList) = true := by simpa using hk
        have hj1 : ∀ k, fold_given.j1 (k + 1) l (l.length : Int) (i : Int) false op lo hi st.1 st.2.1 st.2.2 l[i].f0 l[i].f1 = fold_given.j2 k l (l.length : Int) (i : Int) true op lo hi st.1 st.2.1 st.2.2 l[i].f0 l[i].f1 := fun k => by
          simp only [fold_given.j1]
          rw [if_neg (by simp), if_neg h4, hkb]
        have e : gstep op lo hi st l[i] = (true, (if op = 1 then l[i].f1 else st.2.1), st.2.2) := by unfold gstep; rw [if_neg h4, if_pos hk]
        rw [e] at ih' ⊢
        refine Ev.step hl0 (Ev.step hj1 (Ev.step (fun k => ?_) ih'))
        simp only [fold_given.j2]
        rw [if_pos trivial, wrap_up (by omega)]
        by_cases h1 : op = 1
        · rw [if_pos h1, if_pos h1]
        · rw [if_neg h1, if_neg h1]
      · have hkb : (l[i].f0.toList == lo.toList) = false := by simpa using hk
        have hj1 : ∀ k, fold_given.j1 (k + 1) l (l.length : Int) (i : Int) false op lo hi st.1 st.2.1 st.2.2 l[i].f0 l[i].f1 = fold_given.j2 k l (l.length : Int) (i : Int) false op lo hi st.1 st.2.1 st.2.2 l[i].f0 l[i].f1 := fun k => by
          simp only [fold_given.j1]
          rw [if_neg (by simp), if_neg h4, hkb]
        have e : gstep op lo hi st l[i] = st := by unfold gstep; rw [if_neg h4, if_neg hk]
        rw [e] at ih' ⊢
        refine Ev.step hl0 (Ev.step hj1 (Ev.step (fun k => ?_) ih'))
        simp only [fold_given.j2]
        rw [if_neg (by simp), wrap_up (by omega)]

theorem fgiven_ev (op : Int) (lo hi : ByteArray) (l : List Ent) (hl : l.length ≤ 4398046511104) : Ev (fun k => fold_given.f k l op lo hi) (givenV op lo hi l) := by
  have h := given_pos op lo hi l hl l.length 0 (false, ⟨#[]⟩, []) (by omega) (by simp)
  rw [List.drop_zero] at h
  exact h
def neqE (a b : Ent) : Bool := !(a.f0.toList == b.f0.toList) || !(a.f1.toList == b.f1.toList)
def eqFrom (a b : List Ent) : Nat → Nat → Bool
  | 0, _ => true
  | d + 1, i => if neqE (rd_T103 a (i : Int)) (rd_T103 b (i : Int)) = true then false else eqFrom a b d (i + 1)
def sameV (g0 : Bool) (g1 : ByteArray) (g2 : List Ent) (x0 : Bool) (x1 : ByteArray) (x2 : List Ent) : Bool :=
  if (g0 == x0) = true then (if g1.toList = x1.toList then (if g2.length = x2.length then eqFrom g2 x2 g2.length 0 else false) else false) else false

theorem entry_l0 (a b : List Ent) (hab : a.length = b.length) (hl : a.length < 9223372036854775807) : ∀ (d i : Nat), i + d = a.length →
    Ev (fun k => api_Entry.l0 k a b (a.length : Int) (i : Int)) (eqFrom a b d i) := by
  intro d
  induction d with
  | zero =>
    intro i hi
    refine Ev.step (f := fun _ => some true) (fun k => ?_) (Ev.now _)
    simp only [api_Entry.l0]
    rw [if_neg (by omega)]
  | succ d ih =>
    intro i hi
    unfold eqFrom
    by_cases hn : neqE (rd_T103 a (i : Int)) (rd_T103 b (i : Int)) = true
    · rw [if_pos hn]
      refine Ev.step (f := fun _ => some false) (fun k => ?_) (Ev.now _)
      simp only [api_Entry.l0]
      rw [if_pos (by omega), if_pos (by omega), if_pos (by omega), if_pos (by omega), if_pos (by unfold neqE at hn; exact hn)]
    · rw [if_neg hn]
      refine Ev.step (fun k => ?_) (ih (i + 1) (by omega))
      simp only [api_Entry.l0]
      rw [if_pos (by omega), if_pos (by omega), if_pos (by omega), if_pos (by omega), if_neg (by unfold neqE at hn; exact hn), wrap_up (by omega)]
theorem fsame_ev (g0 : Bool) (g1 : ByteArray) (g2 : List Ent) (x0 : Bool) (x1 : ByteArray) (x2 : List Ent) (hl : g2.length < 9223372036854775807) : Ev (fun k => fold_same.f k g0 g1 g2 x0 x1 x2) (sameV g0 g1 g2 x0 x1 x2) := by
  unfold fold_same.f sameV api_Entry.f
  by_cases h0 : (g0 == x0) = true
  · rw [if_pos h0]
    refine ev_pos h0 ?_
    by_cases h1 : g1.toList = x1.toList
    · rw [if_pos h1]
      refine ev_pos h1 ?_
      by_cases h2 : g2.length = x2.length
      · rw [if_pos h2]
        exact Ev.bind (ev_pos (by omega) (entry_l0 g2 x2 h2 hl g2.length 0 (by omega))) (Ev.now _)
      · rw [if_neg h2]
        exact Ev.bind (a := false) (ev_neg (by omega) (Ev.now _)) (Ev.now _)
    · rw [if_neg h1]
      exact ev_neg h1 (Ev.now _)
  · rw [if_neg h0]
    exact ev_neg h0 (Ev.now _)

theorem mkE_len (m : List KV) : (m.map mkE).length = m.length := List.length_map _
theorem ag_l (l : List Rec) (op : Int) (lo hi : ByteArray) (x0 : Bool) (x1 : ByteArray) (x2 : List Ent) (fr : Int) (hl : l.length ≤ 1099511627775) : ∀ (d n : Nat), n + d = l.length + 1 →
    ∃ r : Int × Bool, Ev (fun k => agreesL k l op lo hi x0 x1 x2 fr (d + 1) n) r := by
  intro d
  induction d with
  | zero =>
    intro n hn
    refine ⟨(0, false), ?_⟩
    simp only [agreesL]
    exact ev_pos (by omega) (Ev.now _)
  | succ d ih =>
    intro n hn
    obtain ⟨r, hr⟩ := ih (n + 1) (by omega)
    have hblen := behindV_len _ (l.take n) rfl
    rw [List.length_take] at hblen
    have hF := fgiven_ev op lo hi ((behindV (l.take n)).map mkE) (by rw [mkE_len]; omega)
    have hglen := given_len op lo hi ((behindV (l.take n)).map mkE) (false, ⟨#[]⟩, [])
    have hgl : (givenV op lo hi ((behindV (l.take n)).map mkE)).2.2.length < 9223372036854775807 := by
      unfold givenV
      rw [mkE_len] at hglen
      simp only [List.length_nil] at hglen
      omega
    generalize givenV op lo hi ((behindV (l.take n)).map mkE) = g at hF hgl
    have hS := fsame_ev g.1 g.2.1 g.2.2 x0 x1 x2 hgl
    by_cases hf : fr ≤ (n : Int)
    · cases hs : sameV g.1 g.2.1 g.2.2 x0 x1 x2
      · rw [hs] at hS
        refine ⟨r, ?_⟩
        rw [show d + 1 + 1 = (d + 1) + 1 from rfl]
        simp only [agreesL]
        exact ev_neg (by omega) (ev_pos hf (Ev.bind hF (Ev.bind hS (ev_neg (by simp) hr))))
      · rw [hs] at hS
        refine ⟨((n : Int), true), ?_⟩
        simp only [agreesL]
        exact ev_neg (by omega) (ev_pos hf (Ev.bind hF (Ev.bind hS (ev_pos rfl (Ev.now _)))))
    · refine ⟨r, ?_⟩
      simp only [agreesL]
      exact ev_neg (by omega) (ev_neg hf hr)
theorem ag_total (h : List Rec) (op : Int) (lo hi : ByteArray) (x0 : Bool) (x1 : ByteArray) (x2 : List Ent) (fr : Int) (hl : h.length ≤ 1099511627775) : ∃ k r, fold_Agrees.f k h op lo hi x0 x1 x2 fr = some r := by
  have hlh := histV_len h
  have hh : fold_History.f h = some (histV h) := by unfold fold_History.f; rw [if_pos (by omega)]
  have key : ∃ r : Int × Bool, Ev (fun k => fold_Agrees.f k h op lo hi x0 x1 x2 fr) r := by
    unfold fold_Agrees.f
    rw [hh]
    by_cases h1 : op < 1
    · exact ⟨(0, false), ev_pos h1 (Ev.now _)⟩
    · by_cases h2 : 4 < op
      · exact ⟨(0, false), ev_neg h1 (ev_pos h2 (Ev.now _))⟩
      · obtain ⟨r, hr⟩ := ag_l (histV h) op lo hi x0 x1 x2 fr (by omega) ((histV h).length + 1) 0 (by omega)
        exact ⟨r, ev_neg h1 (ev_neg h2 (Ev.bind (a := histV h) (Ev.now _) (ev_pos (hist_small (by omega)) hr)))⟩
  obtain ⟨r, hr⟩ := key
  obtain ⟨k, hk⟩ := hr.rounds
  exact ⟨k, r, hk⟩

end Go.Proofs.Ytegfnceepplooaa.FM
