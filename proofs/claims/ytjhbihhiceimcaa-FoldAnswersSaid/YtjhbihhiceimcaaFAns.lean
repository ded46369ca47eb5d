/- What an operation gives of a map: the program's loop and the reference's come to the same. -/
import Derived.Test.YtjhbihhiceimcaaFSpeak
import Derived.Test.YtjhbihhiceimcaaPFAx15
import Derived.Test.YtjhbihhiceimcaaPFAx16
import Derived.Test.YtjhbihhiceimcaaPFAx17
set_option linter.unusedSimpArgs false
set_option linter.unusedVariables false
namespace Go.Proofs.Ytjhbihhiceimcaa.FM
open Go.RowKit Go.Proofs.Ytjhbihhiceimcaa.FMap Go.Proofs.Ytjhbihhiceimcaa.PFA Go.Proofs.YtjhbihhiceimcaaW.PrintWords Go.Proofs.YtjhbihhiceimcaaW.PrintLast

/-- What an entry adds to an operation's result. -/
def gstep (op : Int) (lo hi : ByteArray) (st : Bool × ByteArray × List Ent) (e : Ent) : Bool × ByteArray × List Ent :=
  if op = 4 then (if Op.bytesLess e.f0.toList lo.toList = false ∧ (hi.toList = [] ∨ Op.bytesLess e.f0.toList hi.toList = true) then (st.1, st.2.1, st.2.2 ++ [e]) else st)
  else (if e.f0.toList = lo.toList then (true, (if op = 1 then e.f1 else st.2.1), st.2.2) else st)
def givenV (op : Int) (lo hi : ByteArray) (l : List Ent) : Bool × ByteArray × List Ent := l.foldl (gstep op lo hi) (false, ⟨#[]⟩, [])

theorem gstep_len (op : Int) (lo hi : ByteArray) (st : Bool × ByteArray × List Ent) (e : Ent) : (gstep op lo hi st e).2.2.length ≤ st.2.2.length + 1 := by
  unfold gstep
  split
  · split
    · simp
    · omega
  · split
    · show st.2.2.length ≤ _; omega
    · omega
theorem given_len (op : Int) (lo hi : ByteArray) : ∀ (l : List Ent) (st : Bool × ByteArray × List Ent), (l.foldl (gstep op lo hi) st).2.2.length ≤ st.2.2.length + l.length
  | [], st => by simp
  | e :: r, st => by
    rw [List.foldl_cons, List.length_cons]
    have h1 := given_len op lo hi r (gstep op lo hi st e)
    have h2 := gstep_len op lo hi st e
    omega

theorem rdEnt {l : List Ent} {i : Nat} (h : i < l.length) : rd_T50 l (i : Int) = l[i] := by
  unfold rd_T50
  simp [h]

theorem given_pos (op : Int) (lo hi : ByteArray) (l : List Ent) (hl : l.length ≤ 4398046511104) : ∀ (d i : Nat) (st : Bool × ByteArray × List Ent), i + d = l.length → st.2.2.length ≤ i →
    Ev (fun k => fold_given.l0 k l (l.length : Int) (i : Int) op lo hi st.1 st.2.1 st.2.2) ((l.drop i).foldl (gstep op lo hi) st) := by
  intro d
  induction d with
  | zero =>
    intro i st hi' hs
    rw [List.drop_eq_nil_of_le (by omega)]
    refine Ev.step (fun k => ?_) (Ev.now _)
    simp only [fold_given.l0]
    rw [if_neg (by omega)]
    rfl
  | succ d ih =>
    intro i st hi' hs
    have hlt : i < l.length := by omega
    have hg := gstep_len op lo hi st l[i]
    have ih' := ih (i + 1) (gstep op lo hi st l[i]) (by omega) (by omega)
    rw [List.drop_eq_getElem_cons hlt, List.foldl_cons]
    have hr := rdEnt hlt
    by_cases h4 : op = 4
    · subst h4
      by_cases hc : Op.bytesLess l[i].f0.toList lo.toList = false ∧ (hi.toList = [] ∨ Op.bytesLess l[i].f0.toList hi.toList = true)
      · have e : gstep 4 lo hi st l[i] = (st.1, st.2.1, st.2.2 ++ [l[i]]) := by unfold gstep; rw [if_pos rfl, if_pos hc]
        rw [e] at ih' ⊢
        refine Ev.step (f := fun k => fold_given.j1 k l (l.length : Int) (i : Int) true 4 lo hi st.1 st.2.1 st.2.2 l[i].f0 l[i].f1) (fun k => ?_) (Ev.step (fun k => ?_) ih')
        · simp only [fold_given.l0]
          rw [if_pos (by omega), if_pos (by omega), if_pos (by omega), if_pos trivial, hr, if_neg (by rw [hc.1]; decide)]
          by_cases hh : hi.toList = []
          · rw [if_pos hh]
          · rw [if_neg hh, hc.2.resolve_left hh]
        · simp only [fold_given.j1]
          rw [if_pos trivial, if_pos (by omega), wrap_up (by omega)]
      · have e : gstep 4 lo hi st l[i] = st := by unfold gstep; rw [if_pos rfl, if_neg hc]
        rw [e] at ih' ⊢
        refine Ev.step (f := fun k => fold_given.j1 k l (l.length : Int) (i : Int) false 4 lo hi st.1 st.2.1 st.2.2 l[i].f0 l[i].f1) (fun k => ?_) (Ev.step (f := fun k => fold_given.j2 k l (l.length : Int) (i : Int) false 4 lo hi st.1 st.2.1 st.2.2 l[i].f0 l[i].f1) (fun k => ?_) (Ev.step (fun k => ?_) ih'))
        · simp only [fold_given.l0]
          rw [if_pos (by omega), if_pos (by omega), if_pos (by omega), if_pos trivial, hr]
          by_cases hb : Op.bytesLess l[i].f0.toList lo.toList = true
          · rw [if_pos hb]
          · rw [if_neg hb]
            by_cases hh : hi.toList = []
            · exact absurd ⟨by simpa using hb, .inl hh⟩ hc
            · rw [if_neg hh]
              have : Op.bytesLess l[i].f0.toList hi.toList = false := by
                cases hx : Op.bytesLess l[i].f0.toList hi.toList
                · rfl
                · exact absurd ⟨by simpa using hb, .inr hx⟩ hc
              rw [this]
        · simp only [fold_given.j1]
          rw [if_neg (by simp), if_pos trivial]
        · simp only [fold_given.j2]
          rw [if_neg (by simp), wrap_up (by omega)]
    · have hl0 : ∀ k, fold_given.l0 (k + 1) l (l.length : Int) (i : Int) op lo hi st.1 st.2.1 st.2.2 = fold_given.j1 k l (l.length : Int) (i : Int) false op lo hi st.1 st.2.1 st.2.2 l[i].f0 l[i].f1 := fun k => by
        simp only [fold_given.l0]
        rw [if_pos (by omega), if_pos (by omega), if_pos (by omega), if_neg h4, hr]
      by_cases hk : l[i].f0.toList = lo.toList
      · have hkb : (l[i].f0.toList == lo.toList) = true := by simpa using hk
        have hj1 : ∀ k, fold_given.j1 (k + 1) l (l.length : Int) (i : Int) false op lo hi st.1 st.2.1 st.2.2 l[i].f0 l[i].f1 = fold_given.j2 k l (l.length : Int) (i : Int) true op lo hi st.1 st.2.1 st.2.2 l[i].f0 l[i].f1 := fun k => by
          simp only [fold_given.j1]
          rw [if_neg (by simp), if_neg h4, hkb]
        have e : gstep op lo hi st l[i] = (true, (if op = 1 then l[i].f1 else st.2.1), st.2.2) := by unfold gstep; rw [if_neg h4, if_pos hk]
        rw [e] at ih' ⊢
        refine Ev.step hl0 (Ev.step hj1 (Ev.step (fun k => ?_) ih'))
        simp only [fold_given.j2]
        rw [if_pos trivial, wrap_up (by omega)]
        by_cases h1 : op = 1
        · rw [if_pos h1, if_pos h1]
        · rw [if_neg h1, if_neg h1]
      · have hkb : (l[i].f0.toList == lo.toList) = false := by simpa using hk
        have hj1 : ∀ k, fold_given.j1 (k + 1) l (l.length : Int) (i : Int) false op lo hi st.1 st.2.1 st.2.2 l[i].f0 l[i].f1 = fold_given.j2 k l (l.length : Int) (i : Int) false op lo hi st.1 st.2.1 st.2.2 l[i].f0 l[i].f1 := fun k => by
          simp only [fold_given.j1]
          rw [if_neg (by simp), if_neg h4, hkb]
        have e : gstep op lo hi st l[i] = st := by unfold gstep; rw [if_neg h4, if_neg hk]
        rw [e] at ih' ⊢
        refine Ev.step hl0 (Ev.step hj1 (Ev.step (fun k => ?_) ih'))
        simp only [fold_given.j2]
        rw [if_neg (by simp), wrap_up (by omega)]

theorem less_neg {a b : ByteArray} : cmpL (kb a) (kb b) < 0 ↔ Op.bytesLess a.toList b.toList = true := by rw [tl, tl]; exact cmpL_less _ _

theorem rgiven_pos (op : Int) (lo hi : ByteArray) (l : List Ent) (hl : l.length ≤ 4398046511104) (hz : ∀ e ∈ l, e.f0.size ≤ 140737488351232) : ∀ (d i : Nat) (st : Bool × ByteArray × List Ent), i + d = l.length → st.2.2.length ≤ i →
    Ev (fun k => latticeref18_Given.l0 k l (l.length : Int) (i : Int) op lo hi st.1 st.2.1 st.2.2) ((l.drop i).foldl (gstep op lo hi) st) := by
  intro d
  induction d with
  | zero =>
    intro i st hi' hs
    rw [List.drop_eq_nil_of_le (by omega)]
    refine Ev.step (fun k => ?_) (Ev.now _)
    simp only [latticeref18_Given.l0]
    rw [if_neg (by omega)]
    rfl
  | succ d ih =>
    intro i st hi' hs
    have hlt : i < l.length := by omega
    have hg := gstep_len op lo hi st l[i]
    have ih' := ih (i + 1) (gstep op lo hi st l[i]) (by omega) (by omega)
    rw [List.drop_eq_getElem_cons hlt, List.foldl_cons]
    have hr := rdEnt hlt
    have hsz := hz l[i] (List.getElem_mem hlt)
    have hc1 := compare_ev l[i].f0 lo (by omega)
    have hc2 := compare_ev l[i].f0 hi (by omega)
    have hn1 := @less_neg l[i].f0 lo
    have hn2 := @less_neg l[i].f0 hi
    have hw : wrap64 ((i : Int) + 1) = ((i + 1 : Nat) : Int) := wrap_up (by omega)
    by_cases h4 : op = 4
    · subst h4
      refine Ev.step (f := fun k => (latticeref05_Compare.f k l[i].f0 lo).bind fun t121 => (if t121 ≥ 0 then (if hi.toList = ([] : List UInt8) then (if st.2.2.length < 4398046511104 then (latticeref18_Given.l0 k l (l.length : Int) ((i + 1 : Nat) : Int) 4 lo hi st.1 st.2.1 (st.2.2 ++ [l[i]])) else (none)) else ((latticeref05_Compare.f k l[i].f0 hi).bind fun t125 => (if t125 < 0 then (if st.2.2.length < 4398046511104 then (latticeref18_Given.l0 k l (l.length : Int) ((i + 1 : Nat) : Int) 4 lo hi st.1 st.2.1 (st.2.2 ++ [l[i]])) else (none)) else (latticeref18_Given.l0 k l (l.length : Int) ((i + 1 : Nat) : Int) 4 lo hi st.1 st.2.1 st.2.2)))) else (latticeref18_Given.l0 k l (l.length : Int) ((i + 1 : Nat) : Int) 4 lo hi st.1 st.2.1 st.2.2))) (fun k => ?_) ?_
      · simp only [latticeref18_Given.l0]
        rw [if_pos (by omega), if_pos (by omega), if_pos (by omega), if_pos trivial, hr, hw]
      · refine Ev.bind hc1 ?_
        by_cases hb : Op.bytesLess l[i].f0.toList lo.toList = true
        · have e : gstep 4 lo hi st l[i] = st := by unfold gstep; rw [if_pos rfl, if_neg (by rw [hb]; simp)]
          rw [e] at ih' ⊢
          have := hn1.2 hb
          exact ev_neg (by omega) ih'
        · have hb0 : ¬ cmpL (kb l[i].f0) (kb lo) < 0 := fun h => hb (hn1.1 h)
          refine ev_pos (by omega) ?_
          by_cases hh : hi.toList = []
          · have e : gstep 4 lo hi st l[i] = (st.1, st.2.1, st.2.2 ++ [l[i]]) := by unfold gstep; rw [if_pos rfl, if_pos ⟨by simpa using hb, .inl hh⟩]
            rw [e] at ih' ⊢
            exact ev_pos hh (ev_pos (by omega) ih')
          · refine ev_neg hh (Ev.bind hc2 ?_)
            by_cases hx : Op.bytesLess l[i].f0.toList hi.toList = true
            · have e : gstep 4 lo hi st l[i] = (st.1, st.2.1, st.2.2 ++ [l[i]]) := by unfold gstep; rw [if_pos rfl, if_pos ⟨by simpa using hb, .inr hx⟩]
              rw [e] at ih' ⊢
              exact ev_pos (hn2.2 hx) (ev_pos (by omega) ih')
            · have e : gstep 4 lo hi st l[i] = st := by
                unfold gstep; rw [if_pos rfl, if_neg]
                intro h
                rcases h.2 with h | h
                · exact hh h
                · exact hx h
              rw [e] at ih' ⊢
              exact ev_neg (fun h => hx (hn2.1 h)) ih'
    · by_cases hk : l[i].f0.toList = lo.toList
      · have e : gstep op lo hi st l[i] = (true, (if op = 1 then l[i].f1 else st.2.1), st.2.2) := by unfold gstep; rw [if_neg h4, if_pos hk]
        rw [e] at ih' ⊢
        refine Ev.step (fun k => ?_) ih'
        simp only [latticeref18_Given.l0]
        rw [if_pos (by omega), if_pos (by omega), if_pos (by omega), if_neg h4, hr, hw, if_pos hk]
        by_cases h1 : op = 1
        · rw [if_pos h1, if_pos h1]
        · rw [if_neg h1, if_neg h1]
      · have e : gstep op lo hi st l[i] = st := by unfold gstep; rw [if_neg h4, if_neg hk]
        rw [e] at ih' ⊢
        refine Ev.step (fun k => ?_) ih'
        simp only [latticeref18_Given.l0]
        rw [if_pos (by omega), if_pos (by omega), if_pos (by omega), if_neg h4, hr, hw, if_neg hk]

theorem fgiven_ev (op : Int) (lo hi : ByteArray) (l : List Ent) (hl : l.length ≤ 4398046511104) : Ev (fun k => fold_given.f k l op lo hi) (givenV op lo hi l) := by
  have h := given_pos op lo hi l hl l.length 0 (false, ⟨#[]⟩, []) (by omega) (by simp)
  rw [List.drop_zero] at h
  exact h
theorem rgiven_ev (op : Int) (lo hi : ByteArray) (l : List Ent) (hl : l.length ≤ 4398046511104) (hz : ∀ e ∈ l, e.f0.size ≤ 140737488351232) : Ev (fun k => latticeref18_Given.f k l op lo hi) (givenV op lo hi l) := by
  have h := rgiven_pos op lo hi l hl hz l.length 0 (false, ⟨#[]⟩, []) (by omega) (by simp)
  rw [List.drop_zero] at h
  exact h

theorem entries_self (l : List Ent) (hl : l.length < 9223372036854775807) : Ev (fun k => latticeplain_Entries.f k l l) true := by
  have h : ∀ (d i : Nat), i + d = l.length → Ev (fun k => latticeplain_Entries.l0 k l l (l.length : Int) (i : Int)) true := by
    intro d
    induction d with
    | zero =>
      intro i hi
      refine Ev.step (f := fun _ => some true) (fun k => ?_) (Ev.now _)
      simp only [latticeplain_Entries.l0]
      rw [if_neg (by omega)]
    | succ d ih =>
      intro i hi
      refine Ev.step (fun k => ?_) (ih (i + 1) (by omega))
      simp only [latticeplain_Entries.l0]
      rw [if_pos (by omega), if_pos (by omega), if_pos (by omega), if_pos (by omega), if_neg (by simp), wrap_up (by omega)]
  unfold latticeplain_Entries.f
  exact ev_pos rfl (h l.length 0 (by omega))
theorem result_self (a : Bool) (b : ByteArray) (l : List Ent) (hl : l.length < 9223372036854775807) : Ev (fun k => latticeplain_Result.f k a b l a b l) true := by
  unfold latticeplain_Result.f
  exact ev_pos (by simp) (ev_pos rfl (Ev.bind (entries_self l hl) (Ev.now _)))

end Go.Proofs.Ytjhbihhiceimcaa.FM
