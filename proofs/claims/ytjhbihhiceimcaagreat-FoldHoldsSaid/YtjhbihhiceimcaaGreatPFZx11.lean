-- Printed by wip/tools/myprint.py (over the kit's print.py), with hand-written contracts; Lean checks all of it.
import Derived.Test.YtjhbihhiceimcaaGreatPFZx0
import Derived.Test.YtjhbihhiceimcaaGreatPFZx4
namespace Go.Proofs.YtjhbihhiceimcaaGreat.PFZ
open Go.RowKit Go.Proofs.YtjhbihhiceimcaaGreatW.PrintWords Go.Proofs.YtjhbihhiceimcaaGreatW.PrintLast Go.Proofs.YtjhbihhiceimcaaGreatW.PrintMore
attribute [local go_sem] max2_int min2_int max_two min_two max_three min_three max_four min_four   -- for this text's walks alone
set_option linter.unusedVariables false
set_option linter.unusedSimpArgs false

/-! ### fold_Once: function 19 -/
open Go.Maps
theorem keyI : Keyed Tryz.prog 3 := int_keyed Tryz.underlying3
theorem zeroB (w : World) : (zeroValue 4).run Tryz.prog w = .ok (.bool false) w := by kernel_rfl
noncomputable abbrev RB : Value → Option (DataW Unit × List MemPlace) := plainElem Tryz.prog 4
theorem pe_bool_inv {P : Program} {e : TypeId} (he : P.underlying e = some .bool) {v : Value} {z : DataW Unit × List MemPlace} (h : plainElem P e v = some z) : ∃ x, v = .bool x ∧ z = (.lit (.bool x), []) := by
  unfold plainElem at h
  rw [he] at h
  cases v <;> simp at h
  exact ⟨_, rfl, h.symm⟩
theorem plainElem_bool_inv' {v : Value} {z : DataW Unit × List MemPlace} (h : RB v = some z) : ∃ x, v = .bool x ∧ z = (.lit (.bool x), []) := pe_bool_inv Tryz.underlying4 h
/-- What the set says of each number. -/
def SeenD (D : DataW Unit) (L : List Int) : Prop := ∀ x, (Lit.int .i64 x).wf = true → D.atKey (.int .i64 x) (.lit (.bool false)) = .lit (.bool (decide (x ∈ L)))
theorem seen_nil : SeenD (.map []) [] := fun x _ => by simp [DataW.atKey]
theorem seen_put {D : DataW Unit} (hD : IsMap D) {L : List Int} (h : SeenD D L) {x : Int} (hx : (Lit.int .i64 x).wf = true) : SeenD (D.put (.int .i64 x) (.lit (.bool true))) (L ++ [x]) := fun y hy => by
  by_cases e : y = x
  · subst e
    rw [atKey_put_same hD (by trivial)]
    simp
  · rw [atKey_put_other (by intro h'; injection h' with _ h2; exact e h2), h y hy]
    simp [e]
theorem seen_run {w : World} {b n : Nat} {D : DataW Unit} (hown : w.ownsMap Tryz.prog 3 RB b n D) {L : List Int} (h : SeenD D L) {x : Int} (hx : (Lit.int .i64 x).wf = true) : (Instr.lookup 61 (.map (some b)) (.int .i64 x) false).run Tryz.prog w = .ok (.bool (decide (x ∈ L))) w := by
  obtain ⟨v, ps, hrun, hv⟩ := hown.lookup keyI Tryz.underlying61 (zeroB w) (plainElem_bool Tryz.underlying4 false) (keyOf_int_mk Tryz.underlying3 hx)
  obtain ⟨y, rfl, hy⟩ := plainElem_bool_inv' hv
  rw [h x hx] at hy
  simp only [Prod.mk.injEq, DataW.lit.injEq, Lit.bool.injEq] at hy
  rw [hrun, hy.1]
def onceV (l : List S51) : Bool := decide ((l.map (·.f5)).Nodup)
def okReq (l : List S51) : Bool := l.all (fun r => decide ((Lit.int .i64 r.f5).wf = true)) && decide (l.length ≤ 1099511627776)
theorem okReq_at {l : List S51} (h : okReq l = true) : l.length ≤ 1099511627776 ∧ ∀ r ∈ l, (Lit.int .i64 r.f5).wf = true := by
  unfold okReq at h
  rw [Bool.and_eq_true, decide_eq_true_eq, List.all_eq_true] at h
  exact ⟨h.2, fun r hr => by simpa using h.1 r hr⟩
theorem rd_memR {l : List S51} {j : Nat} (h : j < l.length) : rd_T51 l (j : Int) = l[j] := by unfold rd_T51; simp [h]
theorem once_dup {l : List S51} {j : Nat} (h : j < l.length) (hd : decide ((rd_T51 l (j : Int)).f5 ∈ (l.take j).map (·.f5)) = true) : onceV l = false := by
  unfold onceV
  rw [decide_eq_false_iff_not]
  intro hn
  rw [rd_memR h, decide_eq_true_eq] at hd
  obtain ⟨q, hq, he⟩ := List.mem_map.1 hd
  obtain ⟨i, hi, rfl⟩ := List.getElem_of_mem hq
  rw [List.length_take] at hi
  rw [List.getElem_take] at he
  have := (List.pairwise_iff_getElem.1 hn) i j (by simp; omega) (by simpa using h) (by omega)
  simp at this
  exact this he
theorem once_step {l : List S51} {j : Nat} (h : j < l.length) (hn : ((l.take j).map (·.f5)).Nodup) (hd : decide ((rd_T51 l (j : Int)).f5 ∈ (l.take j).map (·.f5)) = false) : ((l.take (j + 1)).map (·.f5)).Nodup ∧ (l.take (j + 1)).map (·.f5) = (l.take j).map (·.f5) ++ [(rd_T51 l (j : Int)).f5] := by
  have e : (l.take (j + 1)).map (·.f5) = (l.take j).map (·.f5) ++ [(rd_T51 l (j : Int)).f5] := by
    rw [List.take_succ_eq_append_getElem h, List.map_append, rd_memR h]; rfl
  refine ⟨?_, e⟩
  rw [e, List.nodup_append]
  refine ⟨hn, by simp, fun a ha b hb => ?_⟩
  simp at hb
  subst hb
  intro e2
  subst e2
  rw [decide_eq_false_iff_not] at hd
  exact hd ha
def fold_Once.f (l0 : List S51) : Option Bool := (fold_History.f l0).bind fun l => if okReq l = true then some (onceV l) else none
set_option maxHeartbeats 8000000 in
set_option maxRecDepth 100000 in
theorem fold_Once.calls (A0 : Option Addr) (c0 : Nat) (l0 : List (S51)) (r : Bool) (w : World) (hr0 : Kd.C k51 w A0 l0.length l0) (hc0 : l0.length ≤ c0) (h : fold_Once.f l0 = some r) :
    Calls Tryz.prog 19 #[.slice A0 l0.length c0] w fun e w' => e = .returned (.bool r) ∧ Below w.heap.size w w' := by
  unfold fold_Once.f at h
  have h9 := Option.bind_eq_some_iff.1 h
  clear h
  obtain ⟨l, hH, h⟩ := h9
  by_cases hs : okReq l = true
  · rw [if_pos hs] at h
    have HRES := Aside0.mk (Option.some.inj h)
    obtain ⟨hlen, hsz⟩ := okReq_at hs
    have cH := fold_History.calls A0 c0 l0 l (w.alloc (.map #[] 0)) (Kd.C_alloc hr0 _) hc0 hH
    have HSZ := Aside0.mk hsz
    have hmm := @run_makeMap Tryz.prog
    have hWs : (w.alloc (.map #[] 0)).heap.size = w.heap.size + 1 := by simp
    have HWS := Aside0.mk hWs
    clear hs hH hr0 hc0 hsz h hWs
    go_enter Tryz.func19, Tryz.ntmps19
    go_wp2_with fail
    refine cH.mono ?_
    rintro e w1 ⟨v, rfl, hR, hB⟩
    obtain ⟨A, c, rfl, hlc, _⟩ := Kd.R_reads hR
    have HR0 : Aside0 (Kd.R k51 51 w1 (w.alloc (.map #[] 0)).heap.size (fun k_ => k_ ≠ w.heap.size) (.slice A l.length c) l) := ⟨Kd.R_mono (Kd.R_bound hR) (fun k_ hk => by have := HWS.out; have := hk.2.1; omega)⟩
    have HB0 : Aside0 (Below w.heap.size w w1) := ⟨((Below.refl _ w).alloc (Nat.le_refl _) _).trans (hB.mono (by simp))⟩
    have HM0 : Aside0 (w1.ownsMap Tryz.prog 3 RB w.heap.size 0 (.map [])) := ⟨by
      obtain ⟨es, clock, h1, h2⟩ := World.ownsMap_made w Tryz.prog 3 RB
      exact ⟨es, clock, (hB.block _ (by simp)).trans h1, h2⟩⟩
    clear hR hB hlc cH
    go_wp2
    go_loopw [10] (fun i wr => ∃ j : Nat, j ≤ l.length ∧ i = .int .i64 j ∧ Aside0 (∃ D, wr.ownsMap Tryz.prog 3 RB w.heap.size j D ∧ SeenD D ((l.take j).map (·.f5))) ∧ Aside0 (((l.take j).map (·.f5)).Nodup) ∧ Aside0 (Kd.R k51 51 wr (w.alloc (.map #[] 0)).heap.size (fun k_ => k_ ≠ w.heap.size) (.slice A l.length c) l) ∧ Aside0 (Below w.heap.size w wr)) (fun i _ => l.length - (intOf i).toNat)
    case atStart => exact ⟨0, Nat.zero_le _, rfl, ⟨_, HM0.out, by rw [List.take_zero]; exact seen_nil⟩, ⟨by rw [List.take_zero]; exact List.nodup_nil⟩, HR0, HB0⟩
    case round =>
      clear HM0 HR0 HB0
      obtain ⟨j, hj, rfl, HM, HN, HR, HB⟩ := hrel
      by_cases hlt : j < l.length
      · obtain ⟨D, hown, hseen⟩ := HM.out
        have hx := HSZ.out (rd_T51 l (j : Int)) (by rw [rd_memR hlt]; exact List.getElem_mem hlt)
        have HD := Aside0.mk (once_dup hlt)
        have HST := Aside0.mk (once_step hlt HN.out)
        obtain ⟨ad, hA, g0, g1, g2, g3, g4, g5, g6, g7⟩ := at_T51 (Kd.R_reads' HR.out).2.2 (j : Int) (by omega) (by omega)
        rw [Int.toNat_natCast] at g0 g1 g2 g3 g4 g5 g6 g7
        subst hA
        have HX := Aside0.mk hx
        have HSE := Aside0.mk hseen
        have HOW := Aside0.mk hown
        clear hx hseen hown HM
        generalize rd_T51 l (j : Int) = q at HD HST HX g0 g1 g2 g3 g4 g5 g6 g7
        obtain ⟨q0, q1, q2, q3, q4, q5, q6, q7⟩ := q
        simp only at g0 g1 g2 g3 g4 g5 g6 g7
        have hrun := seen_run (HOW.out.alloc (.cells #[.int .i64 q0, .int .i64 q1, .int .i64 q2, .int .i64 q3, .int .i64 q4, .int .i64 q5, .string q6, .string q7] 51)) HSE.out HX.out
        have hkey : keyOf Tryz.prog 3 (.int .i64 q5) = some (.int .i64 q5) := keyOf_int_mk Tryz.underlying3 HX.out
        cases hd : decide (q5 ∈ (l.take j).map (·.f5))
        · have HD2 := Aside0.mk (HST.out hd)
          simp only [hd] at hrun
          clear hd
          go_wp2_with (at_mapUpdate; refine wpList_mapUpdate_own _ rfl _ _ _ 61 rfl 3 4 keyI Tryz.underlying61 _ w.heap.size j D rfl (HOW.out.alloc _) (by unfold maxLen; omega) _ _ _ rfl rfl hkey _ [] (plainElem_bool Tryz.underlying4 true) ?_; intro w2 hown2 hgrow2; have HO2 := Aside0.mk hown2; have HG2 := Aside0.mk hgrow2; clear hown2 hgrow2 hrun g0 g1 g2 g3 g4 g5 g6 g7)
          go_roundw
          case rel => exact ⟨j + 1, by omega, by go_num, ⟨_, HO2.out, by rw [HD2.out.2]; exact seen_put (World.ownsMap.isMap HOW.out) HSE.out HX.out⟩, ⟨HD2.out.1⟩, ⟨Kd.R_grown (Kd.R_alloc HR.out _) HG2.out (fun k_ hk_ he_ => hk_ (Option.some.inj he_))⟩, ⟨(HB.out.alloc HB.out.size _).grown HG2.out (by have := HB.out.size; simp; omega) (fun k_ hk_ => by cases hk_; exact Nat.le_refl _)⟩⟩
          case measure => simp [intOf]; omega
        · have HD2 := Aside0.mk (HD.out hd)
          simp only [hd] at hrun
          clear hd
          go_wp2
          go_ret
          exact ⟨by rw [← HRES.out, HD2.out]; rfl, HB.out.alloc HB.out.size _⟩
      · obtain rfl : j = l.length := by omega
        go_wp2
        go_ret
        exact ⟨by rw [← HRES.out]; unfold onceV; rw [decide_eq_true (by have := HN.out; rwa [List.take_length] at this)]; rfl, HB.out⟩
  · rw [if_neg hs] at h
    cases h


/-! ### latticelaw18_little: function 21 -/
theorem R_fresh {α : Type} (d : Kd α) (e : Nat) (W : World) (xs : List α) (inner : List Value) (hrep : ∀ ok, Reps (d.M (W.alloc (.cells inner.toArray e)) W.heap.size ok) d.sz xs inner) (hm : xs.length ≤ maxLen) : d.R e (W.alloc (.cells inner.toArray e)) W.heap.size (fun _ => True) (.slice (some ⟨W.heap.size, 0, none⟩) xs.length xs.length) xs :=
  ⟨fun _ _ => trivial, inner, by
    have h2 := World.ownsRow_lit (base := W.heap.size) (e := e) (size := d.sz) W inner.toArray xs.length (Nat.le_refl _) hm (by simpa using (hrep (fun _ => True)).1)
    simpa using h2, hrep _⟩
def littleR : List S51 := [⟨1, 0, 7, 0, 1, 1, ⟨#[97]⟩, ⟨#[120]⟩⟩, ⟨2, 0, 7, 0, 1, 2, ⟨#[98]⟩, ⟨#[121]⟩⟩, ⟨3, 0, 7, 0, 1, 3, ⟨#[97]⟩, ⟨#[122]⟩⟩, ⟨4, 0, 7, 0, 2, 4, ⟨#[98]⟩, ⟨#[]⟩⟩]
def littleV : List Value := [.int .i64 1, .int .i64 0, .int .i64 7, .int .i64 0, .int .i64 1, .int .i64 1, .string ⟨#[97]⟩, .string ⟨#[120]⟩, .int .i64 2, .int .i64 0, .int .i64 7, .int .i64 0, .int .i64 1, .int .i64 2, .string ⟨#[98]⟩, .string ⟨#[121]⟩, .int .i64 3, .int .i64 0, .int .i64 7, .int .i64 0, .int .i64 1, .int .i64 3, .string ⟨#[97]⟩, .string ⟨#[122]⟩, .int .i64 4, .int .i64 0, .int .i64 7, .int .i64 0, .int .i64 2, .int .i64 4, .string ⟨#[98]⟩, .string ⟨#[]⟩]
theorem little_R (W : World) : Kd.R k51 51 (W.alloc (.cells littleV.toArray 51)) W.heap.size (fun _ => True) (.slice (some ⟨W.heap.size, 0, none⟩) 4 4) littleR :=
  R_fresh k51 51 W littleR littleV (fun ok => Reps.c8 (k51_mkM _ _ _ _) (Reps.c8 (k51_mkM _ _ _ _) (Reps.c8 (k51_mkM _ _ _ _) (Reps.c8 (k51_mkM _ _ _ _) (Reps.none _ _))))) (by show 4 ≤ maxLen; unfold maxLen; omega)
def latticelaw18_little.f : Option (List S51) := some littleR
set_option maxHeartbeats 8000000 in
set_option maxRecDepth 100000 in
theorem latticelaw18_little.calls  (r : List (S51)) (w : World) (h : latticelaw18_little.f  = some r) :
    Calls Tryz.prog 21 #[] w fun e w' => ∃ v0_ : Value, e = .returned (v0_) ∧ Kd.R k51 51 w' w.heap.size (fun _ => True) v0_ r ∧ Below w.heap.size w w' := by
  unfold latticelaw18_little.f at h
  obtain rfl := Option.some.inj h
  clear h
  have hb : ∀ W : World, (Instr.buildSlice 22 4 #[(0, .agg #[.int .i64 1, .int .i64 0, .int .i64 7, .int .i64 0, .int .i64 1, .int .i64 1, .string ⟨#[97]⟩, .string ⟨#[120]⟩]), (1, .agg #[.int .i64 2, .int .i64 0, .int .i64 7, .int .i64 0, .int .i64 1, .int .i64 2, .string ⟨#[98]⟩, .string ⟨#[121]⟩]), (2, .agg #[.int .i64 3, .int .i64 0, .int .i64 7, .int .i64 0, .int .i64 1, .int .i64 3, .string ⟨#[97]⟩, .string ⟨#[122]⟩]), (3, .agg #[.int .i64 4, .int .i64 0, .int .i64 7, .int .i64 0, .int .i64 2, .int .i64 4, .string ⟨#[98]⟩, .string ⟨#[]⟩])]).run Tryz.prog W = .ok (.slice (some ⟨W.heap.size, 0, none⟩) 4 4) (W.alloc (.cells littleV.toArray 51)) := fun W => by as_aux_lemma => kernel_rfl
  go_enter Tryz.func21, Tryz.ntmps21
  go_wp2
  go_ret
  exact ⟨_, rfl, little_R w, (Below.refl _ _).alloc (Nat.le_refl _) _⟩


end Go.Proofs.YtjhbihhiceimcaaGreat.PFZ
