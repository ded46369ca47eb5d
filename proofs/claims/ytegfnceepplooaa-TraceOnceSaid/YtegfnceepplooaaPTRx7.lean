-- Printed by wip/tools/myprint.py (over the kit's print.py), with hand-written contracts; Lean checks all of it.
import Derived.Test.YtegfnceepplooaaPTRx0
import Derived.Test.YtegfnceepplooaaPTRx3
namespace Go.Proofs.Ytegfnceepplooaa.PTR
open Go.RowKit Go.Proofs.YtegfnceepplooaaW.PrintWords Go.Proofs.YtegfnceepplooaaW.PrintLast Go.Proofs.YtegfnceepplooaaW.PrintMore
attribute [local go_sem] max2_int min2_int max_two min_two max_three min_three max_four min_four   -- for this text's walks alone
set_option linter.unusedVariables false
set_option linter.unusedSimpArgs false

/-! ### fold_Place: function 33 -/
/-- Where a request's first record stands; the length: nowhere. -/
def reqIdx (req : Int) (l : List S50) : Nat := l.findIdx (fun r => r.f5 == req)
def placeV (l : List S50) (req : Int) : Int × Bool := if reqIdx req l < l.length then ((reqIdx req l : Int), true) else (0, false)
theorem rdP {l : List S50} {i : Nat} (h : i < l.length) : rd_T50 l (i : Int) = l[i] := by
  unfold rd_T50
  simp [h]
theorem reqIdx_hit {l : List S50} {req : Int} {i : Nat} (h : i < l.length) (hp : ((rd_T50 l (i : Int)).f5 == req) = true) (hn : ∀ j, j < i → ((rd_T50 l (j : Int)).f5 == req) = false) : reqIdx req l = i := by
  unfold reqIdx
  rw [List.findIdx_eq h]
  refine ⟨by rw [← rdP h]; exact hp, fun j hj => ?_⟩
  have := hn j hj
  rwa [rdP (by omega)] at this
theorem reqIdx_miss {l : List S50} {req : Int} (hn : ∀ j, j < l.length → ((rd_T50 l (j : Int)).f5 == req) = false) : reqIdx req l = l.length := by
  unfold reqIdx
  rw [List.findIdx_eq_length]
  intro x hx
  obtain ⟨j, hj, rfl⟩ := List.getElem_of_mem hx
  have := hn j hj
  rwa [rdP hj] at this
def idxV (req : Int) (l : List S50) : Int := if reqIdx req l < l.length then (reqIdx req l : Int) else -1
theorem idxV_hit {l : List S50} {req : Int} {i : Nat} (h : i < l.length) (hp : ((rd_T50 l (i : Int)).f5 == req) = true) (hn : ∀ j, j < i → ((rd_T50 l (j : Int)).f5 == req) = false) : idxV req l = (i : Int) := by
  unfold idxV
  rw [reqIdx_hit h hp hn, if_pos h]
theorem idxV_miss {l : List S50} {req : Int} (hn : ∀ j, j < l.length → ((rd_T50 l (j : Int)).f5 == req) = false) : idxV req l = -1 := by
  unfold idxV
  rw [reqIdx_miss hn, if_neg (by omega)]
theorem closure_any (bx : Nat) (req q0 q1 q2 q3 q4 q5 : Int) (q6 q7 : ByteArray) (W : World) (hx : W.cell? ⟨bx, 0, none⟩ = some (.int .i64 req)) :
    Calls Try.prog 38 (#[.agg #[.int .i64 q0, .int .i64 q1, .int .i64 q2, .int .i64 q3, .int .i64 q4, .int .i64 q5, .string q6, .string q7]] ++ #[.pointer (some ⟨bx, 0, none⟩)]) W fun e w' => e = .returned (.bool (q5 == req)) ∧ Below W.heap.size W w' := by
  have hlt : bx < W.heap.size := World.block_lt_of_cell? W _ hx
  have hne : bx ≠ W.heap.size := Nat.ne_of_lt hlt
  go_enter Try.func38, Try.ntmps38
  go_wp2
  go_ret
  exact ⟨rfl, (Below.refl _ _).alloc (Nat.le_refl _) _⟩
theorem index_any (bx : Nat) (A : Option Addr) (c : Nat) (l : List S50) (req : Int) (w : World) (hx : w.cell? ⟨bx, 0, none⟩ = some (.int .i64 req)) (hC : Kd.C k50 w A l.length l) (hn : l.length ≤ 1099511627776) :
    Calls Try.prog 37 #[.slice A l.length c, .func (.func 38) #[] #[.pointer (some ⟨bx, 0, none⟩)]] w fun e w' => e = .returned (.int .i64 (idxV req l)) ∧ Below w.heap.size w w' := by
  have eg : ∀ args w, (callFunc 38 args).run Try.prog w = .ok (.enter 38 args) w := enters_of Try.func38 (by kernel_rfl) rfl
  have HX : Aside0 (∀ W, Below w.heap.size w W → W.cell? ⟨bx, 0, none⟩ = some (.int .i64 req)) := ⟨fun W hW => (hW.cell (p := ⟨bx, 0, none⟩) (World.block_lt_of_cell? w _ hx)).trans hx⟩
  have HC := Aside0.mk hC
  clear hx hC
  go_enter Try.func37, Try.ntmps37
  go_wp2
  go_loopw [8] (fun i wr => ∃ j : Nat, j ≤ l.length ∧ i = .int .i64 j ∧ Aside0 (∀ q, q < j → ((rd_T50 l (q : Int)).f5 == req) = false) ∧ Aside0 (Below w.heap.size w wr)) (fun i _ => l.length - (intOf i).toNat)
  case atStart => exact ⟨0, Nat.zero_le _, rfl, ⟨fun q hq => by omega⟩, ⟨Below.refl _ _⟩⟩
  case round =>
    obtain ⟨j, hj, rfl, HG, HW⟩ := hrel
    by_cases hlt : j < l.length
    · obtain ⟨ad, hA, g0, g1, g2, g3, g4, g5, g6, g7⟩ := at_T50 (Kd.C_below HC.out HW.out) (j : Int) (by omega) (by omega)
      rw [Int.toNat_natCast] at g0 g1 g2 g3 g4 g5 g6 g7
      subst hA
      have HH := Aside0.mk (fun h => idxV_hit (req := req) hlt h HG.out)
      have HST : Aside0 (((rd_T50 l (j : Int)).f5 == req) = false → ∀ q, q < j + 1 → ((rd_T50 l (q : Int)).f5 == req) = false) := ⟨fun h q hq => by
        by_cases e : q = j
        · subst e; exact h
        · exact HG.out q (by omega)⟩
      have cC := fun q0 q1 q2 q3 q4 q5 q6 q7 => closure_any bx req q0 q1 q2 q3 q4 q5 q6 q7 wr (HX.out wr HW.out)
      clear HG
      generalize rd_T50 l (j : Int) = q at HH HST g0 g1 g2 g3 g4 g5 g6 g7
      obtain ⟨q0, q1, q2, q3, q4, q5, q6, q7⟩ := q
      simp only at g0 g1 g2 g3 g4 g5 g6 g7
      have cC := cC q0 q1 q2 q3 q4 q5 q6 q7
      cases hq : (q5 == req)
      · have HS := Aside0.mk (HST.out hq)
        rw [hq] at cC
        clear HH HST hq
        go_wp2_with (go_at_fn 38; refine cC.mono ?_; rintro e w' ⟨rfl, hb'⟩)
        go_roundw
        case rel => exact ⟨j + 1, by omega, by go_num, HS, ⟨HW.out.trans (hb'.mono HW.out.size)⟩⟩
        case measure => first | (simp [intOf]; done) | (simp [intOf]; omega)
      · have HS := Aside0.mk (HH.out hq)
        rw [hq] at cC
        clear HH HST hq
        go_wp2_with (go_at_fn 38; refine cC.mono ?_; rintro e w' ⟨rfl, hb'⟩)
        go_ret
        exact ⟨by rw [HS.out]; rfl, HW.out.trans (hb'.mono HW.out.size)⟩
    · obtain rfl : j = l.length := by omega
      have HM := Aside0.mk (idxV_miss HG.out)
      go_wp2
      go_ret
      exact ⟨by rw [HM.out]; rfl, HW.out⟩
def fold_Place.f (l0 : List S50) (a1 : Int) : Option (Int × Bool) := (fold_History.f l0).bind fun l => if l.length ≤ 1099511627776 then some (placeV l a1) else none
set_option maxHeartbeats 8000000 in
set_option maxRecDepth 100000 in
theorem fold_Place.calls (A0 : Option Addr) (c0 : Nat) (l0 : List (S50)) (a1 : Int) (r1 : Int) (r2 : Bool) (w : World) (hr0 : Kd.C k50 w A0 l0.length l0) (hc0 : l0.length ≤ c0) (h : fold_Place.f l0 a1 = some (r1, r2)) :
    Calls Try.prog 33 #[.slice A0 l0.length c0, .int .i64 a1] w fun e w' => e = .returned (.tuple #[.int .i64 r1, .bool r2]) ∧ Below w.heap.size w w' := by
  unfold fold_Place.f at h
  have h9 := Option.bind_eq_some_iff.1 h
  clear h
  obtain ⟨l, hH, h⟩ := h9
  by_cases hl : l.length ≤ 1099511627776
  · rw [if_pos hl] at h
    have HRES := Aside0.mk (Option.some.inj h)
    obtain ⟨W0, hW0⟩ : ∃ W0, W0 = w.alloc (.cells #[.int .i64 a1] 3) := ⟨_, rfl⟩
    have hB0 : Below w.heap.size w W0 := by rw [hW0]; exact (Below.refl _ w).alloc (Nat.le_refl _) _
    have hx : W0.cell? ⟨w.heap.size, 0, none⟩ = some (.int .i64 a1) := by rw [hW0]; simp
    have cH := fold_History.calls A0 c0 l0 l W0 (Kd.C_below hr0 hB0) hc0 hH
    have HX := Aside0.mk hx
    have HB0 := Aside0.mk hB0
    clear h hH hr0 hc0 hx hB0
    go_enter Try.func33, Try.ntmps33
    go_wp2_with fail
    rw [← hW0]
    refine cH.mono ?_
    rintro e w1 ⟨va, rfl, hRa, hB1⟩
    obtain ⟨Aa, ca, rfl, hca, hCa⟩ := Kd.R_reads hRa
    have cX := index_any w.heap.size Aa ca l a1 w1 ((hB1.cell (p := ⟨w.heap.size, 0, none⟩) (World.block_lt_of_cell? W0 _ HX.out)).trans HX.out) hCa hl
    have HB1 : Aside0 (Below w.heap.size w w1) := ⟨HB0.out.trans (hB1.mono HB0.out.size)⟩
    clear hRa hB1 hCa cH hca
    by_cases hi : reqIdx a1 l < l.length
    · have HP : Aside0 (placeV l a1 = ((reqIdx a1 l : Int), true)) := ⟨by unfold placeV; rw [if_pos hi]⟩
      have hv : idxV a1 l = (reqIdx a1 l : Int) := by unfold idxV; rw [if_pos hi]
      rw [hv] at cX
      have hib : reqIdx a1 l ≤ 1099511627776 := by omega
      clear hv hi
      generalize reqIdx a1 l = i at cX HP hib
      go_wp2_with (go_at_call 37; refine cX.mono ?_; rintro e w2 ⟨rfl, hB2⟩; have HB2 : Aside0 (Below w.heap.size w w2) := ⟨HB1.out.trans (hB2.mono HB1.out.size)⟩; clear hB2)
      go_ret2
      exact ⟨by have := HRES.out; rw [HP.out] at this; cases this; rfl, HB2.out⟩
    · have HP : Aside0 (placeV l a1 = (0, false)) := ⟨by unfold placeV; rw [if_neg hi]⟩
      have hv : idxV a1 l = -1 := by unfold idxV; rw [if_neg hi]
      rw [hv] at cX
      clear hv hi
      go_wp2_with (go_at_call 37; refine cX.mono ?_; rintro e w2 ⟨rfl, hB2⟩; have HB2 : Aside0 (Below w.heap.size w w2) := ⟨HB1.out.trans (hB2.mono HB1.out.size)⟩; clear hB2)
      go_ret2
      exact ⟨by have := HRES.out; rw [HP.out] at this; cases this; rfl, HB2.out⟩
  · rw [if_neg hl] at h
    cases h


/-! ### fold_Once: function 26 -/
open Go.Maps
theorem keyI : Keyed Try.prog 3 := int_keyed Try.underlying3
theorem zeroB (w : World) : (zeroValue 4).run Try.prog w = .ok (.bool false) w := by kernel_rfl
noncomputable abbrev RB : Value → Option (DataW Unit × List MemPlace) := plainElem Try.prog 4
theorem pe_bool_inv {P : Program} {e : TypeId} (he : P.underlying e = some .bool) {v : Value} {z : DataW Unit × List MemPlace} (h : plainElem P e v = some z) : ∃ x, v = .bool x ∧ z = (.lit (.bool x), []) := by
  unfold plainElem at h
  rw [he] at h
  cases v <;> simp at h
  exact ⟨_, rfl, h.symm⟩
theorem plainElem_bool_inv' {v : Value} {z : DataW Unit × List MemPlace} (h : RB v = some z) : ∃ x, v = .bool x ∧ z = (.lit (.bool x), []) := pe_bool_inv Try.underlying4 h
/-- What the set says of each number. -/
def SeenD (D : DataW Unit) (L : List Int) : Prop := ∀ x, (Lit.int .i64 x).wf = true → D.atKey (.int .i64 x) (.lit (.bool false)) = .lit (.bool (decide (x ∈ L)))
theorem seen_nil : SeenD (.map []) [] := fun x _ => by simp [DataW.atKey]
theorem seen_put {D : DataW Unit} (hD : IsMap D) {L : List Int} (h : SeenD D L) {x : Int} (hx : (Lit.int .i64 x).wf = true) : SeenD (D.put (.int .i64 x) (.lit (.bool true))) (L ++ [x]) := fun y hy => by
  by_cases e : y = x
  · subst e
    rw [atKey_put_same hD (by trivial)]
    simp
  · rw [atKey_put_other (by intro h'; injection h' with _ h2; exact e h2), h y hy]
    simp [e]
theorem seen_run {w : World} {b n : Nat} {D : DataW Unit} (hown : w.ownsMap Try.prog 3 RB b n D) {L : List Int} (h : SeenD D L) {x : Int} (hx : (Lit.int .i64 x).wf = true) : (Instr.lookup 57 (.map (some b)) (.int .i64 x) false).run Try.prog w = .ok (.bool (decide (x ∈ L))) w := by
  obtain ⟨v, ps, hrun, hv⟩ := hown.lookup keyI Try.underlying57 (zeroB w) (plainElem_bool Try.underlying4 false) (keyOf_int_mk Try.underlying3 hx)
  obtain ⟨y, rfl, hy⟩ := plainElem_bool_inv' hv
  rw [h x hx] at hy
  simp only [Prod.mk.injEq, DataW.lit.injEq, Lit.bool.injEq] at hy
  rw [hrun, hy.1]
def onceV (l : List S50) : Bool := decide ((l.map (·.f5)).Nodup)
def okReq (l : List S50) : Bool := l.all (fun r => decide ((Lit.int .i64 r.f5).wf = true)) && decide (l.length ≤ 1099511627776)
theorem okReq_at {l : List S50} (h : okReq l = true) : l.length ≤ 1099511627776 ∧ ∀ r ∈ l, (Lit.int .i64 r.f5).wf = true := by
  unfold okReq at h
  rw [Bool.and_eq_true, decide_eq_true_eq, List.all_eq_true] at h
  exact ⟨h.2, fun r hr => by simpa using h.1 r hr⟩
theorem rd_memR {l : List S50} {j : Nat} (h : j < l.length) : rd_T50 l (j : Int) = l[j] := by unfold rd_T50; simp [h]
theorem once_dup {l : List S50} {j : Nat} (h : j < l.length) (hd : decide ((rd_T50 l (j : Int)).f5 ∈ (l.take j).map (·.f5)) = true) : onceV l = false := by
  unfold onceV
  rw [decide_eq_false_iff_not]
  intro hn
  rw [rd_memR h, decide_eq_true_eq] at hd
  obtain ⟨q, hq, he⟩ := List.mem_map.1 hd
  obtain ⟨i, hi, rfl⟩ := List.getElem_of_mem hq
  rw [List.length_take] at hi
  rw [List.getElem_take] at he
  have := (List.pairwise_iff_getElem.1 hn) i j (by simp; omega) (by simpa using h) (by omega)
  simp at this
  exact this he
theorem once_step {l : List S50} {j : Nat} (h : j < l.length) (hn : ((l.take j).map (·.f5)).Nodup) (hd : decide ((rd_T50 l (j : Int)).f5 ∈ (l.take j).map (·.f5)) = false) : ((l.take (j + 1)).map (·.f5)).Nodup ∧ (l.take (j + 1)).map (·.f5) = (l.take j).map (·.f5) ++ [(rd_T50 l (j : Int)).f5] := by
  have e : (l.take (j + 1)).map (·.f5) = (l.take j).map (·.f5) ++ [(rd_T50 l (j : Int)).f5] := by
    rw [List.take_succ_eq_append_getElem h, List.map_append, rd_memR h]; rfl
  refine ⟨?_, e⟩
  rw [e, List.nodup_append]
  refine ⟨hn, by simp, fun a ha b hb => ?_⟩
  simp at hb
  subst hb
  intro e2
  subst e2
  rw [decide_eq_false_iff_not] at hd
  exact hd ha
def fold_Once.f (l0 : List S50) : Option Bool := (fold_History.f l0).bind fun l => if okReq l = true then some (onceV l) else none
set_option maxHeartbeats 8000000 in
set_option maxRecDepth 100000 in
theorem fold_Once.calls (A0 : Option Addr) (c0 : Nat) (l0 : List (S50)) (r : Bool) (w : World) (hr0 : Kd.C k50 w A0 l0.length l0) (hc0 : l0.length ≤ c0) (h : fold_Once.f l0 = some r) :
    Calls Try.prog 26 #[.slice A0 l0.length c0] w fun e w' => e = .returned (.bool r) ∧ Below w.heap.size w w' := by
  unfold fold_Once.f at h
  have h9 := Option.bind_eq_some_iff.1 h
  clear h
  obtain ⟨l, hH, h⟩ := h9
  by_cases hs : okReq l = true
  · rw [if_pos hs] at h
    have HRES := Aside0.mk (Option.some.inj h)
    obtain ⟨hlen, hsz⟩ := okReq_at hs
    have cH := fold_History.calls A0 c0 l0 l (w.alloc (.map #[] 0)) (Kd.C_alloc hr0 _) hc0 hH
    have HSZ := Aside0.mk hsz
    have hmm := @run_makeMap Try.prog
    have hWs : (w.alloc (.map #[] 0)).heap.size = w.heap.size + 1 := by simp
    have HWS := Aside0.mk hWs
    clear hs hH hr0 hc0 hsz h hWs
    go_enter Try.func26, Try.ntmps26
    go_wp2_with fail
    refine cH.mono ?_
    rintro e w1 ⟨v, rfl, hR, hB⟩
    obtain ⟨A, c, rfl, hlc, _⟩ := Kd.R_reads hR
    have HR0 : Aside0 (Kd.R k50 50 w1 (w.alloc (.map #[] 0)).heap.size (fun k_ => k_ ≠ w.heap.size) (.slice A l.length c) l) := ⟨Kd.R_mono (Kd.R_bound hR) (fun k_ hk => by have := HWS.out; have := hk.2.1; omega)⟩
    have HB0 : Aside0 (Below w.heap.size w w1) := ⟨((Below.refl _ w).alloc (Nat.le_refl _) _).trans (hB.mono (by simp))⟩
    have HM0 : Aside0 (w1.ownsMap Try.prog 3 RB w.heap.size 0 (.map [])) := ⟨by
      obtain ⟨es, clock, h1, h2⟩ := World.ownsMap_made w Try.prog 3 RB
      exact ⟨es, clock, (hB.block _ (by simp)).trans h1, h2⟩⟩
    clear hR hB hlc cH
    go_wp2
    go_loopw [10] (fun i wr => ∃ j : Nat, j ≤ l.length ∧ i = .int .i64 j ∧ Aside0 (∃ D, wr.ownsMap Try.prog 3 RB w.heap.size j D ∧ SeenD D ((l.take j).map (·.f5))) ∧ Aside0 (((l.take j).map (·.f5)).Nodup) ∧ Aside0 (Kd.R k50 50 wr (w.alloc (.map #[] 0)).heap.size (fun k_ => k_ ≠ w.heap.size) (.slice A l.length c) l) ∧ Aside0 (Below w.heap.size w wr)) (fun i _ => l.length - (intOf i).toNat)
    case atStart => exact ⟨0, Nat.zero_le _, rfl, ⟨_, HM0.out, by rw [List.take_zero]; exact seen_nil⟩, ⟨by rw [List.take_zero]; exact List.nodup_nil⟩, HR0, HB0⟩
    case round =>
      clear HM0 HR0 HB0
      obtain ⟨j, hj, rfl, HM, HN, HR, HB⟩ := hrel
      by_cases hlt : j < l.length
      · obtain ⟨D, hown, hseen⟩ := HM.out
        have hx := HSZ.out (rd_T50 l (j : Int)) (by rw [rd_memR hlt]; exact List.getElem_mem hlt)
        have HD := Aside0.mk (once_dup hlt)
        have HST := Aside0.mk (once_step hlt HN.out)
        obtain ⟨ad, hA, g0, g1, g2, g3, g4, g5, g6, g7⟩ := at_T50 (Kd.R_reads' HR.out).2.2 (j : Int) (by omega) (by omega)
        rw [Int.toNat_natCast] at g0 g1 g2 g3 g4 g5 g6 g7
        subst hA
        have HX := Aside0.mk hx
        have HSE := Aside0.mk hseen
        have HOW := Aside0.mk hown
        clear hx hseen hown HM
        generalize rd_T50 l (j : Int) = q at HD HST HX g0 g1 g2 g3 g4 g5 g6 g7
        obtain ⟨q0, q1, q2, q3, q4, q5, q6, q7⟩ := q
        simp only at g0 g1 g2 g3 g4 g5 g6 g7
        have hrun := seen_run (HOW.out.alloc (.cells #[.int .i64 q0, .int .i64 q1, .int .i64 q2, .int .i64 q3, .int .i64 q4, .int .i64 q5, .string q6, .string q7] 50)) HSE.out HX.out
        have hkey : keyOf Try.prog 3 (.int .i64 q5) = some (.int .i64 q5) := keyOf_int_mk Try.underlying3 HX.out
        cases hd : decide (q5 ∈ (l.take j).map (·.f5))
        · have HD2 := Aside0.mk (HST.out hd)
          simp only [hd] at hrun
          clear hd
          go_wp2_with (at_mapUpdate; refine wpList_mapUpdate_own _ rfl _ _ _ 57 rfl 3 4 keyI Try.underlying57 _ w.heap.size j D rfl (HOW.out.alloc _) (by unfold maxLen; omega) _ _ _ rfl rfl hkey _ [] (plainElem_bool Try.underlying4 true) ?_; intro w2 hown2 hgrow2; have HO2 := Aside0.mk hown2; have HG2 := Aside0.mk hgrow2; clear hown2 hgrow2 hrun g0 g1 g2 g3 g4 g5 g6 g7)
          go_roundw
          case rel => exact ⟨j + 1, by omega, by go_num, ⟨_, HO2.out, by rw [HD2.out.2]; exact seen_put (World.ownsMap.isMap HOW.out) HSE.out HX.out⟩, ⟨HD2.out.1⟩, ⟨Kd.R_grown (Kd.R_alloc HR.out _) HG2.out (fun k_ hk_ he_ => hk_ (Option.some.inj he_))⟩, ⟨(HB.out.alloc HB.out.size _).grown HG2.out (by have := HB.out.size; simp; omega) (fun k_ hk_ => by cases hk_; exact Nat.le_refl _)⟩⟩
          case measure => simp [intOf]; omega
        · have HD2 := Aside0.mk (HD.out hd)
          simp only [hd] at hrun
          clear hd
          go_wp2
          go_ret
          exact ⟨by rw [← HRES.out, HD2.out]; rfl, HB.out.alloc HB.out.size _⟩
      · obtain rfl : j = l.length := by omega
        go_wp2
        go_ret
        exact ⟨by rw [← HRES.out]; unfold onceV; rw [decide_eq_true (by have := HN.out; rwa [List.take_length] at this)]; rfl, HB.out⟩
  · rw [if_neg hs] at h
    cases h


end Go.Proofs.Ytegfnceepplooaa.PTR
