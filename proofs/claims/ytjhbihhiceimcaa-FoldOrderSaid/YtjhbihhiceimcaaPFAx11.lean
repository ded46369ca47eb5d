-- Printed by wip/tools/myprint.py (over the kit's print.py), with hand-written contracts; Lean checks all of it.
import Derived.Test.YtjhbihhiceimcaaPFAx0
import Derived.Test.YtjhbihhiceimcaaPFAx2
import Derived.Test.YtjhbihhiceimcaaPFAx3
import Derived.Test.YtjhbihhiceimcaaPFAx4
import Derived.Test.YtjhbihhiceimcaaPFAx5
import Derived.Test.YtjhbihhiceimcaaPFAx9
import Derived.Test.YtjhbihhiceimcaaPFAx10
namespace Go.Proofs.Ytjhbihhiceimcaa.PFA
open Go.RowKit Go.Proofs.YtjhbihhiceimcaaW.PrintWords Go.Proofs.YtjhbihhiceimcaaW.PrintLast Go.Proofs.YtjhbihhiceimcaaW.PrintMore
attribute [local go_sem] max2_int min2_int max_two min_two max_three min_three max_four min_four   -- for this text's walks alone
set_option linter.unusedVariables false
set_option linter.unusedSimpArgs false

/-! ### fold_Once: function 17 -/
open Go.Maps
theorem keyI : Keyed Try.prog 3 := int_keyed Try.underlying3
theorem zeroB (w : World) : (zeroValue 4).run Try.prog w = .ok (.bool false) w := by kernel_rfl
noncomputable abbrev RB : Value → Option (DataW Unit × List MemPlace) := plainElem Try.prog 4
theorem pe_bool_inv {P : Program} {e : TypeId} (he : P.underlying e = some .bool) {v : Value} {z : DataW Unit × List MemPlace} (h : plainElem P e v = some z) : ∃ x, v = .bool x ∧ z = (.lit (.bool x), []) := by
  unfold plainElem at h
  rw [he] at h
  cases v <;> simp at h
  exact ⟨_, rfl, h.symm⟩
theorem plainElem_bool_inv' {v : Value} {z : DataW Unit × List MemPlace} (h : RB v = some z) : ∃ x, v = .bool x ∧ z = (.lit (.bool x), []) := pe_bool_inv Try.underlying4 h
/-- What the set says of each number. -/
def SeenD (D : DataW Unit) (L : List Int) : Prop := ∀ x, (Lit.int .i64 x).wf = true → D.atKey (.int .i64 x) (.lit (.bool false)) = .lit (.bool (decide (x ∈ L)))
theorem seen_nil : SeenD (.map []) [] := fun x _ => by simp [DataW.atKey]
theorem seen_put {D : DataW Unit} (hD : IsMap D) {L : List Int} (h : SeenD D L) {x : Int} (hx : (Lit.int .i64 x).wf = true) : SeenD (D.put (.int .i64 x) (.lit (.bool true))) (L ++ [x]) := fun y hy => by
  by_cases e : y = x
  · subst e
    rw [atKey_put_same hD (by trivial)]
    simp
  · rw [atKey_put_other (by intro h'; injection h' with _ h2; exact e h2), h y hy]
    simp [e]
theorem seen_run {w : World} {b n : Nat} {D : DataW Unit} (hown : w.ownsMap Try.prog 3 RB b n D) {L : List Int} (h : SeenD D L) {x : Int} (hx : (Lit.int .i64 x).wf = true) : (Instr.lookup 61 (.map (some b)) (.int .i64 x) false).run Try.prog w = .ok (.bool (decide (x ∈ L))) w := by
  obtain ⟨v, ps, hrun, hv⟩ := hown.lookup keyI Try.underlying61 (zeroB w) (plainElem_bool Try.underlying4 false) (keyOf_int_mk Try.underlying3 hx)
  obtain ⟨y, rfl, hy⟩ := plainElem_bool_inv' hv
  rw [h x hx] at hy
  simp only [Prod.mk.injEq, DataW.lit.injEq, Lit.bool.injEq] at hy
  rw [hrun, hy.1]
def onceV (l : List S43) : Bool := decide ((l.map (·.f5)).Nodup)
def okReq (l : List S43) : Bool := l.all (fun r => decide ((Lit.int .i64 r.f5).wf = true)) && decide (l.length ≤ 1099511627776)
theorem okReq_at {l : List S43} (h : okReq l = true) : l.length ≤ 1099511627776 ∧ ∀ r ∈ l, (Lit.int .i64 r.f5).wf = true := by
  unfold okReq at h
  rw [Bool.and_eq_true, decide_eq_true_eq, List.all_eq_true] at h
  exact ⟨h.2, fun r hr => by simpa using h.1 r hr⟩
theorem rd_memR {l : List S43} {j : Nat} (h : j < l.length) : rd_T43 l (j : Int) = l[j] := by unfold rd_T43; simp [h]
theorem once_dup {l : List S43} {j : Nat} (h : j < l.length) (hd : decide ((rd_T43 l (j : Int)).f5 ∈ (l.take j).map (·.f5)) = true) : onceV l = false := by
  unfold onceV
  rw [decide_eq_false_iff_not]
  intro hn
  rw [rd_memR h, decide_eq_true_eq] at hd
  obtain ⟨q, hq, he⟩ := List.mem_map.1 hd
  obtain ⟨i, hi, rfl⟩ := List.getElem_of_mem hq
  rw [List.length_take] at hi
  rw [List.getElem_take] at he
  have := (List.pairwise_iff_getElem.1 hn) i j (by simp; omega) (by simpa using h) (by omega)
  simp at this
  exact this he
theorem once_step {l : List S43} {j : Nat} (h : j < l.length) (hn : ((l.take j).map (·.f5)).Nodup) (hd : decide ((rd_T43 l (j : Int)).f5 ∈ (l.take j).map (·.f5)) = false) : ((l.take (j + 1)).map (·.f5)).Nodup ∧ (l.take (j + 1)).map (·.f5) = (l.take j).map (·.f5) ++ [(rd_T43 l (j : Int)).f5] := by
  have e : (l.take (j + 1)).map (·.f5) = (l.take j).map (·.f5) ++ [(rd_T43 l (j : Int)).f5] := by
    rw [List.take_succ_eq_append_getElem h, List.map_append, rd_memR h]; rfl
  refine ⟨?_, e⟩
  rw [e, List.nodup_append]
  refine ⟨hn, by simp, fun a ha b hb => ?_⟩
  simp at hb
  subst hb
  intro e2
  subst e2
  rw [decide_eq_false_iff_not] at hd
  exact hd ha
def fold_Once.f (l0 : List S43) : Option Bool := (fold_History.f l0).bind fun l => if okReq l = true then some (onceV l) else none
set_option maxHeartbeats 8000000 in
set_option maxRecDepth 100000 in
theorem fold_Once.calls (A0 : Option Addr) (c0 : Nat) (l0 : List (S43)) (r : Bool) (w : World) (hr0 : Kd.C k43 w A0 l0.length l0) (hc0 : l0.length ≤ c0) (h : fold_Once.f l0 = some r) :
    Calls Try.prog 17 #[.slice A0 l0.length c0] w fun e w' => e = .returned (.bool r) ∧ Below w.heap.size w w' := by
  unfold fold_Once.f at h
  have h9 := Option.bind_eq_some_iff.1 h
  clear h
  obtain ⟨l, hH, h⟩ := h9
  by_cases hs : okReq l = true
  · rw [if_pos hs] at h
    have HRES := Aside0.mk (Option.some.inj h)
    obtain ⟨hlen, hsz⟩ := okReq_at hs
    have cH := fold_History.calls A0 c0 l0 l (w.alloc (.map #[] 0)) (Kd.C_alloc hr0 _) hc0 hH
    have HSZ := Aside0.mk hsz
    have hmm := @run_makeMap Try.prog
    have hWs : (w.alloc (.map #[] 0)).heap.size = w.heap.size + 1 := by simp
    have HWS := Aside0.mk hWs
    clear hs hH hr0 hc0 hsz h hWs
    go_enter Try.func17, Try.ntmps17
    go_wp2_with fail
    refine cH.mono ?_
    rintro e w1 ⟨v, rfl, hR, hB⟩
    obtain ⟨A, c, rfl, hlc, _⟩ := Kd.R_reads hR
    have HR0 : Aside0 (Kd.R k43 43 w1 (w.alloc (.map #[] 0)).heap.size (fun k_ => k_ ≠ w.heap.size) (.slice A l.length c) l) := ⟨Kd.R_mono (Kd.R_bound hR) (fun k_ hk => by have := HWS.out; have := hk.2.1; omega)⟩
    have HB0 : Aside0 (Below w.heap.size w w1) := ⟨((Below.refl _ w).alloc (Nat.le_refl _) _).trans (hB.mono (by simp))⟩
    have HM0 : Aside0 (w1.ownsMap Try.prog 3 RB w.heap.size 0 (.map [])) := ⟨by
      obtain ⟨es, clock, h1, h2⟩ := World.ownsMap_made w Try.prog 3 RB
      exact ⟨es, clock, (hB.block _ (by simp)).trans h1, h2⟩⟩
    clear hR hB hlc cH
    go_wp2
    go_loopw [10] (fun i wr => ∃ j : Nat, j ≤ l.length ∧ i = .int .i64 j ∧ Aside0 (∃ D, wr.ownsMap Try.prog 3 RB w.heap.size j D ∧ SeenD D ((l.take j).map (·.f5))) ∧ Aside0 (((l.take j).map (·.f5)).Nodup) ∧ Aside0 (Kd.R k43 43 wr (w.alloc (.map #[] 0)).heap.size (fun k_ => k_ ≠ w.heap.size) (.slice A l.length c) l) ∧ Aside0 (Below w.heap.size w wr)) (fun i _ => l.length - (intOf i).toNat)
    case atStart => exact ⟨0, Nat.zero_le _, rfl, ⟨_, HM0.out, by rw [List.take_zero]; exact seen_nil⟩, ⟨by rw [List.take_zero]; exact List.nodup_nil⟩, HR0, HB0⟩
    case round =>
      clear HM0 HR0 HB0
      obtain ⟨j, hj, rfl, HM, HN, HR, HB⟩ := hrel
      by_cases hlt : j < l.length
      · obtain ⟨D, hown, hseen⟩ := HM.out
        have hx := HSZ.out (rd_T43 l (j : Int)) (by rw [rd_memR hlt]; exact List.getElem_mem hlt)
        have HD := Aside0.mk (once_dup hlt)
        have HST := Aside0.mk (once_step hlt HN.out)
        obtain ⟨ad, hA, g0, g1, g2, g3, g4, g5, g6, g7⟩ := at_T43 (Kd.R_reads' HR.out).2.2 (j : Int) (by omega) (by omega)
        rw [Int.toNat_natCast] at g0 g1 g2 g3 g4 g5 g6 g7
        subst hA
        have HX := Aside0.mk hx
        have HSE := Aside0.mk hseen
        have HOW := Aside0.mk hown
        clear hx hseen hown HM
        generalize rd_T43 l (j : Int) = q at HD HST HX g0 g1 g2 g3 g4 g5 g6 g7
        obtain ⟨q0, q1, q2, q3, q4, q5, q6, q7⟩ := q
        simp only at g0 g1 g2 g3 g4 g5 g6 g7
        have hrun := seen_run (HOW.out.alloc (.cells #[.int .i64 q0, .int .i64 q1, .int .i64 q2, .int .i64 q3, .int .i64 q4, .int .i64 q5, .string q6, .string q7] 43)) HSE.out HX.out
        have hkey : keyOf Try.prog 3 (.int .i64 q5) = some (.int .i64 q5) := keyOf_int_mk Try.underlying3 HX.out
        cases hd : decide (q5 ∈ (l.take j).map (·.f5))
        · have HD2 := Aside0.mk (HST.out hd)
          simp only [hd] at hrun
          clear hd
          go_wp2_with (at_mapUpdate; refine wpList_mapUpdate_own _ rfl _ _ _ 61 rfl 3 4 keyI Try.underlying61 _ w.heap.size j D rfl (HOW.out.alloc _) (by unfold maxLen; omega) _ _ _ rfl rfl hkey _ [] (plainElem_bool Try.underlying4 true) ?_; intro w2 hown2 hgrow2; have HO2 := Aside0.mk hown2; have HG2 := Aside0.mk hgrow2; clear hown2 hgrow2 hrun g0 g1 g2 g3 g4 g5 g6 g7)
          go_roundw
          case rel => exact ⟨j + 1, by omega, by go_num, ⟨_, HO2.out, by rw [HD2.out.2]; exact seen_put (World.ownsMap.isMap HOW.out) HSE.out HX.out⟩, ⟨HD2.out.1⟩, ⟨Kd.R_grown (Kd.R_alloc HR.out _) HG2.out (fun k_ hk_ he_ => hk_ (Option.some.inj he_))⟩, ⟨(HB.out.alloc HB.out.size _).grown HG2.out (by have := HB.out.size; simp; omega) (fun k_ hk_ => by cases hk_; exact Nat.le_refl _)⟩⟩
          case measure => simp [intOf]; omega
        · have HD2 := Aside0.mk (HD.out hd)
          simp only [hd] at hrun
          clear hd
          go_wp2
          go_ret
          exact ⟨by rw [← HRES.out, HD2.out]; rfl, HB.out.alloc HB.out.size _⟩
      · obtain rfl : j = l.length := by omega
        go_wp2
        go_ret
        exact ⟨by rw [← HRES.out]; unfold onceV; rw [decide_eq_true (by have := HN.out; rwa [List.take_length] at this)]; rfl, HB.out⟩
  · rw [if_neg hs] at h
    cases h


/-! ### latticelaw18_speaks: function 7 -/
open Go.Proofs.Ytjhbihhiceimcaa.FMap
theorem little_isC : ∀ r ∈ littleR, isC r = true := by
  intro r hr
  simp only [littleR, List.mem_cons, List.not_mem_nil, or_false] at hr
  rcases hr with rfl | rfl | rfl | rfl <;> simp [isC, commitOk, okB, okA, bareV, keyOk, reqOk, Go.ByteArray.toList_eq, ByteArray.size]
theorem little_hist : histV littleR = littleR := List.filter_eq_self.2 little_isC
theorem little_hist2 : histV (littleR.take 2) = littleR.take 2 := List.filter_eq_self.2 (fun r hr => little_isC r (List.mem_of_mem_take hr))
theorem little_H : fold_History.f littleR = some littleR := by unfold fold_History.f; rw [if_pos (by decide), little_hist]
theorem little_H2 : fold_History.f (littleR.take 2) = some (littleR.take 2) := by unfold fold_History.f; rw [if_pos (by decide), little_hist2]
def littleE : List S50 := [⟨⟨#[97]⟩, ⟨#[122]⟩⟩]
theorem little_lit (W : World) : Kd.R k50 50 (W.alloc (.cells #[.string ⟨#[97]⟩, .string ⟨#[122]⟩] 50)) W.heap.size (fun _ => True) (.slice (some ⟨W.heap.size, 0, none⟩) 1 1) littleE :=
  R_fresh k50 50 W littleE [.string ⟨#[97]⟩, .string ⟨#[122]⟩] (fun ok => Reps.c2 (k50_mkM _ _ _ _) (Reps.none _ _)) (by show 1 ≤ maxLen; unfold maxLen; omega)
theorem little_small : smallR littleR = true := by unfold smallR maxLen; decide
theorem little_B : fold_Behind.f littleR 4 = some (littleE, 0) := by
  unfold fold_Behind.f
  rw [little_H, Option.bind_some, if_pos little_small, if_neg (by decide), if_neg (by decide)]
  rfl
theorem little_O : fold_Once.f littleR = some true := by
  unfold fold_Once.f
  rw [little_H, Option.bind_some, if_pos (by decide)]
  rfl
theorem neqR_self (x : S43) : neqR x x = false := by simp [neqR]
theorem little_X : fold_Extends.f littleR (littleR.take 2) = some true := by
  unfold fold_Extends.f
  rw [little_H, little_H2, Option.bind_some, Option.bind_some, if_pos (by decide)]
  congr 1
  refine extB_yes (by decide) (fun i hi => ?_)
  have : i = 0 ∨ i = 1 := by
    have : i < 2 := hi
    omega
  rcases this with rfl | rfl <;> exact neqR_self _
def latticelaw18_speaks.f (k : Nat) : Option Bool := if fold_Agrees.f k littleR 1 ⟨#[97]⟩ ⟨#[]⟩ true ⟨#[122]⟩ [] 0 = some (3, true) then (if latticeplain_Entries.f k littleE littleE = some true then some true else none) else none
theorem latticelaw18_speaks.mono : ∀ k, LeO (latticelaw18_speaks.f k) (latticelaw18_speaks.f (k + 1)) := fun k r h => by
  unfold latticelaw18_speaks.f at h ⊢
  by_cases h1 : fold_Agrees.f k littleR 1 ⟨#[97]⟩ ⟨#[]⟩ true ⟨#[122]⟩ [] 0 = some (3, true)
  · rw [if_pos h1] at h
    rw [if_pos (fold_Agrees.mono _ _ _ _ _ _ _ _ k _ h1)]
    by_cases h2 : latticeplain_Entries.f k littleE littleE = some true
    · rw [if_pos h2] at h
      rw [if_pos (latticeplain_Entries.mono _ _ k _ h2)]
      exact h
    · rw [if_neg h2] at h; cases h
  · rw [if_neg h1] at h; cases h
set_option maxHeartbeats 8000000 in
set_option maxRecDepth 100000 in
theorem latticelaw18_speaks.calls (k : Nat) (r : Bool) (w : World) (ht_ : Aside0 (r = true)) (h : latticelaw18_speaks.f k = some r) :
    Calls Try.prog 7 #[] w fun e w' => e = .returned (.bool r) ∧ Below w.heap.size w w' := by
  unfold latticelaw18_speaks.f at h
  obtain rfl := ht_.out
  by_cases h1 : fold_Agrees.f k littleR 1 ⟨#[97]⟩ ⟨#[]⟩ true ⟨#[122]⟩ [] 0 = some (3, true)
  · rw [if_pos h1] at h
    by_cases h2 : latticeplain_Entries.f k littleE littleE = some true
    · have H1 := Aside0.mk h1
      have H2 := Aside0.mk h2
      clear h h1 h2 ht_
      go_enter Try.func7, Try.ntmps7
      go_wp2_with fail
      refine (latticelaw18_little.calls littleR w rfl).mono ?_
      rintro e w1 ⟨v, rfl, hR, hB⟩
      obtain ⟨A1, c1, rfl, hl1, hC1⟩ := Kd.R_reads hR
      have cB := fold_Behind.calls A1 c1 littleR 4 littleE 0 w1 hC1 hl1 little_B
      have HB1 := Aside0.mk hB
      clear hR hB hl1 hC1
      go_wp2_with fail
      refine cB.mono ?_
      rintro e w2 ⟨v, rfl, hR, hB⟩
      obtain ⟨A2, c2, rfl, hl2, hC2⟩ := Kd.R_reads hR
      have HB2 : Aside0 (Below w.heap.size w w2) := ⟨HB1.out.trans (hB.mono HB1.out.size)⟩
      have HC2 := Aside0.mk hC2
      have HL2 := Aside0.mk hl2
      clear hR hB hl2 hC2 cB
      go_wp2_with fail
      refine (latticelaw18_little.calls littleR w2 rfl).mono ?_
      rintro e w3 ⟨v, rfl, hR, hB⟩
      obtain ⟨A3, c3, rfl, hl3, hC3⟩ := Kd.R_reads hR
      have cG := fold_Agrees.calls k A3 c3 littleR 1 ⟨#[97]⟩ ⟨#[]⟩ true ⟨#[122]⟩ none 0 [] 0 3 true w3 hC3 hl3 (Kd.C_nil _ _) (Nat.le_refl _) H1.out
      have HB3 := Aside0.mk hB
      clear hR hB hl3 hC3
      go_wp2_with fail
      refine cG.mono ?_
      rintro e w4 ⟨rfl, hB⟩
      have HB4 : Aside0 (Below w2.heap.size w2 w4) := ⟨HB3.out.trans (hB.mono HB3.out.size)⟩
      clear hB cG
      go_wp2_with fail
      have hl := (Kd.R_reads' (little_lit w4)).2.2
      have cP := latticeplain_Entries.calls k A2 c2 littleE _ 1 littleE true _ (Kd.C_alloc (Kd.C_below HC2.out HB4.out) _) HL2.out hl (Nat.le_refl _) H2.out
      refine cP.mono ?_
      rintro e w5 ⟨rfl, hB⟩
      have hB4 := HB2.out.trans (HB4.out.mono HB2.out.size)
      have hB4a := hB4.alloc hB4.size (.cells #[.string ⟨#[97]⟩, .string ⟨#[122]⟩] 50)
      have HB5 : Aside0 (Below w.heap.size w w5) := ⟨hB4a.trans (hB.below.mono hB4a.size)⟩
      clear hB cP hl hB4 hB4a HC2 HL2 HB4 HB3 HB2 HB1
      go_wp2_with fail
      refine (latticelaw18_little.calls littleR w5 rfl).mono ?_
      rintro e w6 ⟨v, rfl, hR, hB⟩
      obtain ⟨A6, c6, rfl, hl6, hC6⟩ := Kd.R_reads hR
      have cO := fold_Once.calls A6 c6 littleR true w6 hC6 hl6 little_O
      have HB6 : Aside0 (Below w.heap.size w w6) := ⟨HB5.out.trans (hB.mono HB5.out.size)⟩
      clear hR hB hl6 hC6 HB5
      go_wp2_with fail
      refine cO.mono ?_
      rintro e w7 ⟨rfl, hB⟩
      have HB7 : Aside0 (Below w.heap.size w w7) := ⟨HB6.out.trans (hB.mono HB6.out.size)⟩
      clear hB cO HB6
      go_wp2_with fail
      refine (latticelaw18_little.calls littleR w7 rfl).mono ?_
      rintro e w8 ⟨v, rfl, hR, hB⟩
      obtain ⟨A8, c8, rfl, hl8, hC8⟩ := Kd.R_reads hR
      have HC8 := Aside0.mk hC8
      have HL8 := Aside0.mk hl8
      have HB8 : Aside0 (Below w.heap.size w w8) := ⟨HB7.out.trans (hB.mono HB7.out.size)⟩
      clear hR hB hl8 hC8 HB7
      go_wp2_with fail
      refine (latticelaw18_little.calls littleR w8 rfl).mono ?_
      rintro e w9 ⟨v, rfl, hR, hB⟩
      obtain ⟨A9, c9, rfl, hl9, hC9⟩ := Kd.R_reads hR
      have hl9' : 4 ≤ c9 := hl9
      have cX := fold_Extends.calls A8 c8 littleR A9 c9 (littleR.take 2) true w9 (Kd.C_below HC8.out hB) HL8.out (Kd.C_take hC9 (by decide)) (by show 2 ≤ c9; omega) little_X
      have HB9 : Aside0 (Below w.heap.size w w9) := ⟨HB8.out.trans (hB.mono HB8.out.size)⟩
      clear hR hB hl9 hC9 HB8 HC8 HL8
      go_wp2_with fail
      refine cX.mono ?_
      rintro e w10 ⟨rfl, hB⟩
      have HB10 : Aside0 (Below w.heap.size w w10) := ⟨HB9.out.trans (hB.mono HB9.out.size)⟩
      clear hB cX HB9
      go_wp2
      go_ret
      exact ⟨rfl, HB10.out⟩
    · rw [if_neg h2] at h; cases h
  · rw [if_neg h1] at h; cases h


end Go.Proofs.Ytjhbihhiceimcaa.PFA
