-- Printed by wip/tools/myprint.py (over the kit's print.py), with hand-written contracts; Lean checks all of it.
import Derived.Test.YtjhbihhiceimcaaGreatPFZx0
import Derived.Test.YtjhbihhiceimcaaGreatPFZx4
import Derived.Test.YtjhbihhiceimcaaGreatPFZx15
namespace Go.Proofs.YtjhbihhiceimcaaGreat.PFZ
open Go.RowKit Go.Proofs.YtjhbihhiceimcaaGreatW.PrintWords Go.Proofs.YtjhbihhiceimcaaGreatW.PrintLast Go.Proofs.YtjhbihhiceimcaaGreatW.PrintMore
attribute [local go_sem] max2_int min2_int max_two min_two max_three min_three max_four min_four   -- for this text's walks alone
set_option linter.unusedVariables false
set_option linter.unusedSimpArgs false

/-! ### fold_Place: function 15 -/
/-- Where a request's first record stands; the length: nowhere. -/
def reqIdx (req : Int) (l : List S51) : Nat := l.findIdx (fun r => r.f5 == req)
def placeV (l : List S51) (req : Int) : Int × Bool := if reqIdx req l < l.length then ((reqIdx req l : Int), true) else (0, false)
theorem rdP {l : List S51} {i : Nat} (h : i < l.length) : rd_T51 l (i : Int) = l[i] := by
  unfold rd_T51
  simp [h]
theorem reqIdx_hit {l : List S51} {req : Int} {i : Nat} (h : i < l.length) (hp : ((rd_T51 l (i : Int)).f5 == req) = true) (hn : ∀ j, j < i → ((rd_T51 l (j : Int)).f5 == req) = false) : reqIdx req l = i := by
  unfold reqIdx
  rw [List.findIdx_eq h]
  refine ⟨by rw [← rdP h]; exact hp, fun j hj => ?_⟩
  have := hn j hj
  rwa [rdP (by omega)] at this
theorem reqIdx_miss {l : List S51} {req : Int} (hn : ∀ j, j < l.length → ((rd_T51 l (j : Int)).f5 == req) = false) : reqIdx req l = l.length := by
  unfold reqIdx
  rw [List.findIdx_eq_length]
  intro x hx
  obtain ⟨j, hj, rfl⟩ := List.getElem_of_mem hx
  have := hn j hj
  rwa [rdP hj] at this
def idxV (req : Int) (l : List S51) : Int := if reqIdx req l < l.length then (reqIdx req l : Int) else -1
theorem idxV_hit {l : List S51} {req : Int} {i : Nat} (h : i < l.length) (hp : ((rd_T51 l (i : Int)).f5 == req) = true) (hn : ∀ j, j < i → ((rd_T51 l (j : Int)).f5 == req) = false) : idxV req l = (i : Int) := by
  unfold idxV
  rw [reqIdx_hit h hp hn, if_pos h]
theorem idxV_miss {l : List S51} {req : Int} (hn : ∀ j, j < l.length → ((rd_T51 l (j : Int)).f5 == req) = false) : idxV req l = -1 := by
  unfold idxV
  rw [reqIdx_miss hn, if_neg (by omega)]
theorem closure_any (bx : Nat) (req q0 q1 q2 q3 q4 q5 : Int) (q6 q7 : ByteArray) (W : World) (hx : W.cell? ⟨bx, 0, none⟩ = some (.int .i64 req)) :
    Calls Tryz.prog 32 (#[.agg #[.int .i64 q0, .int .i64 q1, .int .i64 q2, .int .i64 q3, .int .i64 q4, .int .i64 q5, .string q6, .string q7]] ++ #[.pointer (some ⟨bx, 0, none⟩)]) W fun e w' => e = .returned (.bool (q5 == req)) ∧ Below W.heap.size W w' := by
  have hlt : bx < W.heap.size := World.block_lt_of_cell? W _ hx
  have hne : bx ≠ W.heap.size := Nat.ne_of_lt hlt
  go_enter Tryz.func32, Tryz.ntmps32
  go_wp2
  go_ret
  exact ⟨rfl, (Below.refl _ _).alloc (Nat.le_refl _) _⟩
theorem index_any (bx : Nat) (A : Option Addr) (c : Nat) (l : List S51) (req : Int) (w : World) (hx : w.cell? ⟨bx, 0, none⟩ = some (.int .i64 req)) (hC : Kd.C k51 w A l.length l) (hn : l.length ≤ 1099511627776) :
    Calls Tryz.prog 31 #[.slice A l.length c, .func (.func 32) #[] #[.pointer (some ⟨bx, 0, none⟩)]] w fun e w' => e = .returned (.int .i64 (idxV req l)) ∧ Below w.heap.size w w' := by
  have eg : ∀ args w, (callFunc 32 args).run Tryz.prog w = .ok (.enter 32 args) w := enters_of Tryz.func32 (by kernel_rfl) rfl
  have HX : Aside0 (∀ W, Below w.heap.size w W → W.cell? ⟨bx, 0, none⟩ = some (.int .i64 req)) := ⟨fun W hW => (hW.cell (p := ⟨bx, 0, none⟩) (World.block_lt_of_cell? w _ hx)).trans hx⟩
  have HC := Aside0.mk hC
  clear hx hC
  go_enter Tryz.func31, Tryz.ntmps31
  go_wp2
  go_loopw [8] (fun i wr => ∃ j : Nat, j ≤ l.length ∧ i = .int .i64 j ∧ Aside0 (∀ q, q < j → ((rd_T51 l (q : Int)).f5 == req) = false) ∧ Aside0 (Below w.heap.size w wr)) (fun i _ => l.length - (intOf i).toNat)
  case atStart => exact ⟨0, Nat.zero_le _, rfl, ⟨fun q hq => by omega⟩, ⟨Below.refl _ _⟩⟩
  case round =>
    obtain ⟨j, hj, rfl, HG, HW⟩ := hrel
    by_cases hlt : j < l.length
    · obtain ⟨ad, hA, g0, g1, g2, g3, g4, g5, g6, g7⟩ := at_T51 (Kd.C_below HC.out HW.out) (j : Int) (by omega) (by omega)
      rw [Int.toNat_natCast] at g0 g1 g2 g3 g4 g5 g6 g7
      subst hA
      have HH := Aside0.mk (fun h => idxV_hit (req := req) hlt h HG.out)
      have HST : Aside0 (((rd_T51 l (j : Int)).f5 == req) = false → ∀ q, q < j + 1 → ((rd_T51 l (q : Int)).f5 == req) = false) := ⟨fun h q hq => by
        by_cases e : q = j
        · subst e; exact h
        · exact HG.out q (by omega)⟩
      have cC := fun q0 q1 q2 q3 q4 q5 q6 q7 => closure_any bx req q0 q1 q2 q3 q4 q5 q6 q7 wr (HX.out wr HW.out)
      clear HG
      generalize rd_T51 l (j : Int) = q at HH HST g0 g1 g2 g3 g4 g5 g6 g7
      obtain ⟨q0, q1, q2, q3, q4, q5, q6, q7⟩ := q
      simp only at g0 g1 g2 g3 g4 g5 g6 g7
      have cC := cC q0 q1 q2 q3 q4 q5 q6 q7
      cases hq : (q5 == req)
      · have HS := Aside0.mk (HST.out hq)
        rw [hq] at cC
        clear HH HST hq
        go_wp2_with (go_at_fn 32; refine cC.mono ?_; rintro e w' ⟨rfl, hb'⟩)
        go_roundw
        case rel => exact ⟨j + 1, by omega, by go_num, HS, ⟨HW.out.trans (hb'.mono HW.out.size)⟩⟩
        case measure => first | (simp [intOf]; done) | (simp [intOf]; omega)
      · have HS := Aside0.mk (HH.out hq)
        rw [hq] at cC
        clear HH HST hq
        go_wp2_with (go_at_fn 32; refine cC.mono ?_; rintro e w' ⟨rfl, hb'⟩)
        go_ret
        exact ⟨by rw [HS.out]; rfl, HW.out.trans (hb'.mono HW.out.size)⟩
    · obtain rfl : j = l.length := by omega
      have HM := Aside0.mk (idxV_miss HG.out)
      go_wp2
      go_ret
      exact ⟨by rw [HM.out]; rfl, HW.out⟩
def fold_Place.f (l0 : List S51) (a1 : Int) : Option (Int × Bool) := (fold_History.f l0).bind fun l => if l.length ≤ 1099511627776 then some (placeV l a1) else none
set_option maxHeartbeats 8000000 in
set_option maxRecDepth 100000 in
theorem fold_Place.calls (A0 : Option Addr) (c0 : Nat) (l0 : List (S51)) (a1 : Int) (r1 : Int) (r2 : Bool) (w : World) (hr0 : Kd.C k51 w A0 l0.length l0) (hc0 : l0.length ≤ c0) (h : fold_Place.f l0 a1 = some (r1, r2)) :
    Calls Tryz.prog 15 #[.slice A0 l0.length c0, .int .i64 a1] w fun e w' => e = .returned (.tuple #[.int .i64 r1, .bool r2]) ∧ Below w.heap.size w w' := by
  unfold fold_Place.f at h
  have h9 := Option.bind_eq_some_iff.1 h
  clear h
  obtain ⟨l, hH, h⟩ := h9
  by_cases hl : l.length ≤ 1099511627776
  · rw [if_pos hl] at h
    have HRES := Aside0.mk (Option.some.inj h)
    obtain ⟨W0, hW0⟩ : ∃ W0, W0 = w.alloc (.cells #[.int .i64 a1] 3) := ⟨_, rfl⟩
    have hB0 : Below w.heap.size w W0 := by rw [hW0]; exact (Below.refl _ w).alloc (Nat.le_refl _) _
    have hx : W0.cell? ⟨w.heap.size, 0, none⟩ = some (.int .i64 a1) := by rw [hW0]; simp
    have cH := fold_History.calls A0 c0 l0 l W0 (Kd.C_below hr0 hB0) hc0 hH
    have HX := Aside0.mk hx
    have HB0 := Aside0.mk hB0
    clear h hH hr0 hc0 hx hB0
    go_enter Tryz.func15, Tryz.ntmps15
    go_wp2_with fail
    rw [← hW0]
    refine cH.mono ?_
    rintro e w1 ⟨va, rfl, hRa, hB1⟩
    obtain ⟨Aa, ca, rfl, hca, hCa⟩ := Kd.R_reads hRa
    have cX := index_any w.heap.size Aa ca l a1 w1 ((hB1.cell (p := ⟨w.heap.size, 0, none⟩) (World.block_lt_of_cell? W0 _ HX.out)).trans HX.out) hCa hl
    have HB1 : Aside0 (Below w.heap.size w w1) := ⟨HB0.out.trans (hB1.mono HB0.out.size)⟩
    clear hRa hB1 hCa cH hca
    by_cases hi : reqIdx a1 l < l.length
    · have HP : Aside0 (placeV l a1 = ((reqIdx a1 l : Int), true)) := ⟨by unfold placeV; rw [if_pos hi]⟩
      have hv : idxV a1 l = (reqIdx a1 l : Int) := by unfold idxV; rw [if_pos hi]
      rw [hv] at cX
      have hib : reqIdx a1 l ≤ 1099511627776 := by omega
      clear hv hi
      generalize reqIdx a1 l = i at cX HP hib
      go_wp2_with (go_at_call 31; refine cX.mono ?_; rintro e w2 ⟨rfl, hB2⟩; have HB2 : Aside0 (Below w.heap.size w w2) := ⟨HB1.out.trans (hB2.mono HB1.out.size)⟩; clear hB2)
      go_ret2
      exact ⟨by have := HRES.out; rw [HP.out] at this; cases this; rfl, HB2.out⟩
    · have HP : Aside0 (placeV l a1 = (0, false)) := ⟨by unfold placeV; rw [if_neg hi]⟩
      have hv : idxV a1 l = -1 := by unfold idxV; rw [if_neg hi]
      rw [hv] at cX
      clear hv hi
      go_wp2_with (go_at_call 31; refine cX.mono ?_; rintro e w2 ⟨rfl, hB2⟩; have HB2 : Aside0 (Below w.heap.size w w2) := ⟨HB1.out.trans (hB2.mono HB1.out.size)⟩; clear hB2)
      go_ret2
      exact ⟨by have := HRES.out; rw [HP.out] at this; cases this; rfl, HB2.out⟩
  · rw [if_neg hl] at h
    cases h


/-! ### latticeref18_Place: function 16 -/
theorem placeV_hit {l : List S51} {req : Int} {i : Nat} (h : i < l.length) (hp : ((rd_T51 l (i : Int)).f5 == req) = true) (hn : ∀ j, j < i → ((rd_T51 l (j : Int)).f5 == req) = false) : placeV l req = ((i : Int), true) := by
  unfold placeV
  rw [reqIdx_hit h hp hn, if_pos h]
theorem placeV_miss {l : List S51} {req : Int} (hn : ∀ j, j < l.length → ((rd_T51 l (j : Int)).f5 == req) = false) : placeV l req = (0, false) := by
  unfold placeV
  rw [reqIdx_miss hn, if_neg (by omega)]
def latticeref18_Place.f (l0 : List S51) (a1 : Int) : Option (Int × Bool) := (latticeref18_History.f l0).bind fun l => if l.length ≤ 1099511627776 then some (placeV l a1) else none
set_option maxHeartbeats 8000000 in
set_option maxRecDepth 100000 in
theorem latticeref18_Place.calls (A0 : Option Addr) (c0 : Nat) (l0 : List (S51)) (a1 : Int) (r1 : Int) (r2 : Bool) (w : World) (hr0 : Kd.C k51 w A0 l0.length l0) (hc0 : l0.length ≤ c0) (h : latticeref18_Place.f l0 a1 = some (r1, r2)) :
    Calls Tryz.prog 16 #[.slice A0 l0.length c0, .int .i64 a1] w fun e w' => e = .returned (.tuple #[.int .i64 r1, .bool r2]) ∧ Below w.heap.size w w' := by
  unfold latticeref18_Place.f at h
  have h9 := Option.bind_eq_some_iff.1 h
  clear h
  obtain ⟨l, hH, h⟩ := h9
  by_cases hl : l.length ≤ 1099511627776
  · rw [if_pos hl] at h
    have HRES := Aside0.mk (Option.some.inj h)
    have cH := latticeref18_History.calls A0 c0 l0 l w hr0 hc0 hH
    clear h hH hr0 hc0
    go_enter Tryz.func16, Tryz.ntmps16
    go_wp2_with fail
    refine cH.mono ?_
    rintro e w1 ⟨va, rfl, hRa, hB1⟩
    obtain ⟨Aa, ca, rfl, hca, hCa⟩ := Kd.R_reads hRa
    have HB1 := Aside0.mk hB1
    have HC := Aside0.mk hCa
    clear hRa hB1 hCa cH hca
    go_wp2
    go_loopw [11] (fun i wr => ∃ j : Nat, j ≤ l.length ∧ i = .int .i64 j ∧ Aside0 (∀ q, q < j → ((rd_T51 l (q : Int)).f5 == a1) = false) ∧ Aside0 (Below w1.heap.size w1 wr)) (fun i _ => l.length - (intOf i).toNat)
    case atStart => exact ⟨0, Nat.zero_le _, rfl, ⟨fun q hq => by omega⟩, ⟨Below.refl _ _⟩⟩
    case round =>
      obtain ⟨j, hj, rfl, HG, HW⟩ := hrel
      by_cases hlt : j < l.length
      · obtain ⟨ad, hA, g0, g1, g2, g3, g4, g5, g6, g7⟩ := at_T51 (Kd.C_below HC.out HW.out) (j : Int) (by omega) (by omega)
        rw [Int.toNat_natCast] at g0 g1 g2 g3 g4 g5 g6 g7
        subst hA
        have HH := Aside0.mk (fun h => placeV_hit (req := a1) hlt h HG.out)
        have HST : Aside0 (((rd_T51 l (j : Int)).f5 == a1) = false → ∀ q, q < j + 1 → ((rd_T51 l (q : Int)).f5 == a1) = false) := ⟨fun h q hq => by
          by_cases e : q = j
          · subst e; exact h
          · exact HG.out q (by omega)⟩
        clear HG
        generalize rd_T51 l (j : Int) = q at HH HST g0 g1 g2 g3 g4 g5 g6 g7
        obtain ⟨q0, q1, q2, q3, q4, q5, q6, q7⟩ := q
        simp only at g0 g1 g2 g3 g4 g5 g6 g7
        cases hq : (q5 == a1)
        · have HS := Aside0.mk (HST.out hq)
          clear HH HST
          go_wp2
          go_roundw
          case rel => exact ⟨j + 1, by omega, by go_num, HS, ⟨HW.out.alloc HW.out.size _⟩⟩
          case measure => first | (simp [intOf]; done) | (simp [intOf]; omega)
        · have HS := Aside0.mk (HH.out hq)
          clear HH HST
          go_wp2
          go_ret2
          exact ⟨by have := HRES.out; rw [HS.out] at this; cases this; rfl, HB1.out.trans ((HW.out.alloc HW.out.size _).mono HB1.out.size)⟩
      · obtain rfl : j = l.length := by omega
        have HM := Aside0.mk (placeV_miss HG.out)
        go_wp2
        go_ret2
        exact ⟨by have := HRES.out; rw [HM.out] at this; cases this; rfl, HB1.out.trans (HW.out.mono HB1.out.size)⟩
  · rw [if_neg hl] at h
    cases h


end Go.Proofs.YtjhbihhiceimcaaGreat.PFZ
