-- Printed by wip/tools/myprint.py (over the kit's print.py), with hand-written contracts; Lean checks all of it.
import Derived.Test.YtjhbihhiceimcaaGreatPFZx0
import Derived.Test.YtjhbihhiceimcaaGreatPFZx15
namespace Go.Proofs.YtjhbihhiceimcaaGreat.PFZ
open Go.RowKit Go.Proofs.YtjhbihhiceimcaaGreatW.PrintWords Go.Proofs.YtjhbihhiceimcaaGreatW.PrintLast Go.Proofs.YtjhbihhiceimcaaGreatW.PrintMore
attribute [local go_sem] max2_int min2_int max_two min_two max_three min_three max_four min_four   -- for this text's walks alone
set_option linter.unusedVariables false
set_option linter.unusedSimpArgs false

/-! ### latticeref18_Extends: function 18 -/
/-- Do two records part in what they ask? -/
def neqQ (x y : S51) : Bool := !(x.f5 == y.f5) || (!(x.f4 == y.f4) || (!(x.f6.toList == y.f6.toList) || !(x.f7.toList == y.f7.toList)))
def rextB (a b : List S51) : Bool := (List.range b.length).all fun i => decide (i < a.length) && !neqQ (rd_T51 a (i : Int)) (rd_T51 b (i : Int))
theorem rextB_no {a b : List S51} {i : Nat} (hi : i < b.length) (h : i < a.length → neqQ (rd_T51 a (i : Int)) (rd_T51 b (i : Int)) = true) : rextB a b = false := by
  unfold rextB
  rw [List.all_eq_false]
  refine ⟨i, List.mem_range.2 hi, ?_⟩
  by_cases e : i < a.length
  · rw [h e]; simp
  · rw [decide_eq_false e]; simp
theorem rextB_yes {a b : List S51} (h : ∀ i, i < b.length → i < a.length ∧ neqQ (rd_T51 a (i : Int)) (rd_T51 b (i : Int)) = false) : rextB a b = true := by
  unfold rextB
  rw [List.all_eq_true]
  intro i hi
  obtain ⟨h1, h2⟩ := h i (List.mem_range.1 hi)
  rw [decide_eq_true h1, h2]
  rfl
def latticeref18_Extends.f (l0 : List S51) (l1 : List S51) : Option Bool := (latticeref18_History.f l0).bind fun a => (latticeref18_History.f l1).bind fun b => if a.length ≤ 1099511627776 ∧ b.length ≤ 1099511627776 then some (rextB a b) else none
set_option maxHeartbeats 8000000 in
set_option maxRecDepth 100000 in
theorem latticeref18_Extends.calls (A0 : Option Addr) (c0 : Nat) (l0 : List (S51)) (A1 : Option Addr) (c1 : Nat) (l1 : List (S51)) (r : Bool) (w : World) (hr0 : Kd.C k51 w A0 l0.length l0) (hc0 : l0.length ≤ c0) (hr1 : Kd.C k51 w A1 l1.length l1) (hc1 : l1.length ≤ c1) (h : latticeref18_Extends.f l0 l1 = some r) :
    Calls Tryz.prog 18 #[.slice A0 l0.length c0, .slice A1 l1.length c1] w fun e w' => e = .returned (.bool r) ∧ Below w.heap.size w w' := by
  unfold latticeref18_Extends.f at h
  have h9 := Option.bind_eq_some_iff.1 h
  clear h
  obtain ⟨a, hHa, h⟩ := h9
  have h9 := Option.bind_eq_some_iff.1 h
  clear h
  obtain ⟨b, hHb, h⟩ := h9
  by_cases hl : a.length ≤ 1099511627776 ∧ b.length ≤ 1099511627776
  · rw [if_pos hl] at h
    obtain ⟨hla, hlb⟩ := hl
    have HRES := Aside0.mk (Option.some.inj h)
    have cA := latticeref18_History.calls A0 c0 l0 a w hr0 hc0 hHa
    have cB := fun W (hW : Below w.heap.size w W) => latticeref18_History.calls A1 c1 l1 b W (Kd.C_below hr1 hW) hc1 hHb
    clear h hHa hHb hr0 hr1 hc0 hc1
    go_enter Tryz.func18, Tryz.ntmps18
    go_wp2_with fail
    refine cA.mono ?_
    rintro e w1 ⟨va, rfl, hRa, hB1⟩
    go_wp2_with fail
    refine (cB w1 hB1).mono ?_
    rintro e w2 ⟨vb, rfl, hRb, hB2⟩
    obtain ⟨Aa, ca, rfl, hca, hCa⟩ := Kd.R_reads (Kd.R_below hRa hB2)
    obtain ⟨Ab, cb, rfl, hcb, hCb⟩ := Kd.R_reads hRb
    have HCA := Aside0.mk hCa
    have HCB := Aside0.mk hCb
    have HB2 : Aside0 (Below w.heap.size w w2) := ⟨hB1.trans (hB2.mono hB1.size)⟩
    clear hRa hRb hB1 hB2 hCa hCb cA cB hca hcb
    go_wp2
    go_loopw [15] (fun i wr => ∃ j : Nat, j ≤ b.length ∧ i = .int .i64 j ∧ Aside0 (∀ q, q < j → q < a.length ∧ neqQ (rd_T51 a (q : Int)) (rd_T51 b (q : Int)) = false) ∧ Aside0 (Below w2.heap.size w2 wr)) (fun i _ => b.length - (intOf i).toNat)
    case atStart => exact ⟨0, Nat.zero_le _, rfl, ⟨fun q hq => by omega⟩, ⟨Below.refl _ _⟩⟩
    case round =>
      obtain ⟨j, hj, rfl, HG, HW⟩ := hrel
      by_cases hlt : j < b.length
      · obtain ⟨ad, hA, g0, g1, g2, g3, g4, g5, g6, g7⟩ := at_T51 (Kd.C_below HCB.out HW.out) (j : Int) (by omega) (by omega)
        rw [Int.toNat_natCast] at g0 g1 g2 g3 g4 g5 g6 g7
        subst hA
        by_cases hja : j < a.length
        · obtain ⟨ae, hE, e0, e1, e2, e3, e4, e5, e6, e7⟩ := at_T51 (Kd.C_below HCA.out HW.out) (j : Int) (by omega) (by omega)
          rw [Int.toNat_natCast] at e0 e1 e2 e3 e4 e5 e6 e7
          subst hE
          have HNO := Aside0.mk (fun h => rextB_no (a := a) hlt (fun _ => h))
          have HST : Aside0 (neqQ (rd_T51 a (j : Int)) (rd_T51 b (j : Int)) = false → ∀ q, q < j + 1 → q < a.length ∧ neqQ (rd_T51 a (q : Int)) (rd_T51 b (q : Int)) = false) := ⟨fun h q hq => by
            by_cases e : q = j
            · subst e; exact ⟨hja, h⟩
            · exact HG.out q (by omega)⟩
          clear HG
          generalize rd_T51 b (j : Int) = q at HNO HST g0 g1 g2 g3 g4 g5 g6 g7
          generalize rd_T51 a (j : Int) = p at HNO HST e0 e1 e2 e3 e4 e5 e6 e7
          obtain ⟨q0, q1, q2, q3, q4, q5, q6, q7⟩ := q
          obtain ⟨p0, p1, p2, p3, p4, p5, p6, p7⟩ := p
          simp only at g0 g1 g2 g3 g4 g5 g6 g7 e0 e1 e2 e3 e4 e5 e6 e7
          have hae : (ae.add (j * 8)).block < wr.heap.size := World.block_lt_of_cell? wr _ e0
          have hne : (ae.add (j * 8)).block ≠ wr.heap.size := Nat.ne_of_lt hae
          have hd : decide (a.length ≤ j) = false := decide_eq_false (by omega)
          have hjz : (j : Int) < (a.length : Int) := by omega
          have HX : Aside0 (neqQ (⟨p0, p1, p2, p3, p4, p5, p6, p7⟩ : S51) (⟨q0, q1, q2, q3, q4, q5, q6, q7⟩ : S51) = (!(p5 == q5) || (!(p4 == q4) || (!(p6.toList == q6.toList) || !(p7.toList == q7.toList))))) := ⟨rfl⟩
          cases h5 : (p5 == q5)
          · have h5n : (p5 != q5) = true := by unfold bne; rw [h5]; rfl
            have HY := Aside0.mk (HNO.out (by rw [HX.out, h5]; rfl))
            clear HNO HST HX e0 e1 e2 e3 e4 e6 e7
            go_wp2
            go_quiet (fail)
            go_wp2
            go_ret
            exact ⟨by rw [← HRES.out, HY.out]; rfl, HB2.out.trans ((pw_below_drewN (HW.out.alloc HW.out.size _) _).mono HB2.out.size)⟩
          · have h5n : (p5 != q5) = false := by unfold bne; rw [h5]; rfl
            cases h4 : (p4 == q4)
            · have h4n : (p4 != q4) = true := by unfold bne; rw [h4]; rfl
              have HY := Aside0.mk (HNO.out (by rw [HX.out, h5, h4]; rfl))
              clear HNO HST HX e0 e1 e2 e3 e6 e7
              go_wp2
              go_quiet (fail)
              go_wp2
              go_ret
              exact ⟨by rw [← HRES.out, HY.out]; rfl, HB2.out.trans ((pw_below_drewN (HW.out.alloc HW.out.size _) _).mono HB2.out.size)⟩
            · have h4n : (p4 != q4) = false := by unfold bne; rw [h4]; rfl
              cases h6 : (p6.toList == q6.toList)
              · have h6n : (p6.toList != q6.toList) = true := by unfold bne; rw [h6]; rfl
                have HY := Aside0.mk (HNO.out (by rw [HX.out, h5, h4, h6]; rfl))
                clear HNO HST HX e0 e1 e2 e3 e7
                go_wp2
                go_quiet (fail)
                go_wp2
                go_ret
                exact ⟨by rw [← HRES.out, HY.out]; rfl, HB2.out.trans ((pw_below_drewN (HW.out.alloc HW.out.size _) _).mono HB2.out.size)⟩
              · have h6n : (p6.toList != q6.toList) = false := by unfold bne; rw [h6]; rfl
                cases h7 : (p7.toList == q7.toList)
                · have h7n : (p7.toList != q7.toList) = true := by unfold bne; rw [h7]; rfl
                  have HY := Aside0.mk (HNO.out (by rw [HX.out, h5, h4, h6, h7]; rfl))
                  clear HNO HST HX e0 e1 e2 e3
                  go_wp2
                  go_quiet (fail)
                  go_wp2
                  go_ret
                  exact ⟨by rw [← HRES.out, HY.out]; rfl, HB2.out.trans ((pw_below_drewN (HW.out.alloc HW.out.size _) _).mono HB2.out.size)⟩
                · have h7n : (p7.toList != q7.toList) = false := by unfold bne; rw [h7]; rfl
                  have HY := Aside0.mk (HST.out (by rw [HX.out, h5, h4, h6, h7]; rfl))
                  clear HNO HST HX e0 e1 e2 e3
                  go_wp2
                  go_quiet (fail)
                  go_wp2
                  go_roundw
                  case rel => exact ⟨j + 1, by omega, by go_num, HY, ⟨pw_below_drewN (HW.out.alloc HW.out.size _) _⟩⟩
                  case measure => first | (simp [intOf]; done) | (simp [intOf]; omega)
        · have HY := Aside0.mk (rextB_no (a := a) (b := b) hlt (fun h => absurd h hja))
          have hd : decide (a.length ≤ j) = true := decide_eq_true (by omega)
          generalize rd_T51 b (j : Int) = q at g0 g1 g2 g3 g4 g5 g6 g7
          obtain ⟨q0, q1, q2, q3, q4, q5, q6, q7⟩ := q
          simp only at g0 g1 g2 g3 g4 g5 g6 g7
          go_wp2
          go_quiet (fail)
          go_wp2
          go_ret
          exact ⟨by rw [← HRES.out, HY.out]; rfl, HB2.out.trans ((pw_below_drewN (HW.out.alloc HW.out.size _) _).mono HB2.out.size)⟩
      · obtain rfl : j = b.length := by omega
        have HX := Aside0.mk (rextB_yes HG.out)
        go_wp2
        go_ret
        exact ⟨by rw [← HRES.out, HX.out]; rfl, HB2.out.trans (HW.out.mono HB2.out.size)⟩
  · rw [if_neg hl] at h
    cases h


end Go.Proofs.YtjhbihhiceimcaaGreat.PFZ
