/- QuorumMeet's walk: over the laid table the law answers true. -/
import Derived.Test.YtjlcaamfpglflaaDoorDVal
set_option linter.unusedVariables false
set_option maxRecDepth 100000
namespace Go.Proofs.YtjlcaamfpglflaaDoor.DT
open Go.RowKit Go.Proofs.YtjlcaamfpglflaaDoor.PQD Go.Proofs.YtjlcaamfpglflaaDoorW.PrintWords Go.Proofs.YtjlcaamfpglflaaDoorW.PrintLast

theorem int_nat {t : Int} (h : 0 ≤ t) : ∃ v : Nat, t = (v : Int) := ⟨t.toNat, by omega⟩

set_option maxHeartbeats 8000000 in
theorem meet_law (n a b : Int) (w : World) (hT : TabAt w) :
    Calls Tryd.prog 3 #[.int .i64 n, .int .i64 a, .int .i64 b] w fun e w' => e = .returned (.bool true) ∧ Below w.heap.size w w' := by
  have cA := fun W => has_any n a W
  have cB := fun W => has_any n b W
  by_cases hA : askV n [a] = 0 ∧ hasB n a = true
  · obtain ⟨ha0, haB⟩ := hA
    by_cases hB : askV n [b] = 0 ∧ hasB n b = true
    · obtain ⟨hb0, hbB⟩ := hB
      obtain ⟨hn, hsa⟩ := askV_zero ha0
      obtain ⟨_, hsb⟩ := askV_zero hb0
      have hab : askV n [a, b] = 0 := askV_ok hn (fun s hs => by
        rcases List.mem_cons.1 hs with rfl | hs
        · exact hsa _ (by simp)
        · exact hsb s hs)
      obtain ⟨x, rfl, hx2, hx⟩ := okS_nat hn (hsa a (by simp))
      obtain ⟨y, rfl, hy2, hy⟩ := okS_nat hn (hsb b (by simp))
      have hpx : n.toNat / 2 < pc x := by
        unfold hasB at haB
        rw [Bool.and_eq_true, decide_eq_true_eq, decide_eq_true_eq, Int.toNat_natCast] at haB
        have := haB.2
        unfold okN at hn
        omega
      have hpy : n.toNat / 2 < pc y := by
        unfold hasB at hbB
        rw [Bool.and_eq_true, decide_eq_true_eq, decide_eq_true_eq, Int.toNat_natCast] at hbB
        have := hbB.2
        unfold okN at hn
        omega
      have hz : x &&& y ≠ 0 := meetV n.toNat (by unfold okN at hn; omega) x hx2 hpx y hy2 hpy
      have cM := fun W (hW : TabAt W) => meet_some n x y W hW hab hx hy hz
      have hlt : x &&& y < 128 := Nat.lt_of_le_of_lt Nat.and_le_left hx
      obtain ⟨_, _, t0, t7⟩ := tzE_in (x &&& y) hlt (by omega)
      have htv := (tzV (x &&& y) hlt (by omega)).1
      rw [Nat.testBit_and, Bool.and_eq_true] at htv
      obtain ⟨v, hv⟩ := int_nat t0
      rw [hv, Int.toNat_natCast] at htv
      rw [hv] at cM t7
      have hv8 : v < 8 := by omega
      have cX := fun W => in_any x v hx hv8 W
      have cY := fun W => in_any y v hy hv8 W
      rw [htv.1] at cX
      rw [htv.2] at cY
      rw [ha0, haB] at cA
      rw [hb0, hbB] at cB
      have HT := Aside0.mk (show ∀ W, Below w.heap.size w W → TabAt W from fun W hW => hT.below hW)
      have HB0 := Aside0.mk (Below.refl w.heap.size w)
      clear ha0 haB hb0 hbB hn hsa hsb hab hpx hpy hz hv htv hT hx2 hy2 hlt t0 hv8
      go_enter Tryd.func3, Tryd.ntmps3
      go_wp2_with fail
      refine (cA _).mono ?_
      rintro e w1 ⟨rfl, hb⟩
      have HB1 := Aside0.mk hb
      clear hb
      go_wp2_with fail
      refine (cB _).mono ?_
      rintro e w2 ⟨rfl, hb⟩
      have HB2 := Aside0.mk (HB1.out.trans (hb.mono HB1.out.size))
      clear hb
      go_wp2_with fail
      refine (cM _ (HT.out _ HB2.out)).mono ?_
      rintro e w3 ⟨rfl, hb⟩
      have HB3 := Aside0.mk (HB2.out.trans (hb.mono HB2.out.size))
      clear hb
      go_wp2_with fail
      refine (cX _).mono ?_
      rintro e w4 ⟨rfl, hd⟩
      have HB4 := Aside0.mk (HB3.out.trans (hd.below.mono HB3.out.size))
      clear hd
      go_wp2_with fail
      refine (cY _).mono ?_
      rintro e w5 ⟨rfl, hd⟩
      have HB5 := Aside0.mk (HB4.out.trans (hd.below.mono HB4.out.size))
      clear hd
      go_wp2_with fail
      refine (speaks_any _).mono ?_
      rintro e w6 ⟨rfl, hb⟩
      have HB6 := Aside0.mk (HB5.out.trans (hb.mono HB5.out.size))
      clear hb
      go_wp2
      go_ret
      exact ⟨rfl, HB6.out⟩
    · rw [ha0, haB] at cA
      generalize hqe : askV n [b] = q at cB hB
      generalize hre : hasB n b = r at cB hB
      clear hqe hre ha0 haB
      have hf : ((q != 0) = true ∨ (q != 0) = false ∧ r = false) := by
        by_cases h : q = 0
        · right
          refine ⟨by rw [h]; rfl, ?_⟩
          cases r
          · rfl
          · exact absurd ⟨h, rfl⟩ hB
        · left; simpa using h
      clear hB
      rcases hf with hf | ⟨hf, rfl⟩
      all_goals
        go_enter Tryd.func3, Tryd.ntmps3
        go_wp2_with fail
        refine (cA _).mono ?_
        rintro e w1 ⟨rfl, hb⟩
        have HB1 := Aside0.mk hb
        clear hb
        go_wp2_with fail
        refine (cB _).mono ?_
        rintro e w2 ⟨rfl, hb⟩
        have HB2 := Aside0.mk (HB1.out.trans (hb.mono HB1.out.size))
        clear hb
        go_wp2_with fail
        refine (speaks_any _).mono ?_
        rintro e w6 ⟨rfl, hb⟩
        have HB6 := Aside0.mk (HB2.out.trans (hb.mono HB2.out.size))
        clear hb
        go_wp2
        go_ret
        exact ⟨rfl, HB6.out⟩
  · generalize hqe : askV n [a] = q at cA hA
    generalize hre : hasB n a = r at cA hA
    generalize askV n [b] = q2 at cB
    generalize hasB n b = r2 at cB
    clear hqe hre
    have hf : ((q != 0) = true ∨ ((q != 0) = false ∧ r = false ∧ (q2 != 0) = false) ∨ ((q != 0) = false ∧ r = false ∧ (q2 != 0) = true)) := by
      by_cases h : q = 0
      · right
        have hr : r = false := by
          cases r
          · rfl
          · exact absurd ⟨h, rfl⟩ hA
        by_cases h2 : q2 = 0
        · left; exact ⟨by rw [h]; rfl, hr, by rw [h2]; rfl⟩
        · right; exact ⟨by rw [h]; rfl, hr, by simpa using h2⟩
      · left; simpa using h
    clear hA
    rcases hf with hf | ⟨hf, rfl, hf2⟩ | ⟨hf, rfl, hf2⟩
    all_goals
      go_enter Tryd.func3, Tryd.ntmps3
      go_wp2_with fail
      refine (cA _).mono ?_
      rintro e w1 ⟨rfl, hb⟩
      have HB1 := Aside0.mk hb
      clear hb
      go_wp2_with fail
      refine (cB _).mono ?_
      rintro e w2 ⟨rfl, hb⟩
      have HB2 := Aside0.mk (HB1.out.trans (hb.mono HB1.out.size))
      clear hb
      go_wp2_with fail
      refine (speaks_any _).mono ?_
      rintro e w6 ⟨rfl, hb⟩
      have HB6 := Aside0.mk (HB2.out.trans (hb.mono HB2.out.size))
      clear hb
      go_wp2
      go_ret
      exact ⟨rfl, HB6.out⟩

end Go.Proofs.YtjlcaamfpglflaaDoor.DT
