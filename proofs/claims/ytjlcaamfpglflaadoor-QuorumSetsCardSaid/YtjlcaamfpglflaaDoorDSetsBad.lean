/- QuorumSets' walk where the number of nodes or the set is not right. -/
import Derived.Test.YtjlcaamfpglflaaDoorDSetV
set_option linter.unusedVariables false
set_option maxRecDepth 100000
namespace Go.Proofs.YtjlcaamfpglflaaDoor.DT
open Go.RowKit Go.Proofs.YtjlcaamfpglflaaDoor.PQD Go.Proofs.YtjlcaamfpglflaaDoorW.PrintWords Go.Proofs.YtjlcaamfpglflaaDoorW.PrintLast

set_option maxHeartbeats 8000000 in
theorem sets_bad (n a b : Int) (w : World) (h : askV n [a] ≠ 0) :
    Calls Tryd.prog 4 #[.int .i64 n, .int .i64 a, .int .i64 b] w fun e w' => e = .returned (.bool true) ∧ Below w.heap.size w w' := by
  have hf : askV n [a, b] = askV n [a] := by
    unfold askV at h ⊢
    by_cases hn : okN n
    · rw [if_pos hn] at h ⊢
      rw [if_pos hn]
      have h1 : ¬ oksB n [a] = true := fun e => by rw [if_pos e] at h; exact h rfl
      have h2 : ¬ oksB n [a, b] = true := fun e => h1 (oksB_iff.2 (fun s hs => oksB_iff.1 e s (by simp at hs; simp [hs])))
      rw [if_neg h1, if_neg h2]
    · rw [if_neg hn, if_neg hn]
  have hB : hasB n a = false := by unfold hasB; rw [decide_eq_false h]; rfl
  have cA1 := fun W => rask_any n a 0 W
  have cA2 := fun W => rask_any n a b W
  have cMaj := fun W => maj_any n W
  have cHas := fun W => has_any n a W
  have cMem := fun W => mem_bad n a W h
  have cMeet := fun W => meet_bad n a b W (by rw [hf]; exact h)
  have cWith := fun W => with_any n a b W
  have cRWith := fun W => rwith_any n a b W
  have hW : withV n a b = (0, askV n [a]) := by unfold withV; rw [if_neg h]
  rw [hf] at cA2 cMeet
  rw [hB] at cHas
  rw [hW] at cWith cRWith
  rw [ask_zero] at cA1
  clear hf hB hW
  have hcase : (n < 1 ∧ ¬ okN n) ∨ (¬ n < 1 ∧ 7 < n ∧ ¬ okN n) ∨ (1 ≤ n ∧ n ≤ 7 ∧ okN n) := by unfold okN; omega
  generalize askV n [a] = E at h cA1 cA2 cHas cMem cMeet cWith cRWith
  have e1 : (E == 0) = false := by simpa using h
  have e2 : (E != 0) = true := by unfold bne; rw [e1]; rfl
  clear h
  rcases hcase with ⟨x1, hk⟩ | ⟨x1, x2, hk⟩ | ⟨x1, x2, hk⟩
  all_goals
    first | rw [if_neg hk, if_neg hk] at cMaj | (simp only [if_pos hk] at cMaj) | (simp only [if_neg hk] at cMaj)
    clear hk
    go_enter Tryd.func4, Tryd.ntmps4
    go_wp2_with fail
    refine (cA1 _).mono ?_
    rintro e w1 ⟨rfl, hd⟩
    have HB1 := Aside0.mk hd.below
    clear hd
    go_wp2_with fail
    refine (cA2 _).mono ?_
    rintro e w2 ⟨rfl, hd⟩
    have HB2 := Aside0.mk (HB1.out.trans (hd.below.mono HB1.out.size))
    clear hd
    go_wp2_with fail
    refine (cMaj _).mono ?_
    rintro e w3 ⟨rfl, hd⟩
    have HB3 := Aside0.mk (HB2.out.trans (hd.below.mono HB2.out.size))
    clear hd
    go_wp2_with fail
    refine (cHas _).mono ?_
    rintro e w4 ⟨rfl, hb⟩
    have HB4 := Aside0.mk (HB3.out.trans (hb.mono HB3.out.size))
    clear hb
    go_wp2_with fail
    refine (cMem _).mono ?_
    rintro e w5 ⟨⟨A, c, rfl⟩, hb⟩
    have HB5 := Aside0.mk (HB4.out.trans (hb.mono HB4.out.size))
    clear hb
    go_wp2_with fail
    refine (cMeet _).mono ?_
    rintro e w6 ⟨rfl, hb⟩
    have HB6 := Aside0.mk (HB5.out.trans (hb.mono HB5.out.size))
    clear hb
    go_wp2_with fail
    refine (cWith _).mono ?_
    rintro e w7 ⟨rfl, hb⟩
    have HB7 := Aside0.mk (HB6.out.trans (hb.mono HB6.out.size))
    clear hb
    go_wp2_with fail
    refine (cRWith _).mono ?_
    rintro e w8 ⟨rfl, hd⟩
    have HB8 := Aside0.mk (HB7.out.trans (hd.below.mono HB7.out.size))
    clear hd
    go_wp2_with fail
    refine (speaks_any _).mono ?_
    rintro e w9 ⟨rfl, hb⟩
    have HB9 := Aside0.mk (HB8.out.trans (hb.mono HB8.out.size))
    clear hb
    go_wp2
    go_ret
    exact ⟨rfl, HB9.out⟩
end Go.Proofs.YtjlcaamfpglflaaDoor.DT
