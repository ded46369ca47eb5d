/- QuorumSets' walk where the number of nodes and the set are right. -/
import Derived.Test.YtjlcaamfpglflaaDoorDSetV
set_option linter.unusedVariables false
set_option maxRecDepth 100000
namespace Go.Proofs.YtjlcaamfpglflaaDoor.DT
open Go.RowKit Go.Proofs.YtjlcaamfpglflaaDoor.PQD Go.Proofs.YtjlcaamfpglflaaDoorW.PrintWords Go.Proofs.YtjlcaamfpglflaaDoorW.PrintLast

theorem info3 : (Tryd.prog.info? 3).map (fun i => (i.zero, i.size, i.bytes)) = some (some (.int .i64 0), 1, 8) := by kernel_rfl

set_option maxHeartbeats 16000000 in
/-- Meet answers (X, OK, F); L: the least node of both sets that the law finds. -/
theorem sets_good (N x : Nat) (b : Int) (y : Nat) (F X L : Int) (F0 OK : Bool) (w : World) (hT : TabAt w) (hn : okN (N : Int)) (hx : x < 2 ^ N) (hask : askV (N : Int) [(x : Int)] = 0)
    (hF : askV (N : Int) [(x : Int), b] = F) (hF0 : (F == 0) = F0) (hy : F0 = true → b = (y : Int) ∧ y < 128)
    (cMeet : ∀ W, TabAt W → Calls Tryd.prog 7 #[.int .i64 (N : Int), .int .i64 (x : Int), .int .i64 b] W fun e w' => e = .returned (.tuple #[.int .i64 X, .bool OK, .int .i64 F]) ∧ Below W.heap.size W w')
    (hL : leastU F0 x y N = L) (hOK : OK = true → 0 ≤ L ∧ X = L) (hNO : OK = false → L = -1) :
    Calls Tryd.prog 4 #[.int .i64 (N : Int), .int .i64 (x : Int), .int .i64 b] w fun e w' => e = .returned (.bool true) ∧ Below w.heap.size w w' := by
  have hb7 : 1 ≤ (N : Int) ∧ (N : Int) ≤ 7 := hn
  obtain ⟨x1, x2⟩ := hb7
  have hx128 : x < 128 := Nat.lt_of_lt_of_le hx (Nat.le_trans (Nat.pow_le_pow_right (by omega) (show N ≤ 7 by omega)) (by decide))
  have cA1 := fun W => rask_any (N : Int) (x : Int) 0 W
  have cA2 := fun W => rask_any (N : Int) (x : Int) b W
  have cMaj := fun W => maj_any (N : Int) W
  have cHas := fun W => has_any (N : Int) (x : Int) W
  have cMem := fun W => mem_any (N : Int) x W hn (by rw [Int.toNat_natCast]; exact hx)
  have cWith := fun W => with_any (N : Int) (x : Int) b W
  have cRWith := fun W => rwith_any (N : Int) (x : Int) b W
  have cIn := fun (v : Nat) (hv : v < 8) W => in_any x v hx128 hv W
  have cIn2 := fun (v : Nat) (hv : v < 8) (h : F0 = true) W => in_any y v (hy h).2 hv W
  rw [ask_zero, hask] at cA1
  rw [hF] at cA2
  rw [hask] at cHas
  simp only [if_pos hn] at cMaj
  simp only [Int.toNat_natCast] at cMem
  have hlen := memV_len N (by omega) x hx
  have hpc : (hasB (N : Int) (x : Int) = true → (N : Int) < 2 * (pc x : Int)) ∧ (hasB (N : Int) (x : Int) = false → ¬ (N : Int) < 2 * (pc x : Int)) := by
    unfold hasB
    rw [hask, Int.toNat_natCast]
    constructor
    · intro h
      simp at h
      omega
    · intro h
      simp at h
      omega
  have hpl : pc x ≤ 7 := by
    unfold pc
    exact Nat.le_trans List.countP_le_length (by simp)
  have HML : Aside0 (∀ j, (memV x j).length ≤ j) := ⟨fun j => by unfold memV memN; rw [List.length_map]; exact Nat.le_trans (List.length_filter_le _ _) (by simp)⟩
  have HMS := Aside0.mk (memV_succ x)
  have HLS : Aside0 (∀ v, leastU F0 x y (v + 1) = if (x.testBit v && (F0 && (decide (leastU F0 x y v < 0) && y.testBit v))) = true then (v : Int) else leastU F0 x y v) := ⟨fun v => by rw [leastU]⟩
  have HLR : Aside0 (∀ v, -1 ≤ leastU F0 x y v ∧ leastU F0 x y v ≤ v) := ⟨fun v => by
    induction v with
    | zero => exact ⟨by unfold leastU; omega, by unfold leastU; omega⟩
    | succ v ih =>
      rw [HLS.out]
      split
      · omega
      · omega⟩
  have HY := Aside0.mk hy
  have HLN := Aside0.mk hL
  have HLEN := Aside0.mk hlen
  have HT := Aside0.mk (show ∀ W, Below w.heap.size w W → TabAt W from fun W hW => hT.below hW)
  have HC2 := Aside0.mk cIn2
  have HC1 := Aside0.mk cIn
  have HPC := Aside0.mk hpc
  have HOK := Aside0.mk hOK
  have HNO := Aside0.mk hNO
  generalize (withV (N : Int) (x : Int) b).1 = wv at cWith cRWith
  generalize (withV (N : Int) (x : Int) b).2 = wp at cWith cRWith
  generalize hasB (N : Int) (x : Int) = B at cHas HPC
  clear hn hask hF hy hL hlen hpc hT cIn cIn2 hx hOK hNO
  have hF1 : (F != 0) = !F0 := by unfold bne; rw [hF0]
  have HF0 := Aside0.mk hF0
  have HF1 := Aside0.mk hF1
  clear hF0 hF1
  go_enter Tryd.func4, Tryd.ntmps4
  go_wp2_with fail
  refine (cA1 _).mono ?_
  rintro e w1 ⟨rfl, hd⟩
  have HB1 := Aside0.mk hd.below
  clear hd
  go_wp2_with fail
  refine (cA2 _).mono ?_
  rintro e w2 ⟨rfl, hd⟩
  have HB2 := Aside0.mk (HB1.out.trans (hd.below.mono HB1.out.size))
  clear hd
  go_wp2_with fail
  refine (cMaj _).mono ?_
  rintro e w3 ⟨rfl, hd⟩
  have HB3 := Aside0.mk (HB2.out.trans (hd.below.mono HB2.out.size))
  clear hd
  go_wp2_with fail
  refine (cHas _).mono ?_
  rintro e w4 ⟨rfl, hb⟩
  have HB4 := Aside0.mk (HB3.out.trans (hb.mono HB3.out.size))
  clear hb
  go_wp2_with fail
  refine (cMem _).mono ?_
  rintro e w5 ⟨vm, rfl, hR, hb⟩
  obtain ⟨Am, cm, rfl, hcm, hCm⟩ := Kd.R_reads hR
  have HB5 := Aside0.mk (HB4.out.trans (hb.mono HB4.out.size))
  have HCM := Aside0.mk hCm
  have HCMc := Aside0.mk hcm
  clear hb hR hCm hcm
  go_wp2_with fail
  refine (cMeet _ (HT.out _ HB5.out)).mono ?_
  rintro e w6 ⟨rfl, hb⟩
  have HB56 := Aside0.mk hb
  have HB6 := Aside0.mk (HB5.out.trans (hb.mono HB5.out.size))
  clear hb
  go_wp2_with fail
  refine (cWith _).mono ?_
  rintro e w7 ⟨rfl, hb⟩
  have HB57 := Aside0.mk (HB56.out.trans (hb.mono HB56.out.size))
  have HB7 := Aside0.mk (HB6.out.trans (hb.mono HB6.out.size))
  clear hb
  go_wp2_with fail
  refine (cRWith _).mono ?_
  rintro e w8 ⟨rfl, hd⟩
  have HB58 := Aside0.mk (HB57.out.trans (hd.below.mono HB57.out.size))
  have HB8 := Aside0.mk (HB7.out.trans (hd.below.mono HB7.out.size))
  clear hd cA1 cA2 cMaj cHas cMem cMeet cWith cRWith HB1 HB2 HB3 HB4 HB56 HB57 HB6 HB7 HT
  go_wp2
  go_loopw [22, 23, 24] (fun o l v wr => ∃ j : Nat, j ≤ N ∧ v = .int .i64 j ∧ l = .int .i64 (leastU F0 x y j) ∧ Aside0 (Kd.R (Kd.int .i64) 3 wr w8.heap.size (fun _ => True) o (memV x j)) ∧ Aside0 (Below w8.heap.size w8 wr)) (fun _ _ v _ => N - (intOf v).toNat)
  case atStart => exact ⟨0, Nat.zero_le _, rfl, rfl, ⟨Kd.R_nil _ _ _ _ _⟩, ⟨Below.refl _ _⟩⟩
  case round =>
    obtain ⟨j, hj, rfl, rfl, HO, HW⟩ := hrel
    by_cases hlt : j < N
    · have hjz : (j : Int) < (N : Int) := by omega
      have cI := fun W => HC1.out j (by omega) W
      have HMj := Aside0.mk (HMS.out j)
      have HLj := Aside0.mk (HLS.out j)
      obtain ⟨r1, r2⟩ := HLR.out j
      have HLl := Aside0.mk (HML.out j)
      cases hxb : x.testBit j
      · rw [hxb] at cI
        have HM1 : Aside0 (memV x (j + 1) = memV x j) := ⟨by rw [HMj.out, hxb]; rfl⟩
        have HL1 : Aside0 (leastU F0 x y (j + 1) = leastU F0 x y j) := ⟨by rw [HLj.out, hxb]; rfl⟩
        clear HMj HLj hxb
        generalize leastU F0 x y j = lu at HL1 r1 r2
        go_wp2_with fail
        refine (cI _).mono ?_
        rintro e wa ⟨rfl, hd⟩
        have HBa := Aside0.mk hd.below
        clear hd cI
        go_wp2
        go_roundw
        case rel => exact ⟨j + 1, by omega, by go_num, by rw [HL1.out], ⟨by rw [HM1.out]; exact Kd.R_below HO.out HBa.out⟩, ⟨HW.out.trans (HBa.out.mono HW.out.size)⟩⟩
        case measure => simp [intOf]; omega
      · rw [hxb] at cI
        have HM1 : Aside0 (memV x (j + 1) = memV x j ++ [(j : Int)]) := ⟨by rw [HMj.out, hxb]; rfl⟩
        have HL1 : Aside0 (leastU F0 x y (j + 1) = if (F0 && (decide (leastU F0 x y j < 0) && y.testBit j)) = true then (j : Int) else leastU F0 x y j) := ⟨by rw [HLj.out, hxb]; rfl⟩
        clear HMj HLj hxb
        generalize leastU F0 x y j = lu at HL1 r1 r2
        have hf0 := HF0.out
        have hf1 := HF1.out
        cases F0
        · have HL2 : Aside0 (leastU false x y (j + 1) = lu) := ⟨by rw [HL1.out]; rfl⟩
          clear HL1
          go_wp2_with fail
          refine (cI _).mono ?_
          rintro e wa ⟨rfl, hd⟩
          have HBa := Aside0.mk hd.below
          clear hd cI
          go_wp2_with ((with_reducible refine gate_builtin (b := .append) (xs := #[.tmp 144, .tmp 146]) rfl ?_); at_builtin; refine Kd.R_append (Kd.int .i64) (w0 := w8) w8.heap.size rfl (.tmp 144) (.tmp 146) 33 3 (.int .i64 0) 8 rfl Tryd.underlying33 info3 rfl (by decide) (by omega) _ (memV x j) (j : Int) [.int .i64 (j : Int)] (fun _ => True) (fun _ => False) rfl rfl rfl (fun _ hk => hk.elim) (fun _ _ => trivial) (Kd.R_below HO.out HBa.out) (HW.out.trans (HBa.out.mono HW.out.size)) (Nat.le_trans HW.out.size HBa.out.size) (by have := HLl.out; omega) ?_; intro v1 wb hR1 hB1 hg1 hv1; rw [← HM1.out] at hR1; have HR1 := Aside0.mk hR1; have HB1 := Aside0.mk hB1; clear hR1 hB1 hg1 hv1)
          go_roundw
          case rel => exact ⟨j + 1, by omega, by go_num, by rw [HL2.out], HR1, HB1⟩
          case measure => simp [intOf]; omega
        · cases hl0 : decide (lu < 0)
          · have HL2 : Aside0 (leastU true x y (j + 1) = lu) := ⟨by rw [HL1.out, hl0]; rfl⟩
            have hl1 : ¬ lu < 0 := of_decide_eq_false hl0
            clear HL1
            go_wp2_with fail
            refine (cI _).mono ?_
            rintro e wa ⟨rfl, hd⟩
            have HBa := Aside0.mk hd.below
            clear hd cI
            go_wp2_with ((with_reducible refine gate_builtin (b := .append) (xs := #[.tmp 144, .tmp 146]) rfl ?_); at_builtin; refine Kd.R_append (Kd.int .i64) (w0 := w8) w8.heap.size rfl (.tmp 144) (.tmp 146) 33 3 (.int .i64 0) 8 rfl Tryd.underlying33 info3 rfl (by decide) (by omega) _ (memV x j) (j : Int) [.int .i64 (j : Int)] (fun _ => True) (fun _ => False) rfl rfl rfl (fun _ hk => hk.elim) (fun _ _ => trivial) (Kd.R_below HO.out HBa.out) (HW.out.trans (HBa.out.mono HW.out.size)) (Nat.le_trans HW.out.size HBa.out.size) (by have := HLl.out; omega) ?_; intro v1 wb hR1 hB1 hg1 hv1; rw [← HM1.out] at hR1; have HR1 := Aside0.mk hR1; have HB1 := Aside0.mk hB1; clear hR1 hB1 hg1 hv1)
            go_roundw
            case rel => exact ⟨j + 1, by omega, by go_num, by rw [HL2.out], HR1, HB1⟩
            case measure => simp [intOf]; omega
          · obtain ⟨rfl, hy8⟩ := HY.out rfl
            have hl1 : lu < 0 := of_decide_eq_true hl0
            have cJ := fun W => HC2.out j (by omega) rfl W
            cases hyb : y.testBit j
            · have HL2 : Aside0 (leastU true x y (j + 1) = lu) := ⟨by rw [HL1.out, hl0, hyb]; rfl⟩
              rw [hyb] at cJ
              clear HL1 hyb
              go_wp2_with fail
              refine (cI _).mono ?_
              rintro e wa ⟨rfl, hd⟩
              have HBa := Aside0.mk hd.below
              clear hd cI
              go_wp2_with ((with_reducible refine gate_builtin (b := .append) (xs := #[.tmp 144, .tmp 146]) rfl ?_); at_builtin; refine Kd.R_append (Kd.int .i64) (w0 := w8) w8.heap.size rfl (.tmp 144) (.tmp 146) 33 3 (.int .i64 0) 8 rfl Tryd.underlying33 info3 rfl (by decide) (by omega) _ (memV x j) (j : Int) [.int .i64 (j : Int)] (fun _ => True) (fun _ => False) rfl rfl rfl (fun _ hk => hk.elim) (fun _ _ => trivial) (Kd.R_below HO.out HBa.out) (HW.out.trans (HBa.out.mono HW.out.size)) (Nat.le_trans HW.out.size HBa.out.size) (by have := HLl.out; omega) ?_; intro v1 wb hR1 hB1 hg1 hv1; rw [← HM1.out] at hR1; have HR1 := Aside0.mk hR1; have HB1 := Aside0.mk hB1; clear hR1 hB1 hg1 hv1)
              refine (cJ _).mono ?_
              rintro e wc ⟨rfl, hd⟩
              have HBc := Aside0.mk (HB1.out.trans (hd.below.mono HB1.out.size))
              have HRc := Aside0.mk (Kd.R_below HR1.out hd.below)
              clear hd cJ
              go_wp2
              go_roundw
              case rel => exact ⟨j + 1, by omega, by go_num, by rw [HL2.out], HRc, HBc⟩
              case measure => simp [intOf]; omega
            · have HL2 : Aside0 (leastU true x y (j + 1) = (j : Int)) := ⟨by rw [HL1.out, hl0, hyb]; rfl⟩
              rw [hyb] at cJ
              clear HL1 hyb
              go_wp2_with fail
              refine (cI _).mono ?_
              rintro e wa ⟨rfl, hd⟩
              have HBa := Aside0.mk hd.below
              clear hd cI
              go_wp2_with ((with_reducible refine gate_builtin (b := .append) (xs := #[.tmp 144, .tmp 146]) rfl ?_); at_builtin; refine Kd.R_append (Kd.int .i64) (w0 := w8) w8.heap.size rfl (.tmp 144) (.tmp 146) 33 3 (.int .i64 0) 8 rfl Tryd.underlying33 info3 rfl (by decide) (by omega) _ (memV x j) (j : Int) [.int .i64 (j : Int)] (fun _ => True) (fun _ => False) rfl rfl rfl (fun _ hk => hk.elim) (fun _ _ => trivial) (Kd.R_below HO.out HBa.out) (HW.out.trans (HBa.out.mono HW.out.size)) (Nat.le_trans HW.out.size HBa.out.size) (by have := HLl.out; omega) ?_; intro v1 wb hR1 hB1 hg1 hv1; rw [← HM1.out] at hR1; have HR1 := Aside0.mk hR1; have HB1 := Aside0.mk hB1; clear hR1 hB1 hg1 hv1)
              refine (cJ _).mono ?_
              rintro e wc ⟨rfl, hd⟩
              have HBc := Aside0.mk (HB1.out.trans (hd.below.mono HB1.out.size))
              have HRc := Aside0.mk (Kd.R_below HR1.out hd.below)
              clear hd cJ
              go_wp2
              go_roundw
              case rel => exact ⟨j + 1, by omega, by go_num, by rw [HL2.out], HRc, HBc⟩
              case measure => simp [intOf]; omega
    · obtain rfl : j = N := by omega
      obtain ⟨A2, c2, rfl, hc2, hC2⟩ := Kd.R_reads HO.out
      have cI := ints_any Am A2 cm c2 (memV x j) wr (Kd.C_below HCM.out (HB58.out.trans (HW.out.mono HB58.out.size))) HCMc.out hC2 hc2 (by have := HML.out j; omega)
      have HBW : Aside0 (Below w.heap.size w wr) := ⟨HB8.out.trans (HW.out.mono HB8.out.size)⟩
      generalize hg : leastU F0 x y j = lu
      obtain rfl : lu = L := hg.symm.trans HLN.out
      generalize hP : (memV x j).length = P at cI HLEN
      have HP := Aside0.mk (HPC.out)
      obtain rfl : P = pc x := HLEN.out
      generalize pc x = P at cI HP hpl
      have hf0 := HF0.out
      have hf1 := HF1.out
      clear hg hP hc2 hC2 HLN HLEN HPC HO HW HLR HLS HMS HML HCM HCMc
      have hB2 : (B = true ∧ (j : Int) < 2 * (P : Int)) ∨ (B = false ∧ ¬ (j : Int) < 2 * (P : Int)) := by
        cases B
        · exact .inr ⟨rfl, by have := HP.out.2 rfl; omega⟩
        · exact .inl ⟨rfl, by have := HP.out.1 rfl; omega⟩
      have hO2 : (OK = true ∧ 0 ≤ lu ∧ X = lu) ∨ (OK = false ∧ lu = -1) := by
        cases OK
        · exact .inr ⟨rfl, HNO.out rfl⟩
        · exact .inl ⟨rfl, (HOK.out rfl).1, (HOK.out rfl).2⟩
      clear HP HOK HNO
      rcases hB2 with ⟨rfl, hb2⟩ | ⟨rfl, hb2⟩
      all_goals
        rcases hO2 with ⟨rfl, ho1, rfl⟩ | ⟨rfl, rfl⟩
        all_goals
          cases F0
          all_goals
            go_wp2_with fail
            refine cI.mono ?_
            rintro e wa ⟨rfl, hd⟩
            have HBa := Aside0.mk (HBW.out.trans (hd.below.mono HBW.out.size))
            clear hd
            go_wp2_with fail
            refine (speaks_any _).mono ?_
            rintro e wb ⟨rfl, hb⟩
            have HBb := Aside0.mk (HBa.out.trans (hb.mono HBa.out.size))
            clear hb
            go_wp2
            go_ret
            exact ⟨rfl, HBb.out⟩
end Go.Proofs.YtjlcaamfpglflaaDoor.DT
