/- Trace: rule 4 walked: is every record of the history a call's, with its operation, and not refused? -/
import Derived.Test.YtegfnceepplooaaTChoice
set_option linter.unusedVariables false
set_option linter.unusedSimpArgs false
namespace Go.Proofs.Ytegfnceepplooaa.TR
open Go.RowKit Go.Maps Go.Proofs.Ytegfnceepplooaa.FMap Go.Proofs.Ytegfnceepplooaa.PTR Go.Proofs.YtegfnceepplooaaW.PrintWords Go.Proofs.YtegfnceepplooaaW.PrintLast

theorem rd_mem {l : List Rec} {j : Nat} (h : j < l.length) : rd_T50 l (j : Int) ∈ l := by
  unfold rd_T50
  simp [List.getD_eq_getElem?_getD, h]
theorem all_not {f : Rec → Bool} {l : List Rec} {j : Nat} (h : j < l.length) (hf : f (rd_T50 l (j : Int)) = false) : l.all f = false := by
  rw [Bool.eq_false_iff]
  intro ha
  rw [List.all_eq_true] at ha
  rw [ha _ (rd_mem h)] at hf
  cases hf
theorem all_yes {f : Rec → Bool} {l : List Rec} (h : ∀ q, q < l.length → f (rd_T50 l (q : Int)) = true) : l.all f = true := by
  rw [List.all_eq_true]
  intro x hx
  obtain ⟨q, hq, rfl⟩ := List.getElem_of_mem hx
  have := h q hq
  unfold rd_T50 at this
  simpa [List.getD_eq_getElem?_getD, hq] using this

theorem same_ne (y2 k : Int) (y3 y4 q6 q7 : ByteArray) : sameOp ⟨y2, y3, y4⟩ ⟨k, q6, q7⟩ = !(!y2 == k || (!y3.toList == q6.toList || !y4.toList == q7.toList)) := by
  unfold sameOp
  show ((y2 == k) && ((y3.toList == q6.toList) && (y4.toList == q7.toList))) = _
  generalize (y2 == k) = a
  generalize (y3.toList == q6.toList) = b
  generalize (y4.toList == q7.toList) = c
  revert a b c
  decide
set_option maxHeartbeats 8000000 in
set_option maxRecDepth 100000 in
theorem submitted_any {w0 W : World} {bw n : Nat} {st : St} {h : List Rec} {bc bd bf : Nat} {vo : Value} {Ab : Option Addr} {cb : Nat} {Ah : Option Addr} {ch : Nat} (H : WAt w0 W bw n st h bc bd bf vo Ab cb Ah ch) (hl : h.length ≤ 1099511627776) (hw : ∀ r ∈ h, (Lit.int .i64 r.f5).wf = true) :
    Calls Try.prog 28 #[.pointer (some ⟨bw, 0, none⟩)] W fun e W' => e = .returned (.bool (subV st h)) ∧ Below W.heap.size W W' := by
  have c5 : W.cell? ⟨bw, 5, none⟩ = some (.slice Ah h.length ch) := (blk_cell H.block 5).trans rfl
  have cH := fold_History.calls Ah ch h (histV h) W (Kd.C_below H.at_h.1 H.below) H.at_h.2 (by unfold fold_History.f; rw [if_pos hl])
  have HS : Aside0 (subV st h = (histV h).all (subR st)) := ⟨rfl⟩
  have hll := histV_len h
  have HH := Aside0.mk H
  have HV : Aside0 (∀ r ∈ histV h, (Lit.int .i64 r.f5).wf = true) := ⟨fun r hr => hw r (List.mem_filter.1 hr).1⟩
  generalize histV h = l at cH HS hll HV
  have hl2 : l.length ≤ 1099511627776 := Nat.le_trans hll hl
  clear H hll hl hw
  go_enter Try.func28, Try.ntmps28
  go_wp2_with fail
  refine cH.mono ?_
  rintro e w2 ⟨va, rfl, hRa, hB2⟩
  obtain ⟨Aa, ca, rfl, hca, hCa⟩ := Kd.R_reads hRa
  have HCA := Aside0.mk hCa
  have HB2 := Aside0.mk hB2
  have HH2 := Aside0.mk (HH.out.stay hB2)
  clear hRa hCa hB2 cH c5 hca HH
  go_wp2
  go_loopw [15] (fun i wr => ∃ j : Nat, j ≤ l.length ∧ i = .int .i64 j ∧ Aside0 (∀ q, q < j → subR st (rd_T50 l (q : Int)) = true) ∧ Aside0 (Below w2.heap.size w2 wr)) (fun i _ => l.length - (intOf i).toNat)
  case atStart => exact ⟨0, Nat.zero_le _, rfl, ⟨fun q hq => by omega⟩, ⟨Below.refl _ _⟩⟩
  case round =>
    obtain ⟨j, hj, rfl, HG, HW⟩ := hrel
    by_cases hlt : j < l.length
    · obtain ⟨ad, hA, g0, g1, g2, g3, g4, g5, g6, g7⟩ := at_T50 (Kd.C_below HCA.out HW.out) (j : Int) (by omega) (by omega)
      rw [Int.toNat_natCast] at g0 g1 g2 g3 g4 g5 g6 g7
      subst hA
      have hx := HV.out _ (rd_mem hlt)
      have HNO := Aside0.mk (all_not (f := subR st) hlt)
      have HST : Aside0 (subR st (rd_T50 l (j : Int)) = true → ∀ q, q < j + 1 → subR st (rd_T50 l (q : Int)) = true) := ⟨fun h q hq => by
        by_cases e : q = j
        · subst e; exact h
        · exact HG.out q (by omega)⟩
      clear HG
      generalize rd_T50 l (j : Int) = q at HNO HST g0 g1 g2 g3 g4 g5 g6 g7 hx
      obtain ⟨q0, q1, q2, q3, q4, q5, q6, q7⟩ := q
      simp only at g0 g1 g2 g3 g4 g5 g6 g7 hx
      obtain ⟨wb, hwb⟩ : ∃ wb, wb = (wr.alloc (.cells #[.int .i64 q0, .int .i64 q1, .int .i64 q2, .int .i64 q3, .int .i64 q4, .int .i64 q5, .string q6, .string q7] 50)) := ⟨_, rfl⟩
      have hBw : Below wr.heap.size wr wb := by rw [hwb]; exact (Below.refl _ _).alloc (Nat.le_refl _) _
      have bb : wb.heap[wr.heap.size]? = some (.cells #[.int .i64 q0, .int .i64 q1, .int .i64 q2, .int .i64 q3, .int .i64 q4, .int .i64 q5, .string q6, .string q7] 50 (0, 0)) := by rw [hwb]; exact blk_new _ _
      have Hb := HH2.out.stay (HW.out.trans (hBw.mono HW.out.size))
      have b5 : wb.cell? ⟨wr.heap.size, 5, none⟩ = some (.int .i64 q5) := (blk_cell bb 5).trans rfl
      have c0' : wb.cell? ⟨bw, 0, none⟩ = some (.map (some bc)) := (blk_cell Hb.block 0).trans rfl
      have z5 : (wb.alloc (.cells #[.int .i64 0, .int .i64 0, .int .i64 0, .string ⟨#[]⟩, .string ⟨#[]⟩] 33)).cell? ⟨wr.heap.size, 5, none⟩ = some (.int .i64 q5) := (blk_cell (blk_alloc bb _) 5).trans rfl
      have z0 : (wb.alloc (.cells #[.int .i64 0, .int .i64 0, .int .i64 0, .string ⟨#[]⟩, .string ⟨#[]⟩] 33)).cell? ⟨bw, 0, none⟩ = some (.map (some bc)) := (blk_cell (blk_alloc Hb.block _) 0).trans rfl
      have hL := fun w (hw : w.heap[bc]? = wb.heap[bc]?) => lookC_ok (W := w) (Hb.calls.same hw) hx
      have HSUB : Aside0 (subR st ⟨q0, q1, q2, q3, q4, q5, q6, q7⟩ = ((st.calls q5).isSome && (sameOp ((st.calls q5).getD zeroC).f2 ⟨if q4 = 1 then 2 else 3, q6, q7⟩ && okCode ((st.codes q5).getD 0)))) := ⟨by
        unfold subR
        cases st.calls q5 <;> rfl⟩
      have HD := fun w (hw : w.heap[bd]? = wb.heap[bd]?) => lookI (W := w) (Hb.codes.same hw) hx
      generalize (st.codes q5).getD 0 = cd at HD HSUB
      generalize (st.calls q5).getD zeroC = y at hL HSUB
      generalize (st.calls q5).isSome = ok at hL HSUB
      obtain ⟨y0, y1, ⟨y2, y3, y4⟩⟩ := y
      simp only [valC] at hL
      have hl0 := hL wb.drew rfl
      have hl1 := hL (wb.alloc (.cells #[.int .i64 0, .int .i64 0, .int .i64 0, .string ⟨#[]⟩, .string ⟨#[]⟩] 33)).drew (Below.heap_alloc _ _ _ Hb.calls.lt)
      have hDD := Aside0.mk HD
      have HHb := Aside0.mk Hb
      have HBB := Aside0.mk bb
      have HBW : Aside0 (Below w2.heap.size w2 wb) := ⟨HW.out.trans (hBw.mono HW.out.size)⟩
      have hbw : bw < wb.heap.size := blk_lt Hb.block
      have hbr : wr.heap.size < wb.heap.size := blk_lt bb
      clear HD hL Hb bb hBw HW hx
      go_wp2
      rw [← hwb]
      clear hwb g0 g1 g2 g3 g4 g5 g6 g7
      go_region
      all_goals
        obtain ⟨w3, hw3⟩ : ∃ w3, w3 = (wb.alloc (.cells #[.int .i64 y0, .int .i64 y1, .int .i64 y2, .string y3, .string y4] 33)).drew := ⟨_, rfl⟩
        rw [← hw3]
        have hB3 : Below wb.heap.size wb w3 := by rw [hw3]; exact ((Below.refl _ wb).alloc (Nat.le_refl _) _).drew
        have n3 : w3.heap[wb.heap.size]? = some (.cells #[.int .i64 y0, .int .i64 y1, .int .i64 y2, .string y3, .string y4] 33 (0, 0)) := by rw [hw3]; exact blk_drew (blk_new _ _)
        have r3 := blk_below HBB.out hB3
        have H3 := HHb.out.stay hB3
        have k2 : w3.cell? ⟨wb.heap.size, 2, none⟩ = some (.int .i64 y2) := (blk_cell n3 2).trans rfl
        have k3 : w3.cell? ⟨wb.heap.size, 3, none⟩ = some (.string y3) := (blk_cell n3 3).trans rfl
        have k4 : w3.cell? ⟨wb.heap.size, 4, none⟩ = some (.string y4) := (blk_cell n3 4).trans rfl
        have r4 : w3.cell? ⟨wr.heap.size, 4, none⟩ = some (.int .i64 q4) := (blk_cell r3 4).trans rfl
        have r5 : w3.cell? ⟨wr.heap.size, 5, none⟩ = some (.int .i64 q5) := (blk_cell r3 5).trans rfl
        have r6 : w3.cell? ⟨wr.heap.size, 6, none⟩ = some (.string q6) := (blk_cell r3 6).trans rfl
        have r7 : w3.cell? ⟨wr.heap.size, 7, none⟩ = some (.string q7) := (blk_cell r3 7).trans rfl
        have c1 : w3.cell? ⟨bw, 1, none⟩ = some (.map (some bd)) := (blk_cell H3.block 1).trans rfl
        have hd0 := hDD.out w3 (hB3.block bd HHb.out.codes.lt)
        have hd1 := fun nn => hDD.out (w3.drewN nn) (hB3.block bd HHb.out.codes.lt)
        have HB3 := Aside0.mk hB3
        clear hw3 hB3 n3 r3 H3 b5 c0' z5 z0 hl0 hl1 hbw hbr
        cases h1 : (q4 == 1)
        · have HSU : Aside0 (subR st ⟨q0, q1, q2, q3, q4, q5, q6, q7⟩ = (ok && (!(!y2 == 3 || (!y3.toList == q6.toList || !y4.toList == q7.toList)) && okCode cd))) := ⟨by rw [HSUB.out, if_neg (by simpa using h1), same_ne]⟩
          clear HSUB
          go_wp2
          go_quiet (fail)
          clear hd1
          cases ok
          · have HF := Aside0.mk (HNO.out (by rw [HSU.out]; rfl))
            clear HNO HST HSU hd0 r5 c1
            go_wp2
            go_ret
            exact ⟨by rw [HS.out, HF.out]; rfl, HB2.out.trans ((HBW.out.trans ((pw_below_drewN HB3.out nq).mono HBW.out.size)).mono HB2.out.size)⟩
          · cases t2 : (y2 == 3)
            · have HF := Aside0.mk (HNO.out (by rw [HSU.out, t2]; rfl))
              clear HNO HST HSU hd0 r5 c1
              go_wp2
              go_ret
              exact ⟨by rw [HS.out, HF.out]; rfl, HB2.out.trans ((HBW.out.trans ((pw_below_drewN HB3.out nq).mono HBW.out.size)).mono HB2.out.size)⟩
            · cases t3 : (y3.toList == q6.toList)
              · have HF := Aside0.mk (HNO.out (by rw [HSU.out, t2, t3]; rfl))
                clear HNO HST HSU hd0 r5 c1
                go_wp2
                go_ret
                exact ⟨by rw [HS.out, HF.out]; rfl, HB2.out.trans ((HBW.out.trans ((pw_below_drewN HB3.out nq).mono HBW.out.size)).mono HB2.out.size)⟩
              · cases t4 : (y4.toList == q7.toList)
                · have HF := Aside0.mk (HNO.out (by rw [HSU.out, t2, t3, t4]; rfl))
                  clear HNO HST HSU hd0 r5 c1
                  go_wp2
                  go_ret
                  exact ⟨by rw [HS.out, HF.out]; rfl, HB2.out.trans ((HBW.out.trans ((pw_below_drewN HB3.out nq).mono HBW.out.size)).mono HB2.out.size)⟩
                · have HSV : Aside0 (subR st ⟨q0, q1, q2, q3, q4, q5, q6, q7⟩ = okCode cd) := ⟨by rw [HSU.out, t2, t3, t4]; rfl⟩
                  cases e2 : (cd == 2)
                  · cases e5 : (cd == 5)
                    · cases e8 : (cd == 8)
                      · cases e6 : (cd == 6)
                        · have HG2 := Aside0.mk (HST.out (by rw [HSV.out]; unfold okCode; rw [e2, e5, e8, e6]; rfl))
                          clear HNO HST HSU HSV hd0 r5 c1
                          go_wp2
                          go_roundw
                          case rel => exact ⟨j + 1, by omega, by go_num, HG2, ⟨HBW.out.trans ((pw_below_drewN HB3.out nq).mono HBW.out.size)⟩⟩
                          case measure => simp [intOf]; omega
                        · have HF := Aside0.mk (HNO.out (by rw [HSV.out]; unfold okCode; rw [e2, e5, e8, e6]; rfl))
                          clear HNO HST HSU hd0 r5 c1
                          go_wp2
                          go_ret
                          exact ⟨by rw [HS.out, HF.out]; rfl, HB2.out.trans ((HBW.out.trans ((pw_below_drewN HB3.out nq).mono HBW.out.size)).mono HB2.out.size)⟩
                      · have HF := Aside0.mk (HNO.out (by rw [HSV.out]; unfold okCode; rw [e2, e5, e8]; rfl))
                        clear HNO HST HSU hd0 r5 c1
                        go_wp2
                        go_ret
                        exact ⟨by rw [HS.out, HF.out]; rfl, HB2.out.trans ((HBW.out.trans ((pw_below_drewN HB3.out nq).mono HBW.out.size)).mono HB2.out.size)⟩
                    · have HF := Aside0.mk (HNO.out (by rw [HSV.out]; unfold okCode; rw [e2, e5]; rfl))
                      clear HNO HST HSU hd0 r5 c1
                      go_wp2
                      go_ret
                      exact ⟨by rw [HS.out, HF.out]; rfl, HB2.out.trans ((HBW.out.trans ((pw_below_drewN HB3.out nq).mono HBW.out.size)).mono HB2.out.size)⟩
                  · have HF := Aside0.mk (HNO.out (by rw [HSV.out]; unfold okCode; rw [e2]; rfl))
                    clear HNO HST HSU hd0 r5 c1
                    go_wp2
                    go_ret
                    exact ⟨by rw [HS.out, HF.out]; rfl, HB2.out.trans ((HBW.out.trans ((pw_below_drewN HB3.out nq).mono HBW.out.size)).mono HB2.out.size)⟩
        · have HSU : Aside0 (subR st ⟨q0, q1, q2, q3, q4, q5, q6, q7⟩ = (ok && (!(!y2 == 2 || (!y3.toList == q6.toList || !y4.toList == q7.toList)) && okCode cd))) := ⟨by rw [HSUB.out, if_pos (by simpa using h1), same_ne]⟩
          clear HSUB
          go_wp2
          go_quiet (fail)
          clear hd1
          cases ok
          · have HF := Aside0.mk (HNO.out (by rw [HSU.out]; rfl))
            clear HNO HST HSU hd0 r5 c1
            go_wp2
            go_ret
            exact ⟨by rw [HS.out, HF.out]; rfl, HB2.out.trans ((HBW.out.trans ((pw_below_drewN HB3.out nq).mono HBW.out.size)).mono HB2.out.size)⟩
          · cases t2 : (y2 == 2)
            · have HF := Aside0.mk (HNO.out (by rw [HSU.out, t2]; rfl))
              clear HNO HST HSU hd0 r5 c1
              go_wp2
              go_ret
              exact ⟨by rw [HS.out, HF.out]; rfl, HB2.out.trans ((HBW.out.trans ((pw_below_drewN HB3.out nq).mono HBW.out.size)).mono HB2.out.size)⟩
            · cases t3 : (y3.toList == q6.toList)
              · have HF := Aside0.mk (HNO.out (by rw [HSU.out, t2, t3]; rfl))
                clear HNO HST HSU hd0 r5 c1
                go_wp2
                go_ret
                exact ⟨by rw [HS.out, HF.out]; rfl, HB2.out.trans ((HBW.out.trans ((pw_below_drewN HB3.out nq).mono HBW.out.size)).mono HB2.out.size)⟩
              · cases t4 : (y4.toList == q7.toList)
                · have HF := Aside0.mk (HNO.out (by rw [HSU.out, t2, t3, t4]; rfl))
                  clear HNO HST HSU hd0 r5 c1
                  go_wp2
                  go_ret
                  exact ⟨by rw [HS.out, HF.out]; rfl, HB2.out.trans ((HBW.out.trans ((pw_below_drewN HB3.out nq).mono HBW.out.size)).mono HB2.out.size)⟩
                · have HSV : Aside0 (subR st ⟨q0, q1, q2, q3, q4, q5, q6, q7⟩ = okCode cd) := ⟨by rw [HSU.out, t2, t3, t4]; rfl⟩
                  cases e2 : (cd == 2)
                  · cases e5 : (cd == 5)
                    · cases e8 : (cd == 8)
                      · cases e6 : (cd == 6)
                        · have HG2 := Aside0.mk (HST.out (by rw [HSV.out]; unfold okCode; rw [e2, e5, e8, e6]; rfl))
                          clear HNO HST HSU HSV hd0 r5 c1
                          go_wp2
                          go_roundw
                          case rel => exact ⟨j + 1, by omega, by go_num, HG2, ⟨HBW.out.trans ((pw_below_drewN HB3.out nq).mono HBW.out.size)⟩⟩
                          case measure => simp [intOf]; omega
                        · have HF := Aside0.mk (HNO.out (by rw [HSV.out]; unfold okCode; rw [e2, e5, e8, e6]; rfl))
                          clear HNO HST HSU hd0 r5 c1
                          go_wp2
                          go_ret
                          exact ⟨by rw [HS.out, HF.out]; rfl, HB2.out.trans ((HBW.out.trans ((pw_below_drewN HB3.out nq).mono HBW.out.size)).mono HB2.out.size)⟩
                      · have HF := Aside0.mk (HNO.out (by rw [HSV.out]; unfold okCode; rw [e2, e5, e8]; rfl))
                        clear HNO HST HSU hd0 r5 c1
                        go_wp2
                        go_ret
                        exact ⟨by rw [HS.out, HF.out]; rfl, HB2.out.trans ((HBW.out.trans ((pw_below_drewN HB3.out nq).mono HBW.out.size)).mono HB2.out.size)⟩
                    · have HF := Aside0.mk (HNO.out (by rw [HSV.out]; unfold okCode; rw [e2, e5]; rfl))
                      clear HNO HST HSU hd0 r5 c1
                      go_wp2
                      go_ret
                      exact ⟨by rw [HS.out, HF.out]; rfl, HB2.out.trans ((HBW.out.trans ((pw_below_drewN HB3.out nq).mono HBW.out.size)).mono HB2.out.size)⟩
                  · have HF := Aside0.mk (HNO.out (by rw [HSV.out]; unfold okCode; rw [e2]; rfl))
                    clear HNO HST HSU hd0 r5 c1
                    go_wp2
                    go_ret
                    exact ⟨by rw [HS.out, HF.out]; rfl, HB2.out.trans ((HBW.out.trans ((pw_below_drewN HB3.out nq).mono HBW.out.size)).mono HB2.out.size)⟩
    · obtain rfl : j = l.length := by omega
      have HX := Aside0.mk (all_yes HG.out)
      go_wp2
      go_ret
      exact ⟨by rw [HS.out, HX.out]; rfl, HB2.out.trans (HW.out.mono HB2.out.size)⟩
end Go.Proofs.Ytegfnceepplooaa.TR
