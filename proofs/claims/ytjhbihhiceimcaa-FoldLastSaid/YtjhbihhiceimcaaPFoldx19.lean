-- Printed by wip/tools/myprint.py (over the kit's print.py), with hand-written contracts; Lean checks all of it.
import Derived.Test.YtjhbihhiceimcaaPFoldx0
import Derived.Test.YtjhbihhiceimcaaPFoldx3
import Derived.Test.YtjhbihhiceimcaaPFoldx5
import Derived.Test.YtjhbihhiceimcaaPFoldx11
import Derived.Test.YtjhbihhiceimcaaPFoldx12
import Derived.Test.YtjhbihhiceimcaaPFoldx17
namespace Go.Proofs.Ytjhbihhiceimcaa.PFold
open Go.RowKit Go.Proofs.YtjhbihhiceimcaaW.PrintWords Go.Proofs.YtjhbihhiceimcaaW.PrintLast Go.Proofs.YtjhbihhiceimcaaW.PrintMore
attribute [local go_sem] max2_int min2_int max_two min_two max_three min_three max_four min_four   -- for this text's walks alone
set_option linter.unusedVariables false
set_option linter.unusedSimpArgs false

/-! ### latticelaw18_FoldLast: function 5 -/
def lastRec (key : ByteArray) (st : Bool × ByteArray) (r : S43) : Bool × ByteArray := if (r.f6.toList == key.toList) = true then (if r.f4 = 1 then (true, r.f7) else (false, ⟨#[]⟩)) else st
def latticelaw18_FoldLast.f (k : Nat) (l0 : List S43) (a1 : ByteArray) : Option Bool := if (l0.length : Int) > 2000 then latticelaw18_speaks.f k else (fold_History.f l0).bind fun l => (fold_Behind.f l0 (l.length : Int)).bind fun m => (fold_Answer.f k m.1 1 a1 ⟨#[]⟩).bind fun x => (latticeplain_Result.f k x.1 x.2.1 x.2.2.1 (l.foldl (lastRec a1) (false, ⟨#[]⟩)).1 (l.foldl (lastRec a1) (false, ⟨#[]⟩)).2 []).bind fun t => if m.2 = 0 ∧ x.2.2.2 = 0 ∧ t = true then latticelaw18_speaks.f k else none
theorem latticelaw18_FoldLast.mono (l0 : List S43) (a1 : ByteArray) : ∀ k, LeO (latticelaw18_FoldLast.f k l0 a1) (latticelaw18_FoldLast.f (k + 1) l0 a1) := fun k =>
  LeO.ite (latticelaw18_speaks.mono _) (LeO.bind (LeO.refl _) (fun _ => LeO.bind (LeO.refl _) (fun _ => LeO.bind (fold_Answer.mono _ _ _ _ _) (fun _ => LeO.bind (latticeplain_Result.mono _ _ _ _ _ _ _) (fun _ => LeO.ite (latticelaw18_speaks.mono _) (LeO.refl _))))))
set_option maxHeartbeats 8000000 in
set_option maxRecDepth 100000 in
theorem latticelaw18_FoldLast.calls (k : Nat) (A0 : Option Addr) (c0 : Nat) (l0 : List (S43)) (a1 : ByteArray) (r : Bool) (w : World) (hr0 : Kd.C k43 w A0 l0.length l0) (hc0 : l0.length ≤ c0) (ht_ : Aside0 (r = true)) (h : latticelaw18_FoldLast.f k l0 a1 = some r) :
    Calls Try.prog 5 #[.slice A0 l0.length c0, .string a1] w fun e w' => e = .returned (.bool r) ∧ Below w.heap.size w w' := by
  unfold latticelaw18_FoldLast.f at h
  obtain rfl := ht_.out
  by_cases hb : (l0.length : Int) > 2000
  · rw [if_pos hb] at h
    have hb0 : decide (2000 < (l0.length : Int)) = true := decide_eq_true hb
    have H := Aside0.mk h
    clear h hb
    go_enter Try.func5, Try.ntmps5
    go_wp2_with fail
    refine (latticelaw18_speaks.calls k true w ⟨rfl⟩ H.out).mono ?_
    rintro e w1 ⟨rfl, hB⟩
    have HB := Aside0.mk hB
    clear hB
    go_wp2
    go_ret
    exact ⟨rfl, HB.out⟩
  · rw [if_neg hb] at h
    have hb0 : decide (2000 < (l0.length : Int)) = false := decide_eq_false hb
    clear hb
    have h1 := Option.bind_eq_some_iff.1 h
    clear h
    obtain ⟨l, hH, h1⟩ := h1
    have h2 := Option.bind_eq_some_iff.1 h1
    clear h1
    obtain ⟨⟨m1, m2⟩, hM, h2⟩ := h2
    have h3 := Option.bind_eq_some_iff.1 h2
    clear h2
    obtain ⟨⟨x1, x2, x3, x4⟩, hX, h3⟩ := h3
    have h4 := Option.bind_eq_some_iff.1 h3
    clear h3
    obtain ⟨t, hT, h4⟩ := h4
    by_cases hc : m2 = 0 ∧ x4 = 0 ∧ t = true
    · rw [if_pos hc] at h4
      obtain ⟨rfl, rfl, rfl⟩ := hc
      have cB := fun W (hW : Below w.heap.size w W) => fold_Behind.calls A0 c0 l0 (l.length : Int) m1 0 W (Kd.C_below hr0 hW) hc0 hM
      have cH := fold_History.calls A0 c0 l0 l w hr0 hc0 hH
      have H3 := Aside0.mk hX
      have H4 := Aside0.mk hT
      have H5 := Aside0.mk h4
      have CB := Aside0.mk cB
      clear hX hT h4 cB hM hH
      go_enter Try.func5, Try.ntmps5
      go_wp2_with fail
      refine cH.mono ?_
      rintro e w1 ⟨v, rfl, hR, hB⟩
      obtain ⟨A, c, rfl, hlc, hC⟩ := Kd.R_reads hR
      have hmax : l.length ≤ 9223372036854775807 := Kd.C_max hC
      have HC := Aside0.mk hC
      have HB1 := Aside0.mk hB
      clear hR hC hB cH
      go_wp2_with fail
      refine (CB.out w1 HB1.out).mono ?_
      rintro e w2 ⟨v, rfl, hR, hB⟩
      obtain ⟨A2, c2, rfl, hlc2, hC2⟩ := Kd.R_reads hR
      have HC2 := Aside0.mk hC2
      have HL2 := Aside0.mk hlc2
      have HB2 := Aside0.mk hB
      clear hR hC2 hB hlc2
      go_wp2_with fail
      go_loopw [29] (fun i wr => ∃ j : Nat, j ≤ l.length ∧ i = .int .i64 j ∧ Aside0 (wr.heap[w2.heap.size]? = some (.cells #[.bool ((l.take j).foldl (lastRec a1) (false, ⟨#[]⟩)).1, .string ((l.take j).foldl (lastRec a1) (false, ⟨#[]⟩)).2, .slice none 0 0] 32 (0, 0))) ∧ Aside0 (Below w2.heap.size w2 wr)) (fun i _ => l.length - (intOf i).toNat)
      case atStart => exact ⟨0, Nat.zero_le _, rfl, ⟨by rw [List.take_zero]; exact blk_new _ _⟩, ⟨(Below.refl _ _).alloc (Nat.le_refl _) _⟩⟩
      case round =>
        obtain ⟨j, hj, rfl, HK, HW⟩ := hrel
        by_cases hlt : j < l.length
        · have HT : Aside0 ((l.take (j + 1)).foldl (lastRec a1) (false, ⟨#[]⟩) = lastRec a1 ((l.take j).foldl (lastRec a1) (false, ⟨#[]⟩)) (rd_T43 l (j : Int))) := ⟨by
            rw [List.take_succ_eq_append_getElem hlt, List.foldl_append]
            show lastRec a1 _ l[j] = _
            rw [show rd_T43 l (j : Int) = l[j] from by unfold rd_T43; simp [hlt]]⟩
          obtain ⟨ad, hA, g0, g1, g2, g3, g4, g5, g6, g7⟩ := at_T43 (Kd.C_below (Kd.C_below HC.out HB2.out) HW.out) (j : Int) (by omega) (by omega)
          rw [Int.toNat_natCast] at g0 g1 g2 g3 g4 g5 g6 g7
          subst hA
          generalize rd_T43 l (j : Int) = q at HT g0 g1 g2 g3 g4 g5 g6 g7
          generalize (l.take j).foldl (lastRec a1) (false, ⟨#[]⟩) = st at HT HK
          obtain ⟨q0, q1, q2, q3, q4, q5, q6, q7⟩ := q
          obtain ⟨s1, s2⟩ := st
          simp only at g0 g1 g2 g3 g4 g5 g6 g7
          have rb := HK.out
          simp only at rb
          have HLT := Aside0.mk (blk_lt rb)
          have z0 : wr.cell? ⟨w2.heap.size, 0, none⟩ = some (.bool s1) := (blk_cell rb 0).trans rfl
          have z1 : wr.cell? ⟨w2.heap.size, 1, none⟩ = some (.string s2) := (blk_cell rb 1).trans rfl
          have z2 : wr.cell? ⟨w2.heap.size, 2, none⟩ = some (.slice none 0 0) := (blk_cell rb 2).trans rfl
          have zf0 := blk_frozen rb 0
          have zf1 := blk_frozen rb 1
          have zf2 := blk_frozen rb 2
          have hsz := blk_lt rb
          clear rb
          cases hk : (q6.toList == a1.toList)
          · have HT2 : Aside0 ((l.take (j + 1)).foldl (lastRec a1) (false, ⟨#[]⟩) = (s1, s2)) := ⟨by rw [HT.out]; unfold lastRec; rw [if_neg (by rw [hk]; decide)]⟩
            go_wp2
            go_roundw
            case rel => exact ⟨j + 1, by omega, by go_num, ⟨by rw [HT2.out]; exact blk_alloc HK.out _⟩, ⟨HW.out.alloc HW.out.size _⟩⟩
            case measure => simp [intOf]; omega
          · by_cases h1 : q4 = 1
            · subst h1
              have HT2 : Aside0 ((l.take (j + 1)).foldl (lastRec a1) (false, ⟨#[]⟩) = (true, q7)) := ⟨by rw [HT.out]; unfold lastRec; rw [if_pos hk, if_pos rfl]⟩
              go_wp2
              go_roundw
              case rel => exact ⟨j + 1, by omega, by go_num, ⟨by
                rw [HT2.out]
                refine blk_alloc (blk_put (cs := #[.bool true, .string (⟨#[]⟩ : ByteArray), .slice none 0 0]) ?_ 1 _ rfl) _
                refine blk_put (cs := #[.bool true, .string (⟨#[]⟩ : ByteArray), .slice none 0 0]) ?_ 2 _ rfl
                refine blk_put (cs := #[.bool true, .string s2, .slice none 0 0]) ?_ 1 _ rfl
                refine blk_put (cs := #[.bool s1, .string s2, .slice none 0 0]) ?_ 0 _ rfl
                exact HK.out⟩, ⟨by
                have b := below_set (below_set (below_set (below_set HW.out (Nat.le_refl _) (j := 0) (v := .bool true)) (Nat.le_refl _) (j := 1) (v := .string ⟨#[]⟩)) (Nat.le_refl _) (j := 2) (v := .slice none 0 0)) (Nat.le_refl _) (j := 1) (v := .string q7)
                exact b.alloc b.size _⟩⟩
              case measure => simp [intOf]; omega
            · have h1b : (q4 == 1) = false := by simpa using h1
              have HT2 : Aside0 ((l.take (j + 1)).foldl (lastRec a1) (false, ⟨#[]⟩) = (false, ⟨#[]⟩)) := ⟨by rw [HT.out]; unfold lastRec; rw [if_pos hk, if_neg h1]⟩
              go_wp2
              go_roundw
              case rel => exact ⟨j + 1, by omega, by go_num, ⟨by
                rw [HT2.out]
                refine blk_alloc (blk_put (cs := #[.bool false, .string (⟨#[]⟩ : ByteArray), .slice none 0 0]) ?_ 2 _ rfl) _
                refine blk_put (cs := #[.bool false, .string s2, .slice none 0 0]) ?_ 1 _ rfl
                refine blk_put (cs := #[.bool s1, .string s2, .slice none 0 0]) ?_ 0 _ rfl
                exact HK.out⟩, ⟨by
                have b := below_set (below_set (below_set HW.out (Nat.le_refl _) (j := 0) (v := .bool false)) (Nat.le_refl _) (j := 1) (v := .string ⟨#[]⟩)) (Nat.le_refl _) (j := 2) (v := .slice none 0 0)
                exact b.alloc b.size _⟩⟩
              case measure => simp [intOf]; omega
        · obtain rfl : j = l.length := by omega
          rw [List.take_length] at HK
          have HBW : Aside0 (Below w.heap.size w wr) := ⟨HB1.out.trans ((HB2.out.trans (HW.out.mono HB2.out.size)).mono HB1.out.size)⟩
          have cX := fold_Answer.calls k A2 c2 m1 1 a1 ⟨#[]⟩ x1 x2 x3 0 wr (Kd.C_below HC2.out HW.out) HL2.out H3.out
          generalize l.foldl (lastRec a1) (false, ⟨#[]⟩) = st at HK H4
          obtain ⟨s1, s2⟩ := st
          clear HC HC2 HL2 HB1 HB2 HW
          go_wp2_with fail
          refine cX.mono ?_
          rintro e w3 ⟨v, rfl, hR, hB⟩
          obtain ⟨A3, c3, rfl, hlc3, hC3⟩ := Kd.R_reads hR
          have HK3 : Aside0 (w3.heap[w2.heap.size]? = some (.cells #[.bool s1, .string s2, .slice none 0 0] 32 (0, 0))) := ⟨(hB.block _ (blk_lt HK.out)).trans HK.out⟩
          have HB3 : Aside0 (Below w.heap.size w w3) := ⟨HBW.out.trans (hB.mono HBW.out.size)⟩
          have HC3 := Aside0.mk hC3
          have HL3 := Aside0.mk hlc3
          have z0 : w3.cell? ⟨w2.heap.size, 0, none⟩ = some (.bool s1) := (blk_cell HK3.out 0).trans rfl
          have z1 : w3.cell? ⟨w2.heap.size, 1, none⟩ = some (.string s2) := (blk_cell HK3.out 1).trans rfl
          have z2 : w3.cell? ⟨w2.heap.size, 2, none⟩ = some (.slice none 0 0) := (blk_cell HK3.out 2).trans rfl
          have hsz := blk_lt HK3.out
          clear hR hB hlc3 hC3 cX HK HBW
          go_wp2_with fail
          have cT := latticeplain_Result.calls k x1 x2 A3 c3 x3 s1 s2 none 0 [] true (w3.alloc (.cells #[.bool x1, .string x2, .slice A3 x3.length c3] 32)) (Kd.C_alloc HC3.out _) HL3.out (Kd.C_nil _ _) (Nat.le_refl _) H4.out
          refine cT.mono ?_
          rintro e w4 ⟨rfl, hB⟩
          have hb3 := HB3.out.alloc HB3.out.size (.cells #[.bool x1, .string x2, .slice A3 x3.length c3] 32)
          have HB4 : Aside0 (Below w.heap.size w w4) := ⟨hb3.trans (hB.mono hb3.size)⟩
          clear hB cT hb3 HB3 HC3 HL3 HK3 z0 z1 z2 hsz
          go_wp2_with fail
          refine (latticelaw18_speaks.calls k true w4 ⟨rfl⟩ H5.out).mono ?_
          rintro e w5 ⟨rfl, hB⟩
          have HB5 : Aside0 (Below w.heap.size w w5) := ⟨HB4.out.trans (hB.mono HB4.out.size)⟩
          clear hB HB4
          go_wp2
          go_ret
          exact ⟨rfl, HB5.out⟩
    · rw [if_neg hc] at h4
      cases h4


end Go.Proofs.Ytjhbihhiceimcaa.PFold
