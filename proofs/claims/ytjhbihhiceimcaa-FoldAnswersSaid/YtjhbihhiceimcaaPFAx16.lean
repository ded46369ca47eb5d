-- Printed by wip/tools/myprint.py (over the kit's print.py), with hand-written contracts; Lean checks all of it.
import Derived.Test.YtjhbihhiceimcaaPFAx0
import Derived.Test.YtjhbihhiceimcaaPFAx12
import Derived.Test.YtjhbihhiceimcaaPFAx13
import Derived.Test.YtjhbihhiceimcaaPFAx14
import Derived.Test.YtjhbihhiceimcaaPFAx15
import Derived.WalkLawsBesides
namespace Go.Proofs.Ytjhbihhiceimcaa.PFA
open Go.RowKit Go.Proofs.YtjhbihhiceimcaaW.PrintWords Go.Proofs.YtjhbihhiceimcaaW.PrintLast Go.Proofs.YtjhbihhiceimcaaW.PrintMore
attribute [local go_sem] max2_int min2_int max_two min_two max_three min_three max_four min_four   -- for this text's walks alone
set_option linter.unusedVariables false
set_option linter.unusedSimpArgs false

/-! ### latticeref18_Answer: function 11 -/
open Go.Proofs.Ytjhbihhiceimcaa.FMap
theorem wrap_up' {n : Nat} (h : n < 9223372036854775807) : wrap64 ((n : Int) + 1) = ((n + 1 : Nat) : Int) := by unfold wrap64; omega
theorem size_kb' (s : ByteArray) : s.size = (kb s).length := by unfold kb; rw [Array.length_toList]; rfl
def cmpL : List UInt8 → List UInt8 → Int
  | [], [] => 0
  | [], _ :: _ => -1
  | _ :: _, [] => 1
  | x :: a, y :: b => if (x.toNat : Int) < (y.toNat : Int) then -1 else if (x.toNat : Int) > (y.toNat : Int) then 1 else cmpL a b

theorem bt_kb {s : ByteArray} {i : Nat} (h : i < (kb s).length) : bt s (i : Int) = ((kb s)[i].toNat : Int) := by
  have h' : i < s.size := by rw [size_kb']; exact h
  unfold bt
  rw [Int.toNat_natCast, dif_pos h']
  rfl

theorem compare_l0 (a b : ByteArray) (ha : a.size < 9223372036854775807) : ∀ (d i : Nat), i + d = (kb a).length → i ≤ (kb b).length →
    Ev (fun k => latticeref05_Compare.l0 k a b (i : Int)) (cmpL ((kb a).drop i) ((kb b).drop i)) := by
  have hA := size_kb' a
  have hB := size_kb' b
  intro d
  induction d with
  | zero =>
    intro i hi hb
    rw [List.drop_eq_nil_of_le (by omega)]
    refine Ev.step (f := fun k => latticeref05_Compare.j1 k a b (i : Int) false) (fun k => ?_) (Ev.step (f := fun _ => some (cmpL [] ((kb b).drop i))) (fun k => ?_) (Ev.now _))
    · simp only [latticeref05_Compare.l0]
      rw [if_neg (by omega)]
    · simp only [latticeref05_Compare.j1]
      rw [if_neg (by decide)]
      by_cases h : i < (kb b).length
      · rw [List.drop_eq_getElem_cons h, if_pos (by omega)]
        rfl
      · rw [List.drop_eq_nil_of_le (by omega), if_neg (by omega), if_neg (by omega)]
        rfl
  | succ d ih =>
    intro i hi hb
    have hlt : i < (kb a).length := by omega
    rw [List.drop_eq_getElem_cons hlt]
    by_cases h : i < (kb b).length
    · rw [List.drop_eq_getElem_cons h]
      have ea := bt_kb hlt
      have eb := bt_kb h
      have hstep : ∀ k, latticeref05_Compare.l0 (k + 1) a b (i : Int) = latticeref05_Compare.j1 k a b (i : Int) true := fun k => by
        simp only [latticeref05_Compare.l0]
        rw [if_pos (by omega), decide_eq_true (by omega)]
      refine Ev.step hstep ?_
      have hj : ∀ k, latticeref05_Compare.j1 (k + 1) a b (i : Int) true = if ((kb a)[i].toNat : Int) < ((kb b)[i].toNat : Int) then some (-1) else if ((kb a)[i].toNat : Int) > ((kb b)[i].toNat : Int) then some 1 else latticeref05_Compare.l0 k a b ((i + 1 : Nat) : Int) := fun k => by
        simp only [latticeref05_Compare.j1]
        rw [if_pos trivial, if_pos (by omega), if_pos (by omega), if_pos (by omega), ea, eb, wrap_up' (by omega)]
      refine Ev.step hj ?_
      unfold cmpL
      by_cases h1 : ((kb a)[i].toNat : Int) < ((kb b)[i].toNat : Int)
      · refine Ev.congr (f := fun _ => some (-1)) (fun k => by rw [if_pos h1]) ?_
        rw [if_pos h1]
        exact Ev.now _
      · by_cases h2 : ((kb a)[i].toNat : Int) > ((kb b)[i].toNat : Int)
        · refine Ev.congr (f := fun _ => some 1) (fun k => by rw [if_neg h1, if_pos h2]) ?_
          rw [if_neg h1, if_pos h2]
          exact Ev.now _
        · refine Ev.congr (f := fun k => latticeref05_Compare.l0 k a b ((i + 1 : Nat) : Int)) (fun k => by rw [if_neg h1, if_neg h2]) ?_
          rw [if_neg h1, if_neg h2]
          exact ih (i + 1) (by omega) (by omega)
    · rw [List.drop_eq_nil_of_le (by omega : (kb b).length ≤ i)]
      refine Ev.step (f := fun k => latticeref05_Compare.j1 k a b (i : Int) false) (fun k => ?_) (Ev.step (f := fun _ => some 1) (fun k => ?_) (Ev.now _))
      · simp only [latticeref05_Compare.l0]
        rw [if_pos (by omega), decide_eq_false (by omega)]
      · simp only [latticeref05_Compare.j1]
        rw [if_neg (by decide), if_neg (by omega), if_pos (by omega)]

theorem compare_ev (a b : ByteArray) (ha : a.size < 9223372036854775807) : Ev (fun k => latticeref05_Compare.f k a b) (cmpL (kb a) (kb b)) :=
  compare_l0 a b ha (kb a).length 0 (by omega) (by omega)

theorem cmpL_less : ∀ (a b : List UInt8), (cmpL a b < 0) ↔ Op.bytesLess a b = true
  | [], [] => by simp [cmpL, Op.bytesLess]
  | [], _ :: _ => by simp [cmpL, Op.bytesLess]
  | _ :: _, [] => by simp [cmpL, Op.bytesLess]
  | x :: a, y :: b => by
    have ih := cmpL_less a b
    unfold cmpL Op.bytesLess
    by_cases h1 : (x.toNat : Int) < (y.toNat : Int)
    · have : x < y := by rw [UInt8.lt_iff_toNat_lt]; omega
      rw [if_pos h1]
      simp [this]
    · have n1 : ¬ x < y := by rw [UInt8.lt_iff_toNat_lt]; omega
      rw [if_neg h1]
      by_cases h2 : (x.toNat : Int) > (y.toNat : Int)
      · have n2 : x ≠ y := fun e => by rw [e] at h2; omega
        rw [if_pos h2]
        simp [n1, n2]
      · have e : x = y := by apply UInt8.toNat_inj.1; omega
        rw [if_neg h2, ih]
        simp [e]

theorem keyC_r (k : ByteArray) : latticeref05_Check.f k = some (if keyR k = true then 0 else 50) := by
  unfold latticeref05_Check.f keyR
  rw [Go.ByteArray.toList_eq]
  have hs := size_kb' k
  unfold kb at hs
  by_cases h1 : (k.size : Int) < 1
  · rw [if_pos h1]
    have : k.data.toList = [] := List.eq_nil_of_length_eq_zero (by omega)
    simp [this]
  · rw [if_neg h1]
    have : k.data.toList.isEmpty = false := by cases e : k.data.toList with | nil => rw [e, List.length_nil] at hs; omega | cons _ _ => rfl
    rw [this]
    by_cases h2 : (k.size : Int) > 16
    · rw [if_pos h2]; simp; omega
    · rw [if_neg h2]; simp; omega
theorem keyV_r (v : ByteArray) : latticeref05_Value.f v = some (if valR v = true then 0 else 51) := by
  unfold latticeref05_Value.f valR
  by_cases h : (v.size : Int) > 32
  · rw [if_pos h]; simp; omega
  · rw [if_neg h]; simp; omega
def latticeref18_Answer.f (k : Nat) (l0 : List S50) (a1_0 : Int) (a1_1 : ByteArray) (a1_2 : ByteArray) : Option (Bool × ByteArray × List S50 × Int) := if l0.length ≤ 4398046511104 then (if goodE l0 = true then (if a1_0 < 1 then some (false, ⟨#[]⟩, [], 1) else if 4 < a1_0 then some (false, ⟨#[]⟩, [], 1) else (latticeref18_Given.f k l0 a1_0 a1_1 a1_2).bind fun g => some (g.1, g.2.1, g.2.2, 0)) else some (false, ⟨#[]⟩, [], 4)) else none
theorem latticeref18_Answer.mono (l0 : List S50) (a1_0 : Int) (a1_1 : ByteArray) (a1_2 : ByteArray) : ∀ k, LeO (latticeref18_Answer.f k l0 a1_0 a1_1 a1_2) (latticeref18_Answer.f (k + 1) l0 a1_0 a1_1 a1_2) := fun k =>
  LeO.ite (LeO.ite (LeO.ite (LeO.refl _) (LeO.ite (LeO.refl _) (LeO.bind (latticeref18_Given.mono _ _ _ _ _) (fun _ => LeO.refl _)))) (LeO.refl _)) (LeO.refl _)
set_option maxHeartbeats 8000000 in
set_option maxRecDepth 100000 in
theorem latticeref18_Answer.calls (k : Nat) (A0 : Option Addr) (c0 : Nat) (l0 : List (S50)) (a1_0 : Int) (a1_1 : ByteArray) (a1_2 : ByteArray) (r1 : Bool) (r2 : ByteArray) (r3 : List (S50)) (r4 : Int) (w : World) (hr0 : Kd.C k50 w A0 l0.length l0) (hc0 : l0.length ≤ c0) (h : latticeref18_Answer.f k l0 a1_0 a1_1 a1_2 = some (r1, r2, r3, r4)) :
    Calls Try.prog 11 #[.slice A0 l0.length c0, .agg #[.int .i64 a1_0, .string a1_1, .string a1_2]] w fun e w' => ∃ v2_ : Value, e = .returned (.tuple #[.agg #[.bool r1, .string r2, v2_], .int .i64 r4]) ∧ Kd.R k50 50 w' w.heap.size (fun _ => True) v2_ r3 ∧ Below w.heap.size w w' := by
  unfold latticeref18_Answer.f at h
  by_cases hlen : l0.length ≤ 4398046511104
  · rw [if_pos hlen] at h
    obtain ⟨W0, hW0⟩ : ∃ W0, W0 = (w.alloc (.cells #[.int .i64 a1_0, .string a1_1, .string a1_2] 30)).alloc (.cells #[.bool false, .string ⟨#[]⟩, .slice none 0 0] 32) := ⟨_, rfl⟩
    have hB0 : Below w.heap.size w W0 := by rw [hW0]; exact ((Below.refl _ w).alloc (Nat.le_refl _) _).alloc (by simp) _
    have hsize : W0.heap.size = w.heap.size + 1 + 1 := by rw [hW0]; simp
    have o0 : W0.cell? ⟨w.heap.size, 0, none⟩ = some (.int .i64 a1_0) := by rw [hW0]; simp
    have o1 : W0.cell? ⟨w.heap.size, 1, none⟩ = some (.string a1_1) := by rw [hW0]; simp
    have o2 : W0.cell? ⟨w.heap.size, 2, none⟩ = some (.string a1_2) := by rw [hW0]; simp
    have OX : Aside0 (∀ W, Below W0.heap.size W0 W → W.cell? ⟨w.heap.size, 0, none⟩ = some (.int .i64 a1_0) ∧ W.cell? ⟨w.heap.size, 1, none⟩ = some (.string a1_1) ∧ W.cell? ⟨w.heap.size, 2, none⟩ = some (.string a1_2)) :=
      ⟨fun W hW => ⟨(hW.cell (p := ⟨w.heap.size, 0, none⟩) (by rw [hsize]; show w.heap.size < _; omega)).trans o0, (hW.cell (p := ⟨w.heap.size, 1, none⟩) (by rw [hsize]; show w.heap.size < _; omega)).trans o1, (hW.cell (p := ⟨w.heap.size, 2, none⟩) (by rw [hsize]; show w.heap.size < _; omega)).trans o2⟩⟩
    have r0 : W0.heap[w.heap.size + 1]? = some (.cells #[.bool false, .string ⟨#[]⟩, .slice none 0 0] 32 (0, 0)) := by
      rw [hW0]
      have := blk_new (w.alloc (.cells #[.int .i64 a1_0, .string a1_1, .string a1_2] 30)) (.cells #[.bool false, .string ⟨#[]⟩, .slice none 0 0] 32)
      rwa [World.size_alloc] at this
    have RB : Aside0 (∀ W, Below W0.heap.size W0 W → W.heap[w.heap.size + 1]? = some (.cells #[.bool false, .string ⟨#[]⟩, .slice none 0 0] 32 (0, 0))) := ⟨fun W hW => (hW.block _ (by rw [hsize]; omega)).trans r0⟩
    have HC := Aside0.mk (show ∀ W, Below W0.heap.size W0 W → Kd.C k50 W A0 l0.length l0 from fun W hW => Kd.C_below hr0 (hB0.trans (hW.mono hB0.size)))
    have HB0 := Aside0.mk hB0
    have HSZ := Aside0.mk hsize
    have HH := Aside0.mk h
    have HC0 := Aside0.mk hc0
    clear h hr0 o0 o1 o2 r0 hB0 hsize hc0
    go_enter Try.func11, Try.ntmps11
    go_wp2
    rw [← hW0]
    have HWE := Aside0.mk hW0
    clear hW0
    go_loopw [10] (fun i wr => ∃ j : Nat, j ≤ l0.length ∧ i = .int .i64 j ∧ Aside0 (∀ q, q < j → goodAt l0 q = true) ∧ Aside0 (Below W0.heap.size W0 wr)) (fun i _ => l0.length - (intOf i).toNat)
    case atStart => exact ⟨0, Nat.zero_le _, rfl, ⟨fun q hq => by omega⟩, ⟨Below.refl _ _⟩⟩
    case round =>
      obtain ⟨j, hj, rfl, HG, HW⟩ := hrel
      by_cases hlt : j < l0.length
      · have hnog : goodAt l0 j = false → Aside0 (false = r1 ∧ (⟨#[]⟩ : ByteArray) = r2 ∧ [] = r3 ∧ 4 = r4) := fun hb => ⟨by
          have hh := HH.out
          rw [if_neg (by rw [goodE_no hlt hb]; decide)] at hh
          simpa using hh⟩
        obtain ⟨ad, hA, g0, g1⟩ := at_T50 (HC.out wr HW.out) (j : Int) (by omega) (by omega)
        rw [Int.toNat_natCast] at g0 g1
        subst hA
        have HGA : Aside0 (goodAt l0 j = (keyR (rd_T50 l0 (j : Int)).f0 && (valR (rd_T50 l0 (j : Int)).f1 && (decide (j = 0) || Op.bytesLess (rd_T50 l0 ((j - 1 : Nat) : Int)).f0.toList (rd_T50 l0 (j : Int)).f0.toList)))) := ⟨rfl⟩
        generalize (rd_T50 l0 (j : Int)).f0 = key at g0 HGA
        generalize (rd_T50 l0 (j : Int)).f1 = val at g1 HGA
        have cK : ∀ W, Calls Try.prog 23 #[.string key] W fun e w' => e = .returned (.int .i64 (if keyR key = true then 0 else 50)) ∧ ∃ m, w' = W.drewN m := fun W => (latticeref05_Check.calls key _ W (keyC_r key)).mono fun e w' ⟨he, hd⟩ => ⟨he, hd.out⟩
        have cV : ∀ W, Calls Try.prog 24 #[.string val] W fun e w' => e = .returned (.int .i64 (if valR val = true then 0 else 51)) ∧ ∃ m, w' = W.drewN m := fun W => (latticeref05_Value.calls val _ W (keyV_r val)).mono fun e w' ⟨he, hd⟩ => ⟨he, hd.out⟩
        have rb := RB.out wr HW.out
        have z0 : wr.cell? ⟨w.heap.size + 1, 0, none⟩ = some (.bool false) := (blk_cell rb 0).trans rfl
        have z1 : wr.cell? ⟨w.heap.size + 1, 1, none⟩ = some (.string ⟨#[]⟩) := (blk_cell rb 1).trans rfl
        have z2 : wr.cell? ⟨w.heap.size + 1, 2, none⟩ = some (.slice none 0 0) := (blk_cell rb 2).trans rfl
        have zf0 := blk_frozen rb 0
        have zf1 := blk_frozen rb 1
        have zf2 := blk_frozen rb 2
        have RBW := Aside0.mk rb
        have HBW : Aside0 (Below w.heap.size w wr) := ⟨HB0.out.trans (HW.out.mono HB0.out.size)⟩
        have hws : w.heap.size + 1 < wr.heap.size := by have := HW.out.size; have := HSZ.out; omega
        clear rb
        cases hk : keyR key
        · have HN := hnog (by rw [HGA.out, hk]; rfl)
          obtain ⟨rfl, rfl, rfl, rfl⟩ := HN.out
          rw [hk] at cK
          clear hk HN hnog
          go_wp2
          go_quiet ((go_at_call 23; exact Calls.quiet_of (cK _)))
          go_wp2
          refine bodyPost_ret (results_ct rfl _ _ (w.heap.size + 1) 32 #[.bool false, .string (⟨#[]⟩ : ByteArray), .slice none 0 0] (0, 0) _ rfl (by refine blk_put (cs := #[.bool false, .string (⟨#[]⟩ : ByteArray), .slice none 0 0]) ?_ 2 _ rfl; refine blk_put (cs := #[.bool false, .string (⟨#[]⟩ : ByteArray), .slice none 0 0]) ?_ 1 _ rfl; refine blk_put (cs := #[.bool false, .string (⟨#[]⟩ : ByteArray), .slice none 0 0]) ?_ 0 _ rfl; (with_reducible repeat (first | refine blk_drewN ?_ _ | refine blk_drew ?_ | refine blk_alloc ?_ _)); exact RBW.out) Try.underlying32 rfl (by kernel_rfl)) rfl ?_
          exact ⟨_, rfl, Kd.R_nil _ _ _ _ _, by repeat (first | exact HBW.out | apply pw_below_drewN | apply below_drew | refine below_set ?_ (Nat.le_succ _) | (refine Below.alloc ?_ HBW.out.size _))⟩
        · rw [hk] at cK
          cases hv : valR val
          · have HN := hnog (by rw [HGA.out, hk, hv]; rfl)
            obtain ⟨rfl, rfl, rfl, rfl⟩ := HN.out
            rw [hv] at cV
            clear hk hv HN hnog
            go_wp2
            go_quiet (first | (go_at_call 23; exact Calls.quiet_of (cK _)) | (go_at_call 24; exact Calls.quiet_of (cV _)) | (go_at_call 25; exact Calls.quiet_of (cC _)))
            go_wp2
            refine bodyPost_ret (results_ct rfl _ _ (w.heap.size + 1) 32 #[.bool false, .string (⟨#[]⟩ : ByteArray), .slice none 0 0] (0, 0) _ rfl (by refine blk_put (cs := #[.bool false, .string (⟨#[]⟩ : ByteArray), .slice none 0 0]) ?_ 2 _ rfl; refine blk_put (cs := #[.bool false, .string (⟨#[]⟩ : ByteArray), .slice none 0 0]) ?_ 1 _ rfl; refine blk_put (cs := #[.bool false, .string (⟨#[]⟩ : ByteArray), .slice none 0 0]) ?_ 0 _ rfl; (with_reducible repeat (first | refine blk_drewN ?_ _ | refine blk_drew ?_ | refine blk_alloc ?_ _)); exact RBW.out) Try.underlying32 rfl (by kernel_rfl)) rfl ?_
            exact ⟨_, rfl, Kd.R_nil _ _ _ _ _, by repeat (first | exact HBW.out | apply pw_below_drewN | apply below_drew | refine below_set ?_ (Nat.le_succ _) | (refine Below.alloc ?_ HBW.out.size _))⟩
          · rw [hv] at cV
            cases j with
            | zero =>
              have HY : Aside0 (goodAt l0 0 = true) := ⟨by rw [HGA.out, hk, hv]; rfl⟩
              have g0' : wr.cell? ad = some (.string key) := by rw [Nat.zero_mul] at g0; exact g0
              have g1' : wr.cell? ⟨ad.block, ad.off + 1, none⟩ = some (.string val) := by rw [Nat.zero_mul] at g1; exact g1
              clear g0 g1
              clear hk hv hnog
              go_wp2
              go_quiet (first | (go_at_call 23; exact Calls.quiet_of (cK _)) | (go_at_call 24; exact Calls.quiet_of (cV _)) | (go_at_call 25; exact Calls.quiet_of (cC _)))
              go_wp2
              go_roundw
              case rel => exact ⟨0 + 1, by omega, by go_num, ⟨fun q hq => by rw [show q = 0 by omega]; exact HY.out⟩, ⟨pw_below_drewN (HW.out.alloc HW.out.size _) _⟩⟩
              case measure => first | (simp [intOf]; done) | (simp [intOf]; omega)
            | succ m =>
              obtain ⟨ad2, hA2, f0, f1⟩ := at_T50 (HC.out wr HW.out) (m : Int) (by omega) (by omega)
              rw [Int.toNat_natCast] at f0 f1
              obtain rfl := Option.some.inj hA2
              rw [Nat.add_sub_cancel] at HGA
              have HPK : Aside0 (goodAt l0 m = (keyR (rd_T50 l0 (m : Int)).f0 && (valR (rd_T50 l0 (m : Int)).f1 && (decide (m = 0) || Op.bytesLess (rd_T50 l0 ((m - 1 : Nat) : Int)).f0.toList (rd_T50 l0 (m : Int)).f0.toList)))) := ⟨rfl⟩
              generalize (rd_T50 l0 (m : Int)).f0 = pk at f0 HGA HPK
              have hjz : (m : Int) < (l0.length : Int) := by omega
              have hwj : wrap64 (m : Int) = (m : Int) := by unfold wrap64; omega
              have hwj2 : IntKind.i64.wrap (m : Int) = (m : Int) := IntWalk.i64_in _ (by omega)
              have hab : (ad.add (m * 2)).block < wr.heap.size := World.block_lt_of_cell? wr _ f0
              have hne : (ad.add (m * 2)).block ≠ wr.heap.size := Nat.ne_of_lt hab
              have hpk : pk.size < 9223372036854775807 := by
                have hz := HG.out m (by omega)
                have hz2 := HPK.out
                rw [hz2] at hz
                unfold keyR at hz
                simp only [Bool.and_eq_true, decide_eq_true_eq] at hz
                omega
              obtain ⟨kc, hkc⟩ := (compare_ev pk key hpk).rounds
              have cC : ∀ W, Calls Try.prog 25 #[.string pk, .string key] W fun e w' => e = .returned (.int .i64 (cmpL (kb pk) (kb key))) ∧ ∃ m, w' = W.drewN m := fun W => (latticeref05_Compare.calls kc pk key _ W hkc).mono fun e w' ⟨he, hd⟩ => ⟨he, hd.out⟩
              have hcl : decide (cmpL (kb pk) (kb key) < 0) = Op.bytesLess pk.toList key.toList := by
                rw [Go.ByteArray.toList_eq, Go.ByteArray.toList_eq]
                have h9 := cmpL_less (kb pk) (kb key)
                cases e : Op.bytesLess (kb pk) (kb key)
                · rw [e] at h9; exact (decide_eq_false (by simpa using h9)).trans e.symm
                · rw [e] at h9; exact (decide_eq_true (by simpa using h9)).trans e.symm
              generalize cmpL (kb pk) (kb key) = cv at cC hcl
              cases hb : Op.bytesLess pk.toList key.toList
              · have HN := hnog (by rw [HGA.out, hk, hv, hb]; rfl)
                obtain ⟨rfl, rfl, rfl, rfl⟩ := HN.out
                clear hk hv HN hnog f1
                rw [hb] at hcl
                have hc9 : decide (0 ≤ cv) = true := by have := of_decide_eq_false hcl; exact decide_eq_true (by omega)
                go_wp2
                go_quiet (first | (go_at_call 23; exact Calls.quiet_of (cK _)) | (go_at_call 24; exact Calls.quiet_of (cV _)) | (go_at_call 25; exact Calls.quiet_of (cC _)))
                go_wp2
                refine bodyPost_ret (results_ct rfl _ _ (w.heap.size + 1) 32 #[.bool false, .string (⟨#[]⟩ : ByteArray), .slice none 0 0] (0, 0) _ rfl (by refine blk_put (cs := #[.bool false, .string (⟨#[]⟩ : ByteArray), .slice none 0 0]) ?_ 2 _ rfl; refine blk_put (cs := #[.bool false, .string (⟨#[]⟩ : ByteArray), .slice none 0 0]) ?_ 1 _ rfl; refine blk_put (cs := #[.bool false, .string (⟨#[]⟩ : ByteArray), .slice none 0 0]) ?_ 0 _ rfl; (with_reducible repeat (first | refine blk_drewN ?_ _ | refine blk_drew ?_ | refine blk_alloc ?_ _)); exact RBW.out) Try.underlying32 rfl (by kernel_rfl)) rfl ?_
                exact ⟨_, rfl, Kd.R_nil _ _ _ _ _, by repeat (first | exact HBW.out | apply pw_below_drewN | apply below_drew | refine below_set ?_ (Nat.le_succ _) | (refine Below.alloc ?_ HBW.out.size _))⟩
              · have HY : Aside0 (goodAt l0 (m + 1) = true) := ⟨by rw [HGA.out, hk, hv, hb]; rfl⟩
                clear hk hv hnog f1
                rw [hb] at hcl
                have hc9 : decide (0 ≤ cv) = false := by have := of_decide_eq_true hcl; exact decide_eq_false (by omega)
                go_wp2
                go_quiet (first | (go_at_call 23; exact Calls.quiet_of (cK _)) | (go_at_call 24; exact Calls.quiet_of (cV _)) | (go_at_call 25; exact Calls.quiet_of (cC _)))
                go_wp2
                go_roundw
                case rel => exact ⟨m + 1 + 1, by omega, by go_num, ⟨fun q hq => by
                  by_cases e : q = m + 1
                  · subst e; exact HY.out
                  · exact HG.out q (by omega)⟩, ⟨pw_below_drewN (HW.out.alloc HW.out.size _) _⟩⟩
                case measure => first | (simp [intOf]; done) | (simp [intOf]; omega)
      · obtain rfl : j = l0.length := by omega
        have hg := goodE_yes HG.out
        have hh := HH.out
        rw [if_pos hg] at hh
        have hx := OX.out wr HW.out
        obtain ⟨o0, o1, o2⟩ := hx
        have rb := RB.out wr HW.out
        have z0 : wr.cell? ⟨w.heap.size + 1, 0, none⟩ = some (.bool false) := (blk_cell rb 0).trans rfl
        have z1 : wr.cell? ⟨w.heap.size + 1, 1, none⟩ = some (.string ⟨#[]⟩) := (blk_cell rb 1).trans rfl
        have z2 : wr.cell? ⟨w.heap.size + 1, 2, none⟩ = some (.slice none 0 0) := (blk_cell rb 2).trans rfl
        have zf0 := blk_frozen rb 0
        have zf1 := blk_frozen rb 1
        have zf2 := blk_frozen rb 2
        have RBW := Aside0.mk rb
        have HBW : Aside0 (Below w.heap.size w wr) := ⟨HB0.out.trans (HW.out.mono HB0.out.size)⟩
        have hws : w.heap.size + 1 < wr.heap.size := by have := HW.out.size; have := HSZ.out; omega
        clear rb
        by_cases h1 : a1_0 < 1
        · rw [if_pos h1] at hh
          have HN : Aside0 (false = r1 ∧ (⟨#[]⟩ : ByteArray) = r2 ∧ [] = r3 ∧ 1 = r4) := ⟨by simpa using hh⟩
          obtain ⟨rfl, rfl, rfl, rfl⟩ := HN.out
          clear hh HN hg
          go_wp2
          refine bodyPost_ret (results_ct rfl _ _ (w.heap.size + 1) 32 #[.bool false, .string (⟨#[]⟩ : ByteArray), .slice none 0 0] (0, 0) _ rfl (by refine blk_put (cs := #[.bool false, .string (⟨#[]⟩ : ByteArray), .slice none 0 0]) ?_ 2 _ rfl; refine blk_put (cs := #[.bool false, .string (⟨#[]⟩ : ByteArray), .slice none 0 0]) ?_ 1 _ rfl; refine blk_put (cs := #[.bool false, .string (⟨#[]⟩ : ByteArray), .slice none 0 0]) ?_ 0 _ rfl; (with_reducible repeat (first | refine blk_drewN ?_ _ | refine blk_drew ?_ | refine blk_alloc ?_ _)); exact RBW.out) Try.underlying32 rfl (by kernel_rfl)) rfl ?_
          exact ⟨_, rfl, Kd.R_nil _ _ _ _ _, by repeat (first | exact HBW.out | apply pw_below_drewN | apply below_drew | refine below_set ?_ (Nat.le_succ _) | (refine Below.alloc ?_ HBW.out.size _))⟩
        · rw [if_neg h1] at hh
          by_cases h2 : 4 < a1_0
          · rw [if_pos h2] at hh
            have HN : Aside0 (false = r1 ∧ (⟨#[]⟩ : ByteArray) = r2 ∧ [] = r3 ∧ 1 = r4) := ⟨by simpa using hh⟩
            obtain ⟨rfl, rfl, rfl, rfl⟩ := HN.out
            clear hh HN hg
            go_wp2
            refine bodyPost_ret (results_ct rfl _ _ (w.heap.size + 1) 32 #[.bool false, .string (⟨#[]⟩ : ByteArray), .slice none 0 0] (0, 0) _ rfl (by refine blk_put (cs := #[.bool false, .string (⟨#[]⟩ : ByteArray), .slice none 0 0]) ?_ 2 _ rfl; refine blk_put (cs := #[.bool false, .string (⟨#[]⟩ : ByteArray), .slice none 0 0]) ?_ 1 _ rfl; refine blk_put (cs := #[.bool false, .string (⟨#[]⟩ : ByteArray), .slice none 0 0]) ?_ 0 _ rfl; (with_reducible repeat (first | refine blk_drewN ?_ _ | refine blk_drew ?_ | refine blk_alloc ?_ _)); exact RBW.out) Try.underlying32 rfl (by kernel_rfl)) rfl ?_
            exact ⟨_, rfl, Kd.R_nil _ _ _ _ _, by repeat (first | exact HBW.out | apply pw_below_drewN | apply below_drew | refine below_set ?_ (Nat.le_succ _) | (refine Below.alloc ?_ HBW.out.size _))⟩
          · rw [if_neg h2] at hh
            have h9 := Option.bind_eq_some_iff.1 hh
            clear hh hg
            obtain ⟨⟨g0, g1, g2⟩, hgv, hh⟩ := h9
            have HN : Aside0 (g0 = r1 ∧ g1 = r2 ∧ g2 = r3 ∧ 0 = r4) := ⟨by simpa using hh⟩
            obtain ⟨rfl, rfl, rfl, rfl⟩ := HN.out
            have HGV := Aside0.mk hgv
            clear hh HN hgv
            have cG := latticeref18_Given.calls k A0 c0 l0 a1_0 a1_1 a1_2 g0 g1 g2 wr (HC.out wr HW.out) HC0.out HGV.out
            go_wp2_with fail
            refine cG.mono ?_
            rintro e w2 ⟨v, rfl, hR, hB⟩
            have rb2 := RB.out w2 (HW.out.trans (hB.mono HW.out.size))
            have y0 : w2.cell? ⟨w.heap.size + 1, 0, none⟩ = some (.bool false) := (blk_cell rb2 0).trans rfl
            have y1 : w2.cell? ⟨w.heap.size + 1, 1, none⟩ = some (.string ⟨#[]⟩) := (blk_cell rb2 1).trans rfl
            have y2 : w2.cell? ⟨w.heap.size + 1, 2, none⟩ = some (.slice none 0 0) := (blk_cell rb2 2).trans rfl
            have yf0 := blk_frozen rb2 0
            have yf1 := blk_frozen rb2 1
            have yf2 := blk_frozen rb2 2
            have RB2 := Aside0.mk rb2
            obtain ⟨Av, cv, rfl⟩ := Kd.R_slice hR
            have HR : Aside0 (Kd.R k50 50 w2 wr.heap.size (fun k_ => k_ ≠ w.heap.size + 1) (.slice Av g2.length cv) g2) := ⟨Kd.R_mono (Kd.R_bound hR) (fun k_ hk => by have := hk.2.1; omega)⟩
            have HB9 : Aside0 (Below w.heap.size w w2) := ⟨HBW.out.trans (hB.mono HBW.out.size)⟩
            clear rb2 hR hB
            go_wp2
            refine bodyPost_ret (results_ct rfl _ _ (w.heap.size + 1) 32 #[.bool g0, .string g1, .slice Av g2.length cv] (0, 0) _ rfl (by refine blk_put (cs := #[.bool g0, .string g1, .slice none 0 0]) ?_ 2 _ rfl; refine blk_put (cs := #[.bool g0, .string (⟨#[]⟩ : ByteArray), .slice none 0 0]) ?_ 1 _ rfl; refine blk_put (cs := #[.bool false, .string (⟨#[]⟩ : ByteArray), .slice none 0 0]) ?_ 0 _ rfl; exact RB2.out) Try.underlying32 rfl (by kernel_rfl)) rfl ?_
            exact ⟨_, rfl, Kd.R_lower (Kd.R_mono (Kd.R_far (p := ⟨w.heap.size + 1, 2, none⟩) (Kd.R_far (p := ⟨w.heap.size + 1, 1, none⟩) (Kd.R_far (p := ⟨w.heap.size + 1, 0, none⟩) HR.out (fun _ h_ => h_) _) (fun _ h_ => h_) _) (fun _ h_ => h_) _) (fun _ _ => trivial)) HBW.out.size, below_set (below_set (below_set HB9.out (Nat.le_succ _)) (Nat.le_succ _)) (Nat.le_succ _)⟩
  · rw [if_neg hlen] at h
    cases h


end Go.Proofs.Ytjhbihhiceimcaa.PFA
