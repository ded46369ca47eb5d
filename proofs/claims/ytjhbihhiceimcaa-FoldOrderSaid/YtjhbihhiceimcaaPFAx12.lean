-- Printed by wip/tools/myprint.py (over the kit's print.py), with hand-written contracts; Lean checks all of it.
import Derived.Test.YtjhbihhiceimcaaPFAx0
import Derived.Test.YtjhbihhiceimcaaPFAx2
import Derived.Test.YtjhbihhiceimcaaPFAx6
import Derived.WalkLawsBesides
namespace Go.Proofs.Ytjhbihhiceimcaa.PFA
open Go.RowKit Go.Proofs.YtjhbihhiceimcaaW.PrintWords Go.Proofs.YtjhbihhiceimcaaW.PrintLast Go.Proofs.YtjhbihhiceimcaaW.PrintMore
attribute [local go_sem] max2_int min2_int max_two min_two max_three min_three max_four min_four   -- for this text's walks alone
set_option linter.unusedVariables false
set_option linter.unusedSimpArgs false

/-! ### fold_Answer: function 10 -/
/-- Is a key right, a value, an entry behind the one ahead? -/
def keyR (k : ByteArray) : Bool := !k.toList.isEmpty && decide ((k.size : Int) ≤ 16)
def valR (v : ByteArray) : Bool := decide ((v.size : Int) ≤ 32)
def goodAt (l : List S50) (i : Nat) : Bool := keyR (rd_T50 l (i : Int)).f0 && (valR (rd_T50 l (i : Int)).f1 && (decide (i = 0) || Op.bytesLess (rd_T50 l ((i - 1 : Nat) : Int)).f0.toList (rd_T50 l (i : Int)).f0.toList))
def goodE (l : List S50) : Bool := (List.range l.length).all (goodAt l)
theorem goodE_no {l : List S50} {i : Nat} (hi : i < l.length) (h : goodAt l i = false) : goodE l = false := by
  unfold goodE
  rw [List.all_eq_false]
  exact ⟨i, List.mem_range.2 hi, by simp [h]⟩
theorem goodE_yes {l : List S50} (h : ∀ i, i < l.length → goodAt l i = true) : goodE l = true := by
  unfold goodE
  rw [List.all_eq_true]
  exact fun i hi => h i (List.mem_range.1 hi)
theorem keyC_v (k : ByteArray) : key_Check.f k = some (if keyR k = true then 0 else 50) := by
  unfold key_Check.f keyR
  by_cases h1 : k.toList = []
  · rw [if_pos h1]; simp [h1]
  · have e1 : k.toList.isEmpty = false := by cases h : k.toList <;> simp_all
    rw [if_neg h1, e1]
    by_cases h2 : (k.size : Int) > 16
    · rw [if_pos h2]; simp; omega
    · rw [if_neg h2]; simp; omega
theorem keyV_v (v : ByteArray) : key_Value.f v = some (if valR v = true then 0 else 51) := by
  unfold key_Value.f valR
  by_cases h : (v.size : Int) > 32
  · rw [if_pos h]; simp; omega
  · rw [if_neg h]; simp; omega
def fold_Answer.f (k : Nat) (l0 : List S50) (a1_0 : Int) (a1_1 : ByteArray) (a1_2 : ByteArray) : Option (Bool × ByteArray × List S50 × Int) := if l0.length ≤ 4398046511104 then (if goodE l0 = true then (if a1_0 < 1 then some (false, ⟨#[]⟩, [], 1) else if 4 < a1_0 then some (false, ⟨#[]⟩, [], 1) else (fold_given.f k l0 a1_0 a1_1 a1_2).bind fun g => some (g.1, g.2.1, g.2.2, 0)) else some (false, ⟨#[]⟩, [], 4)) else none
theorem fold_Answer.mono (l0 : List S50) (a1_0 : Int) (a1_1 : ByteArray) (a1_2 : ByteArray) : ∀ k, LeO (fold_Answer.f k l0 a1_0 a1_1 a1_2) (fold_Answer.f (k + 1) l0 a1_0 a1_1 a1_2) := fun k =>
  LeO.ite (LeO.ite (LeO.ite (LeO.refl _) (LeO.ite (LeO.refl _) (LeO.bind (fold_given.mono _ _ _ _ _) (fun _ => LeO.refl _)))) (LeO.refl _)) (LeO.refl _)
set_option maxHeartbeats 8000000 in
set_option maxRecDepth 100000 in
theorem fold_Answer.calls (k : Nat) (A0 : Option Addr) (c0 : Nat) (l0 : List (S50)) (a1_0 : Int) (a1_1 : ByteArray) (a1_2 : ByteArray) (r1 : Bool) (r2 : ByteArray) (r3 : List (S50)) (r4 : Int) (w : World) (hr0 : Kd.C k50 w A0 l0.length l0) (hc0 : l0.length ≤ c0) (h : fold_Answer.f k l0 a1_0 a1_1 a1_2 = some (r1, r2, r3, r4)) :
    Calls Try.prog 10 #[.slice A0 l0.length c0, .agg #[.int .i64 a1_0, .string a1_1, .string a1_2]] w fun e w' => ∃ v2_ : Value, e = .returned (.tuple #[.agg #[.bool r1, .string r2, v2_], .int .i64 r4]) ∧ Kd.R k50 50 w' w.heap.size (fun _ => True) v2_ r3 ∧ Below w.heap.size w w' := by
  unfold fold_Answer.f at h
  by_cases hlen : l0.length ≤ 4398046511104
  · rw [if_pos hlen] at h
    obtain ⟨W0, hW0⟩ : ∃ W0, W0 = (w.alloc (.cells #[.int .i64 a1_0, .string a1_1, .string a1_2] 30)).alloc (.cells #[.bool false, .string ⟨#[]⟩, .slice none 0 0] 32) := ⟨_, rfl⟩
    have hB0 : Below w.heap.size w W0 := by rw [hW0]; exact ((Below.refl _ w).alloc (Nat.le_refl _) _).alloc (by simp) _
    have hsize : W0.heap.size = w.heap.size + 1 + 1 := by rw [hW0]; simp
    have o0 : W0.cell? ⟨w.heap.size, 0, none⟩ = some (.int .i64 a1_0) := by rw [hW0]; simp
    have o1 : W0.cell? ⟨w.heap.size, 1, none⟩ = some (.string a1_1) := by rw [hW0]; simp
    have o2 : W0.cell? ⟨w.heap.size, 2, none⟩ = some (.string a1_2) := by rw [hW0]; simp
    have OX : Aside0 (∀ W, Below W0.heap.size W0 W → W.cell? ⟨w.heap.size, 0, none⟩ = some (.int .i64 a1_0) ∧ W.cell? ⟨w.heap.size, 1, none⟩ = some (.string a1_1) ∧ W.cell? ⟨w.heap.size, 2, none⟩ = some (.string a1_2)) :=
      ⟨fun W hW => ⟨(hW.cell (p := ⟨w.heap.size, 0, none⟩) (by rw [hsize]; show w.heap.size < _; omega)).trans o0, (hW.cell (p := ⟨w.heap.size, 1, none⟩) (by rw [hsize]; show w.heap.size < _; omega)).trans o1, (hW.cell (p := ⟨w.heap.size, 2, none⟩) (by rw [hsize]; show w.heap.size < _; omega)).trans o2⟩⟩
    have r0 : W0.heap[w.heap.size + 1]? = some (.cells #[.bool false, .string ⟨#[]⟩, .slice none 0 0] 32 (0, 0)) := by
      rw [hW0]
      have := blk_new (w.alloc (.cells #[.int .i64 a1_0, .string a1_1, .string a1_2] 30)) (.cells #[.bool false, .string ⟨#[]⟩, .slice none 0 0] 32)
      rwa [World.size_alloc] at this
    have RB : Aside0 (∀ W, Below W0.heap.size W0 W → W.heap[w.heap.size + 1]? = some (.cells #[.bool false, .string ⟨#[]⟩, .slice none 0 0] 32 (0, 0))) := ⟨fun W hW => (hW.block _ (by rw [hsize]; omega)).trans r0⟩
    have HC := Aside0.mk (show ∀ W, Below W0.heap.size W0 W → Kd.C k50 W A0 l0.length l0 from fun W hW => Kd.C_below hr0 (hB0.trans (hW.mono hB0.size)))
    have HB0 := Aside0.mk hB0
    have HSZ := Aside0.mk hsize
    have HH := Aside0.mk h
    have HC0 := Aside0.mk hc0
    clear h hr0 o0 o1 o2 r0 hB0 hsize hc0
    go_enter Try.func10, Try.ntmps10
    go_wp2
    rw [← hW0]
    have HWE := Aside0.mk hW0
    clear hW0
    go_loopw [10] (fun i wr => ∃ j : Nat, j ≤ l0.length ∧ i = .int .i64 j ∧ Aside0 (∀ q, q < j → goodAt l0 q = true) ∧ Aside0 (Below W0.heap.size W0 wr)) (fun i _ => l0.length - (intOf i).toNat)
    case atStart => exact ⟨0, Nat.zero_le _, rfl, ⟨fun q hq => by omega⟩, ⟨Below.refl _ _⟩⟩
    case round =>
      obtain ⟨j, hj, rfl, HG, HW⟩ := hrel
      by_cases hlt : j < l0.length
      · have hnog : goodAt l0 j = false → Aside0 (false = r1 ∧ (⟨#[]⟩ : ByteArray) = r2 ∧ [] = r3 ∧ 4 = r4) := fun hb => ⟨by
          have hh := HH.out
          rw [if_neg (by rw [goodE_no hlt hb]; decide)] at hh
          simpa using hh⟩
        obtain ⟨ad, hA, g0, g1⟩ := at_T50 (HC.out wr HW.out) (j : Int) (by omega) (by omega)
        rw [Int.toNat_natCast] at g0 g1
        subst hA
        have HGA : Aside0 (goodAt l0 j = (keyR (rd_T50 l0 (j : Int)).f0 && (valR (rd_T50 l0 (j : Int)).f1 && (decide (j = 0) || Op.bytesLess (rd_T50 l0 ((j - 1 : Nat) : Int)).f0.toList (rd_T50 l0 (j : Int)).f0.toList)))) := ⟨rfl⟩
        generalize (rd_T50 l0 (j : Int)).f0 = key at g0 HGA
        generalize (rd_T50 l0 (j : Int)).f1 = val at g1 HGA
        have cK : ∀ W, Calls Try.prog 20 #[.string key] W fun e w' => e = .returned (.int .i64 (if keyR key = true then 0 else 50)) ∧ ∃ m, w' = W.drewN m := fun W => (key_Check.calls key _ W (keyC_v key)).mono fun e w' ⟨he, hd⟩ => ⟨he, hd.out⟩
        have cV : ∀ W, Calls Try.prog 21 #[.string val] W fun e w' => e = .returned (.int .i64 (if valR val = true then 0 else 51)) ∧ ∃ m, w' = W.drewN m := fun W => (key_Value.calls val _ W (keyV_v val)).mono fun e w' ⟨he, hd⟩ => ⟨he, hd.out⟩
        have rb := RB.out wr HW.out
        have z0 : wr.cell? ⟨w.heap.size + 1, 0, none⟩ = some (.bool false) := (blk_cell rb 0).trans rfl
        have z1 : wr.cell? ⟨w.heap.size + 1, 1, none⟩ = some (.string ⟨#[]⟩) := (blk_cell rb 1).trans rfl
        have z2 : wr.cell? ⟨w.heap.size + 1, 2, none⟩ = some (.slice none 0 0) := (blk_cell rb 2).trans rfl
        have zf0 := blk_frozen rb 0
        have zf1 := blk_frozen rb 1
        have zf2 := blk_frozen rb 2
        have RBW := Aside0.mk rb
        have HBW : Aside0 (Below w.heap.size w wr) := ⟨HB0.out.trans (HW.out.mono HB0.out.size)⟩
        have hws : w.heap.size + 1 < wr.heap.size := by have := HW.out.size; have := HSZ.out; omega
        clear rb
        cases hk : keyR key
        · have HN := hnog (by rw [HGA.out, hk]; rfl)
          obtain ⟨rfl, rfl, rfl, rfl⟩ := HN.out
          rw [hk] at cK
          clear hk HN hnog
          go_wp2
          go_quiet ((go_at_call 20; exact Calls.quiet_of (cK _)))
          go_wp2
          refine bodyPost_ret (results_ct rfl _ _ (w.heap.size + 1) 32 #[.bool false, .string (⟨#[]⟩ : ByteArray), .slice none 0 0] (0, 0) _ rfl (by refine blk_put (cs := #[.bool false, .string (⟨#[]⟩ : ByteArray), .slice none 0 0]) ?_ 2 _ rfl; refine blk_put (cs := #[.bool false, .string (⟨#[]⟩ : ByteArray), .slice none 0 0]) ?_ 1 _ rfl; refine blk_put (cs := #[.bool false, .string (⟨#[]⟩ : ByteArray), .slice none 0 0]) ?_ 0 _ rfl; (with_reducible repeat (first | refine blk_drewN ?_ _ | refine blk_drew ?_ | refine blk_alloc ?_ _)); exact RBW.out) Try.underlying32 rfl (by kernel_rfl)) rfl ?_
          exact ⟨_, rfl, Kd.R_nil _ _ _ _ _, by repeat (first | exact HBW.out | apply pw_below_drewN | apply below_drew | refine below_set ?_ (Nat.le_succ _) | (refine Below.alloc ?_ HBW.out.size _))⟩
        · rw [hk] at cK
          cases hv : valR val
          · have HN := hnog (by rw [HGA.out, hk, hv]; rfl)
            obtain ⟨rfl, rfl, rfl, rfl⟩ := HN.out
            rw [hv] at cV
            clear hk hv HN hnog
            go_wp2
            go_quiet (first | (go_at_call 20; exact Calls.quiet_of (cK _)) | (go_at_call 21; exact Calls.quiet_of (cV _)))
            go_wp2
            refine bodyPost_ret (results_ct rfl _ _ (w.heap.size + 1) 32 #[.bool false, .string (⟨#[]⟩ : ByteArray), .slice none 0 0] (0, 0) _ rfl (by refine blk_put (cs := #[.bool false, .string (⟨#[]⟩ : ByteArray), .slice none 0 0]) ?_ 2 _ rfl; refine blk_put (cs := #[.bool false, .string (⟨#[]⟩ : ByteArray), .slice none 0 0]) ?_ 1 _ rfl; refine blk_put (cs := #[.bool false, .string (⟨#[]⟩ : ByteArray), .slice none 0 0]) ?_ 0 _ rfl; (with_reducible repeat (first | refine blk_drewN ?_ _ | refine blk_drew ?_ | refine blk_alloc ?_ _)); exact RBW.out) Try.underlying32 rfl (by kernel_rfl)) rfl ?_
            exact ⟨_, rfl, Kd.R_nil _ _ _ _ _, by repeat (first | exact HBW.out | apply pw_below_drewN | apply below_drew | refine below_set ?_ (Nat.le_succ _) | (refine Below.alloc ?_ HBW.out.size _))⟩
          · rw [hv] at cV
            cases j with
            | zero =>
              have HY : Aside0 (goodAt l0 0 = true) := ⟨by rw [HGA.out, hk, hv]; rfl⟩
              have g0' : wr.cell? ad = some (.string key) := by rw [Nat.zero_mul] at g0; exact g0
              have g1' : wr.cell? ⟨ad.block, ad.off + 1, none⟩ = some (.string val) := by rw [Nat.zero_mul] at g1; exact g1
              clear g0 g1
              clear hk hv hnog
              go_wp2
              go_quiet (first | (go_at_call 20; exact Calls.quiet_of (cK _)) | (go_at_call 21; exact Calls.quiet_of (cV _)))
              go_wp2
              go_roundw
              case rel => exact ⟨0 + 1, by omega, by go_num, ⟨fun q hq => by rw [show q = 0 by omega]; exact HY.out⟩, ⟨pw_below_drewN (HW.out.alloc HW.out.size _) _⟩⟩
              case measure => first | (simp [intOf]; done) | (simp [intOf]; omega)
            | succ m =>
              obtain ⟨ad2, hA2, f0, f1⟩ := at_T50 (HC.out wr HW.out) (m : Int) (by omega) (by omega)
              rw [Int.toNat_natCast] at f0 f1
              obtain rfl := Option.some.inj hA2
              rw [Nat.add_sub_cancel] at HGA
              generalize (rd_T50 l0 (m : Int)).f0 = pk at f0 HGA
              have hjz : (m : Int) < (l0.length : Int) := by omega
              have hwj : wrap64 (m : Int) = (m : Int) := by unfold wrap64; omega
              have hwj2 : IntKind.i64.wrap (m : Int) = (m : Int) := IntWalk.i64_in _ (by omega)
              have hab : (ad.add (m * 2)).block < wr.heap.size := World.block_lt_of_cell? wr _ f0
              have hne : (ad.add (m * 2)).block ≠ wr.heap.size := Nat.ne_of_lt hab
              cases hb : Op.bytesLess pk.toList key.toList
              · have HN := hnog (by rw [HGA.out, hk, hv, hb]; rfl)
                obtain ⟨rfl, rfl, rfl, rfl⟩ := HN.out
                clear hk hv HN hnog f1
                go_wp2
                go_quiet (first | (go_at_call 20; exact Calls.quiet_of (cK _)) | (go_at_call 21; exact Calls.quiet_of (cV _)))
                go_wp2
                refine bodyPost_ret (results_ct rfl _ _ (w.heap.size + 1) 32 #[.bool false, .string (⟨#[]⟩ : ByteArray), .slice none 0 0] (0, 0) _ rfl (by refine blk_put (cs := #[.bool false, .string (⟨#[]⟩ : ByteArray), .slice none 0 0]) ?_ 2 _ rfl; refine blk_put (cs := #[.bool false, .string (⟨#[]⟩ : ByteArray), .slice none 0 0]) ?_ 1 _ rfl; refine blk_put (cs := #[.bool false, .string (⟨#[]⟩ : ByteArray), .slice none 0 0]) ?_ 0 _ rfl; (with_reducible repeat (first | refine blk_drewN ?_ _ | refine blk_drew ?_ | refine blk_alloc ?_ _)); exact RBW.out) Try.underlying32 rfl (by kernel_rfl)) rfl ?_
                exact ⟨_, rfl, Kd.R_nil _ _ _ _ _, by repeat (first | exact HBW.out | apply pw_below_drewN | apply below_drew | refine below_set ?_ (Nat.le_succ _) | (refine Below.alloc ?_ HBW.out.size _))⟩
              · have HY : Aside0 (goodAt l0 (m + 1) = true) := ⟨by rw [HGA.out, hk, hv, hb]; rfl⟩
                clear hk hv hnog f1
                go_wp2
                go_quiet (first | (go_at_call 20; exact Calls.quiet_of (cK _)) | (go_at_call 21; exact Calls.quiet_of (cV _)))
                go_wp2
                go_roundw
                case rel => exact ⟨m + 1 + 1, by omega, by go_num, ⟨fun q hq => by
                  by_cases e : q = m + 1
                  · subst e; exact HY.out
                  · exact HG.out q (by omega)⟩, ⟨pw_below_drewN (HW.out.alloc HW.out.size _) _⟩⟩
                case measure => first | (simp [intOf]; done) | (simp [intOf]; omega)
      · obtain rfl : j = l0.length := by omega
        have hg := goodE_yes HG.out
        have hh := HH.out
        rw [if_pos hg] at hh
        have hx := OX.out wr HW.out
        obtain ⟨o0, o1, o2⟩ := hx
        have rb := RB.out wr HW.out
        have z0 : wr.cell? ⟨w.heap.size + 1, 0, none⟩ = some (.bool false) := (blk_cell rb 0).trans rfl
        have z1 : wr.cell? ⟨w.heap.size + 1, 1, none⟩ = some (.string ⟨#[]⟩) := (blk_cell rb 1).trans rfl
        have z2 : wr.cell? ⟨w.heap.size + 1, 2, none⟩ = some (.slice none 0 0) := (blk_cell rb 2).trans rfl
        have zf0 := blk_frozen rb 0
        have zf1 := blk_frozen rb 1
        have zf2 := blk_frozen rb 2
        have RBW := Aside0.mk rb
        have HBW : Aside0 (Below w.heap.size w wr) := ⟨HB0.out.trans (HW.out.mono HB0.out.size)⟩
        have hws : w.heap.size + 1 < wr.heap.size := by have := HW.out.size; have := HSZ.out; omega
        clear rb
        by_cases h1 : a1_0 < 1
        · rw [if_pos h1] at hh
          have HN : Aside0 (false = r1 ∧ (⟨#[]⟩ : ByteArray) = r2 ∧ [] = r3 ∧ 1 = r4) := ⟨by simpa using hh⟩
          obtain ⟨rfl, rfl, rfl, rfl⟩ := HN.out
          clear hh HN hg
          go_wp2
          refine bodyPost_ret (results_ct rfl _ _ (w.heap.size + 1) 32 #[.bool false, .string (⟨#[]⟩ : ByteArray), .slice none 0 0] (0, 0) _ rfl (by refine blk_put (cs := #[.bool false, .string (⟨#[]⟩ : ByteArray), .slice none 0 0]) ?_ 2 _ rfl; refine blk_put (cs := #[.bool false, .string (⟨#[]⟩ : ByteArray), .slice none 0 0]) ?_ 1 _ rfl; refine blk_put (cs := #[.bool false, .string (⟨#[]⟩ : ByteArray), .slice none 0 0]) ?_ 0 _ rfl; (with_reducible repeat (first | refine blk_drewN ?_ _ | refine blk_drew ?_ | refine blk_alloc ?_ _)); exact RBW.out) Try.underlying32 rfl (by kernel_rfl)) rfl ?_
          exact ⟨_, rfl, Kd.R_nil _ _ _ _ _, by repeat (first | exact HBW.out | apply pw_below_drewN | apply below_drew | refine below_set ?_ (Nat.le_succ _) | (refine Below.alloc ?_ HBW.out.size _))⟩
        · rw [if_neg h1] at hh
          by_cases h2 : 4 < a1_0
          · rw [if_pos h2] at hh
            have HN : Aside0 (false = r1 ∧ (⟨#[]⟩ : ByteArray) = r2 ∧ [] = r3 ∧ 1 = r4) := ⟨by simpa using hh⟩
            obtain ⟨rfl, rfl, rfl, rfl⟩ := HN.out
            clear hh HN hg
            go_wp2
            refine bodyPost_ret (results_ct rfl _ _ (w.heap.size + 1) 32 #[.bool false, .string (⟨#[]⟩ : ByteArray), .slice none 0 0] (0, 0) _ rfl (by refine blk_put (cs := #[.bool false, .string (⟨#[]⟩ : ByteArray), .slice none 0 0]) ?_ 2 _ rfl; refine blk_put (cs := #[.bool false, .string (⟨#[]⟩ : ByteArray), .slice none 0 0]) ?_ 1 _ rfl; refine blk_put (cs := #[.bool false, .string (⟨#[]⟩ : ByteArray), .slice none 0 0]) ?_ 0 _ rfl; (with_reducible repeat (first | refine blk_drewN ?_ _ | refine blk_drew ?_ | refine blk_alloc ?_ _)); exact RBW.out) Try.underlying32 rfl (by kernel_rfl)) rfl ?_
            exact ⟨_, rfl, Kd.R_nil _ _ _ _ _, by repeat (first | exact HBW.out | apply pw_below_drewN | apply below_drew | refine below_set ?_ (Nat.le_succ _) | (refine Below.alloc ?_ HBW.out.size _))⟩
          · rw [if_neg h2] at hh
            have h9 := Option.bind_eq_some_iff.1 hh
            clear hh hg
            obtain ⟨⟨g0, g1, g2⟩, hgv, hh⟩ := h9
            have HN : Aside0 (g0 = r1 ∧ g1 = r2 ∧ g2 = r3 ∧ 0 = r4) := ⟨by simpa using hh⟩
            obtain ⟨rfl, rfl, rfl, rfl⟩ := HN.out
            have HGV := Aside0.mk hgv
            clear hh HN hgv
            have cG := fold_given.calls k A0 c0 l0 a1_0 a1_1 a1_2 g0 g1 g2 wr (HC.out wr HW.out) HC0.out HGV.out
            go_wp2_with fail
            refine cG.mono ?_
            rintro e w2 ⟨v, rfl, hR, hB⟩
            have rb2 := RB.out w2 (HW.out.trans (hB.mono HW.out.size))
            have y0 : w2.cell? ⟨w.heap.size + 1, 0, none⟩ = some (.bool false) := (blk_cell rb2 0).trans rfl
            have y1 : w2.cell? ⟨w.heap.size + 1, 1, none⟩ = some (.string ⟨#[]⟩) := (blk_cell rb2 1).trans rfl
            have y2 : w2.cell? ⟨w.heap.size + 1, 2, none⟩ = some (.slice none 0 0) := (blk_cell rb2 2).trans rfl
            have yf0 := blk_frozen rb2 0
            have yf1 := blk_frozen rb2 1
            have yf2 := blk_frozen rb2 2
            have RB2 := Aside0.mk rb2
            obtain ⟨Av, cv, rfl⟩ := Kd.R_slice hR
            have HR : Aside0 (Kd.R k50 50 w2 wr.heap.size (fun k_ => k_ ≠ w.heap.size + 1) (.slice Av g2.length cv) g2) := ⟨Kd.R_mono (Kd.R_bound hR) (fun k_ hk => by have := hk.2.1; omega)⟩
            have HB9 : Aside0 (Below w.heap.size w w2) := ⟨HBW.out.trans (hB.mono HBW.out.size)⟩
            clear rb2 hR hB
            go_wp2
            refine bodyPost_ret (results_ct rfl _ _ (w.heap.size + 1) 32 #[.bool g0, .string g1, .slice Av g2.length cv] (0, 0) _ rfl (by refine blk_put (cs := #[.bool g0, .string g1, .slice none 0 0]) ?_ 2 _ rfl; refine blk_put (cs := #[.bool g0, .string (⟨#[]⟩ : ByteArray), .slice none 0 0]) ?_ 1 _ rfl; refine blk_put (cs := #[.bool false, .string (⟨#[]⟩ : ByteArray), .slice none 0 0]) ?_ 0 _ rfl; exact RB2.out) Try.underlying32 rfl (by kernel_rfl)) rfl ?_
            exact ⟨_, rfl, Kd.R_lower (Kd.R_mono (Kd.R_far (p := ⟨w.heap.size + 1, 2, none⟩) (Kd.R_far (p := ⟨w.heap.size + 1, 1, none⟩) (Kd.R_far (p := ⟨w.heap.size + 1, 0, none⟩) HR.out (fun _ h_ => h_) _) (fun _ h_ => h_) _) (fun _ h_ => h_) _) (fun _ _ => trivial)) HBW.out.size, below_set (below_set (below_set HB9.out (Nat.le_succ _)) (Nat.le_succ _)) (Nat.le_succ _)⟩
  · rw [if_neg hlen] at h
    cases h


end Go.Proofs.Ytjhbihhiceimcaa.PFA
