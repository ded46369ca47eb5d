-- Printed by wip/tools/myprint.py (over the kit's print.py), with hand-written contracts; Lean checks all of it.
import Derived.Test.YtjlcaamfpglflaaPLinex0
namespace Go.Proofs.Ytjlcaamfpglflaa.PLine
open Go.RowKit Go.Proofs.YtjlcaamfpglflaaW.PrintWords Go.Proofs.YtjlcaamfpglflaaW.PrintLast Go.Proofs.YtjlcaamfpglflaaW.PrintMore
attribute [local go_sem] max2_int min2_int max_two min_two max_three min_three max_four min_four   -- for this text's walks alone
set_option linter.unusedVariables false
set_option linter.unusedSimpArgs false

/-! ### line_Check: function 20 -/
/-- Is a number an LSN or an epoch? -/
def inB (n : Int) : Bool := decide (0 ≤ n) && decide (n ≤ 1099511627776)
theorem in_any (n : Int) (w : World) : Calls Try.prog 44 #[.int .i64 n] w fun e w' => e = .returned (.bool (inB n)) ∧ w = w' := by
  unfold inB
  by_cases h0 : 0 ≤ n
  · go_enter Try.func44, Try.ntmps44
    go_wp2
    go_ret
    exact ⟨by simp [h0], rfl⟩
  · have h1 : n < 0 := by omega
    go_enter Try.func44, Try.ntmps44
    go_wp2
    go_ret
    exact ⟨by rw [decide_eq_false (by omega : ¬ 0 ≤ n)]; rfl, rfl⟩
/-- Is mark k right behind the one ahead? -/
def markAt (l : List S53) (last : Int) (k : Nat) : Bool :=
  (if k = 0 then decide ((rd_T53 l (k : Int)).f1 = 1) else decide ((rd_T53 l ((k - 1 : Nat) : Int)).f1 < (rd_T53 l (k : Int)).f1) && decide ((rd_T53 l ((k - 1 : Nat) : Int)).f0 < (rd_T53 l (k : Int)).f0))
    && inB (rd_T53 l (k : Int)).f0 && decide ((rd_T53 l (k : Int)).f1 ≤ last)
def headOk (l : List S53) (last : Int) : Bool := inB last && (decide ((l.length : Int) = 0) == decide (last = 0))
def okUpto (l : List S53) (last : Int) : Nat → Bool
  | 0 => headOk l last
  | k + 1 => okUpto l last k && markAt l last k
def line_Check.f (l0_0 : List S53) (a0_1 : Int) : Option Int := some (if okUpto l0_0 a0_1 l0_0.length = true then 0 else 4)

structure ChAt (w : World) (A : Option Addr) (c : Nat) (l : List S53) (last : Int) (wr : World) : Prop where
  bel : Below w.heap.size w wr
  c0 : wr.cell? ⟨w.heap.size, 0, none⟩ = some (.slice A l.length c)
  c1 : wr.cell? ⟨w.heap.size, 1, none⟩ = some (.int .i64 last)
  big : w.heap.size < wr.heap.size

theorem ChAt.step {w : World} {A : Option Addr} {c : Nat} {l : List S53} {last : Int} {wr W : World} (h : ChAt w A c l last wr) (hb : Below wr.heap.size wr W) : ChAt w A c l last W :=
  ⟨h.bel.trans (hb.mono h.bel.size), (hb.cell (p := ⟨w.heap.size, 0, none⟩) h.big).trans h.c0, (hb.cell (p := ⟨w.heap.size, 1, none⟩) h.big).trans h.c1, Nat.lt_of_lt_of_le h.big hb.size⟩

set_option maxHeartbeats 8000000 in
set_option maxRecDepth 100000 in
theorem line_Check.calls (A0_0 : Option Addr) (c0_0 : Nat) (l0_0 : List (S53)) (a0_1 : Int) (r : Int) (w : World) (hr0_0 : Kd.C k53 w A0_0 l0_0.length l0_0) (hc0_0 : l0_0.length ≤ c0_0) (h : line_Check.f l0_0 a0_1 = some r) :
    Calls Try.prog 20 #[.agg #[.slice A0_0 l0_0.length c0_0, .int .i64 a0_1]] w fun e w' => e = .returned (.int .i64 r) ∧ Below w.heap.size w w' := by
  have hr := Option.some.inj h
  have hbig : (l0_0.length : Int) ≤ 9223372036854775807 := by have := hr0_0.2.1; omega
  clear h hc0_0
  have HC := Aside0.mk (show ∀ W, Below w.heap.size w W → Kd.C k53 W A0_0 l0_0.length l0_0 from fun W hW => Kd.C_below hr0_0 hW)
  have HR := Aside0.mk hr
  clear hr0_0 hr
  have key : ∀ b : Bool, inB a0_1 = b → Calls Try.prog 20 #[.agg #[.slice A0_0 l0_0.length c0_0, .int .i64 a0_1]] w fun e w' => e = .returned (.int .i64 r) ∧ Below w.heap.size w w' := by
    intro b hb
    have ci : ∀ W, Calls Try.prog 44 #[.int .i64 a0_1] W fun e w' => e = .returned (.bool b) ∧ W = w' := fun W => (in_any a0_1 W).mono fun e w' ⟨h1, h2⟩ => ⟨by rw [h1, hb], h2⟩
    have HB := Aside0.mk hb
    clear hb
    have hh : headOk l0_0 a0_1 = (b && (decide ((l0_0.length : Int) = 0) == decide (a0_1 = 0))) := by unfold headOk; rw [HB.out]
    have HH := Aside0.mk hh
    clear hh
    cases b
    all_goals
      go_enter Try.func20, Try.ntmps20
      go_wp2_with (go_at_call 44; refine (ci _).mono ?_; rintro e w' ⟨rfl, rfl⟩)
      clear ci
      go_loopw [3, 24] (fun okv i wr => ∃ (k : Nat) (ob : Bool), k ≤ l0_0.length ∧ okv = .bool ob ∧ i = .int .i64 k ∧ Aside0 (ob = okUpto l0_0 a0_1 k) ∧ Aside0 (ChAt w A0_0 c0_0 l0_0 a0_1 wr)) (fun _ i _ => l0_0.length - (intOf i).toNat)
      case atStart =>
        refine ⟨0, _, Nat.zero_le _, rfl, rfl, ⟨?_⟩, ⟨⟨(Below.refl _ _).alloc (Nat.le_refl _) _, by simp, by simp, by simp⟩⟩⟩
        show _ = headOk l0_0 a0_1
        rw [HH.out]
        first | rfl | (simp only [Bool.true_and]; congr 1)
      case round =>
        obtain ⟨k, ob, hk, rfl, rfl, HO, HW⟩ := hrel
        by_cases hlt : k < l0_0.length
        · have hlz : (k : Int) < (l0_0.length : Int) := by omega
          obtain ⟨ad, hA, g0, g1⟩ := at_T53 (HC.out wr HW.out.bel) (k : Int) (by omega) hlz
          rw [Int.toNat_natCast] at g0 g1
          have hw0 := HW.out.c0
          have hw1 := HW.out.c1
          have hws := HW.out.big
          subst hA
          have HCC := HC
          clear HC
          cases k with
          | zero =>
            clear HCC
            have hm : markAt l0_0 a0_1 0 = (decide ((rd_T53 l0_0 ((0 : Nat) : Int)).f1 = 1) && inB (rd_T53 l0_0 ((0 : Nat) : Int)).f0 && decide ((rd_T53 l0_0 ((0 : Nat) : Int)).f1 ≤ a0_1)) := rfl
            have g0' : wr.cell? ad = some (.int .i64 (rd_T53 l0_0 ((0 : Nat) : Int)).f0) := g0
            have g1' : wr.cell? ⟨ad.block, ad.off + 1, none⟩ = some (.int .i64 (rd_T53 l0_0 ((0 : Nat) : Int)).f1) := g1
            clear g0 g1
            generalize (rd_T53 l0_0 ((0 : Nat) : Int)).f1 = s at g1' hm
            generalize (rd_T53 l0_0 ((0 : Nat) : Int)).f0 = ep at g0' hm
            have ci0 := fun W => in_any ep W
            generalize inB ep = be at ci0 hm
            have HM := Aside0.mk hm
            clear hm
            cases ob with
            | false =>
              go_wp2_with (go_at_call 44; refine (ci0 _).mono ?_; rintro e w' ⟨rfl, rfl⟩)
              go_quiet (fail)
              go_wp2_with (go_at_call 44; refine (ci0 _).mono ?_; rintro e w' ⟨rfl, rfl⟩)
              go_roundw
              case rel => exact ⟨0 + 1, false, by omega, by first | rfl | simp, by go_num, ⟨by rw [show okUpto l0_0 a0_1 (0 + 1) = (okUpto l0_0 a0_1 0 && markAt l0_0 a0_1 0) from rfl, ← HO.out]; rfl⟩, ⟨HW.out.step (by repeat (first | exact Below.refl _ _ | apply pw_below_drewN | apply below_drew | refine Below.setCell ?_ (Nat.le_refl _) _ | refine Below.alloc ?_ (Nat.le_refl _) _))⟩⟩
              case measure => simp [intOf]; omega
            | true =>
              by_cases h1 : s = 1
              · have h1b : (s == 1) = true := by simpa using h1
                have HM1 := Aside0.mk (show markAt l0_0 a0_1 0 = (be && decide (s ≤ a0_1)) from by rw [HM.out, decide_eq_true h1]; rfl)
                clear h1 HM
                cases be with
                | false =>
                  go_wp2_with (go_at_call 44; refine (ci0 _).mono ?_; rintro e w' ⟨rfl, rfl⟩)
                  go_quiet (fail)
                  go_wp2_with (go_at_call 44; refine (ci0 _).mono ?_; rintro e w' ⟨rfl, rfl⟩)
                  go_roundw
                  case rel => exact ⟨0 + 1, false, by omega, by first | rfl | simp, by go_num, ⟨by rw [show okUpto l0_0 a0_1 (0 + 1) = (okUpto l0_0 a0_1 0 && markAt l0_0 a0_1 0) from rfl, ← HO.out]; rw [HM1.out]; rfl⟩, ⟨HW.out.step (by repeat (first | exact Below.refl _ _ | apply pw_below_drewN | apply below_drew | refine Below.setCell ?_ (Nat.le_refl _) _ | refine Below.alloc ?_ (Nat.le_refl _) _))⟩⟩
                  case measure => simp [intOf]; omega
                | true =>
                  by_cases h2 : s ≤ a0_1
                  · have h2b := decide_eq_true h2
                    have HM2 := Aside0.mk (show markAt l0_0 a0_1 0 = true from by rw [HM1.out, h2b]; rfl)
                    clear h2
                    go_wp2_with (go_at_call 44; refine (ci0 _).mono ?_; rintro e w' ⟨rfl, rfl⟩)
                    go_quiet (fail)
                    go_wp2_with (go_at_call 44; refine (ci0 _).mono ?_; rintro e w' ⟨rfl, rfl⟩)
                    go_roundw
                    case rel => exact ⟨0 + 1, true, by omega, by first | rfl | simp, by go_num, ⟨by rw [show okUpto l0_0 a0_1 (0 + 1) = (okUpto l0_0 a0_1 0 && markAt l0_0 a0_1 0) from rfl, ← HO.out]; rw [HM2.out]; rfl⟩, ⟨HW.out.step (by repeat (first | exact Below.refl _ _ | apply pw_below_drewN | apply below_drew | refine Below.setCell ?_ (Nat.le_refl _) _ | refine Below.alloc ?_ (Nat.le_refl _) _))⟩⟩
                    case measure => simp [intOf]; omega
                  · have h2b := decide_eq_false h2
                    have HM2 := Aside0.mk (show markAt l0_0 a0_1 0 = false from by rw [HM1.out, h2b]; rfl)
                    clear h2
                    go_wp2_with (go_at_call 44; refine (ci0 _).mono ?_; rintro e w' ⟨rfl, rfl⟩)
                    go_quiet (fail)
                    go_wp2_with (go_at_call 44; refine (ci0 _).mono ?_; rintro e w' ⟨rfl, rfl⟩)
                    go_roundw
                    case rel => exact ⟨0 + 1, false, by omega, by first | rfl | simp, by go_num, ⟨by rw [show okUpto l0_0 a0_1 (0 + 1) = (okUpto l0_0 a0_1 0 && markAt l0_0 a0_1 0) from rfl, ← HO.out]; rw [HM2.out]; rfl⟩, ⟨HW.out.step (by repeat (first | exact Below.refl _ _ | apply pw_below_drewN | apply below_drew | refine Below.setCell ?_ (Nat.le_refl _) _ | refine Below.alloc ?_ (Nat.le_refl _) _))⟩⟩
                    case measure => simp [intOf]; omega
              · have h1b : (s == 1) = false := by simpa using h1
                have HM1 := Aside0.mk (show markAt l0_0 a0_1 0 = false from by rw [HM.out, decide_eq_false h1]; rfl)
                clear h1 HM
                go_wp2_with (go_at_call 44; refine (ci0 _).mono ?_; rintro e w' ⟨rfl, rfl⟩)
                go_quiet (fail)
                go_wp2_with (go_at_call 44; refine (ci0 _).mono ?_; rintro e w' ⟨rfl, rfl⟩)
                go_roundw
                case rel => exact ⟨0 + 1, false, by omega, by first | rfl | simp, by go_num, ⟨by rw [show okUpto l0_0 a0_1 (0 + 1) = (okUpto l0_0 a0_1 0 && markAt l0_0 a0_1 0) from rfl, ← HO.out]; rw [HM1.out]; rfl⟩, ⟨HW.out.step (by repeat (first | exact Below.refl _ _ | apply pw_below_drewN | apply below_drew | refine Below.setCell ?_ (Nat.le_refl _) _ | refine Below.alloc ?_ (Nat.le_refl _) _))⟩⟩
                case measure => simp [intOf]; omega
          | succ j =>
            have hm : markAt l0_0 a0_1 (j + 1) = (decide ((rd_T53 l0_0 (j : Int)).f1 < (rd_T53 l0_0 ((j + 1 : Nat) : Int)).f1) && decide ((rd_T53 l0_0 (j : Int)).f0 < (rd_T53 l0_0 ((j + 1 : Nat) : Int)).f0) && inB (rd_T53 l0_0 ((j + 1 : Nat) : Int)).f0 && decide ((rd_T53 l0_0 ((j + 1 : Nat) : Int)).f1 ≤ a0_1)) := by unfold markAt; rw [if_neg (Nat.succ_ne_zero j), Nat.add_sub_cancel]
            have hjz : (j : Int) < (l0_0.length : Int) := by omega
            have hwj : wrap64 (j : Int) = (j : Int) := by unfold wrap64; omega
            have hwj2 : IntKind.i64.wrap (j : Int) = (j : Int) := IntWalk.i64_in _ (by omega)
            obtain ⟨p0, p1⟩ : wr.cell? (ad.add (j * 2)) = some (.int .i64 (rd_T53 l0_0 (j : Int)).f0) ∧ wr.cell? ⟨(ad.add (j * 2)).block, (ad.add (j * 2)).off + 1, none⟩ = some (.int .i64 (rd_T53 l0_0 (j : Int)).f1) := by
              obtain ⟨ad2, e2, q0, q1⟩ := at_T53 (HCC.out wr HW.out.bel) (j : Int) (by omega) hjz
              obtain rfl := Option.some.inj e2
              rw [Int.toNat_natCast] at q0 q1
              exact ⟨q0, q1⟩
            have hab : (ad.add (j * 2)).block < wr.heap.size := World.block_lt_of_cell? wr _ p0
            have hne : (ad.add (j * 2)).block ≠ wr.heap.size := Nat.ne_of_lt hab
            clear HCC
            generalize (rd_T53 l0_0 ((j + 1 : Nat) : Int)).f1 = s at g1 hm
            generalize (rd_T53 l0_0 ((j + 1 : Nat) : Int)).f0 = ep at g0 hm
            generalize (rd_T53 l0_0 (j : Int)).f1 = ps at p1 hm
            generalize (rd_T53 l0_0 (j : Int)).f0 = pe at p0 hm
            have ci0 := fun W => in_any ep W
            generalize inB ep = be at ci0 hm
            have HM := Aside0.mk hm
            clear hm
            by_cases h1 : ps < s
            · have h1b := decide_eq_true h1
              have HM1 := Aside0.mk (show markAt l0_0 a0_1 (j + 1) = (decide (pe < ep) && be && decide (s ≤ a0_1)) from by rw [HM.out, h1b]; rfl)
              clear h1 HM
              cases ob with
              | false =>
                go_wp2_with (go_at_call 44; refine (ci0 _).mono ?_; rintro e w' ⟨rfl, rfl⟩)
                go_quiet (fail)
                go_wp2_with (go_at_call 44; refine (ci0 _).mono ?_; rintro e w' ⟨rfl, rfl⟩)
                go_roundw
                case rel => exact ⟨j + 1 + 1, false, by omega, by first | rfl | simp, by go_num, ⟨by rw [show okUpto l0_0 a0_1 (j + 1 + 1) = (okUpto l0_0 a0_1 (j + 1) && markAt l0_0 a0_1 (j + 1)) from rfl, ← HO.out]; rfl⟩, ⟨HW.out.step (by repeat (first | exact Below.refl _ _ | apply pw_below_drewN | apply below_drew | refine Below.setCell ?_ (Nat.le_refl _) _ | refine Below.alloc ?_ (Nat.le_refl _) _))⟩⟩
                case measure => simp [intOf]; omega
              | true =>
                by_cases h3 : pe < ep
                · have h3b := decide_eq_true h3
                  have HM2 := Aside0.mk (show markAt l0_0 a0_1 (j + 1) = (be && decide (s ≤ a0_1)) from by rw [HM1.out, h3b]; rfl)
                  clear h3 HM1
                  cases be with
                  | false =>
                    go_wp2_with (go_at_call 44; refine (ci0 _).mono ?_; rintro e w' ⟨rfl, rfl⟩)
                    go_quiet (fail)
                    go_wp2_with (go_at_call 44; refine (ci0 _).mono ?_; rintro e w' ⟨rfl, rfl⟩)
                    go_roundw
                    case rel => exact ⟨j + 1 + 1, false, by omega, by first | rfl | simp, by go_num, ⟨by rw [show okUpto l0_0 a0_1 (j + 1 + 1) = (okUpto l0_0 a0_1 (j + 1) && markAt l0_0 a0_1 (j + 1)) from rfl, ← HO.out]; rw [HM2.out]; rfl⟩, ⟨HW.out.step (by repeat (first | exact Below.refl _ _ | apply pw_below_drewN | apply below_drew | refine Below.setCell ?_ (Nat.le_refl _) _ | refine Below.alloc ?_ (Nat.le_refl _) _))⟩⟩
                    case measure => simp [intOf]; omega
                  | true =>
                    by_cases h2 : s ≤ a0_1
                    · have h2b := decide_eq_true h2
                      have HM3 := Aside0.mk (show markAt l0_0 a0_1 (j + 1) = true from by rw [HM2.out, h2b]; rfl)
                      clear h2
                      go_wp2_with (go_at_call 44; refine (ci0 _).mono ?_; rintro e w' ⟨rfl, rfl⟩)
                      go_quiet (fail)
                      go_wp2_with (go_at_call 44; refine (ci0 _).mono ?_; rintro e w' ⟨rfl, rfl⟩)
                      go_roundw
                      case rel => exact ⟨j + 1 + 1, true, by omega, by first | rfl | simp, by go_num, ⟨by rw [show okUpto l0_0 a0_1 (j + 1 + 1) = (okUpto l0_0 a0_1 (j + 1) && markAt l0_0 a0_1 (j + 1)) from rfl, ← HO.out]; rw [HM3.out]; rfl⟩, ⟨HW.out.step (by repeat (first | exact Below.refl _ _ | apply pw_below_drewN | apply below_drew | refine Below.setCell ?_ (Nat.le_refl _) _ | refine Below.alloc ?_ (Nat.le_refl _) _))⟩⟩
                      case measure => simp [intOf]; omega
                    · have h2b := decide_eq_false h2
                      have HM3 := Aside0.mk (show markAt l0_0 a0_1 (j + 1) = false from by rw [HM2.out, h2b]; rfl)
                      clear h2
                      go_wp2_with (go_at_call 44; refine (ci0 _).mono ?_; rintro e w' ⟨rfl, rfl⟩)
                      go_quiet (fail)
                      go_wp2_with (go_at_call 44; refine (ci0 _).mono ?_; rintro e w' ⟨rfl, rfl⟩)
                      go_roundw
                      case rel => exact ⟨j + 1 + 1, false, by omega, by first | rfl | simp, by go_num, ⟨by rw [show okUpto l0_0 a0_1 (j + 1 + 1) = (okUpto l0_0 a0_1 (j + 1) && markAt l0_0 a0_1 (j + 1)) from rfl, ← HO.out]; rw [HM3.out]; rfl⟩, ⟨HW.out.step (by repeat (first | exact Below.refl _ _ | apply pw_below_drewN | apply below_drew | refine Below.setCell ?_ (Nat.le_refl _) _ | refine Below.alloc ?_ (Nat.le_refl _) _))⟩⟩
                      case measure => simp [intOf]; omega
                · have h3b := decide_eq_false h3
                  have HM2 := Aside0.mk (show markAt l0_0 a0_1 (j + 1) = false from by rw [HM1.out, h3b]; rfl)
                  clear h3 HM1
                  go_wp2_with (go_at_call 44; refine (ci0 _).mono ?_; rintro e w' ⟨rfl, rfl⟩)
                  go_quiet (fail)
                  go_wp2_with (go_at_call 44; refine (ci0 _).mono ?_; rintro e w' ⟨rfl, rfl⟩)
                  go_roundw
                  case rel => exact ⟨j + 1 + 1, false, by omega, by first | rfl | simp, by go_num, ⟨by rw [show okUpto l0_0 a0_1 (j + 1 + 1) = (okUpto l0_0 a0_1 (j + 1) && markAt l0_0 a0_1 (j + 1)) from rfl, ← HO.out]; rw [HM2.out]; rfl⟩, ⟨HW.out.step (by repeat (first | exact Below.refl _ _ | apply pw_below_drewN | apply below_drew | refine Below.setCell ?_ (Nat.le_refl _) _ | refine Below.alloc ?_ (Nat.le_refl _) _))⟩⟩
                  case measure => simp [intOf]; omega
            · have h1b := decide_eq_false h1
              have HM1 := Aside0.mk (show markAt l0_0 a0_1 (j + 1) = false from by rw [HM.out, h1b]; rfl)
              clear h1 HM
              cases ob with
              | false =>
                  go_wp2_with (go_at_call 44; refine (ci0 _).mono ?_; rintro e w' ⟨rfl, rfl⟩)
                  go_quiet (fail)
                  go_wp2_with (go_at_call 44; refine (ci0 _).mono ?_; rintro e w' ⟨rfl, rfl⟩)
                  go_roundw
                  case rel => exact ⟨j + 1 + 1, false, by omega, by first | rfl | simp, by go_num, ⟨by rw [show okUpto l0_0 a0_1 (j + 1 + 1) = (okUpto l0_0 a0_1 (j + 1) && markAt l0_0 a0_1 (j + 1)) from rfl, ← HO.out]; rfl⟩, ⟨HW.out.step (by repeat (first | exact Below.refl _ _ | apply pw_below_drewN | apply below_drew | refine Below.setCell ?_ (Nat.le_refl _) _ | refine Below.alloc ?_ (Nat.le_refl _) _))⟩⟩
                  case measure => simp [intOf]; omega
              | true =>
                  go_wp2_with (go_at_call 44; refine (ci0 _).mono ?_; rintro e w' ⟨rfl, rfl⟩)
                  go_quiet (fail)
                  go_wp2_with (go_at_call 44; refine (ci0 _).mono ?_; rintro e w' ⟨rfl, rfl⟩)
                  go_roundw
                  case rel => exact ⟨j + 1 + 1, false, by omega, by first | rfl | simp, by go_num, ⟨by rw [show okUpto l0_0 a0_1 (j + 1 + 1) = (okUpto l0_0 a0_1 (j + 1) && markAt l0_0 a0_1 (j + 1)) from rfl, ← HO.out]; rw [HM1.out]; rfl⟩, ⟨HW.out.step (by repeat (first | exact Below.refl _ _ | apply pw_below_drewN | apply below_drew | refine Below.setCell ?_ (Nat.le_refl _) _ | refine Below.alloc ?_ (Nat.le_refl _) _))⟩⟩
                  case measure => simp [intOf]; omega
        · obtain rfl : k = l0_0.length := by omega
          have hr2 := HR.out
          rw [← HO.out] at hr2
          clear HC HH
          have HB2 := Aside0.mk HW.out.bel
          clear HW
          cases ob
          · obtain rfl : 4 = r := hr2
            go_wp2
            go_ret
            exact ⟨rfl, HB2.out⟩
          · obtain rfl : 0 = r := hr2
            go_wp2
            go_ret
            exact ⟨rfl, HB2.out⟩
  exact key _ rfl


end Go.Proofs.Ytjlcaamfpglflaa.PLine
