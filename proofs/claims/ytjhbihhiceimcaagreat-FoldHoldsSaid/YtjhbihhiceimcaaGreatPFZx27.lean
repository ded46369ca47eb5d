-- Printed by wip/tools/myprint.py (over the kit's print.py), with hand-written contracts; Lean checks all of it.
import Derived.Test.YtjhbihhiceimcaaGreatPFZx0
import Derived.Test.YtjhbihhiceimcaaGreatPFZx10
import Derived.Test.YtjhbihhiceimcaaGreatPFZx11
import Derived.Test.YtjhbihhiceimcaaGreatPFZx12
import Derived.Test.YtjhbihhiceimcaaGreatPFZx24
import Derived.Test.YtjhbihhiceimcaaGreatPFZx25
import Derived.Test.YtjhbihhiceimcaaGreatPFZx26
namespace Go.Proofs.YtjhbihhiceimcaaGreat.PFZ
open Go.RowKit Go.Proofs.YtjhbihhiceimcaaGreatW.PrintWords Go.Proofs.YtjhbihhiceimcaaGreatW.PrintLast Go.Proofs.YtjhbihhiceimcaaGreatW.PrintMore
attribute [local go_sem] max2_int min2_int max_two min_two max_three min_three max_four min_four   -- for this text's walks alone
set_option linter.unusedVariables false
set_option linter.unusedSimpArgs false

/-! ### latticelaw18_FoldHolds: function 5 -/
def latticelaw18_FoldHolds.j0 : Nat → List (S51) → List (S51) → Int → Bool → Option (Bool)
  | 0, _, _, _, _ => none
  | k + 1, x0, x1, x2, x18 => if x18 = true then ((latticelaw18_speaks.f k).bind fun t212 => (some t212)) else ((fold_Place.f x0 x2).bind fun bt213 => ((latticeref18_Place.f x0 x2).bind fun bt215 => ((fold_Extends.f x0 x1).bind fun t217 => ((latticeref18_Extends.f x0 x1).bind fun t218 => (if (t217 == t218) = true then ((fold_Once.f x0).bind fun t219 => ((latticeref18_Once.f k x0).bind fun t220 => (if (t219 == t220) = true then (if bt213.1 = bt215.1 then (if (bt213.2 == bt215.2) = true then ((latticelaw18_speaks.f k).bind fun t221 => (some t221)) else (some false)) else (some false)) else (some false)))) else (some false))))))
def latticelaw18_FoldHolds.f (k : Nat) (l0 : List (S51)) (l1 : List (S51)) (a2 : Int) : Option (Bool) := if (l0.length : Int) > 2000 then (latticelaw18_FoldHolds.j0 k l0 l1 a2 true) else (latticelaw18_FoldHolds.j0 k l0 l1 a2 (decide ((l1.length : Int) > 2000)))
theorem latticelaw18_FoldHolds.mono_l : ∀ k, (∀ y0 y1 y2 y3, LeO (latticelaw18_FoldHolds.j0 k y0 y1 y2 y3) (latticelaw18_FoldHolds.j0 (k + 1) y0 y1 y2 y3))
  | 0 => fun _ _ _ _ r h => by simp [latticelaw18_FoldHolds.j0] at h
  | k + 1 => by
    have ih0 := latticelaw18_FoldHolds.mono_l k
    · intro y0 y1 y2 y3
      unfold latticelaw18_FoldHolds.j0
      repeat' first
      | (with_reducible exact ih0 _ _ _ _)
      | (with_reducible exact latticelaw18_speaks.mono _)
      | (with_reducible exact latticeref18_Once.mono _ _)
      | (with_reducible exact LeO.refl _)
      | (with_reducible exact LeO.none _)
      | (with_reducible refine LeO.ite ?_ ?_)
      | (with_reducible refine LeO.bind ?_ (fun _ => ?_))
      | exact ih0 _ _ _ _
      | exact latticelaw18_speaks.mono _
      | exact latticeref18_Once.mono _ _
      | exact LeO.none _
      | refine LeO.ite ?_ ?_
      | refine LeO.bind ?_ (fun _ => ?_)
theorem latticelaw18_FoldHolds.mono : ∀ a0 a1 a2 k, LeO (latticelaw18_FoldHolds.f k a0 a1 a2) (latticelaw18_FoldHolds.f (k + 1) a0 a1 a2) := by
  intro a0 a1 a2 k
  have ih0 := latticelaw18_FoldHolds.mono_l k
  unfold latticelaw18_FoldHolds.f
  repeat' first
      | (with_reducible exact ih0 _ _ _ _)
      | (with_reducible exact latticelaw18_speaks.mono _)
      | (with_reducible exact latticeref18_Once.mono _ _)
      | (with_reducible exact LeO.refl _)
      | (with_reducible exact LeO.none _)
      | (with_reducible refine LeO.ite ?_ ?_)
      | (with_reducible refine LeO.bind ?_ (fun _ => ?_))
      | exact ih0 _ _ _ _
      | exact latticelaw18_speaks.mono _
      | exact latticeref18_Once.mono _ _
      | exact LeO.none _
      | refine LeO.ite ?_ ?_
      | refine LeO.bind ?_ (fun _ => ?_)
set_option maxHeartbeats 8000000 in
set_option maxRecDepth 100000 in
theorem latticelaw18_FoldHolds.calls (k : Nat) (A0 : Option Addr) (c0 : Nat) (l0 : List (S51)) (A1 : Option Addr) (c1 : Nat) (l1 : List (S51)) (a2 : Int) (r : Bool) (w : World) (hr0 : Kd.C k51 w A0 l0.length l0) (hc0 : l0.length ≤ c0) (hr1 : Kd.C k51 w A1 l1.length l1) (hc1 : l1.length ≤ c1) (ht_ : Aside0 (r = true)) (h : latticelaw18_FoldHolds.f k l0 l1 a2 = some r) :
    Calls Tryz.prog 5 #[.slice A0 l0.length c0, .slice A1 l1.length c1, .int .i64 a2] w fun e w' => e = .returned (.bool r) ∧ Below w.heap.size w w' := by
  have HR0 := Aside0.mk hr0
  have HC0 := Aside0.mk hc0
  clear hr0 hc0
  have HR1 := Aside0.mk hr1
  have HC1 := Aside0.mk hc1
  clear hr1 hc1
  have HB := Aside0.mk (Below.refl w.heap.size w)
  have H : (if (l0.length : Int) > 2000 then (latticelaw18_FoldHolds.j0 k l0 l1 a2 true) else (latticelaw18_FoldHolds.j0 k l0 l1 a2 (decide ((l1.length : Int) > 2000)))) = some r := h
  clear h
  have HC4 := Aside0.mk H
  clear H
  go_enter Tryz.func5, Tryz.ntmps5
  go_upto_region 1 with (fail)
  go_cut [18] (fun v18 wc => ∃ (kq : Nat) (x18_3 : Bool), v18 = .bool x18_3 ∧ Aside0 (latticelaw18_FoldHolds.j0 kq l0 l1 a2 x18_3 = some r) ∧ Aside0 (kq ≤ k) ∧ Aside0 (Below w.heap.size w wc))
  case first =>
    have H := HC4.out
    clear HC4
    by_cases c5 : (l0.length : Int) > 2000
    · rw [if_pos c5] at H
      have c5b0 : decide (2000 < (l0.length : Int)) = true := decide_eq_true c5
      have c5b1 : decide (2000 < l0.length) = true := decide_eq_true (by omega)
      clear c5
      (first | rw [c5b0] | (simp only [i64_w, i32_w]; rw [c5b0]) | skip)
      as_aux_lemma =>
        have H' := Aside0.mk H
        clear H
        go_wp2
        go_meet
        case rel => exact ⟨_, (true), (by first | rfl | (simp; done) | (simp [*]; done)), H', ⟨by first | omega | exact Nat.le_refl _⟩, ⟨by repeat (first | (with_reducible first | exact HB.out | apply below_alloc | apply pw_below_drewN | apply below_drew1) | exact HB.out)⟩⟩
    · rw [if_neg c5] at H
      have c5b0 : decide (2000 < (l0.length : Int)) = false := decide_eq_false c5
      have c5b1 : decide (2000 < l0.length) = false := decide_eq_false (by omega)
      clear c5
      (first | rw [c5b0] | (simp only [i64_w, i32_w]; rw [c5b0]) | skip)
      as_aux_lemma =>
        have H' := Aside0.mk H
        clear H
        go_wp2
        go_meet
        case rel => exact ⟨_, (decide ((l1.length : Int) > 2000)), (by first | rfl | (simp; done) | (simp [*]; done)), H', ⟨by first | omega | exact Nat.le_refl _⟩, ⟨by repeat (first | (with_reducible first | exact HB.out | apply below_alloc | apply pw_below_drewN | apply below_drew1) | exact HB.out)⟩⟩
  case rest =>
    clear HC4
    try clear c1
    try clear p2
    try clear c5
    try clear c5b0
    try clear c5b1
    obtain ⟨kq, x18_3, rfl, HA, HJ3, HB⟩ := hcut
    cases kq with
    | zero => exact absurd HA.out (by simp [latticelaw18_FoldHolds.j0])
    | succ kj3 =>
      have H := HA.out
      clear HA
      simp only [latticelaw18_FoldHolds.j0] at H
      by_cases c6 : x18_3 = true
      · subst c6
        have H1 : ((latticelaw18_speaks.f kj3).bind fun t212 => (some t212)) = some r := by rw [if_pos rfl] at H; exact H
        clear H
        have H := H1
        clear H1
        replace H := Option.bind_eq_some_iff.mp H
        obtain ⟨t212, A70, H⟩ := H
        replace H : (some t212) = some r := H
        have A7 := Aside0.mk A70
        clear A70
        as_aux_lemma =>
          obtain rfl := Option.some.inj H
          go_wp2_with (first | ((with_reducible refine gate_callee (f := 6) rfl ?_); refine goesL_ (some 19) rfl rfl Tryz.func6 (by kernel_rfl) rfl #[] rfl (by (try simp only [List.map_toArray, List.map_cons, List.map_nil]); first | done | rfl | (simp only [List.length_drop, List.length_take]; rfl)) ?_; (with_reducible refine (latticelaw18_speaks.calls kj3  t212 _ ht_ A7.out).mono ?_); rintro e w8 ⟨rfl, hb⟩; refine ⟨_, rfl, ?_⟩; have n0_ := Aside0.mk (below_step (by repeat (first | (with_reducible first | exact HB.out | apply below_alloc | apply pw_below_drewN | apply below_drew1) | exact HB.out)) hb); clear HB; have HB := n0_; clear n0_; (try clear hb); (try clear hb2); (try clear hk); (try clear hi)))
          go_ret
          exact ⟨by first | rfl | (simp [errW_none, errW_some] <;> rfl) | (simp [*, errW_none, errW_some] <;> rfl), by repeat (first | (with_reducible first | exact HB.out | apply below_alloc | apply pw_below_drewN | apply below_drew1) | exact HB.out)⟩
      · replace c6 := Bool.eq_false_iff.mpr c6
        subst c6
        have H1 : ((fold_Place.f l0 a2).bind fun bt213 => ((latticeref18_Place.f l0 a2).bind fun bt215 => ((fold_Extends.f l0 l1).bind fun t217 => ((latticeref18_Extends.f l0 l1).bind fun t218 => (if (t217 == t218) = true then ((fold_Once.f l0).bind fun t219 => ((latticeref18_Once.f kj3 l0).bind fun t220 => (if (t219 == t220) = true then (if bt213.1 = bt215.1 then (if (bt213.2 == bt215.2) = true then ((latticelaw18_speaks.f kj3).bind fun t221 => (some t221)) else (some false)) else (some false)) else (some false)))) else (some false)))))) = some r := by rw [if_neg (show ¬ (false = true) by decide)] at H; exact H
        clear H
        have H := H1
        clear H1
        replace H := Option.bind_eq_some_iff.mp H
        obtain ⟨⟨t213, t214⟩, A90, H⟩ := H
        replace H : ((latticeref18_Place.f l0 a2).bind fun bt215 => ((fold_Extends.f l0 l1).bind fun t217 => ((latticeref18_Extends.f l0 l1).bind fun t218 => (if (t217 == t218) = true then ((fold_Once.f l0).bind fun t219 => ((latticeref18_Once.f kj3 l0).bind fun t220 => (if (t219 == t220) = true then (if t213 = bt215.1 then (if (t214 == bt215.2) = true then ((latticelaw18_speaks.f kj3).bind fun t221 => (some t221)) else (some false)) else (some false)) else (some false)))) else (some false))))) = some r := H
        have A9 := Aside0.mk A90
        clear A90
        replace H := Option.bind_eq_some_iff.mp H
        obtain ⟨⟨t215, t216⟩, A100, H⟩ := H
        replace H : ((fold_Extends.f l0 l1).bind fun t217 => ((latticeref18_Extends.f l0 l1).bind fun t218 => (if (t217 == t218) = true then ((fold_Once.f l0).bind fun t219 => ((latticeref18_Once.f kj3 l0).bind fun t220 => (if (t219 == t220) = true then (if t213 = t215 then (if (t214 == t216) = true then ((latticelaw18_speaks.f kj3).bind fun t221 => (some t221)) else (some false)) else (some false)) else (some false)))) else (some false)))) = some r := H
        have A10 := Aside0.mk A100
        clear A100
        replace H := Option.bind_eq_some_iff.mp H
        obtain ⟨t217, A110, H⟩ := H
        replace H : ((latticeref18_Extends.f l0 l1).bind fun t218 => (if (t217 == t218) = true then ((fold_Once.f l0).bind fun t219 => ((latticeref18_Once.f kj3 l0).bind fun t220 => (if (t219 == t220) = true then (if t213 = t215 then (if (t214 == t216) = true then ((latticelaw18_speaks.f kj3).bind fun t221 => (some t221)) else (some false)) else (some false)) else (some false)))) else (some false))) = some r := H
        have A11 := Aside0.mk A110
        clear A110
        replace H := Option.bind_eq_some_iff.mp H
        obtain ⟨t218, A120, H⟩ := H
        replace H : (if (t217 == t218) = true then ((fold_Once.f l0).bind fun t219 => ((latticeref18_Once.f kj3 l0).bind fun t220 => (if (t219 == t220) = true then (if t213 = t215 then (if (t214 == t216) = true then ((latticelaw18_speaks.f kj3).bind fun t221 => (some t221)) else (some false)) else (some false)) else (some false)))) else (some false)) = some r := H
        have A12 := Aside0.mk A120
        clear A120
        by_cases c13 : (t217 == t218) = true
        · rw [if_pos c13] at H
          have c13b0 : (t217 == t218) = true := c13
          (try (have c13b1 : decide (t217 = t218) = true := by simpa using c13))
          (try (have c13b2 : (t217 == t218) = true := by simpa using c13))
          clear c13
          replace H := Option.bind_eq_some_iff.mp H
          obtain ⟨t219, A140, H⟩ := H
          replace H : ((latticeref18_Once.f kj3 l0).bind fun t220 => (if (t219 == t220) = true then (if t213 = t215 then (if (t214 == t216) = true then ((latticelaw18_speaks.f kj3).bind fun t221 => (some t221)) else (some false)) else (some false)) else (some false))) = some r := H
          have A14 := Aside0.mk A140
          clear A140
          replace H := Option.bind_eq_some_iff.mp H
          obtain ⟨t220, A150, H⟩ := H
          replace H : (if (t219 == t220) = true then (if t213 = t215 then (if (t214 == t216) = true then ((latticelaw18_speaks.f kj3).bind fun t221 => (some t221)) else (some false)) else (some false)) else (some false)) = some r := H
          have A15 := Aside0.mk A150
          clear A150
          by_cases c16 : (t219 == t220) = true
          · rw [if_pos c16] at H
            have c16b0 : (t219 == t220) = true := c16
            (try (have c16b1 : decide (t219 = t220) = true := by simpa using c16))
            (try (have c16b2 : (t219 == t220) = true := by simpa using c16))
            clear c16
            by_cases c17 : t213 = t215
            · rw [if_pos c17] at H
              have c17b0 : (t213 == t215) = true := beq_iff_eq.mpr c17
              have c17b1 : (t213 != t215) = false := bne_eq_false_iff_eq.mpr c17
              clear c17
              by_cases c18 : (t214 == t216) = true
              · rw [if_pos c18] at H
                have c18b0 : (t214 == t216) = true := c18
                (try (have c18b1 : decide (t214 = t216) = true := by simpa using c18))
                (try (have c18b2 : (t214 == t216) = true := by simpa using c18))
                clear c18
                replace H := Option.bind_eq_some_iff.mp H
                obtain ⟨t221, A190, H⟩ := H
                replace H : (some t221) = some r := H
                have A19 := Aside0.mk A190
                clear A190
                as_aux_lemma =>
                  obtain rfl := Option.some.inj H
                  go_wp2_with (first | ((with_reducible refine gate_callee (f := 15) rfl ?_); refine goesL_ (some 23) rfl rfl Tryz.func15 (by kernel_rfl) rfl #[.slice A0 l0.length c0, .int .i64 a2] rfl (by (try simp only [List.map_toArray, List.map_cons, List.map_nil]); first | done | rfl | (simp only [List.length_drop, List.length_take]; rfl)) ?_; (with_reducible refine (fold_Place.calls _ _ l0 a2 t213 t214 _ ?side1 ?side2 A9.out).mono ?_); (case side1 => repeat (first | exact (Kd.C_below HR0.out HB.out) | (with_reducible refine Kd.C_alloc ?_ _) | (with_reducible refine Kd.C_drewN ?_ _) | (with_reducible refine Kd.C_drew ?_))); (case side2 => exact HC0.out); rintro e w20 ⟨rfl, hb⟩; refine ⟨_, rfl, ?_⟩; have n0_ := Aside0.mk (below_step (by repeat (first | (with_reducible first | exact HB.out | apply below_alloc | apply pw_below_drewN | apply below_drew1) | exact HB.out)) hb); clear HB; have HB := n0_; clear n0_; (try clear hb); (try clear hb2); (try clear hk); (try clear hi)) | ((with_reducible refine gate_callee (f := 16) rfl ?_); refine goesL_ (some 29) rfl rfl Tryz.func16 (by kernel_rfl) rfl #[.slice A0 l0.length c0, .int .i64 a2] rfl (by (try simp only [List.map_toArray, List.map_cons, List.map_nil]); first | done | rfl | (simp only [List.length_drop, List.length_take]; rfl)) ?_; (with_reducible refine (latticeref18_Place.calls _ _ l0 a2 t215 t216 _ ?side1 ?side2 A10.out).mono ?_); (case side1 => repeat (first | exact (Kd.C_below HR0.out HB.out) | (with_reducible refine Kd.C_alloc ?_ _) | (with_reducible refine Kd.C_drewN ?_ _) | (with_reducible refine Kd.C_drew ?_))); (case side2 => exact HC0.out); rintro e w21 ⟨rfl, hb⟩; refine ⟨_, rfl, ?_⟩; have n0_ := Aside0.mk (below_step (by repeat (first | (with_reducible first | exact HB.out | apply below_alloc | apply pw_below_drewN | apply below_drew1) | exact HB.out)) hb); clear HB; have HB := n0_; clear n0_; (try clear hb); (try clear hb2); (try clear hk); (try clear hi)) | ((with_reducible refine gate_callee (f := 17) rfl ?_); refine goesL_ (some 34) rfl rfl Tryz.func17 (by kernel_rfl) rfl #[.slice A0 l0.length c0, .slice A1 l1.length c1] rfl (by (try simp only [List.map_toArray, List.map_cons, List.map_nil]); first | done | rfl | (simp only [List.length_drop, List.length_take]; rfl)) ?_; (with_reducible refine (fold_Extends.calls _ _ l0 _ _ l1 t217 _ ?side1 ?side2 ?side3 ?side4 A11.out).mono ?_); (case side1 => repeat (first | exact (Kd.C_below HR0.out HB.out) | (with_reducible refine Kd.C_alloc ?_ _) | (with_reducible refine Kd.C_drewN ?_ _) | (with_reducible refine Kd.C_drew ?_))); (case side2 => exact HC0.out); (case side3 => repeat (first | exact (Kd.C_below HR1.out HB.out) | (with_reducible refine Kd.C_alloc ?_ _) | (with_reducible refine Kd.C_drewN ?_ _) | (with_reducible refine Kd.C_drew ?_))); (case side4 => exact HC1.out); rintro e w22 ⟨rfl, hb⟩; refine ⟨_, rfl, ?_⟩; have n0_ := Aside0.mk (below_step (by repeat (first | (with_reducible first | exact HB.out | apply below_alloc | apply pw_below_drewN | apply below_drew1) | exact HB.out)) hb); clear HB; have HB := n0_; clear n0_; (try clear hb); (try clear hb2); (try clear hk); (try clear hi)) | ((with_reducible refine gate_callee (f := 18) rfl ?_); refine goesL_ (some 37) rfl rfl Tryz.func18 (by kernel_rfl) rfl #[.slice A0 l0.length c0, .slice A1 l1.length c1] rfl (by (try simp only [List.map_toArray, List.map_cons, List.map_nil]); first | done | rfl | (simp only [List.length_drop, List.length_take]; rfl)) ?_; (with_reducible refine (latticeref18_Extends.calls _ _ l0 _ _ l1 t218 _ ?side1 ?side2 ?side3 ?side4 A12.out).mono ?_); (case side1 => repeat (first | exact (Kd.C_below HR0.out HB.out) | (with_reducible refine Kd.C_alloc ?_ _) | (with_reducible refine Kd.C_drewN ?_ _) | (with_reducible refine Kd.C_drew ?_))); (case side2 => exact HC0.out); (case side3 => repeat (first | exact (Kd.C_below HR1.out HB.out) | (with_reducible refine Kd.C_alloc ?_ _) | (with_reducible refine Kd.C_drewN ?_ _) | (with_reducible refine Kd.C_drew ?_))); (case side4 => exact HC1.out); rintro e w23 ⟨rfl, hb⟩; refine ⟨_, rfl, ?_⟩; have n0_ := Aside0.mk (below_step (by repeat (first | (with_reducible first | exact HB.out | apply below_alloc | apply pw_below_drewN | apply below_drew1) | exact HB.out)) hb); clear HB; have HB := n0_; clear n0_; (try clear hb); (try clear hb2); (try clear hk); (try clear hi)) | (go_at_call 19; (with_reducible refine (fold_Once.calls _ _ l0 t219 _ ?side1 ?side2 A14.out).mono ?_); (case side1 => repeat (first | exact (Kd.C_below HR0.out HB.out) | (with_reducible refine Kd.C_alloc ?_ _) | (with_reducible refine Kd.C_drewN ?_ _) | (with_reducible refine Kd.C_drew ?_))); (case side2 => exact HC0.out); rintro e w24 ⟨rfl, hb⟩; have n0_ := Aside0.mk (below_step (by repeat (first | (with_reducible first | exact HB.out | apply below_alloc | apply pw_below_drewN | apply below_drew1) | exact HB.out)) hb); clear HB; have HB := n0_; clear n0_; (try clear hb); (try clear hb2); (try clear hk); (try clear hi)) | (go_at_call 20; (with_reducible refine (latticeref18_Once.calls kj3 _ _ l0 t220 _ ?side1 ?side2 A15.out).mono ?_); (case side1 => repeat (first | exact (Kd.C_below HR0.out HB.out) | (with_reducible refine Kd.C_alloc ?_ _) | (with_reducible refine Kd.C_drewN ?_ _) | (with_reducible refine Kd.C_drew ?_))); (case side2 => exact HC0.out); rintro e w25 ⟨rfl, hb⟩; have n0_ := Aside0.mk (below_step (by repeat (first | (with_reducible first | exact HB.out | apply below_alloc | apply pw_below_drewN | apply below_drew1) | exact HB.out)) hb); clear HB; have HB := n0_; clear n0_; (try clear hb); (try clear hb2); (try clear hk); (try clear hi)) | (go_at_call 6; (with_reducible refine (latticelaw18_speaks.calls kj3  t221 _ ht_ A19.out).mono ?_); rintro e w26 ⟨rfl, hb⟩; have n0_ := Aside0.mk (below_step (by repeat (first | (with_reducible first | exact HB.out | apply below_alloc | apply pw_below_drewN | apply below_drew1) | exact HB.out)) hb); clear HB; have HB := n0_; clear n0_; (try clear hb); (try clear hb2); (try clear hk); (try clear hi)))
                  go_ret
                  exact ⟨by first | rfl | (simp [errW_none, errW_some] <;> rfl) | (simp [*, errW_none, errW_some] <;> rfl), by repeat (first | (with_reducible first | exact HB.out | apply below_alloc | apply pw_below_drewN | apply below_drew1) | exact HB.out)⟩
              · rw [if_neg c18] at H
                have c18b0 : (t214 == t216) = false := by simpa using c18
                (try (have c18b1 : decide (t214 = t216) = false := by simpa using c18))
                (try (have c18b2 : (t214 == t216) = false := by simpa using c18))
                (try (have c18b3 : ¬ (t214 = t216) := by simpa using c18))
                clear c18
                as_aux_lemma =>
                  exact absurd (Option.some.inj H) (by rw [ht_.out]; decide)
            · rw [if_neg c17] at H
              have c17b0 : (t213 == t215) = false := beq_eq_false_iff_ne.mpr c17
              have c17b1 : (t213 != t215) = true := bne_iff_ne.mpr c17
              as_aux_lemma =>
                exact absurd (Option.some.inj H) (by rw [ht_.out]; decide)
          · rw [if_neg c16] at H
            have c16b0 : (t219 == t220) = false := by simpa using c16
            (try (have c16b1 : decide (t219 = t220) = false := by simpa using c16))
            (try (have c16b2 : (t219 == t220) = false := by simpa using c16))
            (try (have c16b3 : ¬ (t219 = t220) := by simpa using c16))
            clear c16
            as_aux_lemma =>
              exact absurd (Option.some.inj H) (by rw [ht_.out]; decide)
        · rw [if_neg c13] at H
          have c13b0 : (t217 == t218) = false := by simpa using c13
          (try (have c13b1 : decide (t217 = t218) = false := by simpa using c13))
          (try (have c13b2 : (t217 == t218) = false := by simpa using c13))
          (try (have c13b3 : ¬ (t217 = t218) := by simpa using c13))
          clear c13
          as_aux_lemma =>
            exact absurd (Option.some.inj H) (by rw [ht_.out]; decide)

end Go.Proofs.YtjhbihhiceimcaaGreat.PFZ
