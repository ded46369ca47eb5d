-- Printed by wip/tools/myprint.py (over the kit's print.py), with hand-written contracts; Lean checks all of it.
import Derived.Test.YtjhbihhiceimcaaGreatPFZx0
import Derived.Test.YtjhbihhiceimcaaGreatPFZx3
import Derived.Test.YtjhbihhiceimcaaGreatPFZx4
import Derived.Test.YtjhbihhiceimcaaGreatPFZx5
import Derived.Test.YtjhbihhiceimcaaGreatPFZx9
import Derived.Test.YtjhbihhiceimcaaGreatPFZx10
import Derived.Test.YtjhbihhiceimcaaGreatPFZx11
namespace Go.Proofs.YtjhbihhiceimcaaGreat.PFZ
open Go.RowKit Go.Proofs.YtjhbihhiceimcaaGreatW.PrintWords Go.Proofs.YtjhbihhiceimcaaGreatW.PrintLast Go.Proofs.YtjhbihhiceimcaaGreatW.PrintMore
attribute [local go_sem] max2_int min2_int max_two min_two max_three min_three max_four min_four   -- for this text's walks alone
set_option linter.unusedVariables false
set_option linter.unusedSimpArgs false

/-! ### latticelaw18_speaks: function 6 -/
open Go.Proofs.YtjhbihhiceimcaaGreat.FMap
theorem little_isC : ∀ r ∈ littleR, isC r = true := by
  intro r hr
  simp only [littleR, List.mem_cons, List.not_mem_nil, or_false] at hr
  rcases hr with rfl | rfl | rfl | rfl <;> simp [isC, commitOk, okB, okA, bareV, keyOk, reqOk, Go.ByteArray.toList_eq, ByteArray.size]
theorem little_hist : histV littleR = littleR := List.filter_eq_self.2 little_isC
theorem little_hist2 : histV (littleR.take 2) = littleR.take 2 := List.filter_eq_self.2 (fun r hr => little_isC r (List.mem_of_mem_take hr))
theorem little_H : fold_History.f littleR = some littleR := by unfold fold_History.f; rw [if_pos (by decide), little_hist]
theorem little_H2 : fold_History.f (littleR.take 2) = some (littleR.take 2) := by unfold fold_History.f; rw [if_pos (by decide), little_hist2]
def littleE : List S48 := [⟨⟨#[97]⟩, ⟨#[122]⟩⟩]
theorem little_lit (W : World) : Kd.R k48 48 (W.alloc (.cells #[.string ⟨#[97]⟩, .string ⟨#[122]⟩] 48)) W.heap.size (fun _ => True) (.slice (some ⟨W.heap.size, 0, none⟩) 1 1) littleE :=
  R_fresh k48 48 W littleE [.string ⟨#[97]⟩, .string ⟨#[122]⟩] (fun ok => Reps.c2 (k48_mkM _ _ _ _) (Reps.none _ _)) (by show 1 ≤ maxLen; unfold maxLen; omega)
theorem little_small : smallR littleR = true := by unfold smallR maxLen; decide
theorem little_B : fold_Behind.f littleR 4 = some (littleE, 0) := by
  unfold fold_Behind.f
  rw [little_H, Option.bind_some, if_pos little_small, if_neg (by decide), if_neg (by decide)]
  rfl
theorem little_O : fold_Once.f littleR = some true := by
  unfold fold_Once.f
  rw [little_H, Option.bind_some, if_pos (by decide)]
  rfl
theorem neqR_self (x : S51) : neqR x x = false := by simp [neqR]
theorem little_X : fold_Extends.f littleR (littleR.take 2) = some true := by
  unfold fold_Extends.f
  rw [little_H, little_H2, Option.bind_some, Option.bind_some, if_pos (by decide)]
  congr 1
  refine extB_yes (by decide) (fun i hi => ?_)
  have : i = 0 ∨ i = 1 := by
    have : i < 2 := hi
    omega
  rcases this with rfl | rfl <;> exact neqR_self _
def latticelaw18_speaks.f (k : Nat) : Option Bool := if fold_Agrees.f k littleR 1 ⟨#[97]⟩ ⟨#[]⟩ true ⟨#[122]⟩ [] 0 = some (3, true) then (if latticeplain_Entries.f k littleE littleE = some true then some true else none) else none
theorem latticelaw18_speaks.mono : ∀ k, LeO (latticelaw18_speaks.f k) (latticelaw18_speaks.f (k + 1)) := fun k r h => by
  unfold latticelaw18_speaks.f at h ⊢
  by_cases h1 : fold_Agrees.f k littleR 1 ⟨#[97]⟩ ⟨#[]⟩ true ⟨#[122]⟩ [] 0 = some (3, true)
  · rw [if_pos h1] at h
    rw [if_pos (fold_Agrees.mono _ _ _ _ _ _ _ _ k _ h1)]
    by_cases h2 : latticeplain_Entries.f k littleE littleE = some true
    · rw [if_pos h2] at h
      rw [if_pos (latticeplain_Entries.mono _ _ k _ h2)]
      exact h
    · rw [if_neg h2] at h; cases h
  · rw [if_neg h1] at h; cases h
set_option maxHeartbeats 8000000 in
set_option maxRecDepth 100000 in
theorem latticelaw18_speaks.calls (k : Nat) (r : Bool) (w : World) (ht_ : Aside0 (r = true)) (h : latticelaw18_speaks.f k = some r) :
    Calls Tryz.prog 6 #[] w fun e w' => e = .returned (.bool r) ∧ Below w.heap.size w w' := by
  unfold latticelaw18_speaks.f at h
  obtain rfl := ht_.out
  by_cases h1 : fold_Agrees.f k littleR 1 ⟨#[97]⟩ ⟨#[]⟩ true ⟨#[122]⟩ [] 0 = some (3, true)
  · rw [if_pos h1] at h
    by_cases h2 : latticeplain_Entries.f k littleE littleE = some true
    · have H1 := Aside0.mk h1
      have H2 := Aside0.mk h2
      clear h h1 h2 ht_
      go_enter Tryz.func6, Tryz.ntmps6
      go_wp2_with fail
      refine (latticelaw18_little.calls littleR w rfl).mono ?_
      rintro e w1 ⟨v, rfl, hR, hB⟩
      obtain ⟨A1, c1, rfl, hl1, hC1⟩ := Kd.R_reads hR
      have cB := fold_Behind.calls A1 c1 littleR 4 littleE 0 w1 hC1 hl1 little_B
      have HB1 := Aside0.mk hB
      clear hR hB hl1 hC1
      go_wp2_with fail
      refine cB.mono ?_
      rintro e w2 ⟨v, rfl, hR, hB⟩
      obtain ⟨A2, c2, rfl, hl2, hC2⟩ := Kd.R_reads hR
      have HB2 : Aside0 (Below w.heap.size w w2) := ⟨HB1.out.trans (hB.mono HB1.out.size)⟩
      have HC2 := Aside0.mk hC2
      have HL2 := Aside0.mk hl2
      clear hR hB hl2 hC2 cB
      go_wp2_with fail
      refine (latticelaw18_little.calls littleR w2 rfl).mono ?_
      rintro e w3 ⟨v, rfl, hR, hB⟩
      obtain ⟨A3, c3, rfl, hl3, hC3⟩ := Kd.R_reads hR
      have cG := fold_Agrees.calls k A3 c3 littleR 1 ⟨#[97]⟩ ⟨#[]⟩ true ⟨#[122]⟩ none 0 [] 0 3 true w3 hC3 hl3 (Kd.C_nil _ _) (Nat.le_refl _) H1.out
      have HB3 := Aside0.mk hB
      clear hR hB hl3 hC3
      go_wp2_with fail
      refine cG.mono ?_
      rintro e w4 ⟨rfl, hB⟩
      have HB4 : Aside0 (Below w2.heap.size w2 w4) := ⟨HB3.out.trans (hB.mono HB3.out.size)⟩
      clear hB cG
      go_wp2_with fail
      have hl := (Kd.R_reads' (little_lit w4)).2.2
      have cP := latticeplain_Entries.calls k A2 c2 littleE _ 1 littleE true _ (Kd.C_alloc (Kd.C_below HC2.out HB4.out) _) HL2.out hl (Nat.le_refl _) H2.out
      refine cP.mono ?_
      rintro e w5 ⟨rfl, hB⟩
      have hB4 := HB2.out.trans (HB4.out.mono HB2.out.size)
      have hB4a := hB4.alloc hB4.size (.cells #[.string ⟨#[97]⟩, .string ⟨#[122]⟩] 48)
      have HB5 : Aside0 (Below w.heap.size w w5) := ⟨hB4a.trans (hB.below.mono hB4a.size)⟩
      clear hB cP hl hB4 hB4a HC2 HL2 HB4 HB3 HB2 HB1
      go_wp2_with fail
      refine (latticelaw18_little.calls littleR w5 rfl).mono ?_
      rintro e w6 ⟨v, rfl, hR, hB⟩
      obtain ⟨A6, c6, rfl, hl6, hC6⟩ := Kd.R_reads hR
      have cO := fold_Once.calls A6 c6 littleR true w6 hC6 hl6 little_O
      have HB6 : Aside0 (Below w.heap.size w w6) := ⟨HB5.out.trans (hB.mono HB5.out.size)⟩
      clear hR hB hl6 hC6 HB5
      go_wp2_with fail
      refine cO.mono ?_
      rintro e w7 ⟨rfl, hB⟩
      have HB7 : Aside0 (Below w.heap.size w w7) := ⟨HB6.out.trans (hB.mono HB6.out.size)⟩
      clear hB cO HB6
      go_wp2_with fail
      refine (latticelaw18_little.calls littleR w7 rfl).mono ?_
      rintro e w8 ⟨v, rfl, hR, hB⟩
      obtain ⟨A8, c8, rfl, hl8, hC8⟩ := Kd.R_reads hR
      have HC8 := Aside0.mk hC8
      have HL8 := Aside0.mk hl8
      have HB8 : Aside0 (Below w.heap.size w w8) := ⟨HB7.out.trans (hB.mono HB7.out.size)⟩
      clear hR hB hl8 hC8 HB7
      go_wp2_with fail
      refine (latticelaw18_little.calls littleR w8 rfl).mono ?_
      rintro e w9 ⟨v, rfl, hR, hB⟩
      obtain ⟨A9, c9, rfl, hl9, hC9⟩ := Kd.R_reads hR
      have hl9' : 4 ≤ c9 := hl9
      have cX := fold_Extends.calls A8 c8 littleR A9 c9 (littleR.take 2) true w9 (Kd.C_below HC8.out hB) HL8.out (Kd.C_take hC9 (by decide)) (by show 2 ≤ c9; omega) little_X
      have HB9 : Aside0 (Below w.heap.size w w9) := ⟨HB8.out.trans (hB.mono HB8.out.size)⟩
      clear hR hB hl9 hC9 HB8 HC8 HL8
      go_wp2_with fail
      refine cX.mono ?_
      rintro e w10 ⟨rfl, hB⟩
      have HB10 : Aside0 (Below w.heap.size w w10) := ⟨HB9.out.trans (hB.mono HB9.out.size)⟩
      clear hB cX HB9
      go_wp2
      go_ret
      exact ⟨rfl, HB10.out⟩
    · rw [if_neg h2] at h; cases h
  · rw [if_neg h1] at h; cases h


/-! ### latticeref05_Check: function 41 -/
def latticeref05_Check.f (a0 : ByteArray) : Option (Int) := if (a0.size : Int) < 1 then (some 50) else (if (a0.size : Int) > 16 then (some 50) else (some 0))
set_option maxHeartbeats 8000000 in
set_option maxRecDepth 100000 in
theorem latticeref05_Check.calls (a0 : ByteArray) (r : Int) (w : World) (h : latticeref05_Check.f a0 = some r) :
    Calls Tryz.prog 41 #[.string a0] w fun e w' => e = .returned (.int .i64 r) ∧ Drawn0 w w' := by
  have H : (if (a0.size : Int) < 1 then (some 50) else (if (a0.size : Int) > 16 then (some 50) else (some 0))) = some r := h
  clear h
  by_cases c2 : (a0.size : Int) < 1
  · rw [if_pos c2] at H
    have c2b0 : decide ((a0.size : Int) < 1) = true := decide_eq_true c2
    have c2b1 : decide (a0.size < 1) = true := decide_eq_true (by omega)
    clear c2
    as_aux_lemma =>
      obtain rfl := Option.some.inj H
      go_enter Tryz.func41, Tryz.ntmps41
      go_wp2
      go_ret
      exact ⟨by first | rfl | (simp; done) | (simp [*]; done), by repeat (first | exact Drawn0.refl _ | apply Drawn0.step)⟩
  · rw [if_neg c2] at H
    have c2b0 : decide ((a0.size : Int) < 1) = false := decide_eq_false c2
    have c2b1 : decide (a0.size < 1) = false := decide_eq_false (by omega)
    clear c2
    by_cases c3 : (a0.size : Int) > 16
    · rw [if_pos c3] at H
      have c3b0 : decide (16 < (a0.size : Int)) = true := decide_eq_true c3
      have c3b1 : decide (16 < a0.size) = true := decide_eq_true (by omega)
      clear c3
      as_aux_lemma =>
        obtain rfl := Option.some.inj H
        go_enter Tryz.func41, Tryz.ntmps41
        go_wp2
        go_ret
        exact ⟨by first | rfl | (simp; done) | (simp [*]; done), by repeat (first | exact Drawn0.refl _ | apply Drawn0.step)⟩
    · rw [if_neg c3] at H
      have c3b0 : decide (16 < (a0.size : Int)) = false := decide_eq_false c3
      have c3b1 : decide (16 < a0.size) = false := decide_eq_false (by omega)
      clear c3
      as_aux_lemma =>
        obtain rfl := Option.some.inj H
        go_enter Tryz.func41, Tryz.ntmps41
        go_wp2
        go_ret
        exact ⟨by first | rfl | (simp; done) | (simp [*]; done), by repeat (first | exact Drawn0.refl _ | apply Drawn0.step)⟩

/-! ### latticeref05_Value: function 42 -/
def latticeref05_Value.f (a0 : ByteArray) : Option (Int) := if (a0.size : Int) > 32 then (some 51) else (some 0)
set_option maxHeartbeats 8000000 in
set_option maxRecDepth 100000 in
theorem latticeref05_Value.calls (a0 : ByteArray) (r : Int) (w : World) (h : latticeref05_Value.f a0 = some r) :
    Calls Tryz.prog 42 #[.string a0] w fun e w' => e = .returned (.int .i64 r) ∧ Drawn0 w w' := by
  have H : (if (a0.size : Int) > 32 then (some 51) else (some 0)) = some r := h
  clear h
  by_cases c2 : (a0.size : Int) > 32
  · rw [if_pos c2] at H
    have c2b0 : decide (32 < (a0.size : Int)) = true := decide_eq_true c2
    have c2b1 : decide (32 < a0.size) = true := decide_eq_true (by omega)
    clear c2
    as_aux_lemma =>
      obtain rfl := Option.some.inj H
      go_enter Tryz.func42, Tryz.ntmps42
      go_wp2
      go_ret
      exact ⟨by first | rfl | (simp; done) | (simp [*]; done), by repeat (first | exact Drawn0.refl _ | apply Drawn0.step)⟩
  · rw [if_neg c2] at H
    have c2b0 : decide (32 < (a0.size : Int)) = false := decide_eq_false c2
    have c2b1 : decide (32 < a0.size) = false := decide_eq_false (by omega)
    clear c2
    as_aux_lemma =>
      obtain rfl := Option.some.inj H
      go_enter Tryz.func42, Tryz.ntmps42
      go_wp2
      go_ret
      exact ⟨by first | rfl | (simp; done) | (simp [*]; done), by repeat (first | exact Drawn0.refl _ | apply Drawn0.step)⟩

/-! ### latticeref09_paged: function 43 -/
def latticeref09_paged.f (a0 : Int) : Option (Bool) := if a0 ≥ 1 then (some (decide (a0 ≤ 4096))) else (some false)
set_option maxHeartbeats 8000000 in
set_option maxRecDepth 100000 in
theorem latticeref09_paged.calls (a0 : Int) (r : Bool) (w : World) (h : latticeref09_paged.f a0 = some r) :
    Calls Tryz.prog 43 #[.int .i64 a0] w fun e w' => e = .returned (.bool r) ∧ Drawn0 w w' := by
  have H : (if a0 ≥ 1 then (some (decide (a0 ≤ 4096))) else (some false)) = some r := h
  clear h
  by_cases c2 : a0 ≥ 1
  · rw [if_pos c2] at H
    have c2b0 : decide (1 ≤ a0) = true := decide_eq_true c2
    clear c2
    as_aux_lemma =>
      obtain rfl := Option.some.inj H
      go_enter Tryz.func43, Tryz.ntmps43
      go_wp2
      go_ret
      exact ⟨by first | rfl | (simp; done) | (simp [*]; done), by repeat (first | exact Drawn0.refl _ | apply Drawn0.step)⟩
  · rw [if_neg c2] at H
    have c2b0 : decide (1 ≤ a0) = false := decide_eq_false c2
    clear c2
    as_aux_lemma =>
      obtain rfl := Option.some.inj H
      go_enter Tryz.func43, Tryz.ntmps43
      go_wp2
      go_ret
      exact ⟨by first | rfl | (simp; done) | (simp [*]; done), by repeat (first | exact Drawn0.refl _ | apply Drawn0.step)⟩

end Go.Proofs.YtjhbihhiceimcaaGreat.PFZ
