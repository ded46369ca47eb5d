/- FoldOrder's walk: the law over three histories in an array answers true. -/
import Derived.Test.YtjhbihhiceimcaaFSpeak
import Derived.Test.YtjhbihhiceimcaaPFAx4
set_option linter.unusedSimpArgs false
set_option linter.unusedVariables false
namespace Go.Proofs.Ytjhbihhiceimcaa.FM.Order
open Go.RowKit Go.Proofs.Ytjhbihhiceimcaa.FMap Go.Proofs.Ytjhbihhiceimcaa.FM Go.Proofs.Ytjhbihhiceimcaa.PFA Go.Proofs.YtjhbihhiceimcaaW.PrintWords Go.Proofs.YtjhbihhiceimcaaW.PrintLast

theorem C_take {α : Type} {d : Kd α} {w : World} {A : Option Addr} {n : Nat} {xs : List α} (h : Kd.C d w A n xs) (hx : xs.length = n) {m : Nat} (hm : m ≤ n) : Kd.C d w A (xs.take m).length (xs.take m) := by
  obtain ⟨h1, h3, h2⟩ := h
  refine ⟨rfl, by rw [List.length_take]; omega, fun h0 => ?_⟩
  rw [List.length_take] at h0
  obtain ⟨a, rfl, ha⟩ := h2 (by omega)
  refine ⟨a, rfl, fun j p hj => ha j p ?_⟩
  obtain ⟨hl, e⟩ := List.getElem?_eq_some_iff.1 hj
  rw [List.getElem_take] at e
  rw [List.length_take] at hl
  exact List.getElem?_eq_some_iff.2 ⟨by omega, e⟩

theorem rdO {l : List Rec} {i : Nat} (h : i < l.length) : rd_T43 l (i : Int) = l[i] := by
  unfold rd_T43
  simp [h]
theorem ext_iff {a b : List Rec} : extB a b = true ↔ b.length ≤ a.length ∧ ∀ i, i < b.length → neqR (rd_T43 a (i : Int)) (rd_T43 b (i : Int)) = false := by
  constructor
  · intro h
    by_cases hs : a.length < b.length
    · rw [extB_short hs] at h; cases h
    · refine ⟨by omega, fun i hi => ?_⟩
      cases e : neqR (rd_T43 a (i : Int)) (rd_T43 b (i : Int))
      · rfl
      · rw [extB_no hi e] at h; cases h
  · exact fun h => extB_yes h.1 h.2
theorem neq_trans {x y z : Rec} (h1 : neqR x y = false) (h2 : neqR y z = false) : neqR x z = false := by
  unfold neqR at h1 h2 ⊢
  simp only [Bool.or_eq_false_iff, Bool.not_eq_false', beq_iff_eq] at h1 h2 ⊢
  obtain ⟨a1, a2, a3, a4, a5, a6⟩ := h1
  obtain ⟨b1, b2, b3, b4, b5, b6⟩ := h2
  exact ⟨a1.trans b1, a2.trans b2, a3.trans b3, a4.trans b4, a5.trans b5, a6.trans b6⟩
theorem ext_trans {a b c : List Rec} (h1 : extB a b = true) (h2 : extB b c = true) : extB a c = true := by
  obtain ⟨l1, e1⟩ := ext_iff.1 h1
  obtain ⟨l2, e2⟩ := ext_iff.1 h2
  exact ext_iff.2 ⟨by omega, fun i hi => neq_trans (e1 i (by omega)) (e2 i hi)⟩
theorem ext_len {a b : List Rec} (h1 : extB a b = true) (h2 : extB b a = true) : a.length = b.length := by
  have := (ext_iff.1 h1).1
  have := (ext_iff.1 h2).1
  omega
theorem ext_take (a : List Rec) (m : Nat) : extB (histV a) (histV (a.take m)) = true := by
  have e : histV a = histV (a.take m) ++ histV (a.drop m) := by
    unfold histV
    rw [← List.filter_append, List.take_append_drop]
  refine ext_iff.2 ⟨by rw [e, List.length_append]; omega, fun i hi => ?_⟩
  rw [rdO hi, rdO (by rw [e, List.length_append]; omega)]
  have : (histV a)[i]'(by rw [e, List.length_append]; omega) = (histV (a.take m))[i] := by
    simp only [e]
    rw [List.getElem_append_left]
  rw [this]
  simp [neqR]

section
variable (A0 A1 A2 : Option Addr) (c0 c1 c2 : Nat) (a b c : List Rec)

theorem ext_any {l l' : List Rec} {A A' : Option Addr} {q q' : Nat} (W : World) (hl : l.length ≤ 3000) (hl' : l'.length ≤ 3000) (r : Bool) (hr : extB (histV l) (histV l') = r) (h : Kd.C k43 W A l.length l) (h' : Kd.C k43 W A' l'.length l') (hq : l.length ≤ q) (hq' : l'.length ≤ q') :
    Calls Try.prog 8 #[.slice A l.length q, .slice A' l'.length q'] W fun e w' => e = .returned (.bool r) ∧ Below W.heap.size W w' := by
  refine fold_Extends.calls A q l A' q' l' r W h hq h' hq' ?_
  have h1 := histV_len l
  have h2 := histV_len l'
  have f1 : fold_History.f l = some (histV l) := by unfold fold_History.f; rw [if_pos (by omega)]
  have f2 : fold_History.f l' = some (histV l') := by unfold fold_History.f; rw [if_pos (by omega)]
  unfold fold_Extends.f
  rw [f1, f2, Option.bind_some, Option.bind_some, if_pos ⟨by omega, by omega⟩, hr]
theorem hist_any {l : List Rec} {A : Option Addr} {q : Nat} (W : World) (hl : l.length ≤ 3000) (h : Kd.C k43 W A l.length l) (hq : l.length ≤ q) :
    Calls Try.prog 9 #[.slice A l.length q] W fun e w' => (∃ B d, e = .returned (.slice B (histV l).length d)) ∧ Below W.heap.size W w' := by
  have f1 : fold_History.f l = some (histV l) := by unfold fold_History.f; rw [if_pos (by omega)]
  refine (fold_History.calls A q l _ W h hq f1).mono ?_
  rintro e w1 ⟨v, rfl, hR, hB⟩
  obtain ⟨B, d, rfl, _, _⟩ := Kd.R_reads hR
  exact ⟨⟨B, d, rfl⟩, hB⟩
theorem speaks_any (W : World) : Calls Try.prog 7 #[] W fun e w' => e = .returned (.bool true) ∧ Below W.heap.size W w' := by
  obtain ⟨k, h⟩ := speaks_ev.rounds
  exact latticelaw18_speaks.calls k true W ⟨rfl⟩ h

set_option maxHeartbeats 8000000 in
set_option maxRecDepth 100000 in
theorem order_big (n : Int) (w : World) (h0 : Kd.C k43 w A0 a.length a) (h1 : Kd.C k43 w A1 b.length b) (h2 : Kd.C k43 w A2 c.length c)
    (ha : a.length ≤ 1759218604441) (hb : b.length ≤ 1759218604441) (hc : c.length ≤ 1759218604441) (hbig : 3000 < a.length + b.length + c.length) :
    Calls Try.prog 3 #[.agg #[.slice A0 a.length c0, .slice A1 b.length c1, .slice A2 c.length c2], .int .i64 n] w fun e w' => e = .returned (.bool true) ∧ Below w.heap.size w w' := by
  have hbz : ((3000 : Int) < (a.length : Int) + (b.length : Int) + (c.length : Int)) := by omega
  clear h0 h1 h2
  go_enter Try.func3, Try.ntmps3
  go_wp2_with fail
  refine (speaks_any _).mono ?_
  rintro e w1 ⟨rfl, hB⟩
  have HB : Aside0 (Below w.heap.size w w1) := ⟨((Below.refl _ w).alloc (Nat.le_refl _) _).trans (hB.mono (by simp))⟩
  clear hB
  go_wp2
  go_ret
  exact ⟨rfl, HB.out⟩

set_option maxHeartbeats 8000000 in
set_option maxRecDepth 100000 in
theorem order_small (n : Int) (w : World) (h0 : Kd.C k43 w A0 a.length a) (h1 : Kd.C k43 w A1 b.length b) (h2 : Kd.C k43 w A2 c.length c)
    (q0 : a.length ≤ c0) (q1 : b.length ≤ c1) (q2 : c.length ≤ c2) (hs : a.length + b.length + c.length ≤ 3000) :
    Calls Try.prog 3 #[.agg #[.slice A0 a.length c0, .slice A1 b.length c1, .slice A2 c.length c2], .int .i64 n] w fun e w' => e = .returned (.bool true) ∧ Below w.heap.size w w' := by
  obtain ⟨m, hm, hcase⟩ : ∃ m : Nat, m ≤ a.length ∧ (n < 0 ∧ m = a.length ∨ (0 ≤ n ∧ (a.length : Int) < n ∧ m = a.length) ∨ (0 ≤ n ∧ ¬ (a.length : Int) < n ∧ n = (m : Int))) := by
    by_cases x1 : n < 0
    · exact ⟨a.length, Nat.le_refl _, .inl ⟨x1, rfl⟩⟩
    · by_cases x2 : (a.length : Int) < n
      · exact ⟨a.length, Nat.le_refl _, .inr (.inl ⟨by omega, x2, rfl⟩)⟩
      · exact ⟨n.toNat, by omega, .inr (.inr ⟨by omega, x2, by omega⟩)⟩
  have hml : (a.take m).length = m := by rw [List.length_take]; omega
  have cT : ∀ W, Below w.heap.size w W → Calls Try.prog 8 #[.slice A0 a.length c0, .slice A0 m c0] W fun e w' => e = .returned (.bool true) ∧ Below W.heap.size W w' := fun W hW => by
    have := ext_any (q := c0) (q' := c0) W (by omega) (by rw [hml]; omega) true (ext_take a m) (Kd.C_below h0 hW) (C_take (Kd.C_below h0 hW) rfl hm) q0 (by rw [hml]; omega)
    rwa [hml] at this
  have cAB : ∀ W, Below w.heap.size w W → Calls Try.prog 8 #[.slice A0 a.length c0, .slice A1 b.length c1] W fun e w' => e = .returned (.bool (extB (histV a) (histV b))) ∧ Below W.heap.size W w' := fun W hW => ext_any W (by omega) (by omega) _ rfl (Kd.C_below h0 hW) (Kd.C_below h1 hW) q0 q1
  have cBA : ∀ W, Below w.heap.size w W → Calls Try.prog 8 #[.slice A1 b.length c1, .slice A0 a.length c0] W fun e w' => e = .returned (.bool (extB (histV b) (histV a))) ∧ Below W.heap.size W w' := fun W hW => ext_any W (by omega) (by omega) _ rfl (Kd.C_below h1 hW) (Kd.C_below h0 hW) q1 q0
  have cBC : ∀ W, Below w.heap.size w W → Calls Try.prog 8 #[.slice A1 b.length c1, .slice A2 c.length c2] W fun e w' => e = .returned (.bool (extB (histV b) (histV c))) ∧ Below W.heap.size W w' := fun W hW => ext_any W (by omega) (by omega) _ rfl (Kd.C_below h1 hW) (Kd.C_below h2 hW) q1 q2
  have cAC : ∀ W, Below w.heap.size w W → Calls Try.prog 8 #[.slice A0 a.length c0, .slice A2 c.length c2] W fun e w' => e = .returned (.bool (extB (histV a) (histV c))) ∧ Below W.heap.size W w' := fun W hW => ext_any W (by omega) (by omega) _ rfl (Kd.C_below h0 hW) (Kd.C_below h2 hW) q0 q2
  have cA := fun W (hW : Below w.heap.size w W) => hist_any W (by omega) (Kd.C_below h0 hW) q0
  have cB := fun W (hW : Below w.heap.size w W) => hist_any W (by omega) (Kd.C_below h1 hW) q1
  have hbz : ¬ ((3000 : Int) < (a.length : Int) + (b.length : Int) + (c.length : Int)) := by omega
  have HW0 : Aside0 (Below w.heap.size w (w.alloc (.cells #[.slice A0 a.length c0, .slice A1 b.length c1, .slice A2 c.length c2] 23))) := ⟨(Below.refl _ w).alloc (Nat.le_refl _) _⟩
  have HLEN : Aside0 (extB (histV a) (histV b) = true → extB (histV b) (histV a) = true → (histV a).length = (histV b).length) := ⟨ext_len⟩
  have HTR : Aside0 (extB (histV a) (histV b) = true → extB (histV b) (histV c) = true → extB (histV a) (histV c) = true) := ⟨ext_trans⟩
  have hA0 := histV_len a
  have hB0 := histV_len b
  clear h0 h1 h2 hml
  generalize extB (histV a) (histV b) = e1 at cAB HLEN HTR
  generalize extB (histV b) (histV c) = e2 at cBC HTR
  generalize extB (histV a) (histV c) = e3 at cAC HTR
  generalize extB (histV b) (histV a) = e4 at cBA HLEN
  generalize (histV a).length = la at cA HLEN hA0
  generalize (histV b).length = lb at cB HLEN hB0
  rcases hcase with ⟨x1, rfl⟩ | ⟨x1, x2, rfl⟩ | ⟨x1, x2, rfl⟩
  all_goals
    go_enter Try.func3, Try.ntmps3
    go_wp2_with fail
    refine (cT _ HW0.out).mono ?_
    rintro e w1 ⟨rfl, hb⟩
    have HW1 := Aside0.mk (HW0.out.trans (hb.mono HW0.out.size))
    clear hb
    go_wp2_with fail
    refine (cAB _ HW1.out).mono ?_
    rintro e w2 ⟨rfl, hb⟩
    have HW2 := Aside0.mk (HW1.out.trans (hb.mono HW1.out.size))
    clear hb
    cases e1
    · go_wp2_with fail
      refine (cAB _ HW2.out).mono ?_
      rintro e w3 ⟨rfl, hb⟩
      have HW3 := Aside0.mk (HW2.out.trans (hb.mono HW2.out.size))
      clear hb
      go_wp2_with fail
      refine (speaks_any _).mono ?_
      rintro e w4 ⟨rfl, hb⟩
      have HW4 := Aside0.mk (HW3.out.trans (hb.mono HW3.out.size))
      clear hb
      go_wp2
      go_ret
      exact ⟨rfl, HW4.out⟩
    · go_wp2_with fail
      refine (cBC _ HW2.out).mono ?_
      rintro e w3 ⟨rfl, hb⟩
      have HW3 := Aside0.mk (HW2.out.trans (hb.mono HW2.out.size))
      clear hb
      cases e2
      · go_wp2_with fail
        refine (cAB _ HW3.out).mono ?_
        rintro e w5 ⟨rfl, hb⟩
        have HW5 := Aside0.mk (HW3.out.trans (hb.mono HW3.out.size))
        clear hb
        go_wp2_with fail
        refine (cBA _ HW5.out).mono ?_
        rintro e w6 ⟨rfl, hb⟩
        have HW6 := Aside0.mk (HW5.out.trans (hb.mono HW5.out.size))
        clear hb
        cases e4
        · go_wp2_with fail
          refine (speaks_any _).mono ?_
          rintro e w7 ⟨rfl, hb⟩
          have HW7 := Aside0.mk (HW6.out.trans (hb.mono HW6.out.size))
          clear hb
          go_wp2
          go_ret
          exact ⟨rfl, HW7.out⟩
        · obtain rfl : la = lb := by simpa using HLEN.out
          go_wp2_with fail
          refine (cA _ HW6.out).mono ?_
          rintro e w7 ⟨⟨B1, d1, rfl⟩, hb⟩
          have HW7 := Aside0.mk (HW6.out.trans (hb.mono HW6.out.size))
          clear hb
          go_wp2_with fail
          refine (cB _ HW7.out).mono ?_
          rintro e w8 ⟨⟨B2, d2, rfl⟩, hb⟩
          have HW8 := Aside0.mk (HW7.out.trans (hb.mono HW7.out.size))
          clear hb
          go_wp2_with fail
          refine (speaks_any _).mono ?_
          rintro e w9 ⟨rfl, hb⟩
          have HW9 := Aside0.mk (HW8.out.trans (hb.mono HW8.out.size))
          clear hb
          go_wp2
          go_ret
          exact ⟨rfl, HW9.out⟩
      · obtain rfl : e3 = true := by simpa using HTR.out
        go_wp2_with fail
        refine (cAC _ HW3.out).mono ?_
        rintro e w4 ⟨rfl, hb⟩
        have HW4 := Aside0.mk (HW3.out.trans (hb.mono HW3.out.size))
        clear hb
        go_wp2_with fail
        refine (cAB _ HW4.out).mono ?_
        rintro e w5 ⟨rfl, hb⟩
        have HW5 := Aside0.mk (HW4.out.trans (hb.mono HW4.out.size))
        clear hb
        go_wp2_with fail
        refine (cBA _ HW5.out).mono ?_
        rintro e w6 ⟨rfl, hb⟩
        have HW6 := Aside0.mk (HW5.out.trans (hb.mono HW5.out.size))
        clear hb
        cases e4
        · go_wp2_with fail
          refine (speaks_any _).mono ?_
          rintro e w7 ⟨rfl, hb⟩
          have HW7 := Aside0.mk (HW6.out.trans (hb.mono HW6.out.size))
          clear hb
          go_wp2
          go_ret
          exact ⟨rfl, HW7.out⟩
        · obtain rfl : la = lb := by simpa using HLEN.out
          go_wp2_with fail
          refine (cA _ HW6.out).mono ?_
          rintro e w7 ⟨⟨B1, d1, rfl⟩, hb⟩
          have HW7 := Aside0.mk (HW6.out.trans (hb.mono HW6.out.size))
          clear hb
          go_wp2_with fail
          refine (cB _ HW7.out).mono ?_
          rintro e w8 ⟨⟨B2, d2, rfl⟩, hb⟩
          have HW8 := Aside0.mk (HW7.out.trans (hb.mono HW7.out.size))
          clear hb
          go_wp2_with fail
          refine (speaks_any _).mono ?_
          rintro e w9 ⟨rfl, hb⟩
          have HW9 := Aside0.mk (HW8.out.trans (hb.mono HW8.out.size))
          clear hb
          go_wp2
          go_ret
          exact ⟨rfl, HW9.out⟩
end

end Go.Proofs.Ytjhbihhiceimcaa.FM.Order
