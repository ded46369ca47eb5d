/- What QuorumSets' functions answer at any numbers. -/
import Derived.Test.YtjlcaamfpglflaaDoorDVal
import Derived.Test.YtjlcaamfpglflaaDoorPQDx5
import Derived.Test.YtjlcaamfpglflaaDoorPQDx3
import Derived.Test.YtjlcaamfpglflaaDoorPQDx6
import Derived.Test.YtjlcaamfpglflaaDoorPQDx7
import Derived.Test.YtjlcaamfpglflaaDoorPQDx8
import Derived.Test.YtjlcaamfpglflaaDoorPQDx9
set_option linter.unusedVariables false
set_option maxRecDepth 100000
namespace Go.Proofs.YtjlcaamfpglflaaDoor.DT
open Go.RowKit Go.Proofs.YtjlcaamfpglflaaDoor.PQD Go.Proofs.YtjlcaamfpglflaaDoorW.PrintWords Go.Proofs.YtjlcaamfpglflaaDoorW.PrintLast

/-! ### what the reference asks -/
theorem pow_le : ∀ i : Nat, i < 8 → 2 ^ i ≤ 128 := by decide
theorem rask_l0 (n a b : Int) (hn : okN n) : ∀ (d i : Nat), i + d = n.toNat → Ev (fun k => latticeref21_Asked.l0 k n a b ((2 ^ i : Nat) : Int) (i : Int)) (if oksB n [a, b] = true then 0 else 4) := by
  intro d
  have hb : 1 ≤ n ∧ n ≤ 7 := hn
  induction d with
  | zero =>
    intro i hi
    have hp : ((2 ^ i : Nat) : Int) = 2 ^ n.toNat := by rw [show i = n.toNat by omega]; simp
    rw [hp]
    have hstep : ∀ k, latticeref21_Asked.l0 (k + 1) n a b (2 ^ n.toNat) (i : Int) = (if a < 0 then (some 4) else (if a ≥ 2 ^ n.toNat then (some 4) else (if b < 0 then (some 4) else (if b ≥ 2 ^ n.toNat then (some 4) else (some 0))))) := fun k => by
      simp only [latticeref21_Asked.l0]
      rw [if_neg (by omega)]
    refine Ev.step hstep ?_
    by_cases h1 : a < 0
    · rw [if_pos h1, if_neg (fun h => by have := (oksB_iff.1 h a (by simp)).1; omega)]
      exact Ev.now _
    · rw [if_neg h1]
      by_cases h2 : a ≥ 2 ^ n.toNat
      · rw [if_pos h2, if_neg (fun h => by have := (oksB_iff.1 h a (by simp)).2; omega)]
        exact Ev.now _
      · rw [if_neg h2]
        by_cases h3 : b < 0
        · rw [if_pos h3, if_neg (fun h => by have := (oksB_iff.1 h b (by simp)).1; omega)]
          exact Ev.now _
        · rw [if_neg h3]
          by_cases h4 : b ≥ 2 ^ n.toNat
          · rw [if_pos h4, if_neg (fun h => by have := (oksB_iff.1 h b (by simp)).2; omega)]
            exact Ev.now _
          · rw [if_neg h4, if_pos (oksB_iff.2 (fun s hs => by
              have : s = a ∨ s = b := by simpa using hs
              rcases this with rfl | rfl
              · exact ⟨by omega, by omega⟩
              · exact ⟨by omega, by omega⟩))]
            exact Ev.now _
  | succ d ih =>
    intro i hi
    have hpl := pow_le i (by omega)
    refine Ev.step (fun k => ?_) (ih (i + 1) (by omega))
    simp only [latticeref21_Asked.l0]
    rw [if_pos (by omega), wrap_s (by omega)]
    congr 1
    rw [Nat.pow_succ]
    unfold wrap64
    omega
theorem rask_ev (n a b : Int) : Ev (fun k => latticeref21_Asked.f k n a b) (askV n [a, b]) := by
  have hj : Ev (fun k => latticeref21_Asked.j0 k n a b true) 1 := by
    refine Ev.step (f := fun _ => some 1) (fun k => ?_) (Ev.now _)
    simp only [latticeref21_Asked.j0]
    rw [if_pos trivial]
  unfold latticeref21_Asked.f askV
  by_cases h1 : n < 1
  · rw [if_neg (fun h : okN n => by unfold okN at h; omega)]
    exact ev_pos h1 hj
  · refine ev_neg h1 ?_
    by_cases h2 : n > 7
    · rw [if_neg (fun h : okN n => by unfold okN at h; omega), decide_eq_true h2]
      exact hj
    · have hn : okN n := ⟨by omega, by omega⟩
      rw [if_pos hn, decide_eq_false h2]
      refine Ev.step (fun k => ?_) (rask_l0 n a b hn n.toNat 0 (by omega))
      simp only [latticeref21_Asked.j0]
      rw [if_neg (by simp)]
      rfl
theorem rask_any (n a b : Int) (W : World) : Calls Tryd.prog 9 #[.int .i64 n, .int .i64 a, .int .i64 b] W fun e w' => e = .returned (.int .i64 (askV n [a, b])) ∧ Drawn0 W w' := by
  obtain ⟨k, h⟩ := (rask_ev n a b).rounds
  exact latticeref21_Asked.calls k n a b _ W h
theorem ask_zero (n a : Int) : askV n [a, 0] = askV n [a] := by
  unfold askV
  by_cases h : okN n
  · rw [if_pos h, if_pos h]
    have h0 : okS n 0 := ⟨by omega, by rcases okN_cases h with rfl | rfl | rfl | rfl | rfl | rfl | rfl <;> decide⟩
    have : oksB n [a, 0] = oksB n [a] := by
      unfold oksB
      simp [h0]
    rw [this]
  · rw [if_neg h, if_neg h]

/-! ### Majority, Members, With -/
theorem maj_any (n : Int) (W : World) : Calls Tryd.prog 10 #[.int .i64 n] W fun e w' => e = .returned (.tuple #[.int .i64 (if okN n then n / 2 + 1 else 0), .int .i64 (if okN n then 0 else 1)]) ∧ Drawn0 W w' := by
  have h : Ev (fun k => quorum_Majority.f k n) (if okN n then n / 2 + 1 else 0, if okN n then 0 else 1) := by
    unfold quorum_Majority.f
    refine Ev.bind (asked_ev n [] (by simp)) ?_
    by_cases hn : okN n
    · have e : askV n [] = 0 := askV_ok hn (by simp)
      rw [e, if_pos hn, if_pos hn]
      refine ev_pos rfl ?_
      rw [half hn]
      have : wrap64 (n / 2 + 1) = n / 2 + 1 := by unfold okN at hn; unfold wrap64; omega
      rw [this]
      exact Ev.now _
    · have e : askV n [] = 1 := by unfold askV; rw [if_neg hn]
      rw [e, if_neg hn, if_neg hn]
      exact ev_neg (by decide) (Ev.now _)
  obtain ⟨k, h⟩ := h.rounds
  exact quorum_Majority.calls k n _ _ W h

/-- A set's nodes up to v. -/
def memN (a v : Nat) : List Nat := (List.range v).filter a.testBit
def memV (a v : Nat) : List Int := (memN a v).map Int.ofNat
theorem memF : ∀ n : Nat, n < 7 → ∀ a : Nat, a < 2 ^ (n + 1) → quorum_Members.f 20 ((n + 1 : Nat) : Int) (a : Int) = some (memV a (n + 1), 0) := by decide +kernel
theorem mem_any (n : Int) (a : Nat) (W : World) (hn : okN n) (ha : a < 2 ^ n.toNat) : Calls Tryd.prog 11 #[.int .i64 n, .int .i64 (a : Int)] W fun e w' => ∃ v : Value, e = .returned (.tuple #[v, .int .i64 0]) ∧ Kd.R (Kd.int .i64) 3 w' W.heap.size (fun _ => True) v (memV a n.toNat) ∧ Below W.heap.size W w' := by
  have hb : 1 ≤ n ∧ n ≤ 7 := hn
  obtain ⟨m, hm⟩ : ∃ m : Nat, n = ((m + 1 : Nat) : Int) := ⟨n.toNat - 1, by omega⟩
  subst hm
  rw [Int.toNat_natCast] at ha ⊢
  have h := memF m (by omega) a ha
  exact quorum_Members.calls 20 _ a _ _ W h
theorem mem_bad (n a : Int) (W : World) (h : askV n [a] ≠ 0) : Calls Tryd.prog 11 #[.int .i64 n, .int .i64 a] W fun e w' => (∃ A c, e = .returned (.tuple #[.slice A 0 c, .int .i64 (askV n [a])])) ∧ Below W.heap.size W w' := by
  have he : Ev (fun k => quorum_Members.f k n a) (([] : List Int), askV n [a]) := by
    unfold quorum_Members.f
    exact Ev.bind (asked_ev n [a] (by simp)) (ev_neg h (Ev.now _))
  obtain ⟨k, hk⟩ := he.rounds
  refine (quorum_Members.calls k n a _ _ W hk).mono ?_
  rintro e w1 ⟨v, rfl, hR, hB⟩
  obtain ⟨A, c, rfl⟩ := Kd.R_slice hR
  exact ⟨⟨A, c, rfl⟩, hB⟩
def withV (n a b : Int) : Int × Int := if askV n [a] = 0 then (if b < 0 ∨ n ≤ b then (0, 6) else (((a.toNat ||| 2 ^ b.toNat : Nat) : Int), 0)) else (0, askV n [a])
theorem withF : ∀ n : Nat, n < 7 → ∀ a : Nat, a < 2 ^ (n + 1) → ∀ b : Nat, b < n + 1 → quorum_With.f 20 ((n + 1 : Nat) : Int) (a : Int) (b : Int) = some (((a ||| 2 ^ b : Nat) : Int), 0) ∧ latticeref21_With.f 20 ((n + 1 : Nat) : Int) (a : Int) (b : Int) = some (((a ||| 2 ^ b : Nat) : Int), 0) := by decide +kernel
theorem with_ev (n a b : Int) : Ev (fun k => quorum_With.f k n a b) (withV n a b) := by
  unfold withV
  by_cases h : askV n [a] = 0
  · rw [if_pos h]
    obtain ⟨hn, hs⟩ := askV_zero h
    have hb : 1 ≤ n ∧ n ≤ 7 := hn
    obtain ⟨x, rfl, hx, _⟩ := okS_nat hn (hs a (by simp))
    by_cases hb2 : b < 0 ∨ n ≤ b
    · rw [if_pos hb2]
      unfold quorum_With.f
      refine Ev.bind (asked_ev n [(x : Int)] (by simp)) (ev_pos h ?_)
      by_cases h1 : b < 0
      · exact ev_pos h1 (Ev.now _)
      · exact ev_neg h1 (ev_pos (by omega) (Ev.now _))
    · rw [if_neg hb2]
      have := (withF (n.toNat - 1) (by omega) x (by rwa [show n.toNat - 1 + 1 = n.toNat by omega]) b.toNat (by omega)).1
      rw [show ((n.toNat - 1 + 1 : Nat) : Int) = n by omega, show ((b.toNat : Nat) : Int) = b by omega] at this
      exact Ev.of (quorum_With.mono _ _ _) (by rw [Int.toNat_natCast]; exact this)
  · rw [if_neg h]
    unfold quorum_With.f
    exact Ev.bind (asked_ev n [a] (by simp)) (ev_neg h (Ev.now _))
theorem rwith_ev (n a b : Int) : Ev (fun k => latticeref21_With.f k n a b) (withV n a b) := by
  unfold withV
  by_cases h : askV n [a] = 0
  · rw [if_pos h]
    obtain ⟨hn, hs⟩ := askV_zero h
    have hb : 1 ≤ n ∧ n ≤ 7 := hn
    obtain ⟨x, rfl, hx, _⟩ := okS_nat hn (hs a (by simp))
    by_cases hb2 : b < 0 ∨ n ≤ b
    · rw [if_pos hb2]
      have hj : Ev (fun k => latticeref21_With.j0 k (x : Int) b true) ((0 : Int), (6 : Int)) := by
        refine Ev.step (f := fun _ => some ((0 : Int), (6 : Int))) (fun k => ?_) (Ev.now _)
        simp only [latticeref21_With.j0]
        rw [if_pos trivial]
      unfold latticeref21_With.f
      have e := rask_ev n (x : Int) 0
      rw [ask_zero, h] at e
      refine Ev.bind e (ev_pos rfl ?_)
      by_cases h1 : b < 0
      · exact ev_pos h1 hj
      · refine ev_neg h1 ?_
        rw [decide_eq_true (by omega)]
        exact hj
    · rw [if_neg hb2]
      have := (withF (n.toNat - 1) (by omega) x (by rwa [show n.toNat - 1 + 1 = n.toNat by omega]) b.toNat (by omega)).2
      rw [show ((n.toNat - 1 + 1 : Nat) : Int) = n by omega, show ((b.toNat : Nat) : Int) = b by omega] at this
      exact Ev.of (latticeref21_With.mono _ _ _) (by rw [Int.toNat_natCast]; exact this)
  · rw [if_neg h]
    unfold latticeref21_With.f
    have e := rask_ev n a 0
    rw [ask_zero] at e
    exact Ev.bind e (ev_neg h (Ev.now _))
theorem with_any (n a b : Int) (W : World) : Calls Tryd.prog 12 #[.int .i64 n, .int .i64 a, .int .i64 b] W fun e w' => e = .returned (.tuple #[.int .i64 (withV n a b).1, .int .i64 (withV n a b).2]) ∧ Below W.heap.size W w' := by
  obtain ⟨k, h⟩ := (with_ev n a b).rounds
  exact quorum_With.calls k n a b _ _ W h
theorem rwith_any (n a b : Int) (W : World) : Calls Tryd.prog 13 #[.int .i64 n, .int .i64 a, .int .i64 b] W fun e w' => e = .returned (.tuple #[.int .i64 (withV n a b).1, .int .i64 (withV n a b).2]) ∧ Drawn0 W w' := by
  obtain ⟨k, h⟩ := (rwith_ev n a b).rounds
  exact latticeref21_With.calls k n a b _ _ W h

/-! ### equal lists -/
theorem ints_self (l : List Int) (hl : l.length < 9223372036854775807) : Ev (fun k => latticeplain_Ints.f k l l) true := by
  have h : ∀ (d i : Nat), i + d = l.length → Ev (fun k => latticeplain_Ints.l0 k l l (l.length : Int) (i : Int)) true := by
    intro d
    induction d with
    | zero =>
      intro i hi
      refine Ev.step (f := fun _ => some true) (fun k => ?_) (Ev.now _)
      simp only [latticeplain_Ints.l0]
      rw [if_neg (by omega)]
    | succ d ih =>
      intro i hi
      refine Ev.step (fun k => ?_) (ih (i + 1) (by omega))
      simp only [latticeplain_Ints.l0]
      rw [if_pos (by omega), if_pos (by omega), if_pos (by omega), if_pos (by omega), if_pos trivial]
      congr 1
      unfold wrap64
      omega
  unfold latticeplain_Ints.f
  exact ev_pos rfl (h l.length 0 (by omega))
theorem ints_any (A B : Option Addr) (c d : Nat) (l : List Int) (W : World) (hA : Kd.C (Kd.int .i64) W A l.length l) (hc : l.length ≤ c) (hB : Kd.C (Kd.int .i64) W B l.length l) (hd : l.length ≤ d) (hl : l.length ≤ 1000) :
    Calls Tryd.prog 14 #[.slice A l.length c, .slice B l.length d] W fun e w' => e = .returned (.bool true) ∧ Drawn0 W w' := by
  obtain ⟨k, h⟩ := (ints_self l (by omega)).rounds
  exact latticeplain_Ints.calls k A c l B d l true W hA hc hB hd h

/-! ### the nodes that the law collects -/
theorem memV_succ (a v : Nat) : memV a (v + 1) = if a.testBit v = true then memV a v ++ [(v : Int)] else memV a v := by
  unfold memV memN
  rw [List.range_succ, List.filter_append, List.map_append]
  by_cases h : a.testBit v = true
  · rw [if_pos h]; simp [h]
  · rw [if_neg h]; simp [h]
/-- The least node of both sets so far, where the second set is right. -/
def leastU (F0 : Bool) (a b : Nat) : Nat → Int
  | 0 => -1
  | v + 1 => if (a.testBit v && (F0 && (decide (leastU F0 a b v < 0) && b.testBit v))) = true then (v : Int) else leastU F0 a b v
theorem leastU_no (a b : Nat) : ∀ v, leastU false a b v = -1
  | 0 => rfl
  | v + 1 => by
    unfold leastU
    rw [if_neg (by cases a.testBit v <;> simp), leastU_no a b v]
theorem leastU_yes : ∀ n : Nat, n < 7 → ∀ a : Nat, a < 2 ^ (n + 1) → ∀ b : Nat, b < 2 ^ (n + 1) → leastU true a b (n + 1) = if a &&& b = 0 then -1 else tz (a &&& b) := by decide +kernel
theorem memV_len : ∀ n : Nat, n < 8 → ∀ a : Nat, a < 2 ^ n → (memV a n).length = pc a := by decide +kernel
end Go.Proofs.YtjlcaamfpglflaaDoor.DT
