/- latticeref05.Compare: the order of strings, by bytes. -/
import Derived.Test.YtjhbihhiceimcaaGreatFHist
import Derived.Test.YtjhbihhiceimcaaGreatPFZx13
set_option linter.unusedSimpArgs false
set_option linter.unusedVariables false
namespace Go.Proofs.YtjhbihhiceimcaaGreat.FM
open Go.RowKit Go.Proofs.YtjhbihhiceimcaaGreat.FMap Go.Proofs.YtjhbihhiceimcaaGreat.PFZ Go.Proofs.YtjhbihhiceimcaaGreatW.PrintWords Go.Proofs.YtjhbihhiceimcaaGreatW.PrintLast

def cmpL : List UInt8 → List UInt8 → Int
  | [], [] => 0
  | [], _ :: _ => -1
  | _ :: _, [] => 1
  | x :: a, y :: b => if (x.toNat : Int) < (y.toNat : Int) then -1 else if (x.toNat : Int) > (y.toNat : Int) then 1 else cmpL a b

theorem bt_kb {s : ByteArray} {i : Nat} (h : i < (kb s).length) : bt s (i : Int) = ((kb s)[i].toNat : Int) := by
  have h' : i < s.size := by rw [size_kb]; exact h
  unfold bt
  rw [Int.toNat_natCast, dif_pos h']
  rfl

theorem compare_l0 (a b : ByteArray) (ha : a.size < 9223372036854775807) : ∀ (d i : Nat), i + d = (kb a).length → i ≤ (kb b).length →
    Ev (fun k => latticeref05_Compare.l0 k a b (i : Int)) (cmpL ((kb a).drop i) ((kb b).drop i)) := by
  have hA := size_kb a
  have hB := size_kb b
  intro d
  induction d with
  | zero =>
    intro i hi hb
    rw [List.drop_eq_nil_of_le (by omega)]
    refine Ev.step (f := fun k => latticeref05_Compare.j1 k a b (i : Int) false) (fun k => ?_) (Ev.step (f := fun _ => some (cmpL [] ((kb b).drop i))) (fun k => ?_) (Ev.now _))
    · simp only [latticeref05_Compare.l0]
      rw [if_neg (by omega)]
    · simp only [latticeref05_Compare.j1]
      rw [if_neg (by decide)]
      by_cases h : i < (kb b).length
      · rw [List.drop_eq_getElem_cons h, if_pos (by omega)]
        rfl
      · rw [List.drop_eq_nil_of_le (by omega), if_neg (by omega), if_neg (by omega)]
        rfl
  | succ d ih =>
    intro i hi hb
    have hlt : i < (kb a).length := by omega
    rw [List.drop_eq_getElem_cons hlt]
    by_cases h : i < (kb b).length
    · rw [List.drop_eq_getElem_cons h]
      have ea := bt_kb hlt
      have eb := bt_kb h
      have hstep : ∀ k, latticeref05_Compare.l0 (k + 1) a b (i : Int) = latticeref05_Compare.j1 k a b (i : Int) true := fun k => by
        simp only [latticeref05_Compare.l0]
        rw [if_pos (by omega), decide_eq_true (by omega)]
      refine Ev.step hstep ?_
      have hj : ∀ k, latticeref05_Compare.j1 (k + 1) a b (i : Int) true = if ((kb a)[i].toNat : Int) < ((kb b)[i].toNat : Int) then some (-1) else if ((kb a)[i].toNat : Int) > ((kb b)[i].toNat : Int) then some 1 else latticeref05_Compare.l0 k a b ((i + 1 : Nat) : Int) := fun k => by
        simp only [latticeref05_Compare.j1]
        rw [if_pos trivial, if_pos (by omega), if_pos (by omega), if_pos (by omega), ea, eb, wrap_up (by omega)]
      refine Ev.step hj ?_
      unfold cmpL
      by_cases h1 : ((kb a)[i].toNat : Int) < ((kb b)[i].toNat : Int)
      · refine Ev.congr (f := fun _ => some (-1)) (fun k => by rw [if_pos h1]) ?_
        rw [if_pos h1]
        exact Ev.now _
      · by_cases h2 : ((kb a)[i].toNat : Int) > ((kb b)[i].toNat : Int)
        · refine Ev.congr (f := fun _ => some 1) (fun k => by rw [if_neg h1, if_pos h2]) ?_
          rw [if_neg h1, if_pos h2]
          exact Ev.now _
        · refine Ev.congr (f := fun k => latticeref05_Compare.l0 k a b ((i + 1 : Nat) : Int)) (fun k => by rw [if_neg h1, if_neg h2]) ?_
          rw [if_neg h1, if_neg h2]
          exact ih (i + 1) (by omega) (by omega)
    · rw [List.drop_eq_nil_of_le (by omega : (kb b).length ≤ i)]
      refine Ev.step (f := fun k => latticeref05_Compare.j1 k a b (i : Int) false) (fun k => ?_) (Ev.step (f := fun _ => some 1) (fun k => ?_) (Ev.now _))
      · simp only [latticeref05_Compare.l0]
        rw [if_pos (by omega), decide_eq_false (by omega)]
      · simp only [latticeref05_Compare.j1]
        rw [if_neg (by decide), if_neg (by omega), if_pos (by omega)]

theorem compare_ev (a b : ByteArray) (ha : a.size < 9223372036854775807) : Ev (fun k => latticeref05_Compare.f k a b) (cmpL (kb a) (kb b)) :=
  compare_l0 a b ha (kb a).length 0 (by omega) (by omega)

theorem cmpL_less : ∀ (a b : List UInt8), (cmpL a b < 0) ↔ Op.bytesLess a b = true
  | [], [] => by simp [cmpL, Op.bytesLess]
  | [], _ :: _ => by simp [cmpL, Op.bytesLess]
  | _ :: _, [] => by simp [cmpL, Op.bytesLess]
  | x :: a, y :: b => by
    have ih := cmpL_less a b
    unfold cmpL Op.bytesLess
    by_cases h1 : (x.toNat : Int) < (y.toNat : Int)
    · have : x < y := by rw [UInt8.lt_iff_toNat_lt]; omega
      rw [if_pos h1]
      simp [this]
    · have n1 : ¬ x < y := by rw [UInt8.lt_iff_toNat_lt]; omega
      rw [if_neg h1]
      by_cases h2 : (x.toNat : Int) > (y.toNat : Int)
      · have n2 : x ≠ y := fun e => by rw [e] at h2; omega
        rw [if_pos h2]
        simp [n1, n2]
      · have e : x = y := by apply UInt8.toNat_inj.1; omega
        rw [if_neg h2, ih]
        simp [e]

end Go.Proofs.YtjhbihhiceimcaaGreat.FM
