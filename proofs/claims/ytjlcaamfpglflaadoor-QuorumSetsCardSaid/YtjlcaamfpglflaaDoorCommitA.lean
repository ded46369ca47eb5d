/- Hand-written contracts: slices.IndexFunc and slices.ContainsFunc at quorum.Commit's closure; the iterator slices.Values; slices.AppendSeq, Collect and Sorted over it. (Turned from the worked texts GgSlicesIterAtTheDump and GgPosAtTheDump.) -/
import Derived.RangeFuncBox
import Derived.RangeFuncLeaves
import Derived.Shelf.Abstract
import Derived.WalkKit
import Derived.OwnWalkIn
import Derived.TacticsInMore
import Derived.LoopNIn
import Derived.LoopIn
import Derived.Maps.AppendAt
import Derived.Test.YtjlcaamfpglflaaDoorProg
namespace Go.Proofs.YtjlcaamfpglflaaDoor.CommitA
open Go.RowKit Go.Shelf Go.Proofs

structure Hd (p : Prop) : Prop where
  out : p

/-! ### slices.IndexFunc, slices.ContainsFunc -/
def bad (a : Int) : Bool := decide (a < 0) || decide (1099511627776 < a)

theorem bad_any (a : Int) (w : World) : Calls Tryd.prog 21 #[.int .i64 a] w fun e w' => e = .returned (.bool (bad a)) ∧ w = w' := by
  unfold bad
  by_cases h1 : a < 0
  · go_enter Tryd.func21, Tryd.ntmps21
    go_wp2
    go_ret
    exact ⟨by simp [h1], rfl⟩
  · have h0 : 0 ≤ a := by omega
    go_enter Tryd.func21, Tryd.ntmps21
    go_wp2
    go_ret
    exact ⟨by simp; omega, rfl⟩

/-- The first index from k on whose element is bad, or -1. -/
def idx (l : List Int) (k : Nat) : Int := if (l.drop k).any bad then (k + (l.drop k).findIdx bad : Nat) else -1

theorem idx_hit {l : List Int} {k : Nat} {x : Int} {t : List Int} (hd : l.drop k = x :: t) (hb : bad x = true) : idx l k = k := by
  simp [idx, hd, hb, List.findIdx_cons]
theorem idx_miss {l : List Int} {k : Nat} {x : Int} {t : List Int} (hd : l.drop k = x :: t) (hb : bad x = false) : idx l k = idx l (k + 1) := by
  have h1 : l.drop (k + 1) = t := by rw [← List.drop_drop, hd]; rfl
  simp only [idx, hd, h1, List.any_cons, hb, Bool.false_or, List.findIdx_cons]
  split <;> simp <;> omega
theorem idx_end {l : List Int} {k : Nat} (h : l.length ≤ k) : idx l k = -1 := by simp [idx, List.drop_eq_nil_of_le h]

def Cells (w : World) (A : Option Addr) (xs : List Int) : Prop := ∀ j, j < xs.length → ∃ ad, A = some ad ∧ w.cell? (ad.add j) = some (.int .i64 (xs.getD j 0))

set_option maxHeartbeats 1000000 in
theorem index_any (A : Option Addr) (c : Nat) (xs : List Int) (w : World) (hn : xs.length ≤ 9223372036854775807) (hC : Cells w A xs) :
    Calls Tryd.prog 27 #[.slice A xs.length c, .func (.func 21) #[] #[]] w fun e w' => e = .returned (.int .i64 (idx xs 0)) ∧ w = w' := by
  go_enter Tryd.func27, Tryd.ntmps27
  go_wp2
  go_loop [8] (fun i => ∃ k : Nat, k ≤ xs.length ∧ i = .int .i64 k ∧ idx xs 0 = idx xs k) (fun i => xs.length - (intOf i).toNat)
  case atStart => exact ⟨0, Nat.zero_le _, rfl, rfl⟩
  case round =>
    obtain ⟨k, hk, rfl, he⟩ := hrel
    have HE := Hd.mk he
    clear he
    by_cases hlt : k < xs.length
    · obtain ⟨ad, hA, hc⟩ := hC k hlt
      have hd : xs.drop k = xs.getD k 0 :: xs.drop (k + 1) := by
        rw [List.drop_eq_getElem_cons hlt, List.getD_eq_getElem?_getD, List.getElem?_eq_getElem hlt]; rfl
      have HD := Hd.mk hd
      clear hd hC
      subst hA
      generalize xs.getD k 0 = x at hc HD
      cases hb : bad x
      · have HB := Hd.mk hb
        have cb : ∀ W, Calls Tryd.prog 21 #[.int .i64 x] W fun e w' => e = .returned (.bool false) ∧ W = w' := fun W => (bad_any x W).mono fun e w' ⟨h1, h2⟩ => ⟨by rw [h1, hb], h2⟩
        clear hb
        go_wp2_with (go_at_call 21; refine (cb _).mono ?_; rintro e w' ⟨rfl, rfl⟩)
        go_round
        case rel => exact ⟨k + 1, by omega, by go_num, by rw [HE.out]; exact idx_miss HD.out HB.out⟩
        case measure => simp [intOf]; omega
      · have HB := Hd.mk hb
        have cb : ∀ W, Calls Tryd.prog 21 #[.int .i64 x] W fun e w' => e = .returned (.bool true) ∧ W = w' := fun W => (bad_any x W).mono fun e w' ⟨h1, h2⟩ => ⟨by rw [h1, hb], h2⟩
        clear hb
        go_wp2_with (go_at_call 21; refine (cb _).mono ?_; rintro e w' ⟨rfl, rfl⟩)
        go_ret
        exact ⟨by rw [HE.out, idx_hit HD.out HB.out]; rfl, rfl⟩
    · clear hC
      go_wp2
      go_ret
      exact ⟨by rw [HE.out, idx_end (by omega)]; rfl, rfl⟩

theorem contains_any (A : Option Addr) (c : Nat) (xs : List Int) (w : World) (hn : xs.length ≤ 9223372036854775807) (hC : Cells w A xs) :
    Calls Tryd.prog 22 #[.slice A xs.length c, .func (.func 21) #[] #[]] w fun e w' => e = .returned (.bool (xs.any bad)) ∧ w = w' := by
  have ci := index_any A c xs w hn hC
  have hr : xs.any bad = decide (0 ≤ idx xs 0) := by
    simp only [idx, List.drop_zero]
    cases xs.any bad <;> simp
  rw [hr]
  clear hr hC
  generalize idx xs 0 = r at ci ⊢
  go_enter Tryd.func22, Tryd.ntmps22
  go_wp2_with (go_at_call 27; refine ci.mono ?_; rintro e w' ⟨rfl, rfl⟩)
  go_ret
  exact ⟨rfl, rfl⟩

end Go.Proofs.YtjlcaamfpglflaaDoor.CommitA
