/- math/bits.TrailingZeros at small numbers, over the laid table. -/
import Derived.Test.YtjlcaamfpglflaaDoorPQDx0
set_option linter.unusedVariables false
namespace Go.Proofs.YtjlcaamfpglflaaDoor.DT
open Go.RowKit Go.Proofs.YtjlcaamfpglflaaDoorW.PrintWords Go.Proofs.YtjlcaamfpglflaaDoorW.PrintLast

/-- The laid table. -/
def tab64 : List Int := [0, 1, 56, 2, 57, 49, 28, 3, 61, 58, 42, 50, 38, 29, 17, 4, 62, 47, 59, 36, 45, 43, 51, 22, 53, 39, 33, 30, 24, 18, 12, 5, 63, 55, 48, 27, 60, 41, 37, 16, 46, 35, 44, 21, 52, 32, 23, 11, 54, 26, 40, 15, 34, 20, 31, 10, 25, 14, 19, 9, 13, 8, 7, 6]
/-- Where the table's number of a stands. -/
def tzE (a : Int) : Int := IntKind.u64.wrap (bits BinOp.and IntKind.u64 a (IntKind.u64.wrap (-a)) * 285870213051353865) / 288230376151711744
def tz (a : Nat) : Int := tab64.getD (tzE a).toNat 0
theorem tzE_in : ∀ a : Nat, a < 128 → 0 < a → 0 ≤ tzE a ∧ tzE a < 64 ∧ 0 ≤ tz a ∧ tz a < 7 := by decide +kernel
/-- The table lies where the program reads it. -/
def TabAt (w : World) : Prop := ∀ i, i < 64 → w.cell? ⟨1, i, none⟩ = some (.int .u8 (tab64.getD i 0))
theorem TabAt.below {w w' : World} (h : TabAt w) (hb : Below w.heap.size w w') : TabAt w' := fun i hi => by
  have := h i hi
  exact (hb.cell (p := ⟨1, i, none⟩) (World.block_lt_of_cell? w _ this)).trans this

set_option maxHeartbeats 4000000 in
set_option maxRecDepth 100000 in
theorem tz64_any (a : Nat) (w : World) (h0 : 0 < a) (h1 : a < 128) (hT : TabAt w) :
    Calls Tryd.prog 26 #[.int .u64 (a : Int)] w fun e w' => e = .returned (.int .i64 (tz a)) ∧ w = w' := by
  have hz : ((a : Int) == 0) = false := by simpa using (by omega : ¬ a = 0)
  obtain ⟨e0, e1, e2, e3⟩ := tzE_in a h1 h0
  obtain ⟨i, hi⟩ : ∃ i : Nat, tzE a = (i : Int) := ⟨(tzE a).toNat, by omega⟩
  have hv : tab64.getD i 0 = tz a := by unfold tz; rw [hi, Int.toNat_natCast]
  have hc := hT i (by omega)
  rw [hv] at hc
  have hil : i < 64 := by omega
  have hE : IntKind.u64.wrap (bits BinOp.and IntKind.u64 (a : Int) (IntKind.u64.wrap (-(a : Int))) * 285870213051353865) / 288230376151711744 = (i : Int) := hi
  clear hi hv hT e0 e1
  generalize tz a = v at e2 e3 hc
  go_enter Tryd.func26, Tryd.ntmps26
  go_wp2
  go_ret
  exact ⟨rfl, rfl⟩
set_option maxHeartbeats 4000000 in
set_option maxRecDepth 100000 in
theorem tz_any (a : Nat) (w : World) (h0 : 0 < a) (h1 : a < 128) (hT : TabAt w) :
    Calls Tryd.prog 18 #[.int .u64 (a : Int)] w fun e w' => e = .returned (.int .i64 (tz a)) ∧ w = w' := by
  have c := tz64_any a w h0 h1 hT
  clear hT
  go_enter Tryd.func18, Tryd.ntmps18
  go_wp2_with (go_at_call 26; refine c.mono ?_; rintro e w' ⟨rfl, rfl⟩)
  go_ret
  exact ⟨rfl, rfl⟩
end Go.Proofs.YtjlcaamfpglflaaDoor.DT
