/-
  No cell of these rows narrows 'for every input' (looked for: loops, veiled, ifaces, maps, wideKeys, modest, calm, conditions, laid).
  DERIVED. THE GIVEN ROWS OF THIS SEAT. 3 by the template 'for every input the law returns true; each argument reads behind the call as it read before'; 0 by the template 'total and deterministic' (their statements: YtjhbihhiceimcaaGreatTotals.lean).
  GIVEN WITH THE SEED: the statements are not yours to turn. If you find one false, say at which input.
  Laid BY PROGRAM, IN A SANDBOX (cutbox-rows.mjs): the forced cells as the released guide's own fill.sh prints them over the translation d868aad54150d2c2… (all of the seat's roots in one cut). By AI agents, Wed Nov 11 2026. No macro, syntax, notation, axiom, sorry.
-/
import Derived.Test.YtjhbihhiceimcaaGreatChecked
import GoSem.Claim
import GoSem.ClaimJoined
import GoSem.ClaimMapViews
import Derived.JoinedTies
import Derived.KernelRfl
namespace Go.Proofs.YtjhbihhiceimcaaGreat
/- THE CELL 'sum', in the pinned program and in every row, IS THE sha256 OF THE DUMP (.gsa) THAT YtjhbihhiceimcaaGreatProg.lean LOADS. Nothing in Lean hashes anything: it is a label: what it is worth is what the hold of that sum in a sandbox is worth. -/
noncomputable def Tryz.pinned : Pinned := { name := "ytjhbihhiceimcaagreat", sum := "d868aad54150d2c2b3da41b3d6d64bef1c942316d07c475744a5febcfb83fb9b", checked := Tryz.checked }
namespace Rows
def none {H : Type} : Left H := { results := [], args := [] }

/-- 'latticelaw18.FoldTells': WHATEVER THE INPUT: true; the input reads as it did. -/
def foldTellsSpec : ChangeSpec := { name := "foldTells", fn := fun _ => fun
  | [d1, d2] => { results := [.lit (.bool true)], args := [d1, d2] }
  | _ => none }
def foldTellsRow : OpenClaim := { program := "ytjhbihhiceimcaagreat", sum := "d868aad54150d2c2b3da41b3d6d64bef1c942316d07c475744a5febcfb83fb9b", func := "lattice/latticelaw18.FoldTells", spec := "foldTells", unfollowed := true, recurses := true, apart := false }
def FoldTellsSaid : Prop := foldTellsRow.holds Tryz.pinned (OpenSpec.ofChange foldTellsSpec)

/-- ITS FALSE NEIGHBOUR: 'it returns false'. Refute it at one input. -/
def foldTellsWrong : ChangeSpec := { name := "foldTells", fn := fun _ => fun
  | [d1, d2] => { results := [.lit (.bool false)], args := [d1, d2] }
  | _ => none }
def FoldTellsWrongFalsely : Prop := foldTellsRow.holds Tryz.pinned (OpenSpec.ofChange foldTellsWrong)

/-- 'latticelaw18.FoldAgrees': WHATEVER THE INPUT: true; the input reads as it did. -/
def foldAgreesSpec : ChangeSpec := { name := "foldAgrees", fn := fun _ => fun
  | [d1, d2] => { results := [.lit (.bool true)], args := [d1, d2] }
  | _ => none }
def foldAgreesRow : OpenClaim := { program := "ytjhbihhiceimcaagreat", sum := "d868aad54150d2c2b3da41b3d6d64bef1c942316d07c475744a5febcfb83fb9b", func := "lattice/latticelaw18.FoldAgrees", spec := "foldAgrees", unfollowed := true, recurses := true, apart := false }
def FoldAgreesSaid : Prop := foldAgreesRow.holds Tryz.pinned (OpenSpec.ofChange foldAgreesSpec)

/-- ITS FALSE NEIGHBOUR: 'it returns false'. Refute it at one input. -/
def foldAgreesWrong : ChangeSpec := { name := "foldAgrees", fn := fun _ => fun
  | [d1, d2] => { results := [.lit (.bool false)], args := [d1, d2] }
  | _ => none }
def FoldAgreesWrongFalsely : Prop := foldAgreesRow.holds Tryz.pinned (OpenSpec.ofChange foldAgreesWrong)

/-- 'latticelaw18.FoldHolds': WHATEVER THE INPUT: true; the input reads as it did. -/
def foldHoldsSpec : ChangeSpec := { name := "foldHolds", fn := fun _ => fun
  | [d1, d2, d3] => { results := [.lit (.bool true)], args := [d1, d2, d3] }
  | _ => none }
def foldHoldsRow : OpenClaim := { program := "ytjhbihhiceimcaagreat", sum := "d868aad54150d2c2b3da41b3d6d64bef1c942316d07c475744a5febcfb83fb9b", func := "lattice/latticelaw18.FoldHolds", spec := "foldHolds", unfollowed := true, recurses := true, apart := false }
def FoldHoldsSaid : Prop := foldHoldsRow.holds Tryz.pinned (OpenSpec.ofChange foldHoldsSpec)

/-- ITS FALSE NEIGHBOUR: 'it returns false'. Refute it at one input. -/
def foldHoldsWrong : ChangeSpec := { name := "foldHolds", fn := fun _ => fun
  | [d1, d2, d3] => { results := [.lit (.bool false)], args := [d1, d2, d3] }
  | _ => none }
def FoldHoldsWrongFalsely : Prop := foldHoldsRow.holds Tryz.pinned (OpenSpec.ofChange foldHoldsWrong)

/- THE SECOND FORM. 'bulk': how many values and letters a reading holds, each counted each time it is reached (what is shared counts as often as it is met; a slice's spare places count too). A statement '..UptoSaid' is the law's where the arguments, and the package variables that the reading takes, are together of bulk at most 1048576: NARROWER than '..Said'. Prove '..Said' where nothing that the law and all that it calls make is longer than what came in: it says more and counts as full. Else prove '..UptoSaid'. A law counts once. -/
mutual
def uptoBulk {H : Type} : DataW H → Nat
  | .lit (.string bytes) => bytes.length + 1
  | .lit _ => 1
  | .nil => 1
  | .ptr d => uptoBulk d + 1
  | .slice elems spare => uptoBulkAll elems + uptoBulkAll spare + 1
  | .agg parts => uptoBulkAll parts + 1
  | .iface _ d => uptoBulk d + 1
  | .map entries => uptoBulkEntries entries + 1
  | .held _ => 1
def uptoBulkAll {H : Type} : List (DataW H) → Nat
  | [] => 0
  | d :: r => uptoBulk d + uptoBulkAll r
def uptoBulkEntries {H : Type} : List (Lit × DataW H) → Nat
  | [] => 0
  | x :: r => uptoBulkEntry x + uptoBulkEntries r
def uptoBulkEntry {H : Type} : Lit × DataW H → Nat
  | (.string bytes, d) => bytes.length + uptoBulk d + 1
  | (_, d) => uptoBulk d + 1
 end
def uptoSmall : (H : Type) → List (DataW H) → Bool := fun _ ds => decide (uptoBulkAll ds ≤ 1048576)
def OpenSpec.upto (s : _root_.Go.ChangeSpec) : _root_.Go.OpenSpec := { _root_.Go.OpenSpec.ofChange s with cond := some uptoSmall }

/-- 'latticelaw18.FoldTells', WHERE WHAT IT READS IS OF BULK AT MOST 1048576: true; the input reads as it did. -/
def foldTellsUptoRow : OpenClaim := { program := "ytjhbihhiceimcaagreat", sum := "d868aad54150d2c2b3da41b3d6d64bef1c942316d07c475744a5febcfb83fb9b", func := "lattice/latticelaw18.FoldTells", spec := "foldTells", unfollowed := true, recurses := true, apart := false, narrowed := true }
def FoldTellsUptoSaid : Prop := foldTellsUptoRow.holds Tryz.pinned (OpenSpec.upto foldTellsSpec)

/-- 'latticelaw18.FoldAgrees', WHERE WHAT IT READS IS OF BULK AT MOST 1048576: true; the input reads as it did. -/
def foldAgreesUptoRow : OpenClaim := { program := "ytjhbihhiceimcaagreat", sum := "d868aad54150d2c2b3da41b3d6d64bef1c942316d07c475744a5febcfb83fb9b", func := "lattice/latticelaw18.FoldAgrees", spec := "foldAgrees", unfollowed := true, recurses := true, apart := false, narrowed := true }
def FoldAgreesUptoSaid : Prop := foldAgreesUptoRow.holds Tryz.pinned (OpenSpec.upto foldAgreesSpec)

/-- 'latticelaw18.FoldHolds', WHERE WHAT IT READS IS OF BULK AT MOST 1048576: true; the input reads as it did. -/
def foldHoldsUptoRow : OpenClaim := { program := "ytjhbihhiceimcaagreat", sum := "d868aad54150d2c2b3da41b3d6d64bef1c942316d07c475744a5febcfb83fb9b", func := "lattice/latticelaw18.FoldHolds", spec := "foldHolds", unfollowed := true, recurses := true, apart := false, narrowed := true }
def FoldHoldsUptoSaid : Prop := foldHoldsUptoRow.holds Tryz.pinned (OpenSpec.upto foldHoldsSpec)

end Rows
end Go.Proofs.YtjhbihhiceimcaaGreat
