/-
  No cell of these rows narrows 'for every input' (looked for: loops, veiled, ifaces, maps, wideKeys, modest, calm, conditions, laid).
  DERIVED. THE GIVEN ROWS OF THIS SEAT. 4 by the template 'for every input the law returns true; each argument reads behind the call as it read before'; 0 by the template 'total and deterministic' (their statements: YtjhbihhiceimcaaTotals.lean).
  GIVEN WITH THE SEED: the statements are not yours to turn. If you find one false, say at which input.
  Laid BY PROGRAM, IN A SANDBOX (cutbox-rows.mjs): the forced cells as the released guide's own fill.sh prints them over the translation 13d41f35ce272341… (all of the seat's roots in one cut). By AI agents, Wed Nov 11 2026. No macro, syntax, notation, axiom, sorry.
-/
import Derived.Test.YtjhbihhiceimcaaChecked
import GoSem.Claim
import GoSem.ClaimJoined
import GoSem.ClaimMapViews
import Derived.JoinedTies
import Derived.KernelRfl
namespace Go.Proofs.Ytjhbihhiceimcaa
/- THE CELL 'sum', in the pinned program and in every row, IS THE sha256 OF THE DUMP (.gsa) THAT YtjhbihhiceimcaaProg.lean LOADS. Nothing in Lean hashes anything: it is a label: what it is worth is what the hold of that sum in a sandbox is worth. -/
noncomputable def Try.pinned : Pinned := { name := "ytjhbihhiceimcaa", sum := "13d41f35ce2723412f4bb279cd5b3bfb3c8aa074f657fce2a4748f59c9bc9277", checked := Try.checked }
namespace Rows
def none {H : Type} : Left H := { results := [], args := [] }

/-- 'latticelaw18.FoldOrder': WHATEVER THE INPUT: true; the input reads as it did. -/
def foldOrderSpec : ChangeSpec := { name := "foldOrder", fn := fun _ => fun
  | [d1, d2] => { results := [.lit (.bool true)], args := [d1, d2] }
  | _ => none }
def foldOrderRow : OpenClaim := { program := "ytjhbihhiceimcaa", sum := "13d41f35ce2723412f4bb279cd5b3bfb3c8aa074f657fce2a4748f59c9bc9277", func := "lattice/latticelaw18.FoldOrder", spec := "foldOrder", unfollowed := true, recurses := true, apart := false }
def FoldOrderSaid : Prop := foldOrderRow.holds Try.pinned (OpenSpec.ofChange foldOrderSpec)

/-- ITS FALSE NEIGHBOUR: 'it returns false'. Refute it at one input. -/
def foldOrderWrong : ChangeSpec := { name := "foldOrder", fn := fun _ => fun
  | [d1, d2] => { results := [.lit (.bool false)], args := [d1, d2] }
  | _ => none }
def FoldOrderWrongFalsely : Prop := foldOrderRow.holds Try.pinned (OpenSpec.ofChange foldOrderWrong)

/-- 'latticelaw18.FoldAnswers': WHATEVER THE INPUT: true; the input reads as it did. -/
def foldAnswersSpec : ChangeSpec := { name := "foldAnswers", fn := fun _ => fun
  | [d1, d2] => { results := [.lit (.bool true)], args := [d1, d2] }
  | _ => none }
def foldAnswersRow : OpenClaim := { program := "ytjhbihhiceimcaa", sum := "13d41f35ce2723412f4bb279cd5b3bfb3c8aa074f657fce2a4748f59c9bc9277", func := "lattice/latticelaw18.FoldAnswers", spec := "foldAnswers", unfollowed := true, recurses := true, apart := false }
def FoldAnswersSaid : Prop := foldAnswersRow.holds Try.pinned (OpenSpec.ofChange foldAnswersSpec)

/-- ITS FALSE NEIGHBOUR: 'it returns false'. Refute it at one input. -/
def foldAnswersWrong : ChangeSpec := { name := "foldAnswers", fn := fun _ => fun
  | [d1, d2] => { results := [.lit (.bool false)], args := [d1, d2] }
  | _ => none }
def FoldAnswersWrongFalsely : Prop := foldAnswersRow.holds Try.pinned (OpenSpec.ofChange foldAnswersWrong)

/-- 'latticelaw18.FoldLast': WHATEVER THE INPUT: true; the input reads as it did. -/
def foldLastSpec : ChangeSpec := { name := "foldLast", fn := fun _ => fun
  | [d1, d2] => { results := [.lit (.bool true)], args := [d1, d2] }
  | _ => none }
def foldLastRow : OpenClaim := { program := "ytjhbihhiceimcaa", sum := "13d41f35ce2723412f4bb279cd5b3bfb3c8aa074f657fce2a4748f59c9bc9277", func := "lattice/latticelaw18.FoldLast", spec := "foldLast", unfollowed := true, recurses := true, apart := false }
def FoldLastSaid : Prop := foldLastRow.holds Try.pinned (OpenSpec.ofChange foldLastSpec)

/-- ITS FALSE NEIGHBOUR: 'it returns false'. Refute it at one input. -/
def foldLastWrong : ChangeSpec := { name := "foldLast", fn := fun _ => fun
  | [d1, d2] => { results := [.lit (.bool false)], args := [d1, d2] }
  | _ => none }
def FoldLastWrongFalsely : Prop := foldLastRow.holds Try.pinned (OpenSpec.ofChange foldLastWrong)

/-- 'latticelaw18.FoldApart': WHATEVER THE INPUT: true; the input reads as it did. -/
def foldApartSpec : ChangeSpec := { name := "foldApart", fn := fun _ => fun
  | [d1, d2] => { results := [.lit (.bool true)], args := [d1, d2] }
  | _ => none }
def foldApartRow : OpenClaim := { program := "ytjhbihhiceimcaa", sum := "13d41f35ce2723412f4bb279cd5b3bfb3c8aa074f657fce2a4748f59c9bc9277", func := "lattice/latticelaw18.FoldApart", spec := "foldApart", unfollowed := true, recurses := true, apart := false }
def FoldApartSaid : Prop := foldApartRow.holds Try.pinned (OpenSpec.ofChange foldApartSpec)

/-- ITS FALSE NEIGHBOUR: 'it returns false'. Refute it at one input. -/
def foldApartWrong : ChangeSpec := { name := "foldApart", fn := fun _ => fun
  | [d1, d2] => { results := [.lit (.bool false)], args := [d1, d2] }
  | _ => none }
def FoldApartWrongFalsely : Prop := foldApartRow.holds Try.pinned (OpenSpec.ofChange foldApartWrong)

/- THE SECOND FORM. 'bulk': how many values and letters a reading holds, each counted each time it is reached (what is shared counts as often as it is met; a slice's spare places count too). A statement '..UptoSaid' is the law's where the arguments, and the package variables that the reading takes, are together of bulk at most 1048576: NARROWER than '..Said'. Prove '..Said' where nothing that the law and all that it calls make is longer than what came in: it says more and counts as full. Else prove '..UptoSaid'. A law counts once. -/
mutual
def uptoBulk {H : Type} : DataW H → Nat
  | .lit (.string bytes) => bytes.length + 1
  | .lit _ => 1
  | .nil => 1
  | .ptr d => uptoBulk d + 1
  | .slice elems spare => uptoBulkAll elems + uptoBulkAll spare + 1
  | .agg parts => uptoBulkAll parts + 1
  | .iface _ d => uptoBulk d + 1
  | .map entries => uptoBulkEntries entries + 1
  | .held _ => 1
def uptoBulkAll {H : Type} : List (DataW H) → Nat
  | [] => 0
  | d :: r => uptoBulk d + uptoBulkAll r
def uptoBulkEntries {H : Type} : List (Lit × DataW H) → Nat
  | [] => 0
  | x :: r => uptoBulkEntry x + uptoBulkEntries r
def uptoBulkEntry {H : Type} : Lit × DataW H → Nat
  | (.string bytes, d) => bytes.length + uptoBulk d + 1
  | (_, d) => uptoBulk d + 1
 end
def uptoSmall : (H : Type) → List (DataW H) → Bool := fun _ ds => decide (uptoBulkAll ds ≤ 1048576)
def OpenSpec.upto (s : _root_.Go.ChangeSpec) : _root_.Go.OpenSpec := { _root_.Go.OpenSpec.ofChange s with cond := some uptoSmall }

/-- 'latticelaw18.FoldOrder', WHERE WHAT IT READS IS OF BULK AT MOST 1048576: true; the input reads as it did. -/
def foldOrderUptoRow : OpenClaim := { program := "ytjhbihhiceimcaa", sum := "13d41f35ce2723412f4bb279cd5b3bfb3c8aa074f657fce2a4748f59c9bc9277", func := "lattice/latticelaw18.FoldOrder", spec := "foldOrder", unfollowed := true, recurses := true, apart := false, narrowed := true }
def FoldOrderUptoSaid : Prop := foldOrderUptoRow.holds Try.pinned (OpenSpec.upto foldOrderSpec)

/-- 'latticelaw18.FoldAnswers', WHERE WHAT IT READS IS OF BULK AT MOST 1048576: true; the input reads as it did. -/
def foldAnswersUptoRow : OpenClaim := { program := "ytjhbihhiceimcaa", sum := "13d41f35ce2723412f4bb279cd5b3bfb3c8aa074f657fce2a4748f59c9bc9277", func := "lattice/latticelaw18.FoldAnswers", spec := "foldAnswers", unfollowed := true, recurses := true, apart := false, narrowed := true }
def FoldAnswersUptoSaid : Prop := foldAnswersUptoRow.holds Try.pinned (OpenSpec.upto foldAnswersSpec)

/-- 'latticelaw18.FoldLast', WHERE WHAT IT READS IS OF BULK AT MOST 1048576: true; the input reads as it did. -/
def foldLastUptoRow : OpenClaim := { program := "ytjhbihhiceimcaa", sum := "13d41f35ce2723412f4bb279cd5b3bfb3c8aa074f657fce2a4748f59c9bc9277", func := "lattice/latticelaw18.FoldLast", spec := "foldLast", unfollowed := true, recurses := true, apart := false, narrowed := true }
def FoldLastUptoSaid : Prop := foldLastUptoRow.holds Try.pinned (OpenSpec.upto foldLastSpec)

/-- 'latticelaw18.FoldApart', WHERE WHAT IT READS IS OF BULK AT MOST 1048576: true; the input reads as it did. -/
def foldApartUptoRow : OpenClaim := { program := "ytjhbihhiceimcaa", sum := "13d41f35ce2723412f4bb279cd5b3bfb3c8aa074f657fce2a4748f59c9bc9277", func := "lattice/latticelaw18.FoldApart", spec := "foldApart", unfollowed := true, recurses := true, apart := false, narrowed := true }
def FoldApartUptoSaid : Prop := foldApartUptoRow.holds Try.pinned (OpenSpec.upto foldApartSpec)

end Rows
end Go.Proofs.Ytjhbihhiceimcaa
