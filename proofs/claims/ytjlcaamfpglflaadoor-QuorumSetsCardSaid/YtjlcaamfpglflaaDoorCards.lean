/-
  DERIVED. GIVEN WITH THE SEED: THE CARDS: each row of YtjlcaamfpglflaaDoorRows.lean that lists a variable, with what it lists TIED to the program's text (the seventh form; the later family's looks); each row that meets fmt, with fmt's text TOLD by the authors' own Lean function (tested against real Go, not proved from fmt's source: count such statements apart). THE CARD IS WHAT COUNTS. Prove the row's statement (the work); the ties are given (YtjlcaamfpglflaaDoorTie.lean); close each card by the builder's one call (the guide's Derived/Test/ToyasCard.lean, 'card_holds'). Laid BY PROGRAM, IN A SANDBOX (cutbox-door.mjs). By AI agents, Wed Nov 11 2026. No macro, syntax, notation, axiom, sorry.
-/
import Derived.Test.YtjlcaamfpglflaaDoorRows
import GoSem.ClaimSeven
namespace Go.Proofs.YtjlcaamfpglflaaDoor
namespace Rows

/-- THE TIED CARD OF 'latticelaw21.QuorumMeet'. -/
def quorumMeetCard : Claim7 := { stood := { row := quorumMeetRow, standIns := [], harness := (true, "3060ab6586e88d4df575eaa2d0a14efe181d6a8bff2c633898f6c103cc607d79"), looks := false }, kinds := [], alts := [], laidByText := true, laidKinds := [.data, .data], laidTests := true, laidLooks := .later }
def QuorumMeetCardSaid : Prop := Claim7.holds Tryd.pinned (.plain (OpenSpec.ofChange quorumMeetSpec)) quorumMeetCard

/-- THE TIED CARD OF 'latticelaw21.QuorumSets'. -/
def quorumSetsCard : Claim7 := { stood := { row := quorumSetsRow, standIns := [], harness := (true, "3060ab6586e88d4df575eaa2d0a14efe181d6a8bff2c633898f6c103cc607d79"), looks := false }, kinds := [], alts := [], laidByText := true, laidKinds := [.data, .data], laidTests := true, laidLooks := .later }
def QuorumSetsCardSaid : Prop := Claim7.holds Tryd.pinned (.plain (OpenSpec.ofChange quorumSetsSpec)) quorumSetsCard

/-- THE SECOND FORM's CARD OF 'latticelaw21.QuorumMeet'. -/
def quorumMeetUptoCard : Claim7 := { stood := { row := quorumMeetUptoRow, standIns := [], harness := (true, "3060ab6586e88d4df575eaa2d0a14efe181d6a8bff2c633898f6c103cc607d79"), looks := false }, kinds := [], alts := [], laidByText := true, laidKinds := [.data, .data], laidTests := true, laidLooks := .later }
def QuorumMeetUptoCardSaid : Prop := Claim7.holds Tryd.pinned (.plain (OpenSpec.upto quorumMeetSpec)) quorumMeetUptoCard

/-- THE SECOND FORM's CARD OF 'latticelaw21.QuorumSets'. -/
def quorumSetsUptoCard : Claim7 := { stood := { row := quorumSetsUptoRow, standIns := [], harness := (true, "3060ab6586e88d4df575eaa2d0a14efe181d6a8bff2c633898f6c103cc607d79"), looks := false }, kinds := [], alts := [], laidByText := true, laidKinds := [.data, .data], laidTests := true, laidLooks := .later }
def QuorumSetsUptoCardSaid : Prop := Claim7.holds Tryd.pinned (.plain (OpenSpec.upto quorumSetsSpec)) quorumSetsUptoCard
end Rows
end Go.Proofs.YtjlcaamfpglflaaDoor
