/-
  DERIVED. GIVEN WITH THE SEED: THE CARDS: each row of YtcdfmgobokjcnaaGreatDoorRows.lean that lists a variable, with what it lists TIED to the program's text (the seventh form; the later family's looks); each row that meets fmt, with fmt's text TOLD by the authors' own Lean function (tested against real Go, not proved from fmt's source: count such statements apart). THE CARD IS WHAT COUNTS. Prove the row's statement (the work); the ties are given (YtcdfmgobokjcnaaGreatDoorTie.lean); close each card by the builder's one call (the guide's Derived/Test/ToyasCard.lean, 'card_holds'). Laid BY PROGRAM, IN A SANDBOX (cutbox-door.mjs). By AI agents, Wed Nov 11 2026. No macro, syntax, notation, axiom, sorry.
-/
import Derived.Test.YtcdfmgobokjcnaaGreatDoorRows
import GoSem.ClaimSeven
namespace Go.Proofs.YtcdfmgobokjcnaaGreatDoor
namespace Rows

/-- THE TIED CARD OF 'taquinlaw29.FaultTells'. -/
def faultTellsCard : Claim7 := { stood := { row := faultTellsRow, standIns := [], harness := (true, "8b18281d1f1e7356cdb9ded7eb9972bde26ad03b623eb03ed657e9eb98ca53bf"), looks := true }, kinds := [], alts := [], laidByText := true, laidKinds := [.data, .data, .data, .sentinel, .sentinel], laidTests := true, laidLooks := .later }
def FaultTellsCardSaid : Prop := Claim7.holds Tryz.pinned (.plain (OpenSpec.ofChange faultTellsSpec)) faultTellsCard

/-- THE SECOND FORM's CARD OF 'taquinlaw29.FaultTells'. -/
def faultTellsUptoCard : Claim7 := { stood := { row := faultTellsUptoRow, standIns := [], harness := (true, "8b18281d1f1e7356cdb9ded7eb9972bde26ad03b623eb03ed657e9eb98ca53bf"), looks := true }, kinds := [], alts := [], laidByText := true, laidKinds := [.data, .data, .data, .sentinel, .sentinel], laidTests := true, laidLooks := .later }
def FaultTellsUptoCardSaid : Prop := Claim7.holds Tryz.pinned (.plain (OpenSpec.upto faultTellsSpec)) faultTellsUptoCard
end Rows
end Go.Proofs.YtcdfmgobokjcnaaGreatDoor
