/-
  DERIVED. GIVEN WITH THE SEED: THE CARDS: each row of YtnccndfffmaonaaGreatDoorRows.lean that lists a variable, with what it lists TIED to the program's text (the seventh form; the later family's looks); each row that meets fmt, with fmt's text TOLD by the authors' own Lean function (tested against real Go, not proved from fmt's source: count such statements apart). THE CARD IS WHAT COUNTS. Prove the row's statement (the work); the ties are given (YtnccndfffmaonaaGreatDoorTie.lean); close each card by the builder's one call (the guide's Derived/Test/ToyasCard.lean, 'card_holds'). Laid BY PROGRAM, IN A SANDBOX (cutbox-door.mjs). By AI agents, Wed Nov 11 2026. No macro, syntax, notation, axiom, sorry.
-/
import Derived.Test.YtnccndfffmaonaaGreatDoorRows
import GoSem.ClaimSeven
namespace Go.Proofs.YtnccndfffmaonaaGreatDoor
namespace Rows

/-- THE TIED CARD OF 'taquinlaw10.DraftTells'. -/
def draftTellsCard : Claim7 := { stood := { row := draftTellsRow, standIns := [], harness := (true, "8071a4ed6acaf212ea9d509f4cbc47865df571e36338f397c75e822a59f2ace5"), looks := true }, kinds := [], alts := [], laidByText := true, laidKinds := [.data, .data, .data, .data, .sentinel, .sentinel, .pinned], laidTests := true, laidLooks := .later }
def DraftTellsCardSaid : Prop := Claim7.holds Tryz.pinned (.plain (OpenSpec.ofChange draftTellsSpec)) draftTellsCard

/-- THE TIED CARD OF 'taquinlaw10.DraftBack'. -/
def draftBackCard : Claim7 := { stood := { row := draftBackRow, standIns := [], harness := (true, "8071a4ed6acaf212ea9d509f4cbc47865df571e36338f397c75e822a59f2ace5"), looks := true }, kinds := [], alts := [], laidByText := true, laidKinds := [.data, .data, .data, .data, .sentinel, .sentinel, .pinned], laidTests := true, laidLooks := .later }
def DraftBackCardSaid : Prop := Claim7.holds Tryz.pinned (.plain (OpenSpec.ofChange draftBackSpec)) draftBackCard

/-- THE TIED CARD OF 'taquinlaw10.DraftJoins'. -/
def draftJoinsCard : Claim7 := { stood := { row := draftJoinsRow, standIns := [], harness := (true, "8071a4ed6acaf212ea9d509f4cbc47865df571e36338f397c75e822a59f2ace5"), looks := true }, kinds := [], alts := [], laidByText := true, laidKinds := [.data, .data, .data, .data, .sentinel, .sentinel, .pinned], laidTests := true, laidLooks := .later }
def DraftJoinsCardSaid : Prop := Claim7.holds Tryz.pinned (.plain (OpenSpec.ofChange draftJoinsSpec)) draftJoinsCard

/-- THE TIED CARD OF 'taquinlaw10.DraftBlanks'. -/
def draftBlanksCard : Claim7 := { stood := { row := draftBlanksRow, standIns := [], harness := (true, "8071a4ed6acaf212ea9d509f4cbc47865df571e36338f397c75e822a59f2ace5"), looks := true }, kinds := [], alts := [], laidByText := true, laidKinds := [.data, .data, .data, .data, .sentinel, .sentinel, .pinned], laidTests := true, laidLooks := .later }
def DraftBlanksCardSaid : Prop := Claim7.holds Tryz.pinned (.plain (OpenSpec.ofChange draftBlanksSpec)) draftBlanksCard

/-- THE SECOND FORM's CARD OF 'taquinlaw10.DraftTells'. -/
def draftTellsUptoCard : Claim7 := { stood := { row := draftTellsUptoRow, standIns := [], harness := (true, "8071a4ed6acaf212ea9d509f4cbc47865df571e36338f397c75e822a59f2ace5"), looks := true }, kinds := [], alts := [], laidByText := true, laidKinds := [.data, .data, .data, .data, .sentinel, .sentinel, .pinned], laidTests := true, laidLooks := .later }
def DraftTellsUptoCardSaid : Prop := Claim7.holds Tryz.pinned (.plain (OpenSpec.upto draftTellsSpec)) draftTellsUptoCard

/-- THE SECOND FORM's CARD OF 'taquinlaw10.DraftBack'. -/
def draftBackUptoCard : Claim7 := { stood := { row := draftBackUptoRow, standIns := [], harness := (true, "8071a4ed6acaf212ea9d509f4cbc47865df571e36338f397c75e822a59f2ace5"), looks := true }, kinds := [], alts := [], laidByText := true, laidKinds := [.data, .data, .data, .data, .sentinel, .sentinel, .pinned], laidTests := true, laidLooks := .later }
def DraftBackUptoCardSaid : Prop := Claim7.holds Tryz.pinned (.plain (OpenSpec.upto draftBackSpec)) draftBackUptoCard

/-- THE SECOND FORM's CARD OF 'taquinlaw10.DraftJoins'. -/
def draftJoinsUptoCard : Claim7 := { stood := { row := draftJoinsUptoRow, standIns := [], harness := (true, "8071a4ed6acaf212ea9d509f4cbc47865df571e36338f397c75e822a59f2ace5"), looks := true }, kinds := [], alts := [], laidByText := true, laidKinds := [.data, .data, .data, .data, .sentinel, .sentinel, .pinned], laidTests := true, laidLooks := .later }
def DraftJoinsUptoCardSaid : Prop := Claim7.holds Tryz.pinned (.plain (OpenSpec.upto draftJoinsSpec)) draftJoinsUptoCard

/-- THE SECOND FORM's CARD OF 'taquinlaw10.DraftBlanks'. -/
def draftBlanksUptoCard : Claim7 := { stood := { row := draftBlanksUptoRow, standIns := [], harness := (true, "8071a4ed6acaf212ea9d509f4cbc47865df571e36338f397c75e822a59f2ace5"), looks := true }, kinds := [], alts := [], laidByText := true, laidKinds := [.data, .data, .data, .data, .sentinel, .sentinel, .pinned], laidTests := true, laidLooks := .later }
def DraftBlanksUptoCardSaid : Prop := Claim7.holds Tryz.pinned (.plain (OpenSpec.upto draftBlanksSpec)) draftBlanksUptoCard
end Rows
end Go.Proofs.YtnccndfffmaonaaGreatDoor
