/-
  DERIVED. GIVEN WITH THE SEED: THE CARDS: each row of YtfcbcpfnaadpeaaDoorRows.lean that lists a variable, with what it lists TIED to the program's text (the seventh form; the later family's looks); each row that meets fmt, with fmt's text TOLD by the authors' own Lean function (tested against real Go, not proved from fmt's source: count such statements apart). THE CARD IS WHAT COUNTS. Prove the row's statement (the work); the ties are given (YtfcbcpfnaadpeaaDoorTie.lean); close each card by the builder's one call (the guide's Derived/Test/ToyasCard.lean, 'card_holds'). Laid BY PROGRAM, IN A SANDBOX (cutbox-door.mjs). By AI agents, Wed Nov 11 2026. No macro, syntax, notation, axiom, sorry.
-/
import Derived.Test.YtfcbcpfnaadpeaaDoorRows
import GoSem.ClaimSeven
namespace Go.Proofs.YtfcbcpfnaadpeaaDoor
namespace Rows

/-- THE TIED CARD OF 'taquinlaw19.BlocksSiphons'. -/
def blocksSiphonsCard : Claim7 := { stood := { row := blocksSiphonsRow, standIns := [], harness := (true, "7e3ccb568bef815531c2208b4c566cd60dcca38d02e331efe2bccc693965b259"), looks := false }, kinds := [], alts := [], laidByText := true, laidKinds := [.data], laidTests := true, laidLooks := .later }
def BlocksSiphonsCardSaid : Prop := Claim7.holds Tryd.pinned (.plain (OpenSpec.ofChange blocksSiphonsSpec)) blocksSiphonsCard

/-- THE TIED CARD OF 'taquinlaw19.BlocksLinks'. -/
def blocksLinksCard : Claim7 := { stood := { row := blocksLinksRow, standIns := [], harness := (true, "7e3ccb568bef815531c2208b4c566cd60dcca38d02e331efe2bccc693965b259"), looks := false }, kinds := [], alts := [], laidByText := true, laidKinds := [.data], laidTests := true, laidLooks := .later }
def BlocksLinksCardSaid : Prop := Claim7.holds Tryd.pinned (.plain (OpenSpec.ofChange blocksLinksSpec)) blocksLinksCard

/-- THE SECOND FORM's CARD OF 'taquinlaw19.BlocksSiphons'. -/
def blocksSiphonsUptoCard : Claim7 := { stood := { row := blocksSiphonsUptoRow, standIns := [], harness := (true, "7e3ccb568bef815531c2208b4c566cd60dcca38d02e331efe2bccc693965b259"), looks := false }, kinds := [], alts := [], laidByText := true, laidKinds := [.data], laidTests := true, laidLooks := .later }
def BlocksSiphonsUptoCardSaid : Prop := Claim7.holds Tryd.pinned (.plain (OpenSpec.upto blocksSiphonsSpec)) blocksSiphonsUptoCard

/-- THE SECOND FORM's CARD OF 'taquinlaw19.BlocksLinks'. -/
def blocksLinksUptoCard : Claim7 := { stood := { row := blocksLinksUptoRow, standIns := [], harness := (true, "7e3ccb568bef815531c2208b4c566cd60dcca38d02e331efe2bccc693965b259"), looks := false }, kinds := [], alts := [], laidByText := true, laidKinds := [.data], laidTests := true, laidLooks := .later }
def BlocksLinksUptoCardSaid : Prop := Claim7.holds Tryd.pinned (.plain (OpenSpec.upto blocksLinksSpec)) blocksLinksUptoCard
end Rows
end Go.Proofs.YtfcbcpfnaadpeaaDoor
