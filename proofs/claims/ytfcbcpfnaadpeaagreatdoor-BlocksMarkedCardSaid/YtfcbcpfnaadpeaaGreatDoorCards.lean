/-
  DERIVED. GIVEN WITH THE SEED: THE CARDS: each row of YtfcbcpfnaadpeaaGreatDoorRows.lean that lists a variable, with what it lists TIED to the program's text (the seventh form; the later family's looks); each row that meets fmt, with fmt's text TOLD by the authors' own Lean function (tested against real Go, not proved from fmt's source: count such statements apart). THE CARD IS WHAT COUNTS. Prove the row's statement (the work); the ties are given (YtfcbcpfnaadpeaaGreatDoorTie.lean); close each card by the builder's one call (the guide's Derived/Test/ToyasCard.lean, 'card_holds'). Laid BY PROGRAM, IN A SANDBOX (cutbox-door.mjs). By AI agents, Wed Nov 11 2026. No macro, syntax, notation, axiom, sorry.
-/
import Derived.Test.YtfcbcpfnaadpeaaGreatDoorRows
import GoSem.ClaimSeven
namespace Go.Proofs.YtfcbcpfnaadpeaaGreatDoor
namespace Rows

/-- THE TIED CARD OF 'taquinlaw20.VerifyRefuses'. -/
def verifyRefusesCard : Claim7 := { stood := { row := verifyRefusesRow, standIns := [], harness := (true, "528a447496091299c0f3cf50067d9cdf912dc1903cc5aa5226f2524650d43ba3"), looks := true }, kinds := [], alts := [], laidByText := true, laidKinds := [.data], laidTests := true, laidLooks := .later }
def VerifyRefusesCardSaid : Prop := Claim7.holds Tryz.pinned (.plain (OpenSpec.ofChange verifyRefusesSpec)) verifyRefusesCard

/-- THE TIED CARD OF 'taquinlaw20.VerifyEnds'. -/
def verifyEndsCard : Claim7 := { stood := { row := verifyEndsRow, standIns := [], harness := (true, "528a447496091299c0f3cf50067d9cdf912dc1903cc5aa5226f2524650d43ba3"), looks := true }, kinds := [], alts := [], laidByText := true, laidKinds := [.data], laidTests := true, laidLooks := .later }
def VerifyEndsCardSaid : Prop := Claim7.holds Tryz.pinned (.plain (OpenSpec.ofChange verifyEndsSpec)) verifyEndsCard

/-- THE TIED CARD OF 'taquinlaw20.VerifyTells'. -/
def verifyTellsCard : Claim7 := { stood := { row := verifyTellsRow, standIns := [], harness := (true, "528a447496091299c0f3cf50067d9cdf912dc1903cc5aa5226f2524650d43ba3"), looks := true }, kinds := [], alts := [], laidByText := true, laidKinds := [.data], laidTests := true, laidLooks := .later }
def VerifyTellsCardSaid : Prop := Claim7.holds Tryz.pinned (.plain (OpenSpec.ofChange verifyTellsSpec)) verifyTellsCard

/-- THE TIED CARD OF 'taquinlaw19.BlocksBack'. -/
def blocksBackCard : Claim7 := { stood := { row := blocksBackRow, standIns := [], harness := (true, "528a447496091299c0f3cf50067d9cdf912dc1903cc5aa5226f2524650d43ba3"), looks := true }, kinds := [], alts := [], laidByText := true, laidKinds := [.data, .data, .data, .sentinel, .sentinel], laidTests := true, laidLooks := .later }
def BlocksBackCardSaid : Prop := Claim7.holds Tryz.pinned (.plain (OpenSpec.ofChange blocksBackSpec)) blocksBackCard

/-- THE TIED CARD OF 'taquinlaw20.VerifyBuilds'. -/
def verifyBuildsCard : Claim7 := { stood := { row := verifyBuildsRow, standIns := [], harness := (true, "528a447496091299c0f3cf50067d9cdf912dc1903cc5aa5226f2524650d43ba3"), looks := true }, kinds := [], alts := [], laidByText := true, laidKinds := [.data, .data, .data], laidTests := true, laidLooks := .later }
def VerifyBuildsCardSaid : Prop := Claim7.holds Tryz.pinned (.plain (OpenSpec.ofChange verifyBuildsSpec)) verifyBuildsCard

/-- THE TIED CARD OF 'taquinlaw19.BlocksMarked'. -/
def blocksMarkedCard : Claim7 := { stood := { row := blocksMarkedRow, standIns := [], harness := (true, "528a447496091299c0f3cf50067d9cdf912dc1903cc5aa5226f2524650d43ba3"), looks := true }, kinds := [], alts := [], laidByText := true, laidKinds := [.data], laidTests := true, laidLooks := .later }
def BlocksMarkedCardSaid : Prop := Claim7.holds Tryz.pinned (.plain (OpenSpec.ofChange blocksMarkedSpec)) blocksMarkedCard

/-- THE TIED CARD OF 'taquinlaw20.VerifySpare'. -/
def verifySpareCard : Claim7 := { stood := { row := verifySpareRow, standIns := [], harness := (true, "528a447496091299c0f3cf50067d9cdf912dc1903cc5aa5226f2524650d43ba3"), looks := true }, kinds := [], alts := [], laidByText := true, laidKinds := [.data], laidTests := true, laidLooks := .later }
def VerifySpareCardSaid : Prop := Claim7.holds Tryz.pinned (.plain (OpenSpec.ofChange verifySpareSpec)) verifySpareCard

/-- THE SECOND FORM's CARD OF 'taquinlaw20.VerifyRefuses'. -/
def verifyRefusesUptoCard : Claim7 := { stood := { row := verifyRefusesUptoRow, standIns := [], harness := (true, "528a447496091299c0f3cf50067d9cdf912dc1903cc5aa5226f2524650d43ba3"), looks := true }, kinds := [], alts := [], laidByText := true, laidKinds := [.data], laidTests := true, laidLooks := .later }
def VerifyRefusesUptoCardSaid : Prop := Claim7.holds Tryz.pinned (.plain (OpenSpec.upto verifyRefusesSpec)) verifyRefusesUptoCard

/-- THE SECOND FORM's CARD OF 'taquinlaw20.VerifyEnds'. -/
def verifyEndsUptoCard : Claim7 := { stood := { row := verifyEndsUptoRow, standIns := [], harness := (true, "528a447496091299c0f3cf50067d9cdf912dc1903cc5aa5226f2524650d43ba3"), looks := true }, kinds := [], alts := [], laidByText := true, laidKinds := [.data], laidTests := true, laidLooks := .later }
def VerifyEndsUptoCardSaid : Prop := Claim7.holds Tryz.pinned (.plain (OpenSpec.upto verifyEndsSpec)) verifyEndsUptoCard

/-- THE SECOND FORM's CARD OF 'taquinlaw20.VerifyTells'. -/
def verifyTellsUptoCard : Claim7 := { stood := { row := verifyTellsUptoRow, standIns := [], harness := (true, "528a447496091299c0f3cf50067d9cdf912dc1903cc5aa5226f2524650d43ba3"), looks := true }, kinds := [], alts := [], laidByText := true, laidKinds := [.data], laidTests := true, laidLooks := .later }
def VerifyTellsUptoCardSaid : Prop := Claim7.holds Tryz.pinned (.plain (OpenSpec.upto verifyTellsSpec)) verifyTellsUptoCard

/-- THE SECOND FORM's CARD OF 'taquinlaw19.BlocksBack'. -/
def blocksBackUptoCard : Claim7 := { stood := { row := blocksBackUptoRow, standIns := [], harness := (true, "528a447496091299c0f3cf50067d9cdf912dc1903cc5aa5226f2524650d43ba3"), looks := true }, kinds := [], alts := [], laidByText := true, laidKinds := [.data, .data, .data, .sentinel, .sentinel], laidTests := true, laidLooks := .later }
def BlocksBackUptoCardSaid : Prop := Claim7.holds Tryz.pinned (.plain (OpenSpec.upto blocksBackSpec)) blocksBackUptoCard

/-- THE SECOND FORM's CARD OF 'taquinlaw20.VerifyBuilds'. -/
def verifyBuildsUptoCard : Claim7 := { stood := { row := verifyBuildsUptoRow, standIns := [], harness := (true, "528a447496091299c0f3cf50067d9cdf912dc1903cc5aa5226f2524650d43ba3"), looks := true }, kinds := [], alts := [], laidByText := true, laidKinds := [.data, .data, .data], laidTests := true, laidLooks := .later }
def VerifyBuildsUptoCardSaid : Prop := Claim7.holds Tryz.pinned (.plain (OpenSpec.upto verifyBuildsSpec)) verifyBuildsUptoCard

/-- THE SECOND FORM's CARD OF 'taquinlaw19.BlocksMarked'. -/
def blocksMarkedUptoCard : Claim7 := { stood := { row := blocksMarkedUptoRow, standIns := [], harness := (true, "528a447496091299c0f3cf50067d9cdf912dc1903cc5aa5226f2524650d43ba3"), looks := true }, kinds := [], alts := [], laidByText := true, laidKinds := [.data], laidTests := true, laidLooks := .later }
def BlocksMarkedUptoCardSaid : Prop := Claim7.holds Tryz.pinned (.plain (OpenSpec.upto blocksMarkedSpec)) blocksMarkedUptoCard

/-- THE SECOND FORM's CARD OF 'taquinlaw20.VerifySpare'. -/
def verifySpareUptoCard : Claim7 := { stood := { row := verifySpareUptoRow, standIns := [], harness := (true, "528a447496091299c0f3cf50067d9cdf912dc1903cc5aa5226f2524650d43ba3"), looks := true }, kinds := [], alts := [], laidByText := true, laidKinds := [.data], laidTests := true, laidLooks := .later }
def VerifySpareUptoCardSaid : Prop := Claim7.holds Tryz.pinned (.plain (OpenSpec.upto verifySpareSpec)) verifySpareUptoCard
end Rows
end Go.Proofs.YtfcbcpfnaadpeaaGreatDoor
