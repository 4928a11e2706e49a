/- The closed facts of the row verifyEnds, joined. -/
import Derived.Test.YtfcbcpfnaadpeaaGreatDoorKE1
import Derived.Test.YtfcbcpfnaadpeaaGreatDoorKE2
import Derived.Test.YtfcbcpfnaadpeaaGreatDoorKE3
import Derived.Test.YtfcbcpfnaadpeaaGreatDoorKE4
import Derived.Test.YtfcbcpfnaadpeaaGreatDoorKE5
import Derived.Test.YtfcbcpfnaadpeaaGreatDoorKE6
import Derived.Test.YtfcbcpfnaadpeaaGreatDoorKE7
import Derived.Test.YtfcbcpfnaadpeaaGreatDoorKE8
import Derived.Test.YtfcbcpfnaadpeaaGreatDoorKE9
import Derived.Test.YtfcbcpfnaadpeaaGreatDoorKE10
import Derived.Test.YtfcbcpfnaadpeaaGreatDoorKE11
namespace Go.Proofs.YtfcbcpfnaadpeaaGreatDoor.verifyEnds
open Go
set_option maxRecDepth 1000000 in
set_option maxHeartbeats 4000000 in
theorem closedFacts : joinedFacts Tryz.prog 4 Tryz.f4 Rows.verifyEndsSpec Rows.verifyEndsRow = true := by
  unfold joinedFacts
  exact (Bool.and_eq_true _ _).mpr ⟨(Bool.and_eq_true _ _).mpr ⟨(Bool.and_eq_true _ _).mpr ⟨(Bool.and_eq_true _ _).mpr ⟨(Bool.and_eq_true _ _).mpr ⟨(Bool.and_eq_true _ _).mpr ⟨(Bool.and_eq_true _ _).mpr ⟨(Bool.and_eq_true _ _).mpr ⟨(Bool.and_eq_true _ _).mpr ⟨(Bool.and_eq_true _ _).mpr ⟨(Bool.and_eq_true _ _).mpr ⟨(Bool.and_eq_true _ _).mpr ⟨(Bool.and_eq_true _ _).mpr ⟨(Bool.and_eq_true _ _).mpr ⟨(Bool.and_eq_true _ _).mpr ⟨(Bool.and_eq_true _ _).mpr ⟨(Bool.and_eq_true _ _).mpr ⟨(Bool.and_eq_true _ _).mpr ⟨(Bool.and_eq_true _ _).mpr ⟨(Bool.and_eq_true _ _).mpr ⟨(Bool.and_eq_true _ _).mpr ⟨(Bool.and_eq_true _ _).mpr ⟨(Bool.and_eq_true _ _).mpr ⟨(Bool.and_eq_true _ _).mpr ⟨(Bool.and_eq_true _ _).mpr ⟨(Bool.and_eq_true _ _).mpr ⟨(Bool.and_eq_true _ _).mpr ⟨(Bool.and_eq_true _ _).mpr ⟨(Bool.and_eq_true _ _).mpr ⟨(Bool.and_eq_true _ _).mpr ⟨(Bool.and_eq_true _ _).mpr ⟨fact0, fact1⟩, fact2⟩, fact3⟩, fact4⟩, fact5⟩, fact6⟩, fact7⟩, fact8⟩, fact9⟩, fact10⟩, fact11⟩, fact12⟩, fact13⟩, fact14⟩, fact15⟩, fact16⟩, fact17⟩, fact18⟩, fact19⟩, fact20⟩, fact21⟩, fact22⟩, fact23⟩, fact24⟩, fact25⟩, fact26⟩, fact27⟩, fact28⟩, fact29⟩, fact30⟩, fact31⟩
end Go.Proofs.YtfcbcpfnaadpeaaGreatDoor.verifyEnds
