/- The closed facts of the row blocksMarked, joined. -/
import Derived.Test.YtfcbcpfnaadpeaaGreatDoorKKM1
import Derived.Test.YtfcbcpfnaadpeaaGreatDoorKKM2
import Derived.Test.YtfcbcpfnaadpeaaGreatDoorKKM3
import Derived.Test.YtfcbcpfnaadpeaaGreatDoorKKM4
import Derived.Test.YtfcbcpfnaadpeaaGreatDoorKKM5
import Derived.Test.YtfcbcpfnaadpeaaGreatDoorKKM6
namespace Go.Proofs.YtfcbcpfnaadpeaaGreatDoor.blocksMarked
open Go
set_option maxRecDepth 1000000 in
set_option maxHeartbeats 4000000 in
theorem closedFacts : joinedFacts Tryz.prog 8 Tryz.f8 Rows.blocksMarkedSpec Rows.blocksMarkedRow = true := by
  unfold joinedFacts
  exact (Bool.and_eq_true _ _).mpr ⟨(Bool.and_eq_true _ _).mpr ⟨(Bool.and_eq_true _ _).mpr ⟨(Bool.and_eq_true _ _).mpr ⟨(Bool.and_eq_true _ _).mpr ⟨(Bool.and_eq_true _ _).mpr ⟨(Bool.and_eq_true _ _).mpr ⟨(Bool.and_eq_true _ _).mpr ⟨(Bool.and_eq_true _ _).mpr ⟨(Bool.and_eq_true _ _).mpr ⟨(Bool.and_eq_true _ _).mpr ⟨(Bool.and_eq_true _ _).mpr ⟨(Bool.and_eq_true _ _).mpr ⟨(Bool.and_eq_true _ _).mpr ⟨(Bool.and_eq_true _ _).mpr ⟨(Bool.and_eq_true _ _).mpr ⟨(Bool.and_eq_true _ _).mpr ⟨(Bool.and_eq_true _ _).mpr ⟨(Bool.and_eq_true _ _).mpr ⟨(Bool.and_eq_true _ _).mpr ⟨(Bool.and_eq_true _ _).mpr ⟨(Bool.and_eq_true _ _).mpr ⟨(Bool.and_eq_true _ _).mpr ⟨(Bool.and_eq_true _ _).mpr ⟨(Bool.and_eq_true _ _).mpr ⟨(Bool.and_eq_true _ _).mpr ⟨(Bool.and_eq_true _ _).mpr ⟨(Bool.and_eq_true _ _).mpr ⟨(Bool.and_eq_true _ _).mpr ⟨(Bool.and_eq_true _ _).mpr ⟨(Bool.and_eq_true _ _).mpr ⟨fact0, fact1⟩, fact2⟩, fact3⟩, fact4⟩, fact5⟩, fact6⟩, fact7⟩, fact8⟩, fact9⟩, fact10⟩, fact11⟩, fact12⟩, fact13⟩, fact14⟩, fact15⟩, fact16⟩, fact17⟩, fact18⟩, fact19⟩, fact20⟩, fact21⟩, fact22⟩, fact23⟩, fact24⟩, fact25⟩, fact26⟩, fact27⟩, fact28⟩, fact29⟩, fact30⟩, fact31⟩
end Go.Proofs.YtfcbcpfnaadpeaaGreatDoor.blocksMarked
