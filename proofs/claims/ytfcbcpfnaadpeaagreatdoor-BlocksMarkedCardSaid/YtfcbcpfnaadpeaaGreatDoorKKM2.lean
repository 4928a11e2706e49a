/- Closed facts of the row blocksMarked, each reckoned by the kernel: part 2. -/
import Derived.Test.YtfcbcpfnaadpeaaGreatDoorRows
import Derived.JoinedOf
import Derived.KernelRfl
namespace Go.Proofs.YtfcbcpfnaadpeaaGreatDoor.blocksMarked
open Go
set_option linter.unusedVariables false
set_option maxHeartbeats 4000000 in
theorem fact9 : (fun (P : Program) (f : FuncId) (fn : Func) (s : ChangeSpec) (c : OpenClaim) => (c.inPlace == P.inPlace f)) Tryz.prog 8 Tryz.f8 Rows.blocksMarkedSpec Rows.blocksMarkedRow = true := by kernel_rfl
set_option maxHeartbeats 4000000 in
theorem fact10 : (fun (P : Program) (f : FuncId) (fn : Func) (s : ChangeSpec) (c : OpenClaim) => (c.unfollowed == P.unfollowed f)) Tryz.prog 8 Tryz.f8 Rows.blocksMarkedSpec Rows.blocksMarkedRow = true := by kernel_rfl
end Go.Proofs.YtfcbcpfnaadpeaaGreatDoor.blocksMarked
