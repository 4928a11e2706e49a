/- Closed facts of the row blocksMarked, each reckoned by the kernel: part 3. -/
import Derived.Test.YtfcbcpfnaadpeaaGreatDoorRows
import Derived.JoinedOf
import Derived.KernelRfl
namespace Go.Proofs.YtfcbcpfnaadpeaaGreatDoor.blocksMarked
open Go
set_option linter.unusedVariables false
set_option maxHeartbeats 4000000 in
theorem fact11 : (fun (P : Program) (f : FuncId) (fn : Func) (s : ChangeSpec) (c : OpenClaim) => (c.recurses == P.recurses f)) Tryz.prog 8 Tryz.f8 Rows.blocksMarkedSpec Rows.blocksMarkedRow = true := by kernel_rfl
set_option maxHeartbeats 4000000 in
theorem fact12 : (fun (P : Program) (f : FuncId) (fn : Func) (s : ChangeSpec) (c : OpenClaim) => (c.named == P.varsNamed f)) Tryz.prog 8 Tryz.f8 Rows.blocksMarkedSpec Rows.blocksMarkedRow = true := by kernel_rfl
end Go.Proofs.YtfcbcpfnaadpeaaGreatDoor.blocksMarked
