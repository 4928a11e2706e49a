/- Closed facts of the row verifyEnds, each reckoned by the kernel: part 2. -/
import Derived.Test.YtfcbcpfnaadpeaaGreatDoorRows
import Derived.JoinedOf
import Derived.KernelRfl
namespace Go.Proofs.YtfcbcpfnaadpeaaGreatDoor.verifyEnds
open Go
set_option linter.unusedVariables false
set_option maxHeartbeats 4000000 in
theorem fact2 : (fun (P : Program) (f : FuncId) (fn : Func) (s : ChangeSpec) (c : OpenClaim) => mapsRowed P) Tryz.prog 4 Tryz.f4 Rows.verifyEndsSpec Rows.verifyEndsRow = true := by kernel_rfl
end Go.Proofs.YtfcbcpfnaadpeaaGreatDoor.verifyEnds
