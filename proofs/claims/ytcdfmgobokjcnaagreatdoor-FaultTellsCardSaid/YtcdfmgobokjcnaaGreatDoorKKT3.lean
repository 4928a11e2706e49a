/- Closed facts of the row faultTells, each reckoned by the kernel: part 3. -/
import Derived.Test.YtcdfmgobokjcnaaGreatDoorRows
import Derived.JoinedOf
import Derived.KernelRfl
namespace Go.Proofs.YtcdfmgobokjcnaaGreatDoor.faultTells
open Go
set_option linter.unusedVariables false
set_option maxHeartbeats 4000000 in
theorem fact11 : (fun (P : Program) (f : FuncId) (fn : Func) (s : ChangeSpec) (c : OpenClaim) => (c.recurses == P.recurses f)) Tryz.prog 3 Tryz.f3 Rows.faultTellsSpec Rows.faultTellsRow = true := by kernel_rfl
set_option maxHeartbeats 4000000 in
theorem fact12 : (fun (P : Program) (f : FuncId) (fn : Func) (s : ChangeSpec) (c : OpenClaim) => (c.named == P.varsNamed f)) Tryz.prog 3 Tryz.f3 Rows.faultTellsSpec Rows.faultTellsRow = true := by kernel_rfl
end Go.Proofs.YtcdfmgobokjcnaaGreatDoor.faultTells
