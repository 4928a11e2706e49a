/- Closed facts of the row faultTells, each reckoned by the kernel: part 1. -/
import Derived.Test.YtcdfmgobokjcnaaGreatDoorRows
import Derived.JoinedOf
import Derived.KernelRfl
namespace Go.Proofs.YtcdfmgobokjcnaaGreatDoor.faultTells
open Go
set_option linter.unusedVariables false
set_option maxHeartbeats 4000000 in
theorem fact1 : (fun (P : Program) (f : FuncId) (fn : Func) (s : ChangeSpec) (c : OpenClaim) => laidOutB P) Tryz.prog 3 Tryz.f3 Rows.faultTellsSpec Rows.faultTellsRow = true := by kernel_rfl
set_option maxHeartbeats 4000000 in
theorem fact2 : (fun (P : Program) (f : FuncId) (fn : Func) (s : ChangeSpec) (c : OpenClaim) => mapsRowed P) Tryz.prog 3 Tryz.f3 Rows.faultTellsSpec Rows.faultTellsRow = true := by kernel_rfl
end Go.Proofs.YtcdfmgobokjcnaaGreatDoor.faultTells
