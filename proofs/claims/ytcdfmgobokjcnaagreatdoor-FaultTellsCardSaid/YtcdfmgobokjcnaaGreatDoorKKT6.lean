/- Closed facts of the row faultTells, each reckoned by the kernel: part 6. -/
import Derived.Test.YtcdfmgobokjcnaaGreatDoorRows
import Derived.JoinedOf
import Derived.KernelRfl
namespace Go.Proofs.YtcdfmgobokjcnaaGreatDoor.faultTells
open Go
set_option linter.unusedVariables false
set_option maxHeartbeats 4000000 in
theorem fact0 : (fun (P : Program) (f : FuncId) (fn : Func) (s : ChangeSpec) (c : OpenClaim) => c.wf (OpenSpec.ofChange s)) Tryz.prog 3 Tryz.f3 Rows.faultTellsSpec Rows.faultTellsRow = true := by kernel_rfl
set_option maxHeartbeats 4000000 in
theorem fact3 : (fun (P : Program) (f : FuncId) (fn : Func) (s : ChangeSpec) (c : OpenClaim) => fn.params.all (P.readableRec ·)) Tryz.prog 3 Tryz.f3 Rows.faultTellsSpec Rows.faultTellsRow = true := by kernel_rfl
set_option maxHeartbeats 4000000 in
theorem fact4 : (fun (P : Program) (f : FuncId) (fn : Func) (s : ChangeSpec) (c : OpenClaim) => namedTie P c.named s.vars) Tryz.prog 3 Tryz.f3 Rows.faultTellsSpec Rows.faultTellsRow = true := by kernel_rfl
set_option maxHeartbeats 4000000 in
theorem fact5 : (fun (P : Program) (f : FuncId) (fn : Func) (s : ChangeSpec) (c : OpenClaim) => (c.stops == [])) Tryz.prog 3 Tryz.f3 Rows.faultTellsSpec Rows.faultTellsRow = true := by kernel_rfl
set_option maxHeartbeats 4000000 in
theorem fact6 : (fun (P : Program) (f : FuncId) (fn : Func) (s : ChangeSpec) (c : OpenClaim) => (P.stops == [])) Tryz.prog 3 Tryz.f3 Rows.faultTellsSpec Rows.faultTellsRow = true := by kernel_rfl
set_option maxHeartbeats 4000000 in
theorem fact7 : (fun (P : Program) (f : FuncId) (fn : Func) (s : ChangeSpec) (c : OpenClaim) => (c.knobs == [])) Tryz.prog 3 Tryz.f3 Rows.faultTellsSpec Rows.faultTellsRow = true := by kernel_rfl
set_option maxHeartbeats 4000000 in
theorem fact8 : (fun (P : Program) (f : FuncId) (fn : Func) (s : ChangeSpec) (c : OpenClaim) => (P.stopKnobs == [])) Tryz.prog 3 Tryz.f3 Rows.faultTellsSpec Rows.faultTellsRow = true := by kernel_rfl
set_option maxHeartbeats 4000000 in
theorem fact13 : (fun (P : Program) (f : FuncId) (fn : Func) (s : ChangeSpec) (c : OpenClaim) => (c.maps == (fn.params.toList ++ s.plain.varTypes P).any (P.mapsRec ·))) Tryz.prog 3 Tryz.f3 Rows.faultTellsSpec Rows.faultTellsRow = true := by kernel_rfl
set_option maxHeartbeats 4000000 in
theorem fact14 : (fun (P : Program) (f : FuncId) (fn : Func) (s : ChangeSpec) (c : OpenClaim) => (c.ifaces == (fn.params.toList ++ s.plain.varTypes P).any (P.ifacesRec ·))) Tryz.prog 3 Tryz.f3 Rows.faultTellsSpec Rows.faultTellsRow = true := by kernel_rfl
set_option maxHeartbeats 4000000 in
theorem fact15 : (fun (P : Program) (f : FuncId) (fn : Func) (s : ChangeSpec) (c : OpenClaim) => (c.mapsOut == P.mapsAmong fn.resultTypes.toList)) Tryz.prog 3 Tryz.f3 Rows.faultTellsSpec Rows.faultTellsRow = true := by kernel_rfl
set_option maxHeartbeats 4000000 in
theorem fact16 : (fun (P : Program) (f : FuncId) (fn : Func) (s : ChangeSpec) (c : OpenClaim) => (c.loops == (fn.params.toList ++ s.plain.varTypes P).any (P.loopsFrom ·))) Tryz.prog 3 Tryz.f3 Rows.faultTellsSpec Rows.faultTellsRow = true := by kernel_rfl
set_option maxHeartbeats 4000000 in
theorem fact17 : (fun (P : Program) (f : FuncId) (fn : Func) (s : ChangeSpec) (c : OpenClaim) => (c.wideKeys == (fn.params.toList ++ s.plain.varTypes P ++ fn.resultTypes.toList).any (P.wideKeysFrom ·))) Tryz.prog 3 Tryz.f3 Rows.faultTellsSpec Rows.faultTellsRow = true := by kernel_rfl
set_option maxHeartbeats 4000000 in
theorem fact18 : (fun (P : Program) (f : FuncId) (fn : Func) (s : ChangeSpec) (c : OpenClaim) => s.vars.all (P.varReadable ·)) Tryz.prog 3 Tryz.f3 Rows.faultTellsSpec Rows.faultTellsRow = true := by kernel_rfl
set_option maxHeartbeats 4000000 in
theorem fact19 : (fun (P : Program) (f : FuncId) (fn : Func) (s : ChangeSpec) (c : OpenClaim) => fn.resultTypes.all (fun t => P.readableRec t && decide (t < P.types.size))) Tryz.prog 3 Tryz.f3 Rows.faultTellsSpec Rows.faultTellsRow = true := by kernel_rfl
set_option maxHeartbeats 4000000 in
theorem fact20 : (fun (P : Program) (f : FuncId) (fn : Func) (s : ChangeSpec) (c : OpenClaim) => (c.ifacesOut == fn.resultTypes.toList.any (P.ifacesRec ·))) Tryz.prog 3 Tryz.f3 Rows.faultTellsSpec Rows.faultTellsRow = true := by kernel_rfl
set_option maxHeartbeats 4000000 in
theorem fact21 : (fun (P : Program) (f : FuncId) (fn : Func) (s : ChangeSpec) (c : OpenClaim) => (c.loopsOut == fn.resultTypes.toList.any (P.loopsFrom ·))) Tryz.prog 3 Tryz.f3 Rows.faultTellsSpec Rows.faultTellsRow = true := by kernel_rfl
set_option maxHeartbeats 4000000 in
theorem fact23 : (fun (P : Program) (f : FuncId) (fn : Func) (s : ChangeSpec) (c : OpenClaim) => c.shortTexts.isNone) Tryz.prog 3 Tryz.f3 Rows.faultTellsSpec Rows.faultTellsRow = true := by kernel_rfl
set_option maxHeartbeats 4000000 in
theorem fact27 : (fun (P : Program) (f : FuncId) (fn : Func) (s : ChangeSpec) (c : OpenClaim) => (P.make == some c.make)) Tryz.prog 3 Tryz.f3 Rows.faultTellsSpec Rows.faultTellsRow = true := by kernel_rfl
set_option maxHeartbeats 4000000 in
theorem fact28 : (fun (P : Program) (f : FuncId) (fn : Func) (s : ChangeSpec) (c : OpenClaim) => (c.kinds == (if c.domain.isEmpty then [] else fn.params.toList.map fun t => match P.underlying t with | some (.int k) => some k | _ => none))) Tryz.prog 3 Tryz.f3 Rows.faultTellsSpec Rows.faultTellsRow = true := by kernel_rfl
set_option maxHeartbeats 4000000 in
theorem fact29 : (fun (P : Program) (f : FuncId) (fn : Func) (s : ChangeSpec) (c : OpenClaim) => (c.pinned == c.pinnedBy)) Tryz.prog 3 Tryz.f3 Rows.faultTellsSpec Rows.faultTellsRow = true := by kernel_rfl
set_option maxHeartbeats 4000000 in
theorem fact30 : (fun (P : Program) (f : FuncId) (fn : Func) (s : ChangeSpec) (c : OpenClaim) => (c.veiled == (fn.params.toList ++ s.plain.varTypes P ++ fn.resultTypes.toList).any (P.veiledRec ·))) Tryz.prog 3 Tryz.f3 Rows.faultTellsSpec Rows.faultTellsRow = true := by kernel_rfl
set_option maxHeartbeats 4000000 in
theorem fact31 : (fun (P : Program) (f : FuncId) (fn : Func) (s : ChangeSpec) (c : OpenClaim) => c.veiledFits P fn.params.toList (fn.params.toList ++ s.plain.varTypes P ++ fn.resultTypes.toList)) Tryz.prog 3 Tryz.f3 Rows.faultTellsSpec Rows.faultTellsRow = true := by kernel_rfl
end Go.Proofs.YtcdfmgobokjcnaaGreatDoor.faultTells
