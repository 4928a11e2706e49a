/- Walks of package floor: steps. -/
import Derived.Test.YtcdfmgobokjcnaaFx
import Derived.Laws.Tables
namespace Go.Proofs.Ytcdfmgobokjcnaa
set_option linter.unusedSimpArgs false
set_option linter.unusedVariables false
open Go.RowKit

def stepsC : Array Value := #[.int .i64 1, .int .i64 0, .int .i64 0, .int .i64 0, .int .i64 1, .int .i64 0, .int .i64 (-1), .int .i64 0, .int .i64 0, .int .i64 0, .int .i64 (-1), .int .i64 0, .int .i64 0, .int .i64 0, .int .i64 1, .int .i64 0, .int .i64 0, .int .i64 (-1)]
set_option maxHeartbeats 1000000 in
theorem steps_any (w : World) : Calls Try.prog 88 #[] w fun e w' => e = .returned (.agg stepsC) ∧ Below w.heap.size w w' := by
  go_enter Try.func88, Try.ntmps88
  go_wp2_with (refine wpList_store_row rfl 133 (.tmp 0) (.tmp 7) rfl w.heap.size stepsC rfl rfl 133 _ (heap_alloc_new _ _) (by kernel_rfl) rfl (by kernel_rfl) ?_)
  refine bodyPost_ret (v := .agg stepsC) (results_cell_row (p := 0) (ty := 133) (by kernel_rfl) _ _ w.heap.size 133 stepsC (0, 0) _ rfl (setRow_heap _ _ _ _ _ _ (heap_alloc_new _ _)) Try.underlying133 rfl (by kernel_rfl)) rfl ⟨rfl, ?_⟩
  refine ((Below.refl _ w).alloc (Nat.le_refl _) _).trans ⟨rfl, rfl, rfl, by simp, fun k hk => setRow_other _ _ _ _ (by omega)⟩
end Go.Proofs.Ytcdfmgobokjcnaa
