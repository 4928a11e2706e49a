/- Parts Ff, Fg, Fh, Fi of this claim, laid one behind the other: walks and the plain laws behind them; each contract states its own conditions. -/
import Derived.Test.YtfcbcpfnaadpeaaGreatDoorZC
import Derived.Test.YtfcbcpfnaadpeaaGreatDoorZB
namespace Go.Proofs.YtfcbcpfnaadpeaaGreatDoor
set_option linter.unusedSimpArgs false
set_option linter.unusedVariables false
open Go.RowKit
theorem is_new1 {W : World} {N : Nat} {a : Int} {t : TypeId} (h : W.heap[N]? = some (.cells #[.int .i64 a] t (0, 0))) : Is W (.slice (some ⟨N, 0, none⟩) 1 1) [a] := by
 refine ⟨some ⟨N, 0, none⟩, 1, rfl, by simp [ints, maxLen], (fun h => by cases h), fun i hi => ⟨N, 0, rfl, ?_⟩⟩
 have : i = 0 := by simp [ints] at hi; omega
 subst this
 exact cell_of_heap h 0 rfl
end Go.Proofs.YtfcbcpfnaadpeaaGreatDoor
