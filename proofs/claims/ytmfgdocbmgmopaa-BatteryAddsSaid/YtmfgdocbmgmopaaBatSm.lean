/- taquinlaw13.small. -/
import Derived.Test.YtmfgdocbmgmopaaBatV
namespace Go.Proofs.Ytmfgdocbmgmopaa
open Go.RowKit

theorem lit3 (w : World) : SliceI (w.alloc (.cells #[.int .i64 7, .int .i64 1, .int .i64 8] 3)) (.slice (some ⟨w.heap.size, 0, none⟩) 3 3) [7, 1, 8] := by
  refine ⟨some ⟨w.heap.size, 0, none⟩, 3, rfl, by decide, ?_, ?_⟩
  · intro x hx; simp at hx; unfold I64; omega
  · intro i hi
    refine ⟨w.heap.size, 0, rfl, ?_⟩
    have h := World.alloc_heap_new w (.cells #[.int .i64 7, .int .i64 1, .int .i64 8] 3)
    have hi' : i < 3 := hi
    have : i = 0 ∨ i = 1 ∨ i = 2 := by omega
    rcases this with rfl | rfl | rfl <;> (unfold World.cell?; dsimp only; rw [h]; rfl)

set_option maxHeartbeats 1000000 in
theorem small_any (w : World) :
    Calls Try.prog 8 #[] w fun e w' => e = .returned (.bool true) ∧ Below w.heap.size w w' := by
  have e1 : Bat.cost 0 5 true = 7 := by decide
  have e2 : Bat.cost 20000 5 true = 21 := by decide
  have e3 : Bat.cost 1000 0 false = 2 := by decide
  have e4 : Bat.cost 999 0 false = 1 := by decide
  have e5 : Bat.sum 0 [7, 1, 8] false = 8 := by decide
  have e6 : Bat.after 5 999990 9 false = (1000000, 0) := by decide
  have hS := (lit3 w)
  have HS := Lib.hid hS
  clear hS
  go_enter Try.func8, Try.ntmps8
  go_wp2_with (first
    | (go_at_call 9; refine (Cost_any _ _ _ _ (by unfold I64; omega) (by unfold I64; omega)).mono ?_; rintro e w' ⟨rfl, rfl⟩)
    | (go_at_call 13; refine (Sum_any _ _ [7, 1, 8] _ _ HS.out (by omega) (by decide)).mono ?_; rintro e w1 ⟨rfl, hb⟩)
    | (go_at_call 16; refine (After_any _ _ _ _ _ (by unfold I64; omega) (by unfold I64; omega) (by unfold I64; omega)).mono ?_; rintro e w' ⟨rfl, rfl⟩))
  go_ret
  exact ⟨rfl, ((Below.refl _ _).alloc (Nat.le_refl _) _).trans (hb.mono (by simp))⟩
end Go.Proofs.Ytmfgdocbmgmopaa
