/- Walks of package fault: the numbers of a budget; Right, Left, longest. -/
import Derived.Test.YtcdfmgobokjcnaaBd
namespace Go.Proofs.Ytcdfmgobokjcnaa
set_option linter.unusedSimpArgs false
set_option linter.unusedVariables false
open Go.RowKit

set_option maxHeartbeats 1000000 in
theorem between_any (n a b : Int) (w : World) :
    Calls Try.prog 14 #[.int .i64 n, .int .i64 a, .int .i64 b] w fun e w' => e = .returned (.bool (Fa.within n a b)) ∧ w = w' := by
  by_cases h1 : a ≤ n
  · have HW : Hid (Fa.within n a b = decide (n ≤ b)) := Lib.hid (by simp [Fa.within, h1])
    go_enter Try.func14, Try.ntmps14
    go_wp2_with fail
    go_ret
    exact ⟨by rw [HW.out]; rfl, rfl⟩
  · have HW : Hid (Fa.within n a b = false) := Lib.hid (by simp [Fa.within, h1])
    go_enter Try.func14, Try.ntmps14
    go_wp2_with fail
    go_ret
    exact ⟨by rw [HW.out]; rfl, rfl⟩
set_option maxHeartbeats 1000000 in
theorem stops_any (B : Nat) (w : World) : Calls Try.prog 29 #[.pointer (some ⟨B, 0, none⟩)] w fun e w' => e = .returned (.pointer (some ⟨B, 0, none⟩)) ∧ w = w' := by
  go_enter Try.func29, Try.ntmps29
  go_wp2_with fail
  go_ret
  exact ⟨rfl, rfl⟩
set_option maxHeartbeats 1000000 in
theorem cells_any (B : Nat) (w : World) : Calls Try.prog 30 #[.pointer (some ⟨B, 0, none⟩)] w fun e w' => e = .returned (.pointer (some ⟨B, 1, none⟩)) ∧ w = w' := by
  go_enter Try.func30, Try.ntmps30
  go_wp2_with fail
  go_ret
  exact ⟨rfl, rfl⟩
set_option maxHeartbeats 1000000 in
theorem mutes_any (B : Nat) (w : World) : Calls Try.prog 31 #[.pointer (some ⟨B, 0, none⟩)] w fun e w' => e = .returned (.pointer (some ⟨B, 2, none⟩)) ∧ w = w' := by
  go_enter Try.func31, Try.ntmps31
  go_wp2_with fail
  go_ret
  exact ⟨rfl, rfl⟩
set_option maxHeartbeats 1000000 in
theorem lifts_any (B : Nat) (w : World) : Calls Try.prog 32 #[.pointer (some ⟨B, 0, none⟩)] w fun e w' => e = .returned (.pointer (some ⟨B, 4, none⟩)) ∧ w = w' := by
  go_enter Try.func32, Try.ntmps32
  go_wp2_with fail
  go_ret
  exact ⟨rfl, rfl⟩
set_option maxHeartbeats 1000000 in
theorem stepsN_any (B : Nat) (w : World) : Calls Try.prog 33 #[.pointer (some ⟨B, 0, none⟩)] w fun e w' => e = .returned (.pointer (some ⟨B, 6, none⟩)) ∧ w = w' := by
  go_enter Try.func33, Try.ntmps33
  go_wp2_with fail
  go_ret
  exact ⟨rfl, rfl⟩
/-- Where in a budget the number of a kind lies. -/
def offN (k : Int) : Nat := if k = 1 then 0 else if k = 2 then 1 else if k = 3 then 2 else if k = 4 then 4 else 6
/-- The pointer to the number of a kind. -/
def numP (B : Nat) (k : Int) : Value := if 1 ≤ k ∧ k ≤ 5 then .pointer (some ⟨B, offN k, none⟩) else .pointer none
theorem numP_in {B : Nat} {k : Int} (h : 1 ≤ k ∧ k ≤ 5) : numP B k = .pointer (some ⟨B, offN k, none⟩) := by unfold numP; rw [if_pos h]
theorem numP_out {B : Nat} {k : Int} (h : ¬ (1 ≤ k ∧ k ≤ 5)) : numP B k = .pointer none := by unfold numP; rw [if_neg h]
theorem budA_num (b : Fa.Bud) (k : Int) : (budA b)[offN k]? = some (.int .i64 (Fa.num b k)) := by
  unfold offN Fa.num budA
  repeat' split
  all_goals first | rfl | omega
theorem budA_dec (b : Fa.Bud) {k : Int} (h : 1 ≤ k ∧ k ≤ 5) : (budA b).setIfInBounds (offN k) (.int .i64 (Fa.num b k - 1)) = budA (Fa.dec b k) := by
  rcases (by omega : k = 1 ∨ k = 2 ∨ k = 3 ∨ k = 4 ∨ k = 5) with rfl | rfl | rfl | rfl | rfl <;> rfl
def numT : Array Value := #[.nilFunc, .func (.func 29) #[] #[], .func (.func 30) #[] #[], .func (.func 31) #[] #[], .func (.func 32) #[] #[], .func (.func 33) #[] #[]]
theorem numW (w : World) : ∃ W, Hid (W = (w.alloc (.cells #[.nilFunc, .nilFunc, .nilFunc, .nilFunc, .nilFunc, .nilFunc] 81)).setRow w.heap.size numT) ∧ Hid (Below w.heap.size w W) ∧ Hid (W.heap[w.heap.size]? = some (.cells numT 81 (0, 0))) :=
  ⟨_, Lib.hid rfl, Lib.hid (((Below.refl _ w).alloc (Nat.le_refl _) _).trans ⟨rfl, rfl, rfl, by simp, fun k hk => setRow_other _ _ _ _ (by omega)⟩), Lib.hid (setRow_heap _ _ _ _ _ _ (heap_alloc_new _ _))⟩
set_option maxRecDepth 100000 in
set_option maxHeartbeats 8000000 in
theorem number_in (B : Nat) (k : Int) (w : World) (h : 1 ≤ k ∧ k ≤ 5) :
    Calls Try.prog 15 #[.pointer (some ⟨B, 0, none⟩), .int .i64 k] w fun e w' => e = .returned (.pointer (some ⟨B, offN k, none⟩)) ∧ Below w.heap.size w w' := by
  have H1 := Lib.hid (fun W => stops_any B W)
  have H2 := Lib.hid (fun W => cells_any B W)
  have H3 := Lib.hid (fun W => mutes_any B W)
  have H4 := Lib.hid (fun W => lifts_any B W)
  have H5 := Lib.hid (fun W => stepsN_any B W)
  obtain ⟨W5, HW5, B5, I5⟩ := numW w
  rcases (by omega : k = 1 ∨ k = 2 ∨ k = 3 ∨ k = 4 ∨ k = 5) with rfl | rfl | rfl | rfl | rfl
  · have v1 : W5.cell? ⟨w.heap.size, 1, none⟩ = some (.func (.func 29) #[] #[]) := cell_of_heap I5.out 1 rfl
    go_enter Try.func15, Try.ntmps15
    go_upto_region 2 with (refine wpList_store_row rfl 81 (.tmp 5) (.tmp 6) rfl w.heap.size numT rfl rfl 81 _ (heap_alloc_new _ _) (by kernel_rfl) rfl (by kernel_rfl) ?_)
    rw [← HW5.out]
    go_wp2_with fail
    go_at_call 29; refine (H1.out W5).mono ?_; rintro e w2 ⟨rfl, rfl⟩
    go_wp2_with fail
    go_ret
    exact ⟨rfl, B5.out⟩
  · have v2 : W5.cell? ⟨w.heap.size, 2, none⟩ = some (.func (.func 30) #[] #[]) := cell_of_heap I5.out 2 rfl
    go_enter Try.func15, Try.ntmps15
    go_upto_region 2 with (refine wpList_store_row rfl 81 (.tmp 5) (.tmp 6) rfl w.heap.size numT rfl rfl 81 _ (heap_alloc_new _ _) (by kernel_rfl) rfl (by kernel_rfl) ?_)
    rw [← HW5.out]
    go_wp2_with fail
    go_at_call 30; refine (H2.out W5).mono ?_; rintro e w2 ⟨rfl, rfl⟩
    go_wp2_with fail
    go_ret
    exact ⟨rfl, B5.out⟩
  · have v3 : W5.cell? ⟨w.heap.size, 3, none⟩ = some (.func (.func 31) #[] #[]) := cell_of_heap I5.out 3 rfl
    go_enter Try.func15, Try.ntmps15
    go_upto_region 2 with (refine wpList_store_row rfl 81 (.tmp 5) (.tmp 6) rfl w.heap.size numT rfl rfl 81 _ (heap_alloc_new _ _) (by kernel_rfl) rfl (by kernel_rfl) ?_)
    rw [← HW5.out]
    go_wp2_with fail
    go_at_call 31; refine (H3.out W5).mono ?_; rintro e w2 ⟨rfl, rfl⟩
    go_wp2_with fail
    go_ret
    exact ⟨rfl, B5.out⟩
  · have v4 : W5.cell? ⟨w.heap.size, 4, none⟩ = some (.func (.func 32) #[] #[]) := cell_of_heap I5.out 4 rfl
    go_enter Try.func15, Try.ntmps15
    go_upto_region 2 with (refine wpList_store_row rfl 81 (.tmp 5) (.tmp 6) rfl w.heap.size numT rfl rfl 81 _ (heap_alloc_new _ _) (by kernel_rfl) rfl (by kernel_rfl) ?_)
    rw [← HW5.out]
    go_wp2_with fail
    go_at_call 32; refine (H4.out W5).mono ?_; rintro e w2 ⟨rfl, rfl⟩
    go_wp2_with fail
    go_ret
    exact ⟨rfl, B5.out⟩
  · have v5 : W5.cell? ⟨w.heap.size, 5, none⟩ = some (.func (.func 33) #[] #[]) := cell_of_heap I5.out 5 rfl
    go_enter Try.func15, Try.ntmps15
    go_upto_region 2 with (refine wpList_store_row rfl 81 (.tmp 5) (.tmp 6) rfl w.heap.size numT rfl rfl 81 _ (heap_alloc_new _ _) (by kernel_rfl) rfl (by kernel_rfl) ?_)
    rw [← HW5.out]
    go_wp2_with fail
    go_at_call 33; refine (H5.out W5).mono ?_; rintro e w2 ⟨rfl, rfl⟩
    go_wp2_with fail
    go_ret
    exact ⟨rfl, B5.out⟩
set_option maxRecDepth 100000 in
set_option maxHeartbeats 8000000 in
theorem number_any (B : Nat) (k : Int) (w : World) :
    Calls Try.prog 15 #[.pointer (some ⟨B, 0, none⟩), .int .i64 k] w fun e w' => e = .returned (numP B k) ∧ Below w.heap.size w w' := by
  by_cases h : 1 ≤ k ∧ k ≤ 5
  · rw [numP_in h]; exact number_in B k w h
  · rw [numP_out h]
    obtain ⟨W5, HW5, B5, I5⟩ := numW w
    by_cases h0 : k ≤ 0
    · clear h
      go_enter Try.func15, Try.ntmps15
      go_upto_region 2 with (refine wpList_store_row rfl 81 (.tmp 5) (.tmp 6) rfl w.heap.size numT rfl rfl 81 _ (heap_alloc_new _ _) (by kernel_rfl) rfl (by kernel_rfl) ?_)
      rw [← HW5.out]
      go_wp2_with fail
      go_ret
      exact ⟨rfl, B5.out⟩
    · have h6 : 6 ≤ k := by omega
      clear h
      go_enter Try.func15, Try.ntmps15
      go_upto_region 2 with (refine wpList_store_row rfl 81 (.tmp 5) (.tmp 6) rfl w.heap.size numT rfl rfl 81 _ (heap_alloc_new _ _) (by kernel_rfl) rfl (by kernel_rfl) ?_)
      rw [← HW5.out]
      go_wp2_with fail
      go_ret
      exact ⟨rfl, B5.out⟩
end Go.Proofs.Ytcdfmgobokjcnaa
