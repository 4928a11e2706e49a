/- Parts Fb, Fc of this claim, laid one behind the other: walks and the plain laws behind them; each contract states its own conditions. -/
import Derived.Test.YtcdfmgobokjcnaaGreatDoorZC
/- Walks of package fault: the numbers of a budget; Right, Left, longest. -/
namespace Go.Proofs.YtcdfmgobokjcnaaGreatDoor
set_option linter.unusedSimpArgs false
set_option linter.unusedVariables false
open Go.RowKit

set_option maxHeartbeats 1000000 in
theorem between_any (n a b : Int) (w : World) :
    Calls Tryz.prog 35 #[.int .i64 n, .int .i64 a, .int .i64 b] w fun e w' => e = .returned (.bool (Fa.within n a b)) ∧ w = w' := by
  by_cases h1 : a ≤ n
  · have HW : Hid (Fa.within n a b = decide (n ≤ b)) := Lib.hid (by simp [Fa.within, h1])
    go_enter Tryz.func35, Tryz.ntmps35
    go_wp2_with fail
    go_ret
    exact ⟨by rw [HW.out]; rfl, rfl⟩
  · have HW : Hid (Fa.within n a b = false) := Lib.hid (by simp [Fa.within, h1])
    go_enter Tryz.func35, Tryz.ntmps35
    go_wp2_with fail
    go_ret
    exact ⟨by rw [HW.out]; rfl, rfl⟩
set_option maxHeartbeats 1000000 in
theorem stops_any (B : Nat) (w : World) : Calls Tryz.prog 60 #[.pointer (some ⟨B, 0, none⟩)] w fun e w' => e = .returned (.pointer (some ⟨B, 0, none⟩)) ∧ w = w' := by
  go_enter Tryz.func60, Tryz.ntmps60
  go_wp2_with fail
  go_ret
  exact ⟨rfl, rfl⟩
set_option maxHeartbeats 1000000 in
theorem cells_any (B : Nat) (w : World) : Calls Tryz.prog 61 #[.pointer (some ⟨B, 0, none⟩)] w fun e w' => e = .returned (.pointer (some ⟨B, 1, none⟩)) ∧ w = w' := by
  go_enter Tryz.func61, Tryz.ntmps61
  go_wp2_with fail
  go_ret
  exact ⟨rfl, rfl⟩
set_option maxHeartbeats 1000000 in
theorem mutes_any (B : Nat) (w : World) : Calls Tryz.prog 62 #[.pointer (some ⟨B, 0, none⟩)] w fun e w' => e = .returned (.pointer (some ⟨B, 2, none⟩)) ∧ w = w' := by
  go_enter Tryz.func62, Tryz.ntmps62
  go_wp2_with fail
  go_ret
  exact ⟨rfl, rfl⟩
set_option maxHeartbeats 1000000 in
theorem lifts_any (B : Nat) (w : World) : Calls Tryz.prog 63 #[.pointer (some ⟨B, 0, none⟩)] w fun e w' => e = .returned (.pointer (some ⟨B, 4, none⟩)) ∧ w = w' := by
  go_enter Tryz.func63, Tryz.ntmps63
  go_wp2_with fail
  go_ret
  exact ⟨rfl, rfl⟩
set_option maxHeartbeats 1000000 in
theorem stepsN_any (B : Nat) (w : World) : Calls Tryz.prog 64 #[.pointer (some ⟨B, 0, none⟩)] w fun e w' => e = .returned (.pointer (some ⟨B, 6, none⟩)) ∧ w = w' := by
  go_enter Tryz.func64, Tryz.ntmps64
  go_wp2_with fail
  go_ret
  exact ⟨rfl, rfl⟩
/-- Where in a budget the number of a kind lies. -/
def offN (k : Int) : Nat := if k = 1 then 0 else if k = 2 then 1 else if k = 3 then 2 else if k = 4 then 4 else 6
/-- The pointer to the number of a kind. -/
def numP (B : Nat) (k : Int) : Value := if 1 ≤ k ∧ k ≤ 5 then .pointer (some ⟨B, offN k, none⟩) else .pointer none
theorem numP_in {B : Nat} {k : Int} (h : 1 ≤ k ∧ k ≤ 5) : numP B k = .pointer (some ⟨B, offN k, none⟩) := by unfold numP; rw [if_pos h]
theorem numP_out {B : Nat} {k : Int} (h : ¬ (1 ≤ k ∧ k ≤ 5)) : numP B k = .pointer none := by unfold numP; rw [if_neg h]
theorem budA_num (b : Fa.Bud) (k : Int) : (budA b)[offN k]? = some (.int .i64 (Fa.num b k)) := by
  unfold offN Fa.num budA
  repeat' split
  all_goals first | rfl | omega
theorem budA_dec (b : Fa.Bud) {k : Int} (h : 1 ≤ k ∧ k ≤ 5) : (budA b).setIfInBounds (offN k) (.int .i64 (Fa.num b k - 1)) = budA (Fa.dec b k) := by
  rcases (by omega : k = 1 ∨ k = 2 ∨ k = 3 ∨ k = 4 ∨ k = 5) with rfl | rfl | rfl | rfl | rfl <;> rfl
def numT : Array Value := #[.nilFunc, .func (.func 60) #[] #[], .func (.func 61) #[] #[], .func (.func 62) #[] #[], .func (.func 63) #[] #[], .func (.func 64) #[] #[]]
theorem numW (w : World) : ∃ W, Hid (W = (w.alloc (.cells #[.nilFunc, .nilFunc, .nilFunc, .nilFunc, .nilFunc, .nilFunc] 103)).setRow w.heap.size numT) ∧ Hid (Below w.heap.size w W) ∧ Hid (W.heap[w.heap.size]? = some (.cells numT 103 (0, 0))) :=
  ⟨_, Lib.hid rfl, Lib.hid (((Below.refl _ w).alloc (Nat.le_refl _) _).trans ⟨rfl, rfl, rfl, by simp, fun k hk => setRow_other _ _ _ _ (by omega)⟩), Lib.hid (setRow_heap _ _ _ _ _ _ (heap_alloc_new _ _))⟩
set_option maxRecDepth 100000 in
set_option maxHeartbeats 8000000 in
theorem number_in (B : Nat) (k : Int) (w : World) (h : 1 ≤ k ∧ k ≤ 5) :
    Calls Tryz.prog 36 #[.pointer (some ⟨B, 0, none⟩), .int .i64 k] w fun e w' => e = .returned (.pointer (some ⟨B, offN k, none⟩)) ∧ Below w.heap.size w w' := by
  have H1 := Lib.hid (fun W => stops_any B W)
  have H2 := Lib.hid (fun W => cells_any B W)
  have H3 := Lib.hid (fun W => mutes_any B W)
  have H4 := Lib.hid (fun W => lifts_any B W)
  have H5 := Lib.hid (fun W => stepsN_any B W)
  obtain ⟨W5, HW5, B5, I5⟩ := numW w
  rcases (by omega : k = 1 ∨ k = 2 ∨ k = 3 ∨ k = 4 ∨ k = 5) with rfl | rfl | rfl | rfl | rfl
  · have v1 : W5.cell? ⟨w.heap.size, 1, none⟩ = some (.func (.func 60) #[] #[]) := cell_of_heap I5.out 1 rfl
    go_enter Tryz.func36, Tryz.ntmps36
    go_upto_region 2 with (refine wpList_store_row rfl 103 (.tmp 5) (.tmp 6) rfl w.heap.size numT rfl rfl 103 _ (heap_alloc_new _ _) (by kernel_rfl) rfl (by kernel_rfl) ?_)
    rw [← HW5.out]
    go_wp2_with fail
    go_at_call 60; refine (H1.out W5).mono ?_; rintro e w2 ⟨rfl, rfl⟩
    go_wp2_with fail
    go_ret
    exact ⟨rfl, B5.out⟩
  · have v2 : W5.cell? ⟨w.heap.size, 2, none⟩ = some (.func (.func 61) #[] #[]) := cell_of_heap I5.out 2 rfl
    go_enter Tryz.func36, Tryz.ntmps36
    go_upto_region 2 with (refine wpList_store_row rfl 103 (.tmp 5) (.tmp 6) rfl w.heap.size numT rfl rfl 103 _ (heap_alloc_new _ _) (by kernel_rfl) rfl (by kernel_rfl) ?_)
    rw [← HW5.out]
    go_wp2_with fail
    go_at_call 61; refine (H2.out W5).mono ?_; rintro e w2 ⟨rfl, rfl⟩
    go_wp2_with fail
    go_ret
    exact ⟨rfl, B5.out⟩
  · have v3 : W5.cell? ⟨w.heap.size, 3, none⟩ = some (.func (.func 62) #[] #[]) := cell_of_heap I5.out 3 rfl
    go_enter Tryz.func36, Tryz.ntmps36
    go_upto_region 2 with (refine wpList_store_row rfl 103 (.tmp 5) (.tmp 6) rfl w.heap.size numT rfl rfl 103 _ (heap_alloc_new _ _) (by kernel_rfl) rfl (by kernel_rfl) ?_)
    rw [← HW5.out]
    go_wp2_with fail
    go_at_call 62; refine (H3.out W5).mono ?_; rintro e w2 ⟨rfl, rfl⟩
    go_wp2_with fail
    go_ret
    exact ⟨rfl, B5.out⟩
  · have v4 : W5.cell? ⟨w.heap.size, 4, none⟩ = some (.func (.func 63) #[] #[]) := cell_of_heap I5.out 4 rfl
    go_enter Tryz.func36, Tryz.ntmps36
    go_upto_region 2 with (refine wpList_store_row rfl 103 (.tmp 5) (.tmp 6) rfl w.heap.size numT rfl rfl 103 _ (heap_alloc_new _ _) (by kernel_rfl) rfl (by kernel_rfl) ?_)
    rw [← HW5.out]
    go_wp2_with fail
    go_at_call 63; refine (H4.out W5).mono ?_; rintro e w2 ⟨rfl, rfl⟩
    go_wp2_with fail
    go_ret
    exact ⟨rfl, B5.out⟩
  · have v5 : W5.cell? ⟨w.heap.size, 5, none⟩ = some (.func (.func 64) #[] #[]) := cell_of_heap I5.out 5 rfl
    go_enter Tryz.func36, Tryz.ntmps36
    go_upto_region 2 with (refine wpList_store_row rfl 103 (.tmp 5) (.tmp 6) rfl w.heap.size numT rfl rfl 103 _ (heap_alloc_new _ _) (by kernel_rfl) rfl (by kernel_rfl) ?_)
    rw [← HW5.out]
    go_wp2_with fail
    go_at_call 64; refine (H5.out W5).mono ?_; rintro e w2 ⟨rfl, rfl⟩
    go_wp2_with fail
    go_ret
    exact ⟨rfl, B5.out⟩
set_option maxRecDepth 100000 in
set_option maxHeartbeats 8000000 in
theorem number_any (B : Nat) (k : Int) (w : World) :
    Calls Tryz.prog 36 #[.pointer (some ⟨B, 0, none⟩), .int .i64 k] w fun e w' => e = .returned (numP B k) ∧ Below w.heap.size w w' := by
  by_cases h : 1 ≤ k ∧ k ≤ 5
  · rw [numP_in h]; exact number_in B k w h
  · rw [numP_out h]
    obtain ⟨W5, HW5, B5, I5⟩ := numW w
    by_cases h0 : k ≤ 0
    · clear h
      go_enter Tryz.func36, Tryz.ntmps36
      go_upto_region 2 with (refine wpList_store_row rfl 103 (.tmp 5) (.tmp 6) rfl w.heap.size numT rfl rfl 103 _ (heap_alloc_new _ _) (by kernel_rfl) rfl (by kernel_rfl) ?_)
      rw [← HW5.out]
      go_wp2_with fail
      go_ret
      exact ⟨rfl, B5.out⟩
    · have h6 : 6 ≤ k := by omega
      clear h
      go_enter Tryz.func36, Tryz.ntmps36
      go_upto_region 2 with (refine wpList_store_row rfl 103 (.tmp 5) (.tmp 6) rfl w.heap.size numT rfl rfl 103 _ (heap_alloc_new _ _) (by kernel_rfl) rfl (by kernel_rfl) ?_)
      rw [← HW5.out]
      go_wp2_with fail
      go_ret
      exact ⟨rfl, B5.out⟩
end Go.Proofs.YtcdfmgobokjcnaaGreatDoor
/- Walks of package fault: Right, Left, longest, Within. -/
namespace Go.Proofs.YtcdfmgobokjcnaaGreatDoor
set_option linter.unusedSimpArgs false
set_option linter.unusedVariables false
open Go.RowKit

/-- A budget's block. -/
def BudAt (w : World) (B : Nat) (b : Fa.Bud) (t : TypeId) : Prop := w.heap[B]? = some (.cells (budA b) t (0, 0))
theorem BudAt.keep {w W : World} {B : Nat} {b : Fa.Bud} {t : TypeId} (h : BudAt w B b t) (hb : Below w.heap.size w W) : BudAt W B b t := keep_heap h hb
theorem BudAt.num {w : World} {B : Nat} {b : Fa.Bud} {t : TypeId} (h : BudAt w B b t) (k : Int) : w.cell? ⟨B, offN k, none⟩ = some (.int .i64 (Fa.num b k)) := cell_of_heap h _ (budA_num b k)
theorem BudAt.cells {w : World} {B : Nat} {b : Fa.Bud} {t : TypeId} (h : BudAt w B b t) : w.cell? ⟨B, 0, none⟩ = some (.int .i64 b.stops) ∧ w.cell? ⟨B, 1, none⟩ = some (.int .i64 b.cells) ∧ w.cell? ⟨B, 2, none⟩ = some (.int .i64 b.mutes) ∧ w.cell? ⟨B, 3, none⟩ = some (.int .i64 b.muteMost) ∧
    w.cell? ⟨B, 4, none⟩ = some (.int .i64 b.lifts) ∧ w.cell? ⟨B, 5, none⟩ = some (.int .i64 b.liftMost) ∧ w.cell? ⟨B, 6, none⟩ = some (.int .i64 b.steps) :=
  ⟨cell_of_heap h 0 rfl, cell_of_heap h 1 rfl, cell_of_heap h 2 rfl, cell_of_heap h 3 rfl, cell_of_heap h 4 rfl, cell_of_heap h 5 rfl, cell_of_heap h 6 rfl⟩
theorem BudAt.lt {w : World} {B : Nat} {b : Fa.Bud} {t : TypeId} (h : BudAt w B b t) : B < w.heap.size := heap_lt h
theorem heap_two0 (w : World) (A B : Obj) : ((w.alloc A).alloc B).heap[w.heap.size]? = some A := by
  rw [Below.heap_alloc _ _ _ (by simp)]; exact heap_alloc_new _ _
/-- The numbers of the kinds are right. -/
def rightN (b : Fa.Bud) (i : Int) : Bool := Fa.within (Fa.num b i) 0 20
theorem rightB_of {b : Fa.Bud} (h : ∀ i, 1 ≤ i → i < 6 → rightN b i = true) : Fa.rightB b = (Fa.within b.muteMost 0 100 && Fa.within b.liftMost 0 100) := by
  have h1 := h 1 (by omega) (by omega)
  have h2 := h 2 (by omega) (by omega)
  have h3 := h 3 (by omega) (by omega)
  have h4 := h 4 (by omega) (by omega)
  have h5 := h 5 (by omega) (by omega)
  unfold rightN Fa.num at h1 h2 h3 h4 h5
  simp at h1 h2 h3 h4 h5
  unfold Fa.rightB
  rw [h1, h2, h3, h4, h5]; rfl
theorem rightB_no {b : Fa.Bud} {i : Int} (h1 : 1 ≤ i) (h6 : i < 6) (h : rightN b i = false) : Fa.rightB b = false := by
  unfold rightN Fa.num at h
  unfold Fa.rightB
  rcases (by omega : i = 1 ∨ i = 2 ∨ i = 3 ∨ i = 4 ∨ i = 5) with rfl | rfl | rfl | rfl | rfl <;> (simp at h; rw [h]; simp)
set_option maxRecDepth 100000 in
set_option maxHeartbeats 8000000 in
theorem fRightB_any (b : Fa.Bud) (w : World) :
    Calls Tryz.prog 7 #[.agg (budA b)] w fun e w' => e = .returned (.bool (Fa.rightB b)) ∧ Below w.heap.size w w' := by
  have HN := Lib.hid (fun B k W h => number_in B k W h)
  have HB := Lib.hid (fun n a b W => between_any n a b W)
  obtain ⟨W, hW⟩ : ∃ W, W = (w.alloc (.cells (budA b) 36)).alloc (.cells (budA b) 65) := ⟨_, rfl⟩
  have BW : Hid (Below w.heap.size w W) := Lib.hid (by rw [hW]; exact ((Below.refl _ _).alloc (Nat.le_refl _) _).alloc (by simp) _)
  have I0 : Hid (BudAt W w.heap.size b 36) := Lib.hid (by rw [hW]; exact heap_two0 _ _ _)
  have I1 : Hid (BudAt W (w.heap.size + 1) b 65) := Lib.hid (by rw [hW]; exact heap_two3 _ _ _)
  have HY := Lib.hid (rightB_of (b := b))
  have HX := Lib.hid (fun i h1 h6 h => rightB_no (b := b) (i := i) h1 h6 h)
  obtain ⟨R, hR⟩ : ∃ R, Fa.rightB b = R := ⟨_, rfl⟩
  rw [hR] at HY HX ⊢
  have HW : Hid (W = (w.alloc (.cells #[.int .i64 b.stops, .int .i64 b.cells, .int .i64 b.mutes, .int .i64 b.muteMost, .int .i64 b.lifts, .int .i64 b.liftMost, .int .i64 b.steps] 36)).alloc (.cells #[.int .i64 b.stops, .int .i64 b.cells, .int .i64 b.mutes, .int .i64 b.muteMost, .int .i64 b.lifts, .int .i64 b.liftMost, .int .i64 b.steps] 65)) := Lib.hid hW
  clear hW hR
  unfold budA
  go_enter Tryz.func7, Tryz.ntmps7
  go_upto_region 2 with fail
  rw [← HW.out]
  go_wp2_with fail
  go_loopw [4] (fun iv wr => ∃ i : Int, 1 ≤ i ∧ i ≤ 6 ∧ iv = .int .i64 i ∧ Hid (∀ j, 1 ≤ j → j < i → rightN b j = true) ∧ Hid (Below W.heap.size W wr)) (fun iv _ => (6 - intOf iv).toNat)
  case atStart => exact ⟨1, by omega, by omega, rfl, Lib.hid (fun j h1 h2 => by omega), Lib.hid (Below.refl _ _)⟩
  case round =>
    obtain ⟨i, i1, i6, rfl, HA, HBl⟩ := hrel
    by_cases hi : i < 6
    · have HC := Lib.hid (HN.out (w.heap.size + 1) i wr ⟨i1, by omega⟩)
      obtain ⟨x, hx⟩ : ∃ x, Fa.num b i = x := ⟨_, rfl⟩
      obtain ⟨z, hz⟩ : ∃ z, rightN b i = z := ⟨_, rfl⟩
      have HZ := Lib.hid hz
      have HX2 := Lib.hid hx
      have HXi := Lib.hid (HX.out i i1 hi)
      rw [hz] at HXi
      have HV : Hid (Fa.within x 0 20 = z) := Lib.hid (by rw [← hx]; exact hz)
      clear hz
      go_wp2_with fail
      go_at_call 36; refine HC.out.mono ?_; rintro e w2 ⟨rfl, b2⟩
      have B2 := Lib.hid (HBl.out.trans (b2.mono HBl.out.size))
      have J := (I1.out.keep B2.out).num i
      rw [hx] at J
      clear b2 hx
      go_wp2_with fail
      go_at_call 35; refine (HB.out x 0 20 _).mono ?_; rintro e w3 ⟨rfl, rfl⟩
      rw [HV.out]
      cases z with
      | true =>
        go_wp2_with fail
        go_roundw
        case rel => exact ⟨i + 1, by omega, by omega, by go_num, Lib.hid (fun j h1 h2 => by
          by_cases e : j = i
          · rw [e]; exact HZ.out
          · exact HA.out j h1 (by omega)), B2⟩
        case measure => simp [intOf]; omega
      | false =>
        have HP := Lib.hid (HXi.out rfl)
        go_wp2_with fail
        go_ret
        exact ⟨by rw [HP.out]; rfl, BW.out.trans (B2.out.mono BW.out.size)⟩
    · have HY2 : Hid (R = (Fa.within b.muteMost 0 100 && Fa.within b.liftMost 0 100)) := Lib.hid (HY.out (fun j h1 h2 => HA.out j h1 (by omega)))
      obtain ⟨p0, p1, p2, p3, p4, p5, p6⟩ := (I0.out.keep HBl.out).cells
      have BR := Lib.hid (BW.out.trans (HBl.out.mono BW.out.size))
      obtain ⟨z1, hz1⟩ : ∃ z, Fa.within b.muteMost 0 100 = z := ⟨_, rfl⟩
      obtain ⟨z2, hz2⟩ : ∃ z, Fa.within b.liftMost 0 100 = z := ⟨_, rfl⟩
      rw [hz1, hz2] at HY2
      have Z1 := Lib.hid hz1
      have Z2 := Lib.hid hz2
      clear hz1 hz2
      go_wp2_with fail
      go_at_call 35; refine (HB.out b.muteMost 0 100 _).mono ?_; rintro e w3 ⟨rfl, rfl⟩
      rw [Z1.out]
      cases z1 with
      | true =>
        go_wp2_with fail
        go_at_call 35; refine (HB.out b.liftMost 0 100 _).mono ?_; rintro e w3 ⟨rfl, rfl⟩
        rw [Z2.out]
        go_wp2_with fail
        go_ret
        exact ⟨by rw [HY2.out]; rfl, BR.out⟩
      | false =>
        go_wp2_with fail
        go_ret
        exact ⟨by rw [HY2.out]; rfl, BR.out⟩
end Go.Proofs.YtcdfmgobokjcnaaGreatDoor
