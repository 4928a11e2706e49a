/- Parts RfF, RfG of this claim, laid one behind the other: walks and the plain laws behind them; each contract states its own conditions. -/
import Derived.Test.YtcdfmgobokjcnaaGreatDoorTA
import Derived.Test.YtcdfmgobokjcnaaGreatDoorTB
/- Walks of fault.Bytes and taquinref29.Bytes. -/
namespace Go.Proofs.YtcdfmgobokjcnaaGreatDoor
set_option linter.unusedSimpArgs false
set_option linter.unusedVariables false
open Go.RowKit

/-- The parts of what is written of a budget. -/
def budPs (b : Fa.Bud) : List Wr.B := [Wr.int b.stops, Wr.int b.cells, Wr.int b.mutes, Wr.int b.muteMost, Wr.int b.lifts, Wr.int b.liftMost, Wr.int b.steps]
theorem budPs_all (b : Fa.Bud) : ((budPs b).take 7).flatten = Fa.budB b := by simp [budPs, Fa.budB]
theorem int_size {n : Int} (h : Wr.I64 n) : (Wr.int n).length ≤ 21 := by
  have := itoa_len20 n h.1 h.2
  unfold Wr.int
  rw [List.length_append, List.length_singleton]; omega
structure Bud64 (b : Fa.Bud) : Prop where
  stops : Wr.I64 b.stops
  cells : Wr.I64 b.cells
  mutes : Wr.I64 b.mutes
  muteMost : Wr.I64 b.muteMost
  lifts : Wr.I64 b.lifts
  liftMost : Wr.I64 b.liftMost
  steps : Wr.I64 b.steps
theorem bud_ix0 (b : Fa.Bud) (w : World) : (Instr.index 74 (.agg #[.int .i64 b.stops, .int .i64 b.cells, .int .i64 b.mutes, .int .i64 b.muteMost, .int .i64 b.lifts, .int .i64 b.liftMost, .int .i64 b.steps]) (.int .i64 0)).run Tryz.prog w = .ok (.int .i64 b.stops) w := by kernel_rfl
theorem bud_pre0 (b : Fa.Bud) : ((budPs b).take (0 + 1)).flatten = ((budPs b).take 0).flatten ++ Wr.int b.stops := by simp [budPs]
theorem bud_ix1 (b : Fa.Bud) (w : World) : (Instr.index 74 (.agg #[.int .i64 b.stops, .int .i64 b.cells, .int .i64 b.mutes, .int .i64 b.muteMost, .int .i64 b.lifts, .int .i64 b.liftMost, .int .i64 b.steps]) (.int .i64 1)).run Tryz.prog w = .ok (.int .i64 b.cells) w := by kernel_rfl
theorem bud_pre1 (b : Fa.Bud) : ((budPs b).take (1 + 1)).flatten = ((budPs b).take 1).flatten ++ Wr.int b.cells := by simp [budPs]
theorem bud_ix2 (b : Fa.Bud) (w : World) : (Instr.index 74 (.agg #[.int .i64 b.stops, .int .i64 b.cells, .int .i64 b.mutes, .int .i64 b.muteMost, .int .i64 b.lifts, .int .i64 b.liftMost, .int .i64 b.steps]) (.int .i64 2)).run Tryz.prog w = .ok (.int .i64 b.mutes) w := by kernel_rfl
theorem bud_pre2 (b : Fa.Bud) : ((budPs b).take (2 + 1)).flatten = ((budPs b).take 2).flatten ++ Wr.int b.mutes := by simp [budPs]
theorem bud_ix3 (b : Fa.Bud) (w : World) : (Instr.index 74 (.agg #[.int .i64 b.stops, .int .i64 b.cells, .int .i64 b.mutes, .int .i64 b.muteMost, .int .i64 b.lifts, .int .i64 b.liftMost, .int .i64 b.steps]) (.int .i64 3)).run Tryz.prog w = .ok (.int .i64 b.muteMost) w := by kernel_rfl
theorem bud_pre3 (b : Fa.Bud) : ((budPs b).take (3 + 1)).flatten = ((budPs b).take 3).flatten ++ Wr.int b.muteMost := by simp [budPs]
theorem bud_ix4 (b : Fa.Bud) (w : World) : (Instr.index 74 (.agg #[.int .i64 b.stops, .int .i64 b.cells, .int .i64 b.mutes, .int .i64 b.muteMost, .int .i64 b.lifts, .int .i64 b.liftMost, .int .i64 b.steps]) (.int .i64 4)).run Tryz.prog w = .ok (.int .i64 b.lifts) w := by kernel_rfl
theorem bud_pre4 (b : Fa.Bud) : ((budPs b).take (4 + 1)).flatten = ((budPs b).take 4).flatten ++ Wr.int b.lifts := by simp [budPs]
theorem bud_ix5 (b : Fa.Bud) (w : World) : (Instr.index 74 (.agg #[.int .i64 b.stops, .int .i64 b.cells, .int .i64 b.mutes, .int .i64 b.muteMost, .int .i64 b.lifts, .int .i64 b.liftMost, .int .i64 b.steps]) (.int .i64 5)).run Tryz.prog w = .ok (.int .i64 b.liftMost) w := by kernel_rfl
theorem bud_pre5 (b : Fa.Bud) : ((budPs b).take (5 + 1)).flatten = ((budPs b).take 5).flatten ++ Wr.int b.liftMost := by simp [budPs]
theorem bud_ix6 (b : Fa.Bud) (w : World) : (Instr.index 74 (.agg #[.int .i64 b.stops, .int .i64 b.cells, .int .i64 b.mutes, .int .i64 b.muteMost, .int .i64 b.lifts, .int .i64 b.liftMost, .int .i64 b.steps]) (.int .i64 6)).run Tryz.prog w = .ok (.int .i64 b.steps) w := by kernel_rfl
theorem bud_pre6 (b : Fa.Bud) : ((budPs b).take (6 + 1)).flatten = ((budPs b).take 6).flatten ++ Wr.int b.steps := by simp [budPs]
set_option maxRecDepth 100000 in
set_option maxHeartbeats 16000000 in
theorem fBytes_any (b : Fa.Bud) (w : World) (h : Bud64 b) (hT : PowT w) : Calls Tryz.prog 15 #[.agg (budA b)] w (SP (Fa.budB b) w) := by
  have HI := Lib.hid (fun n (h : Wr.I64 n) W (hb : Below w.heap.size w W) => wInt_any n h W (hT.below hb))
  have HB := Lib.hid h
  have B1 := Lib.hid ((Below.refl _ w).alloc (Nat.le_refl _) (.cells (budA b) 36))
  have I1 := Lib.hid (heap_alloc_new w (.cells (budA b) 36))
  unfold budA at B1 I1 ⊢
  obtain ⟨w1, hw1⟩ : ∃ W, W = w.alloc (.cells #[.int .i64 b.stops, .int .i64 b.cells, .int .i64 b.mutes, .int .i64 b.muteMost, .int .i64 b.lifts, .int .i64 b.liftMost, .int .i64 b.steps] 36) := ⟨_, rfl⟩
  rw [← hw1] at B1 I1
  have HW := Lib.hid hw1
  clear h hT hw1
  go_enter Tryz.func15, Tryz.ntmps15
  go_upto_region 1 with fail
  rw [← HW.out]
  have p0 : w1.cell? ⟨w.heap.size, 0, none⟩ = some (.int .i64 b.stops) := cell_of_heap I1.out 0 rfl
  have p1 : w1.cell? ⟨w.heap.size, 1, none⟩ = some (.int .i64 b.cells) := cell_of_heap I1.out 1 rfl
  have p2 : w1.cell? ⟨w.heap.size, 2, none⟩ = some (.int .i64 b.mutes) := cell_of_heap I1.out 2 rfl
  have p3 : w1.cell? ⟨w.heap.size, 3, none⟩ = some (.int .i64 b.muteMost) := cell_of_heap I1.out 3 rfl
  have p4 : w1.cell? ⟨w.heap.size, 4, none⟩ = some (.int .i64 b.lifts) := cell_of_heap I1.out 4 rfl
  have p5 : w1.cell? ⟨w.heap.size, 5, none⟩ = some (.int .i64 b.liftMost) := cell_of_heap I1.out 5 rfl
  have p6 : w1.cell? ⟨w.heap.size, 6, none⟩ = some (.int .i64 b.steps) := cell_of_heap I1.out 6 rfl
  go_wp2_with fail
  go_loopw [3, 21] (fun sv iv wr => ∃ (j : Nat) (D : ByteArray), j ≤ 7 ∧ iv = .int .i64 (j : Int) ∧ sv = .string D ∧ Hid (bs D = ((budPs b).take j).flatten) ∧ Hid (D.size ≤ 21 * j) ∧ Hid (Below w.heap.size w wr)) (fun _ iv _ => 7 - (intOf iv).toNat)
  case atStart => exact ⟨0, _, by omega, rfl, rfl, Lib.hid rfl, Lib.hid (by decide), B1⟩
  case round =>
    clear p0 p1 p2 p3 p4 p5 p6
    obtain ⟨j, D, hj, rfl, rfl, HD, HDS, HU⟩ := hrel
    have hDs : D.size ≤ 147 := by have := HDS.out; omega
    by_cases h7 : j < 7
    · rcases (by omega : j = 0 ∨ j = 1 ∨ j = 2 ∨ j = 3 ∨ j = 4 ∨ j = 5 ∨ j = 6) with hj0 | hj0 | hj0 | hj0 | hj0 | hj0 | hj0
      · have e21 : (j : Int) = 0 := by omega
        rw [e21]
        rw [hj0] at HD HDS
        have hix := bud_ix0 b wr
        clear hj h7 e21 hj0
        have HC := Lib.hid (HI.out b.stops HB.out.stops wr HU.out)
        go_wp2_with fail
        go_at_call 41; refine HC.out.mono ?_; rintro e w2 ⟨E, hE, hEs, rfl, b2⟩
        have B2 := Lib.hid (HU.out.trans (b2.mono HU.out.size))
        have hE2 : E.size ≤ 21 := by rw [hEs]; exact int_size HB.out.stops
        have HE := Lib.hid hE
        clear hE hEs b2 hix
        go_wp2_with fail
        go_roundw
        case rel => exact ⟨0 + 1, D ++ E, by omega, by first | rfl | go_num, rfl, Lib.hid (by rw [bs_appR, HD.out, HE.out, bud_pre0]), Lib.hid (by have := HDS.out; rw [ByteArray.size_append]; omega), B2⟩
        case measure => simp [intOf]
      · have e21 : (j : Int) = 1 := by omega
        rw [e21]
        rw [hj0] at HD HDS
        have hix := bud_ix1 b wr
        clear hj h7 e21 hj0
        have HC := Lib.hid (HI.out b.cells HB.out.cells wr HU.out)
        go_wp2_with fail
        go_at_call 41; refine HC.out.mono ?_; rintro e w2 ⟨E, hE, hEs, rfl, b2⟩
        have B2 := Lib.hid (HU.out.trans (b2.mono HU.out.size))
        have hE2 : E.size ≤ 21 := by rw [hEs]; exact int_size HB.out.cells
        have HE := Lib.hid hE
        clear hE hEs b2 hix
        go_wp2_with fail
        go_roundw
        case rel => exact ⟨1 + 1, D ++ E, by omega, by first | rfl | go_num, rfl, Lib.hid (by rw [bs_appR, HD.out, HE.out, bud_pre1]), Lib.hid (by have := HDS.out; rw [ByteArray.size_append]; omega), B2⟩
        case measure => simp [intOf]
      · have e21 : (j : Int) = 2 := by omega
        rw [e21]
        rw [hj0] at HD HDS
        have hix := bud_ix2 b wr
        clear hj h7 e21 hj0
        have HC := Lib.hid (HI.out b.mutes HB.out.mutes wr HU.out)
        go_wp2_with fail
        go_at_call 41; refine HC.out.mono ?_; rintro e w2 ⟨E, hE, hEs, rfl, b2⟩
        have B2 := Lib.hid (HU.out.trans (b2.mono HU.out.size))
        have hE2 : E.size ≤ 21 := by rw [hEs]; exact int_size HB.out.mutes
        have HE := Lib.hid hE
        clear hE hEs b2 hix
        go_wp2_with fail
        go_roundw
        case rel => exact ⟨2 + 1, D ++ E, by omega, by first | rfl | go_num, rfl, Lib.hid (by rw [bs_appR, HD.out, HE.out, bud_pre2]), Lib.hid (by have := HDS.out; rw [ByteArray.size_append]; omega), B2⟩
        case measure => simp [intOf]
      · have e21 : (j : Int) = 3 := by omega
        rw [e21]
        rw [hj0] at HD HDS
        have hix := bud_ix3 b wr
        clear hj h7 e21 hj0
        have HC := Lib.hid (HI.out b.muteMost HB.out.muteMost wr HU.out)
        go_wp2_with fail
        go_at_call 41; refine HC.out.mono ?_; rintro e w2 ⟨E, hE, hEs, rfl, b2⟩
        have B2 := Lib.hid (HU.out.trans (b2.mono HU.out.size))
        have hE2 : E.size ≤ 21 := by rw [hEs]; exact int_size HB.out.muteMost
        have HE := Lib.hid hE
        clear hE hEs b2 hix
        go_wp2_with fail
        go_roundw
        case rel => exact ⟨3 + 1, D ++ E, by omega, by first | rfl | go_num, rfl, Lib.hid (by rw [bs_appR, HD.out, HE.out, bud_pre3]), Lib.hid (by have := HDS.out; rw [ByteArray.size_append]; omega), B2⟩
        case measure => simp [intOf]
      · have e21 : (j : Int) = 4 := by omega
        rw [e21]
        rw [hj0] at HD HDS
        have hix := bud_ix4 b wr
        clear hj h7 e21 hj0
        have HC := Lib.hid (HI.out b.lifts HB.out.lifts wr HU.out)
        go_wp2_with fail
        go_at_call 41; refine HC.out.mono ?_; rintro e w2 ⟨E, hE, hEs, rfl, b2⟩
        have B2 := Lib.hid (HU.out.trans (b2.mono HU.out.size))
        have hE2 : E.size ≤ 21 := by rw [hEs]; exact int_size HB.out.lifts
        have HE := Lib.hid hE
        clear hE hEs b2 hix
        go_wp2_with fail
        go_roundw
        case rel => exact ⟨4 + 1, D ++ E, by omega, by first | rfl | go_num, rfl, Lib.hid (by rw [bs_appR, HD.out, HE.out, bud_pre4]), Lib.hid (by have := HDS.out; rw [ByteArray.size_append]; omega), B2⟩
        case measure => simp [intOf]
      · have e21 : (j : Int) = 5 := by omega
        rw [e21]
        rw [hj0] at HD HDS
        have hix := bud_ix5 b wr
        clear hj h7 e21 hj0
        have HC := Lib.hid (HI.out b.liftMost HB.out.liftMost wr HU.out)
        go_wp2_with fail
        go_at_call 41; refine HC.out.mono ?_; rintro e w2 ⟨E, hE, hEs, rfl, b2⟩
        have B2 := Lib.hid (HU.out.trans (b2.mono HU.out.size))
        have hE2 : E.size ≤ 21 := by rw [hEs]; exact int_size HB.out.liftMost
        have HE := Lib.hid hE
        clear hE hEs b2 hix
        go_wp2_with fail
        go_roundw
        case rel => exact ⟨5 + 1, D ++ E, by omega, by first | rfl | go_num, rfl, Lib.hid (by rw [bs_appR, HD.out, HE.out, bud_pre5]), Lib.hid (by have := HDS.out; rw [ByteArray.size_append]; omega), B2⟩
        case measure => simp [intOf]
      · have e21 : (j : Int) = 6 := by omega
        rw [e21]
        rw [hj0] at HD HDS
        have hix := bud_ix6 b wr
        clear hj h7 e21 hj0
        have HC := Lib.hid (HI.out b.steps HB.out.steps wr HU.out)
        go_wp2_with fail
        go_at_call 41; refine HC.out.mono ?_; rintro e w2 ⟨E, hE, hEs, rfl, b2⟩
        have B2 := Lib.hid (HU.out.trans (b2.mono HU.out.size))
        have hE2 : E.size ≤ 21 := by rw [hEs]; exact int_size HB.out.steps
        have HE := Lib.hid hE
        clear hE hEs b2 hix
        go_wp2_with fail
        go_roundw
        case rel => exact ⟨6 + 1, D ++ E, by omega, by first | rfl | go_num, rfl, Lib.hid (by rw [bs_appR, HD.out, HE.out, bud_pre6]), Lib.hid (by have := HDS.out; rw [ByteArray.size_append]; omega), B2⟩
        case measure => simp [intOf]
    · obtain rfl : j = 7 := by omega
      have hd := HD.out
      rw [budPs_all] at hd
      have HDD := Lib.hid hd
      clear hd
      go_wp2_with fail
      go_ret
      exact ⟨D, HDD.out, by rw [← bs_len, HDD.out], rfl, HU.out⟩
set_option maxRecDepth 100000 in
set_option maxHeartbeats 16000000 in
theorem rBytes29_any (b : Fa.Bud) (w : World) (h : Bud64 b) : Calls Tryz.prog 16 #[.agg (budA b)] w (SP (Fa.budB b) w) := by
  have HI := Lib.hid (fun n (h : Wr.I64 n) W => rInt_any n W h.1 h.2)
  unfold SP at HI
  have HB := Lib.hid h
  have B1 := Lib.hid ((Below.refl _ w).alloc (Nat.le_refl _) (.cells (budA b) 36))
  have I1 := Lib.hid (heap_alloc_new w (.cells (budA b) 36))
  unfold budA at B1 I1 ⊢
  obtain ⟨w1, hw1⟩ : ∃ W, W = w.alloc (.cells #[.int .i64 b.stops, .int .i64 b.cells, .int .i64 b.mutes, .int .i64 b.muteMost, .int .i64 b.lifts, .int .i64 b.liftMost, .int .i64 b.steps] 36) := ⟨_, rfl⟩
  rw [← hw1] at B1 I1
  have HW := Lib.hid hw1
  clear h hw1
  go_enter Tryz.func16, Tryz.ntmps16
  go_upto_region 1 with fail
  rw [← HW.out]
  have p0 : w1.cell? ⟨w.heap.size, 0, none⟩ = some (.int .i64 b.stops) := cell_of_heap I1.out 0 rfl
  have p1 : w1.cell? ⟨w.heap.size, 1, none⟩ = some (.int .i64 b.cells) := cell_of_heap I1.out 1 rfl
  have p2 : w1.cell? ⟨w.heap.size, 2, none⟩ = some (.int .i64 b.mutes) := cell_of_heap I1.out 2 rfl
  have p3 : w1.cell? ⟨w.heap.size, 3, none⟩ = some (.int .i64 b.muteMost) := cell_of_heap I1.out 3 rfl
  have p4 : w1.cell? ⟨w.heap.size, 4, none⟩ = some (.int .i64 b.lifts) := cell_of_heap I1.out 4 rfl
  have p5 : w1.cell? ⟨w.heap.size, 5, none⟩ = some (.int .i64 b.liftMost) := cell_of_heap I1.out 5 rfl
  have p6 : w1.cell? ⟨w.heap.size, 6, none⟩ = some (.int .i64 b.steps) := cell_of_heap I1.out 6 rfl
  refine wp_region_held_drew (S := fun W' => W'.cell? ⟨w.heap.size, 0, none⟩ = some (.int .i64 b.stops) ∧ W'.cell? ⟨w.heap.size, 1, none⟩ = some (.int .i64 b.cells) ∧ W'.cell? ⟨w.heap.size, 2, none⟩ = some (.int .i64 b.mutes) ∧ W'.cell? ⟨w.heap.size, 3, none⟩ = some (.int .i64 b.muteMost) ∧ W'.cell? ⟨w.heap.size, 4, none⟩ = some (.int .i64 b.lifts) ∧ W'.cell? ⟨w.heap.size, 5, none⟩ = some (.int .i64 b.liftMost) ∧ W'.cell? ⟨w.heap.size, 6, none⟩ = some (.int .i64 b.steps)) (by kernel_rfl) ⟨p0, p1, p2, p3, p4, p5, p6⟩ (fun hHeld => ?_)
  obtain ⟨u0, hwx⟩ : ∃ W, W = w1.drew := ⟨_, rfl⟩
  rw [← hwx] at hHeld ⊢
  have bx : Below w1.heap.size w1 u0 := by subst hwx; exact ⟨rfl, rfl, rfl, Nat.le_refl _, fun _ _ => rfl⟩
  have U0 := Lib.hid (B1.out.trans (bx.mono B1.out.size))
  clear hwx bx p0 p1 p2 p3 p4 p5 p6
  refine wpAnyH_take (i := 0) (oi := _) (v := ?_) rfl (by kernel_rfl) (by kernel_rfl) (by kernel_rfl) (fun _ _ _ h => h) (Or.inl ⟨by rfl, ?_⟩) (by assumption) ?_
  rotate_left
  · intro w hSw; obtain ⟨k0, k1, k2, k3, k4, k5, k6⟩ := hSw; go_simp; all_goals (with_reducible rfl)
  try simp only [Act.put, List.getElem_toArray, List.getElem_cons_zero, List.getElem_cons_succ, List.setIfInBounds_toArray, List.set_cons_zero, List.set_cons_succ]
  refine wpAnyH_take (i := 1) (oi := _) (v := ?_) rfl (by kernel_rfl) (by kernel_rfl) (by kernel_rfl) (fun _ _ _ h => h) (Or.inl ⟨by rfl, ?_⟩) (by assumption) ?_
  rotate_left
  · intro w hSw; obtain ⟨k0, k1, k2, k3, k4, k5, k6⟩ := hSw; go_simp; all_goals (with_reducible rfl)
  try simp only [Act.put, List.getElem_toArray, List.getElem_cons_zero, List.getElem_cons_succ, List.setIfInBounds_toArray, List.set_cons_zero, List.set_cons_succ]
  refine wpAnyH_take (i := 3) (oi := _) (v := ?_) rfl (by kernel_rfl) (by kernel_rfl) (by kernel_rfl) (fun _ _ _ h => h) (Or.inl ⟨by rfl, ?_⟩) (by assumption) ?_
  rotate_left
  · intro w hSw; obtain ⟨k0, k1, k2, k3, k4, k5, k6⟩ := hSw; go_simp; all_goals (with_reducible rfl)
  try simp only [Act.put, List.getElem_toArray, List.getElem_cons_zero, List.getElem_cons_succ, List.setIfInBounds_toArray, List.set_cons_zero, List.set_cons_succ]
  refine wpAnyH_take (i := 4) (oi := _) (v := ?_) rfl (by kernel_rfl) (by kernel_rfl) (by kernel_rfl) (fun _ _ _ h => h) (Or.inl ⟨by rfl, ?_⟩) (by assumption) ?_
  rotate_left
  · intro w hSw; obtain ⟨k0, k1, k2, k3, k4, k5, k6⟩ := hSw; go_simp; all_goals (with_reducible rfl)
  try simp only [Act.put, List.getElem_toArray, List.getElem_cons_zero, List.getElem_cons_succ, List.setIfInBounds_toArray, List.set_cons_zero, List.set_cons_succ]
  refine wpAnyH_take (i := 7) (oi := _) (v := ?_) rfl (by kernel_rfl) (by kernel_rfl) (by kernel_rfl) (fun _ _ _ h => h) (Or.inl ⟨by rfl, ?_⟩) (by assumption) ?_
  rotate_left
  · intro w hSw; obtain ⟨k0, k1, k2, k3, k4, k5, k6⟩ := hSw; go_simp; all_goals (with_reducible rfl)
  try simp only [Act.put, List.getElem_toArray, List.getElem_cons_zero, List.getElem_cons_succ, List.setIfInBounds_toArray, List.set_cons_zero, List.set_cons_succ]
  refine wpAnyH_take (i := 8) (oi := _) (v := ?_) rfl (by kernel_rfl) (by kernel_rfl) (by kernel_rfl) (fun _ _ _ h => h) (Or.inl ⟨by rfl, ?_⟩) (by assumption) ?_
  rotate_left
  · intro w hSw; obtain ⟨k0, k1, k2, k3, k4, k5, k6⟩ := hSw; go_simp; all_goals (with_reducible rfl)
  try simp only [Act.put, List.getElem_toArray, List.getElem_cons_zero, List.getElem_cons_succ, List.setIfInBounds_toArray, List.set_cons_zero, List.set_cons_succ]
  refine wpAnyH_take (i := 11) (oi := _) (v := ?_) rfl (by kernel_rfl) (by kernel_rfl) (by kernel_rfl) (fun _ _ _ h => h) (Or.inl ⟨by rfl, ?_⟩) (by assumption) ?_
  rotate_left
  · intro w hSw; obtain ⟨k0, k1, k2, k3, k4, k5, k6⟩ := hSw; go_simp; all_goals (with_reducible rfl)
  try simp only [Act.put, List.getElem_toArray, List.getElem_cons_zero, List.getElem_cons_succ, List.setIfInBounds_toArray, List.set_cons_zero, List.set_cons_succ]
  refine wpAnyH_take (i := 12) (oi := _) (v := ?_) rfl (by kernel_rfl) (by kernel_rfl) (by kernel_rfl) (fun _ _ _ h => h) (Or.inl ⟨by rfl, ?_⟩) (by assumption) ?_
  rotate_left
  · intro w hSw; obtain ⟨k0, k1, k2, k3, k4, k5, k6⟩ := hSw; go_simp; all_goals (with_reducible rfl)
  try simp only [Act.put, List.getElem_toArray, List.getElem_cons_zero, List.getElem_cons_succ, List.setIfInBounds_toArray, List.set_cons_zero, List.set_cons_succ]
  refine wpAnyH_take (i := 15) (oi := _) (v := ?_) rfl (by kernel_rfl) (by kernel_rfl) (by kernel_rfl) (fun _ _ _ h => h) (Or.inl ⟨by rfl, ?_⟩) (by assumption) ?_
  rotate_left
  · intro w hSw; obtain ⟨k0, k1, k2, k3, k4, k5, k6⟩ := hSw; go_simp; all_goals (with_reducible rfl)
  try simp only [Act.put, List.getElem_toArray, List.getElem_cons_zero, List.getElem_cons_succ, List.setIfInBounds_toArray, List.set_cons_zero, List.set_cons_succ]
  refine wpAnyH_take (i := 16) (oi := _) (v := ?_) rfl (by kernel_rfl) (by kernel_rfl) (by kernel_rfl) (fun _ _ _ h => h) (Or.inl ⟨by rfl, ?_⟩) (by assumption) ?_
  rotate_left
  · intro w hSw; obtain ⟨k0, k1, k2, k3, k4, k5, k6⟩ := hSw; go_simp; all_goals (with_reducible rfl)
  try simp only [Act.put, List.getElem_toArray, List.getElem_cons_zero, List.getElem_cons_succ, List.setIfInBounds_toArray, List.set_cons_zero, List.set_cons_succ]
  refine wpAnyH_take (i := 19) (oi := _) (v := ?_) rfl (by kernel_rfl) (by kernel_rfl) (by kernel_rfl) (fun _ _ _ h => h) (Or.inl ⟨by rfl, ?_⟩) (by assumption) ?_
  rotate_left
  · intro w hSw; obtain ⟨k0, k1, k2, k3, k4, k5, k6⟩ := hSw; go_simp; all_goals (with_reducible rfl)
  try simp only [Act.put, List.getElem_toArray, List.getElem_cons_zero, List.getElem_cons_succ, List.setIfInBounds_toArray, List.set_cons_zero, List.set_cons_succ]
  refine wpAnyH_take (i := 20) (oi := _) (v := ?_) rfl (by kernel_rfl) (by kernel_rfl) (by kernel_rfl) (fun _ _ _ h => h) (Or.inl ⟨by rfl, ?_⟩) (by assumption) ?_
  rotate_left
  · intro w hSw; obtain ⟨k0, k1, k2, k3, k4, k5, k6⟩ := hSw; go_simp; all_goals (with_reducible rfl)
  try simp only [Act.put, List.getElem_toArray, List.getElem_cons_zero, List.getElem_cons_succ, List.setIfInBounds_toArray, List.set_cons_zero, List.set_cons_succ]
  refine wpAnyH_take (i := 23) (oi := _) (v := ?_) rfl (by kernel_rfl) (by kernel_rfl) (by kernel_rfl) (fun _ _ _ h => h) (Or.inl ⟨by rfl, ?_⟩) (by assumption) ?_
  rotate_left
  · intro w hSw; obtain ⟨k0, k1, k2, k3, k4, k5, k6⟩ := hSw; go_simp; all_goals (with_reducible rfl)
  try simp only [Act.put, List.getElem_toArray, List.getElem_cons_zero, List.getElem_cons_succ, List.setIfInBounds_toArray, List.set_cons_zero, List.set_cons_succ]
  refine wpAnyH_take (i := 24) (oi := _) (v := ?_) rfl (by kernel_rfl) (by kernel_rfl) (by kernel_rfl) (fun _ _ _ h => h) (Or.inl ⟨by rfl, ?_⟩) (by assumption) ?_
  rotate_left
  · intro w hSw; obtain ⟨k0, k1, k2, k3, k4, k5, k6⟩ := hSw; go_simp; all_goals (with_reducible rfl)
  try simp only [Act.put, List.getElem_toArray, List.getElem_cons_zero, List.getElem_cons_succ, List.setIfInBounds_toArray, List.set_cons_zero, List.set_cons_succ]
  refine wpAnyH_ready (rs := [2]) (by kernel_rfl) (by simp) ?_
  refine AllReadyH.cons (o := _) rfl (fun K2 hK => ?_) AllReadyH.nil
  go_simp
  go_at_call 42; with_reducible refine (HI.out b.stops HB.out.stops u0).mono ?_; rintro e u1 ⟨D0, h0, hs0, rfl, b2⟩
  have U1 := Lib.hid (U0.out.trans (b2.mono U0.out.size))
  have d0 : D0.size ≤ 21 := by rw [hs0]; exact int_size HB.out.stops
  have H0 := Lib.hid h0
  have SD : u1.cell? ⟨w.heap.size, 0, none⟩ = some (.int .i64 b.stops) ∧ u1.cell? ⟨w.heap.size, 1, none⟩ = some (.int .i64 b.cells) ∧ u1.cell? ⟨w.heap.size, 2, none⟩ = some (.int .i64 b.mutes) ∧ u1.cell? ⟨w.heap.size, 3, none⟩ = some (.int .i64 b.muteMost) ∧ u1.cell? ⟨w.heap.size, 4, none⟩ = some (.int .i64 b.lifts) ∧ u1.cell? ⟨w.heap.size, 5, none⟩ = some (.int .i64 b.liftMost) ∧ u1.cell? ⟨w.heap.size, 6, none⟩ = some (.int .i64 b.steps) := by
    obtain ⟨k0, k1, k2, k3, k4, k5, k6⟩ := hHeld
    exact ⟨(b2.cell (cell_block_lt k0)).trans k0, (b2.cell (cell_block_lt k1)).trans k1, (b2.cell (cell_block_lt k2)).trans k2, (b2.cell (cell_block_lt k3)).trans k3, (b2.cell (cell_block_lt k4)).trans k4, (b2.cell (cell_block_lt k5)).trans k5, (b2.cell (cell_block_lt k6)).trans k6⟩
  clear b2 h0 hs0 hHeld
  go_simp
  refine hK.out _ _ SD (fun hHeld => ?_)
  clear hK K2 SD
  try simp only [Act.put, List.getElem_toArray, List.getElem_cons_zero, List.getElem_cons_succ, List.setIfInBounds_toArray, List.set_cons_zero, List.set_cons_succ]
  refine wpAnyH_ready (rs := [5]) (by kernel_rfl) (by simp) ?_
  refine AllReadyH.cons (o := _) rfl (fun K5 hK => ?_) AllReadyH.nil
  go_simp
  go_at_call 42; with_reducible refine (HI.out b.cells HB.out.cells u1).mono ?_; rintro e u2 ⟨D1, h1, hs1, rfl, b2⟩
  have U2 := Lib.hid (U1.out.trans (b2.mono U1.out.size))
  have d1 : D1.size ≤ 21 := by rw [hs1]; exact int_size HB.out.cells
  have H1 := Lib.hid h1
  have SD : u2.cell? ⟨w.heap.size, 0, none⟩ = some (.int .i64 b.stops) ∧ u2.cell? ⟨w.heap.size, 1, none⟩ = some (.int .i64 b.cells) ∧ u2.cell? ⟨w.heap.size, 2, none⟩ = some (.int .i64 b.mutes) ∧ u2.cell? ⟨w.heap.size, 3, none⟩ = some (.int .i64 b.muteMost) ∧ u2.cell? ⟨w.heap.size, 4, none⟩ = some (.int .i64 b.lifts) ∧ u2.cell? ⟨w.heap.size, 5, none⟩ = some (.int .i64 b.liftMost) ∧ u2.cell? ⟨w.heap.size, 6, none⟩ = some (.int .i64 b.steps) := by
    obtain ⟨k0, k1, k2, k3, k4, k5, k6⟩ := hHeld
    exact ⟨(b2.cell (cell_block_lt k0)).trans k0, (b2.cell (cell_block_lt k1)).trans k1, (b2.cell (cell_block_lt k2)).trans k2, (b2.cell (cell_block_lt k3)).trans k3, (b2.cell (cell_block_lt k4)).trans k4, (b2.cell (cell_block_lt k5)).trans k5, (b2.cell (cell_block_lt k6)).trans k6⟩
  clear b2 h1 hs1 hHeld
  go_simp
  refine hK.out _ _ SD (fun hHeld => ?_)
  clear hK K5 SD
  try simp only [Act.put, List.getElem_toArray, List.getElem_cons_zero, List.getElem_cons_succ, List.setIfInBounds_toArray, List.set_cons_zero, List.set_cons_succ]
  have q1 : ¬ 9223372036854775807 < (D0).size + D1.size := by (try simp only [ByteArray.size_append]); omega
  have qq1 : ¬ 9223372036854775807 < D0.size + D1.size := by omega
  refine wpAnyH_take (i := 6) (oi := _) (v := ?_) rfl (by kernel_rfl) (by kernel_rfl) (by kernel_rfl) (fun _ _ _ h => h) (Or.inl ⟨by rfl, ?_⟩) (by assumption) ?_
  rotate_left
  · intro w hSw; obtain ⟨k0, k1, k2, k3, k4, k5, k6⟩ := hSw; go_simp; all_goals (with_reducible rfl)
  try simp only [Act.put, List.getElem_toArray, List.getElem_cons_zero, List.getElem_cons_succ, List.setIfInBounds_toArray, List.set_cons_zero, List.set_cons_succ]
  refine wpAnyH_ready (rs := [9]) (by kernel_rfl) (by simp) ?_
  refine AllReadyH.cons (o := _) rfl (fun K9 hK => ?_) AllReadyH.nil
  go_simp
  go_at_call 42; with_reducible refine (HI.out b.mutes HB.out.mutes u2).mono ?_; rintro e u3 ⟨D2, h2, hs2, rfl, b2⟩
  have U3 := Lib.hid (U2.out.trans (b2.mono U2.out.size))
  have d2 : D2.size ≤ 21 := by rw [hs2]; exact int_size HB.out.mutes
  have H2 := Lib.hid h2
  have SD : u3.cell? ⟨w.heap.size, 0, none⟩ = some (.int .i64 b.stops) ∧ u3.cell? ⟨w.heap.size, 1, none⟩ = some (.int .i64 b.cells) ∧ u3.cell? ⟨w.heap.size, 2, none⟩ = some (.int .i64 b.mutes) ∧ u3.cell? ⟨w.heap.size, 3, none⟩ = some (.int .i64 b.muteMost) ∧ u3.cell? ⟨w.heap.size, 4, none⟩ = some (.int .i64 b.lifts) ∧ u3.cell? ⟨w.heap.size, 5, none⟩ = some (.int .i64 b.liftMost) ∧ u3.cell? ⟨w.heap.size, 6, none⟩ = some (.int .i64 b.steps) := by
    obtain ⟨k0, k1, k2, k3, k4, k5, k6⟩ := hHeld
    exact ⟨(b2.cell (cell_block_lt k0)).trans k0, (b2.cell (cell_block_lt k1)).trans k1, (b2.cell (cell_block_lt k2)).trans k2, (b2.cell (cell_block_lt k3)).trans k3, (b2.cell (cell_block_lt k4)).trans k4, (b2.cell (cell_block_lt k5)).trans k5, (b2.cell (cell_block_lt k6)).trans k6⟩
  clear b2 h2 hs2 hHeld
  go_simp
  refine hK.out _ _ SD (fun hHeld => ?_)
  clear hK K9 SD
  try simp only [Act.put, List.getElem_toArray, List.getElem_cons_zero, List.getElem_cons_succ, List.setIfInBounds_toArray, List.set_cons_zero, List.set_cons_succ]
  have q2 : ¬ 9223372036854775807 < ((D0 ++ D1)).size + D2.size := by (try simp only [ByteArray.size_append]); omega
  have qq2 : ¬ 9223372036854775807 < D0.size + D1.size + D2.size := by omega
  refine wpAnyH_take (i := 10) (oi := _) (v := ?_) rfl (by kernel_rfl) (by kernel_rfl) (by kernel_rfl) (fun _ _ _ h => h) (Or.inl ⟨by rfl, ?_⟩) (by assumption) ?_
  rotate_left
  · intro w hSw; obtain ⟨k0, k1, k2, k3, k4, k5, k6⟩ := hSw; go_simp; all_goals (with_reducible rfl)
  try simp only [Act.put, List.getElem_toArray, List.getElem_cons_zero, List.getElem_cons_succ, List.setIfInBounds_toArray, List.set_cons_zero, List.set_cons_succ]
  refine wpAnyH_ready (rs := [13]) (by kernel_rfl) (by simp) ?_
  refine AllReadyH.cons (o := _) rfl (fun K13 hK => ?_) AllReadyH.nil
  go_simp
  go_at_call 42; with_reducible refine (HI.out b.muteMost HB.out.muteMost u3).mono ?_; rintro e u4 ⟨D3, h3, hs3, rfl, b2⟩
  have U4 := Lib.hid (U3.out.trans (b2.mono U3.out.size))
  have d3 : D3.size ≤ 21 := by rw [hs3]; exact int_size HB.out.muteMost
  have H3 := Lib.hid h3
  have SD : u4.cell? ⟨w.heap.size, 0, none⟩ = some (.int .i64 b.stops) ∧ u4.cell? ⟨w.heap.size, 1, none⟩ = some (.int .i64 b.cells) ∧ u4.cell? ⟨w.heap.size, 2, none⟩ = some (.int .i64 b.mutes) ∧ u4.cell? ⟨w.heap.size, 3, none⟩ = some (.int .i64 b.muteMost) ∧ u4.cell? ⟨w.heap.size, 4, none⟩ = some (.int .i64 b.lifts) ∧ u4.cell? ⟨w.heap.size, 5, none⟩ = some (.int .i64 b.liftMost) ∧ u4.cell? ⟨w.heap.size, 6, none⟩ = some (.int .i64 b.steps) := by
    obtain ⟨k0, k1, k2, k3, k4, k5, k6⟩ := hHeld
    exact ⟨(b2.cell (cell_block_lt k0)).trans k0, (b2.cell (cell_block_lt k1)).trans k1, (b2.cell (cell_block_lt k2)).trans k2, (b2.cell (cell_block_lt k3)).trans k3, (b2.cell (cell_block_lt k4)).trans k4, (b2.cell (cell_block_lt k5)).trans k5, (b2.cell (cell_block_lt k6)).trans k6⟩
  clear b2 h3 hs3 hHeld
  go_simp
  refine hK.out _ _ SD (fun hHeld => ?_)
  clear hK K13 SD
  try simp only [Act.put, List.getElem_toArray, List.getElem_cons_zero, List.getElem_cons_succ, List.setIfInBounds_toArray, List.set_cons_zero, List.set_cons_succ]
  have q3 : ¬ 9223372036854775807 < (((D0 ++ D1) ++ D2)).size + D3.size := by (try simp only [ByteArray.size_append]); omega
  have qq3 : ¬ 9223372036854775807 < D0.size + D1.size + D2.size + D3.size := by omega
  refine wpAnyH_take (i := 14) (oi := _) (v := ?_) rfl (by kernel_rfl) (by kernel_rfl) (by kernel_rfl) (fun _ _ _ h => h) (Or.inl ⟨by rfl, ?_⟩) (by assumption) ?_
  rotate_left
  · intro w hSw; obtain ⟨k0, k1, k2, k3, k4, k5, k6⟩ := hSw; go_simp; all_goals (with_reducible rfl)
  try simp only [Act.put, List.getElem_toArray, List.getElem_cons_zero, List.getElem_cons_succ, List.setIfInBounds_toArray, List.set_cons_zero, List.set_cons_succ]
  refine wpAnyH_ready (rs := [17]) (by kernel_rfl) (by simp) ?_
  refine AllReadyH.cons (o := _) rfl (fun K17 hK => ?_) AllReadyH.nil
  go_simp
  go_at_call 42; with_reducible refine (HI.out b.lifts HB.out.lifts u4).mono ?_; rintro e u5 ⟨D4, h4, hs4, rfl, b2⟩
  have U5 := Lib.hid (U4.out.trans (b2.mono U4.out.size))
  have d4 : D4.size ≤ 21 := by rw [hs4]; exact int_size HB.out.lifts
  have H4 := Lib.hid h4
  have SD : u5.cell? ⟨w.heap.size, 0, none⟩ = some (.int .i64 b.stops) ∧ u5.cell? ⟨w.heap.size, 1, none⟩ = some (.int .i64 b.cells) ∧ u5.cell? ⟨w.heap.size, 2, none⟩ = some (.int .i64 b.mutes) ∧ u5.cell? ⟨w.heap.size, 3, none⟩ = some (.int .i64 b.muteMost) ∧ u5.cell? ⟨w.heap.size, 4, none⟩ = some (.int .i64 b.lifts) ∧ u5.cell? ⟨w.heap.size, 5, none⟩ = some (.int .i64 b.liftMost) ∧ u5.cell? ⟨w.heap.size, 6, none⟩ = some (.int .i64 b.steps) := by
    obtain ⟨k0, k1, k2, k3, k4, k5, k6⟩ := hHeld
    exact ⟨(b2.cell (cell_block_lt k0)).trans k0, (b2.cell (cell_block_lt k1)).trans k1, (b2.cell (cell_block_lt k2)).trans k2, (b2.cell (cell_block_lt k3)).trans k3, (b2.cell (cell_block_lt k4)).trans k4, (b2.cell (cell_block_lt k5)).trans k5, (b2.cell (cell_block_lt k6)).trans k6⟩
  clear b2 h4 hs4 hHeld
  go_simp
  refine hK.out _ _ SD (fun hHeld => ?_)
  clear hK K17 SD
  try simp only [Act.put, List.getElem_toArray, List.getElem_cons_zero, List.getElem_cons_succ, List.setIfInBounds_toArray, List.set_cons_zero, List.set_cons_succ]
  have q4 : ¬ 9223372036854775807 < ((((D0 ++ D1) ++ D2) ++ D3)).size + D4.size := by (try simp only [ByteArray.size_append]); omega
  have qq4 : ¬ 9223372036854775807 < D0.size + D1.size + D2.size + D3.size + D4.size := by omega
  refine wpAnyH_take (i := 18) (oi := _) (v := ?_) rfl (by kernel_rfl) (by kernel_rfl) (by kernel_rfl) (fun _ _ _ h => h) (Or.inl ⟨by rfl, ?_⟩) (by assumption) ?_
  rotate_left
  · intro w hSw; obtain ⟨k0, k1, k2, k3, k4, k5, k6⟩ := hSw; go_simp; all_goals (with_reducible rfl)
  try simp only [Act.put, List.getElem_toArray, List.getElem_cons_zero, List.getElem_cons_succ, List.setIfInBounds_toArray, List.set_cons_zero, List.set_cons_succ]
  refine wpAnyH_ready (rs := [21]) (by kernel_rfl) (by simp) ?_
  refine AllReadyH.cons (o := _) rfl (fun K21 hK => ?_) AllReadyH.nil
  go_simp
  go_at_call 42; with_reducible refine (HI.out b.liftMost HB.out.liftMost u5).mono ?_; rintro e u6 ⟨D5, h5, hs5, rfl, b2⟩
  have U6 := Lib.hid (U5.out.trans (b2.mono U5.out.size))
  have d5 : D5.size ≤ 21 := by rw [hs5]; exact int_size HB.out.liftMost
  have H5 := Lib.hid h5
  have SD : u6.cell? ⟨w.heap.size, 0, none⟩ = some (.int .i64 b.stops) ∧ u6.cell? ⟨w.heap.size, 1, none⟩ = some (.int .i64 b.cells) ∧ u6.cell? ⟨w.heap.size, 2, none⟩ = some (.int .i64 b.mutes) ∧ u6.cell? ⟨w.heap.size, 3, none⟩ = some (.int .i64 b.muteMost) ∧ u6.cell? ⟨w.heap.size, 4, none⟩ = some (.int .i64 b.lifts) ∧ u6.cell? ⟨w.heap.size, 5, none⟩ = some (.int .i64 b.liftMost) ∧ u6.cell? ⟨w.heap.size, 6, none⟩ = some (.int .i64 b.steps) := by
    obtain ⟨k0, k1, k2, k3, k4, k5, k6⟩ := hHeld
    exact ⟨(b2.cell (cell_block_lt k0)).trans k0, (b2.cell (cell_block_lt k1)).trans k1, (b2.cell (cell_block_lt k2)).trans k2, (b2.cell (cell_block_lt k3)).trans k3, (b2.cell (cell_block_lt k4)).trans k4, (b2.cell (cell_block_lt k5)).trans k5, (b2.cell (cell_block_lt k6)).trans k6⟩
  clear b2 h5 hs5 hHeld
  go_simp
  refine hK.out _ _ SD (fun hHeld => ?_)
  clear hK K21 SD
  try simp only [Act.put, List.getElem_toArray, List.getElem_cons_zero, List.getElem_cons_succ, List.setIfInBounds_toArray, List.set_cons_zero, List.set_cons_succ]
  have q5 : ¬ 9223372036854775807 < (((((D0 ++ D1) ++ D2) ++ D3) ++ D4)).size + D5.size := by (try simp only [ByteArray.size_append]); omega
  have qq5 : ¬ 9223372036854775807 < D0.size + D1.size + D2.size + D3.size + D4.size + D5.size := by omega
  refine wpAnyH_take (i := 22) (oi := _) (v := ?_) rfl (by kernel_rfl) (by kernel_rfl) (by kernel_rfl) (fun _ _ _ h => h) (Or.inl ⟨by rfl, ?_⟩) (by assumption) ?_
  rotate_left
  · intro w hSw; obtain ⟨k0, k1, k2, k3, k4, k5, k6⟩ := hSw; go_simp; all_goals (with_reducible rfl)
  try simp only [Act.put, List.getElem_toArray, List.getElem_cons_zero, List.getElem_cons_succ, List.setIfInBounds_toArray, List.set_cons_zero, List.set_cons_succ]
  refine wpAnyH_ready (rs := [25]) (by kernel_rfl) (by simp) ?_
  refine AllReadyH.cons (o := _) rfl (fun K25 hK => ?_) AllReadyH.nil
  go_simp
  go_at_call 42; with_reducible refine (HI.out b.steps HB.out.steps u6).mono ?_; rintro e u7 ⟨D6, h6, hs6, rfl, b2⟩
  have U7 := Lib.hid (U6.out.trans (b2.mono U6.out.size))
  have d6 : D6.size ≤ 21 := by rw [hs6]; exact int_size HB.out.steps
  have H6 := Lib.hid h6
  have SD : u7.cell? ⟨w.heap.size, 0, none⟩ = some (.int .i64 b.stops) ∧ u7.cell? ⟨w.heap.size, 1, none⟩ = some (.int .i64 b.cells) ∧ u7.cell? ⟨w.heap.size, 2, none⟩ = some (.int .i64 b.mutes) ∧ u7.cell? ⟨w.heap.size, 3, none⟩ = some (.int .i64 b.muteMost) ∧ u7.cell? ⟨w.heap.size, 4, none⟩ = some (.int .i64 b.lifts) ∧ u7.cell? ⟨w.heap.size, 5, none⟩ = some (.int .i64 b.liftMost) ∧ u7.cell? ⟨w.heap.size, 6, none⟩ = some (.int .i64 b.steps) := by
    obtain ⟨k0, k1, k2, k3, k4, k5, k6⟩ := hHeld
    exact ⟨(b2.cell (cell_block_lt k0)).trans k0, (b2.cell (cell_block_lt k1)).trans k1, (b2.cell (cell_block_lt k2)).trans k2, (b2.cell (cell_block_lt k3)).trans k3, (b2.cell (cell_block_lt k4)).trans k4, (b2.cell (cell_block_lt k5)).trans k5, (b2.cell (cell_block_lt k6)).trans k6⟩
  clear b2 h6 hs6 hHeld
  go_simp
  refine hK.out _ _ SD (fun hHeld => ?_)
  clear hK K25 SD
  try simp only [Act.put, List.getElem_toArray, List.getElem_cons_zero, List.getElem_cons_succ, List.setIfInBounds_toArray, List.set_cons_zero, List.set_cons_succ]
  have q6 : ¬ 9223372036854775807 < ((((((D0 ++ D1) ++ D2) ++ D3) ++ D4) ++ D5)).size + D6.size := by (try simp only [ByteArray.size_append]); omega
  have qq6 : ¬ 9223372036854775807 < D0.size + D1.size + D2.size + D3.size + D4.size + D5.size + D6.size := by omega
  refine wpAnyH_take (i := 26) (oi := _) (v := ?_) rfl (by kernel_rfl) (by kernel_rfl) (by kernel_rfl) (fun _ _ _ h => h) (Or.inl ⟨by rfl, ?_⟩) (by assumption) ?_
  rotate_left
  · intro w hSw; obtain ⟨k0, k1, k2, k3, k4, k5, k6⟩ := hSw; go_simp; all_goals (with_reducible rfl)
  try simp only [Act.put, List.getElem_toArray, List.getElem_cons_zero, List.getElem_cons_succ, List.setIfInBounds_toArray, List.set_cons_zero, List.set_cons_succ]
  refine wpAnyH_take (i := 27) (oi := _) (v := ?_) rfl (by kernel_rfl) (by kernel_rfl) (by kernel_rfl) (fun _ _ _ h => h) (Or.inl ⟨by rfl, ?_⟩) (by assumption) ?_
  rotate_left
  · intro w hSw; obtain ⟨k0, k1, k2, k3, k4, k5, k6⟩ := hSw; go_simp; all_goals (with_reducible rfl)
  try simp only [Act.put, List.getElem_toArray, List.getElem_cons_zero, List.getElem_cons_succ, List.setIfInBounds_toArray, List.set_cons_zero, List.set_cons_succ]
  refine wpAnyH_done (by kernel_rfl) ?_ _
  clear hHeld
  go_wp2_with fail
  go_ret
  have hb : bs ((((((D0 ++ D1) ++ D2) ++ D3) ++ D4) ++ D5) ++ D6) = Fa.budB b := by
    rw [bs_appR, bs_appR, bs_appR, bs_appR, bs_appR, bs_appR, H0.out, H1.out, H2.out, H3.out, H4.out, H5.out, H6.out]; simp [Fa.budB]
  exact ⟨_, hb, by rw [← bs_len, hb], rfl, U7.out⟩
end Go.Proofs.YtcdfmgobokjcnaaGreatDoor
/- Walks of fault.Read and taquinref29.Read. -/
namespace Go.Proofs.YtcdfmgobokjcnaaGreatDoor
set_option linter.unusedSimpArgs false
set_option linter.unusedVariables false
open Go.RowKit

theorem numS_len (e : UInt8) (m : Int) (s : Wr.St) : (Wr.numS e m s).2.1.length ≤ s.1.length := by
  unfold Wr.numS
  cases h : Wr.numR e m s.1 with
  | none => simp [Wr.fail]
  | some x =>
    obtain ⟨n, r⟩ := x
    unfold Wr.numR at h
    split at h
    · cases h
    · split at h
      · split at h
        · injection h with h
          injection h with h1 h2
          subst h2
          simp
        · cases h
      · cases h
theorem stR_len (t : Wr.B) : ∀ k, (Fa.stR t k).1.length ≤ t.length
  | 0 => Nat.le_refl _
  | k + 1 => Nat.le_trans (numS_len 59 _ (Fa.stR t k)) (stR_len t k)
theorem done_dec (t : Wr.B) : decide (Fa.stR t 7 = ([], false)) = Fa.doneR t := by
  unfold Fa.doneR
  obtain ⟨⟨l, c⟩, hb⟩ : ∃ x : Wr.St, Fa.stR t 7 = x := ⟨_, rfl⟩
  rw [hb]
  cases l <;> cases c <;> simp
/-- What is handed back of a reading. -/
def readA (t : Wr.B) : Array Value := if Fa.readB t = true then budA (Fa.budR t) else budZ
def readV (t : Wr.B) : Value := .tuple #[.agg (readA t), .bool (Fa.readB t)]
theorem readV_yes {t : Wr.B} (h1 : Fa.doneR t = true) (h2 : Fa.rightB (Fa.budR t) = true) : readV t = .tuple #[.agg #[.int .i64 (Fa.numR t 0), .int .i64 (Fa.numR t 1), .int .i64 (Fa.numR t 2), .int .i64 (Fa.numR t 3), .int .i64 (Fa.numR t 4), .int .i64 (Fa.numR t 5), .int .i64 (Fa.numR t 6)], .bool true] := by
  have h : Fa.readB t = true := by unfold Fa.readB; rw [h1, h2]; rfl
  unfold readV readA
  rw [if_pos h, h]
  simp only [budA, Fa.budR]
theorem readV_no {t : Wr.B} (h : Fa.readB t = false) : readV t = .tuple #[.agg #[.int .i64 0, .int .i64 0, .int .i64 0, .int .i64 0, .int .i64 0, .int .i64 0, .int .i64 0], .bool false] := by
  unfold readV readA
  rw [h, if_neg (by simp)]; rfl
set_option maxRecDepth 100000 in
set_option maxHeartbeats 16000000 in
theorem fRead_any (D : ByteArray) (w : World) (hE : EnvR w) (hl : D.size ≤ 1000000) : Calls Tryz.prog 5 #[.string D] w fun e w' => e = .returned (readV (bs D)) ∧ Below w.heap.size w w' := by
  obtain ⟨t, ht⟩ : ∃ t, bs D = t := ⟨_, rfl⟩
  have htl : t.length ≤ 1000000 := by rw [← ht, bs_len]; exact hl
  have HOP : Hid (∀ W, Calls Tryz.prog 29 #[.string D] W fun e w' => e = .returned (.pointer (some ⟨W.heap.size, 0, none⟩)) ∧ Below W.heap.size W w' ∧ RdS w' W.heap.size (t, false)) := Lib.hid (fun W => (rdOpen_any D W).mono (fun _ _ h => ⟨h.1, h.2.1, ⟨D, ht, h.2.2.2⟩⟩))
  have HIN : Hid (∀ (b k : Nat) W, Below w.heap.size w W → RdS W b (Fa.stR t k) → Calls Tryz.prog 30 #[.pointer (some ⟨b, 0, none⟩)] W fun r w' => r = .returned (.int .i64 (Fa.numR t k)) ∧ NB b W w' ∧ RdS w' b (Fa.stR t (k + 1))) := Lib.hid (fun b k W hb h => rdInt_any b (Fa.stR t k) W h (hE.below hb) (by have := stR_len t k; omega))
  have HDN : Hid (∀ (b : Nat) W, RdS W b (Fa.stR t 7) → Calls Tryz.prog 31 #[.pointer (some ⟨b, 0, none⟩)] W fun r w' => r = .returned (.bool (Fa.doneR t)) ∧ W = w') := Lib.hid (fun b W h => by
    have h1 := rdDone_any b (Fa.stR t 7) W h
    rw [done_dec] at h1
    exact h1.mono (fun _ _ h => ⟨h.1, h.2.symm⟩))
  have HRB := Lib.hid (fun W => fRightB_any (Fa.budR t) W)
  unfold budA Fa.budR at HRB
  dsimp only at HRB
  obtain ⟨R, hR⟩ : ∃ R, Fa.rightB (Fa.budR t) = R := ⟨_, rfl⟩
  have HRR := Lib.hid hR
  rw [show Fa.rightB ⟨Fa.numR t 0, Fa.numR t 1, Fa.numR t 2, Fa.numR t 3, Fa.numR t 4, Fa.numR t 5, Fa.numR t 6⟩ = R from hR] at HRB
  obtain ⟨DN, hDN⟩ : ∃ B, Fa.doneR t = B := ⟨_, rfl⟩
  have HDR := Lib.hid hDN
  rw [hDN] at HDN
  rw [ht]
  obtain ⟨w1, hw1⟩ : ∃ W, W = w.alloc (.cells #[.int .i64 0, .int .i64 0, .int .i64 0, .int .i64 0, .int .i64 0, .int .i64 0, .int .i64 0] 36) := ⟨_, rfl⟩
  have A1 := al1 w (.cells #[.int .i64 0, .int .i64 0, .int .i64 0, .int .i64 0, .int .i64 0, .int .i64 0, .int .i64 0] 36)
  rw [← hw1] at A1
  have I1 := Lib.hid A1.1
  have B1 := Lib.hid A1.2.1
  have HW1 := Lib.hid hw1
  have hs1 := heap_lt I1.out
  have HVY := Lib.hid (readV_yes (t := t))
  obtain ⟨NR, hNR⟩ : ∃ g : Nat → Int, Fa.numR t = g := ⟨_, rfl⟩
  rw [hNR] at HIN HRB HVY
  clear hNR
  clear hR hDN ht htl hl hw1 A1
  go_enter Tryz.func5, Tryz.ntmps5
  go_upto_region 1 with fail
  rw [← HW1.out]
  go_wp2_with fail
  go_at_call 29; with_reducible refine (HOP.out w1).mono ?_; rintro e v0 ⟨rfl, b2, r0⟩
  have S0 : Hid (RdS v0 w1.heap.size (Fa.stR t 0)) := Lib.hid r0
  have N0 : Hid (Below w1.heap.size w1 v0) := Lib.hid b2
  have L0 : Hid (w1.heap.size < v0.heap.size) := Lib.hid (by obtain ⟨E, -, hE⟩ := r0; exact heap_lt hE)
  clear b2 r0 HOP
  go_wp2_with fail
  go_at_call 30; with_reducible refine (HIN.out w1.heap.size 0 v0 (B1.out.trans (N0.out.mono B1.out.size)) S0.out).mono ?_; rintro e v1 ⟨rfl, n2, r2⟩
  have S1 := Lib.hid r2
  have N1 : Hid (Below w1.heap.size w1 v1) := Lib.hid (N0.out.trans (NB.below n2 (Nat.le_refl _) N0.out.size))
  clear n2 r2
  go_wp2_with fail
  go_at_call 30; with_reducible refine (HIN.out w1.heap.size 1 v1 (B1.out.trans (N1.out.mono B1.out.size)) S1.out).mono ?_; rintro e v2 ⟨rfl, n2, r2⟩
  have S2 := Lib.hid r2
  have N2 : Hid (Below w1.heap.size w1 v2) := Lib.hid (N1.out.trans (NB.below n2 (Nat.le_refl _) N1.out.size))
  clear n2 r2
  go_wp2_with fail
  go_at_call 30; with_reducible refine (HIN.out w1.heap.size 2 v2 (B1.out.trans (N2.out.mono B1.out.size)) S2.out).mono ?_; rintro e v3 ⟨rfl, n2, r2⟩
  have S3 := Lib.hid r2
  have N3 : Hid (Below w1.heap.size w1 v3) := Lib.hid (N2.out.trans (NB.below n2 (Nat.le_refl _) N2.out.size))
  clear n2 r2
  go_wp2_with fail
  go_at_call 30; with_reducible refine (HIN.out w1.heap.size 3 v3 (B1.out.trans (N3.out.mono B1.out.size)) S3.out).mono ?_; rintro e v4 ⟨rfl, n2, r2⟩
  have S4 := Lib.hid r2
  have N4 : Hid (Below w1.heap.size w1 v4) := Lib.hid (N3.out.trans (NB.below n2 (Nat.le_refl _) N3.out.size))
  clear n2 r2
  go_wp2_with fail
  go_at_call 30; with_reducible refine (HIN.out w1.heap.size 4 v4 (B1.out.trans (N4.out.mono B1.out.size)) S4.out).mono ?_; rintro e v5 ⟨rfl, n2, r2⟩
  have S5 := Lib.hid r2
  have N5 : Hid (Below w1.heap.size w1 v5) := Lib.hid (N4.out.trans (NB.below n2 (Nat.le_refl _) N4.out.size))
  clear n2 r2
  go_wp2_with fail
  go_at_call 30; with_reducible refine (HIN.out w1.heap.size 5 v5 (B1.out.trans (N5.out.mono B1.out.size)) S5.out).mono ?_; rintro e v6 ⟨rfl, n2, r2⟩
  have S6 := Lib.hid r2
  have N6 : Hid (Below w1.heap.size w1 v6) := Lib.hid (N5.out.trans (NB.below n2 (Nat.le_refl _) N5.out.size))
  clear n2 r2
  go_wp2_with fail
  go_at_call 30; with_reducible refine (HIN.out w1.heap.size 6 v6 (B1.out.trans (N6.out.mono B1.out.size)) S6.out).mono ?_; rintro e v7 ⟨rfl, n2, r2⟩
  have S7 := Lib.hid r2
  have N7 : Hid (Below w1.heap.size w1 v7) := Lib.hid (N6.out.trans (NB.below n2 (Nat.le_refl _) N6.out.size))
  clear n2 r2
  obtain ⟨u1, hu1⟩ : ∃ W, W = v7.alloc (.cells #[.int .i64 (NR 0), .int .i64 (NR 1), .int .i64 (NR 2), .int .i64 (NR 3), .int .i64 (NR 4), .int .i64 (NR 5), .int .i64 (NR 6)] 36) := ⟨_, rfl⟩
  have A2 := al1 v7 (.cells #[.int .i64 (NR 0), .int .i64 (NR 1), .int .i64 (NR 2), .int .i64 (NR 3), .int .i64 (NR 4), .int .i64 (NR 5), .int .i64 (NR 6)] 36)
  rw [← hu1] at A2
  obtain ⟨BK, hBK⟩ : ∃ n, v7.heap.size = n := ⟨_, rfl⟩
  have IU : Hid (u1.heap[BK]? = some (.cells #[.int .i64 (NR 0), .int .i64 (NR 1), .int .i64 (NR 2), .int .i64 (NR 3), .int .i64 (NR 4), .int .i64 (NR 5), .int .i64 (NR 6)] 36 (0, 0))) := Lib.hid (by rw [← hBK]; exact A2.1)
  have BU : Hid (Below w1.heap.size w1 u1) := Lib.hid (N7.out.trans (A2.2.1.mono N7.out.size))
  have SU : Hid (RdS u1 w1.heap.size (Fa.stR t 7)) := Lib.hid (S7.out.below A2.2.1)
  have HU := Lib.hid hu1
  clear hu1 A2
  go_upto_region 3 with fail
  rw [← HU.out]
  try rw [hBK]
  clear hBK
  go_wp2_with fail
  go_at_call 31; with_reducible refine (HDN.out w1.heap.size u1 SU.out).mono ?_; rintro e u2 ⟨rfl, rfl⟩
  cases DN with
  | false =>
    have HNV := Lib.hid (readV_no (t := t) (by unfold Fa.readB; rw [HDR.out]; rfl))
    have RR : Hid (u1.heap[w.heap.size]? = some (.cells #[.int .i64 0, .int .i64 0, .int .i64 0, .int .i64 0, .int .i64 0, .int .i64 0, .int .i64 0] 36 (0, 0))) := Lib.hid (BU.out.block w.heap.size hs1 |>.trans I1.out)
    go_wp2_with (refine wpList_store_row rfl 36 (.tmp 2) (.tmp 31) rfl w.heap.size #[.int .i64 0, .int .i64 0, .int .i64 0, .int .i64 0, .int .i64 0, .int .i64 0, .int .i64 0] rfl rfl 36 _ RR.out (by kernel_rfl) rfl (by kernel_rfl) ?_)
    refine bodyPost_ret (v := .tuple #[.agg #[.int .i64 0, .int .i64 0, .int .i64 0, .int .i64 0, .int .i64 0, .int .i64 0, .int .i64 0], .bool false]) (results_rowtmp2 (p := 2) (ty := 36) (u := 3) (by kernel_rfl) _ _ w.heap.size 36 #[.int .i64 0, .int .i64 0, .int .i64 0, .int .i64 0, .int .i64 0, .int .i64 0, .int .i64 0] (0, 0) _ rfl (setRow_heap _ _ _ _ _ _ RR.out) Tryz.underlying36 rfl (by kernel_rfl)) rfl ?_
    refine ⟨?_, (B1.out.trans (BU.out.mono B1.out.size)).trans ⟨rfl, rfl, rfl, by simp [World.setRow], fun k hk => setRow_other _ _ _ _ (by omega)⟩⟩
    rw [HNV.out]
  | true =>
    have c0 : u1.cell? ⟨BK, 0, none⟩ = some (.int .i64 (NR 0)) := cell_of_heap IU.out 0 rfl
    have c1 : u1.cell? ⟨BK, 1, none⟩ = some (.int .i64 (NR 1)) := cell_of_heap IU.out 1 rfl
    have c2 : u1.cell? ⟨BK, 2, none⟩ = some (.int .i64 (NR 2)) := cell_of_heap IU.out 2 rfl
    have c3 : u1.cell? ⟨BK, 3, none⟩ = some (.int .i64 (NR 3)) := cell_of_heap IU.out 3 rfl
    have c4 : u1.cell? ⟨BK, 4, none⟩ = some (.int .i64 (NR 4)) := cell_of_heap IU.out 4 rfl
    have c5 : u1.cell? ⟨BK, 5, none⟩ = some (.int .i64 (NR 5)) := cell_of_heap IU.out 5 rfl
    have c6 : u1.cell? ⟨BK, 6, none⟩ = some (.int .i64 (NR 6)) := cell_of_heap IU.out 6 rfl
    go_wp2_with fail
    go_at_call 7; with_reducible refine (HRB.out u1).mono ?_; rintro e u3 ⟨rfl, b3⟩
    have BU3 := Lib.hid (BU.out.trans (b3.mono BU.out.size))
    have IU3 := Lib.hid (keep_heap IU.out b3)
    clear b3 c0 c1 c2 c3 c4 c5 c6
    cases R with
    | false =>
      have HNV := Lib.hid (readV_no (t := t) (by unfold Fa.readB; rw [HDR.out, HRR.out]; rfl))
      have RR : Hid (u3.heap[w.heap.size]? = some (.cells #[.int .i64 0, .int .i64 0, .int .i64 0, .int .i64 0, .int .i64 0, .int .i64 0, .int .i64 0] 36 (0, 0))) := Lib.hid (BU3.out.block w.heap.size hs1 |>.trans I1.out)
      go_wp2_with (refine wpList_store_row rfl 36 (.tmp 2) (.tmp 31) rfl w.heap.size #[.int .i64 0, .int .i64 0, .int .i64 0, .int .i64 0, .int .i64 0, .int .i64 0, .int .i64 0] rfl rfl 36 _ RR.out (by kernel_rfl) rfl (by kernel_rfl) ?_)
      refine bodyPost_ret (v := .tuple #[.agg #[.int .i64 0, .int .i64 0, .int .i64 0, .int .i64 0, .int .i64 0, .int .i64 0, .int .i64 0], .bool false]) (results_rowtmp2 (p := 2) (ty := 36) (u := 3) (by kernel_rfl) _ _ w.heap.size 36 #[.int .i64 0, .int .i64 0, .int .i64 0, .int .i64 0, .int .i64 0, .int .i64 0, .int .i64 0] (0, 0) _ rfl (setRow_heap _ _ _ _ _ _ RR.out) Tryz.underlying36 rfl (by kernel_rfl)) rfl ?_
      refine ⟨?_, (B1.out.trans (BU3.out.mono B1.out.size)).trans ⟨rfl, rfl, rfl, by simp [World.setRow], fun k hk => setRow_other _ _ _ _ (by omega)⟩⟩
      rw [HNV.out]
    | true =>
      have HNV := Lib.hid (HVY.out HDR.out HRR.out)
      have c0 : u3.cell? ⟨BK, 0, none⟩ = some (.int .i64 (NR 0)) := cell_of_heap IU3.out 0 rfl
      have c1 : u3.cell? ⟨BK, 1, none⟩ = some (.int .i64 (NR 1)) := cell_of_heap IU3.out 1 rfl
      have c2 : u3.cell? ⟨BK, 2, none⟩ = some (.int .i64 (NR 2)) := cell_of_heap IU3.out 2 rfl
      have c3 : u3.cell? ⟨BK, 3, none⟩ = some (.int .i64 (NR 3)) := cell_of_heap IU3.out 3 rfl
      have c4 : u3.cell? ⟨BK, 4, none⟩ = some (.int .i64 (NR 4)) := cell_of_heap IU3.out 4 rfl
      have c5 : u3.cell? ⟨BK, 5, none⟩ = some (.int .i64 (NR 5)) := cell_of_heap IU3.out 5 rfl
      have c6 : u3.cell? ⟨BK, 6, none⟩ = some (.int .i64 (NR 6)) := cell_of_heap IU3.out 6 rfl
      have RR : Hid (u3.heap[w.heap.size]? = some (.cells #[.int .i64 0, .int .i64 0, .int .i64 0, .int .i64 0, .int .i64 0, .int .i64 0, .int .i64 0] 36 (0, 0))) := Lib.hid (BU3.out.block w.heap.size hs1 |>.trans I1.out)
      go_wp2_with (refine wpList_store_row rfl 36 (.tmp 2) (.tmp 32) rfl w.heap.size #[.int .i64 (NR 0), .int .i64 (NR 1), .int .i64 (NR 2), .int .i64 (NR 3), .int .i64 (NR 4), .int .i64 (NR 5), .int .i64 (NR 6)] rfl rfl 36 _ RR.out (by kernel_rfl) rfl (by kernel_rfl) ?_)
      refine bodyPost_ret (v := .tuple #[.agg #[.int .i64 (NR 0), .int .i64 (NR 1), .int .i64 (NR 2), .int .i64 (NR 3), .int .i64 (NR 4), .int .i64 (NR 5), .int .i64 (NR 6)], .bool true]) (results_rowtmp2 (p := 2) (ty := 36) (u := 3) (by kernel_rfl) _ _ w.heap.size 36 #[.int .i64 (NR 0), .int .i64 (NR 1), .int .i64 (NR 2), .int .i64 (NR 3), .int .i64 (NR 4), .int .i64 (NR 5), .int .i64 (NR 6)] (0, 0) _ rfl (setRow_heap _ _ _ _ _ _ RR.out) Tryz.underlying36 rfl (by kernel_rfl)) rfl ?_
      refine ⟨?_, (B1.out.trans (BU3.out.mono B1.out.size)).trans ⟨rfl, rfl, rfl, by simp [World.setRow], fun k hk => setRow_other _ _ _ _ (by omega)⟩⟩
      rw [HNV.out]
set_option maxRecDepth 100000 in
set_option maxHeartbeats 16000000 in
theorem rRead29_any (D : ByteArray) (w : World) (hl : D.size ≤ 1000000) : Calls Tryz.prog 6 #[.string D] w fun e w' => e = .returned (readV (bs D)) ∧ Below w.heap.size w w' := by
  obtain ⟨t, ht⟩ : ∃ t, bs D = t := ⟨_, rfl⟩
  have htl : t.length ≤ 1000000 := by rw [← ht, bs_len]; exact hl
  have HOP := Lib.hid (fun W => rfOpen_any D W)
  rw [ht] at HOP
  have HIN : Hid (∀ (b k : Nat) W, Below w.heap.size w W → RrS W b (Fa.stR t k) → Calls Tryz.prog 33 #[.pointer (some ⟨b, 0, none⟩)] W fun r w' => r = .returned (.int .i64 (Fa.numR t k)) ∧ NB b W w' ∧ RrS w' b (Fa.stR t (k + 1))) := Lib.hid (fun b k W _ h => rfInt_any b (Fa.stR t k) W h (by have := stR_len t k; omega))
  have HDN : Hid (∀ (b : Nat) W, RrS W b (Fa.stR t 7) → Calls Tryz.prog 34 #[.pointer (some ⟨b, 0, none⟩)] W fun r w' => r = .returned (.bool (Fa.doneR t)) ∧ W = w') := Lib.hid (fun b W h => (rfDone_any b (Fa.stR t 7) W h).mono (fun _ _ h => ⟨h.1, h.2.symm⟩))
  have HRB := Lib.hid (fun W => rRight29_any (Fa.budR t) W)
  unfold budA Fa.budR at HRB
  dsimp only at HRB
  obtain ⟨R, hR⟩ : ∃ R, Fa.rightB (Fa.budR t) = R := ⟨_, rfl⟩
  have HRR := Lib.hid hR
  rw [show Fa.rightB ⟨Fa.numR t 0, Fa.numR t 1, Fa.numR t 2, Fa.numR t 3, Fa.numR t 4, Fa.numR t 5, Fa.numR t 6⟩ = R from hR] at HRB
  obtain ⟨DN, hDN⟩ : ∃ B, Fa.doneR t = B := ⟨_, rfl⟩
  have HDR := Lib.hid hDN
  rw [hDN] at HDN
  rw [ht]
  obtain ⟨w1, hw1⟩ : ∃ W, W = w.alloc (.cells #[.int .i64 0, .int .i64 0, .int .i64 0, .int .i64 0, .int .i64 0, .int .i64 0, .int .i64 0] 36) := ⟨_, rfl⟩
  have A1 := al1 w (.cells #[.int .i64 0, .int .i64 0, .int .i64 0, .int .i64 0, .int .i64 0, .int .i64 0, .int .i64 0] 36)
  rw [← hw1] at A1
  have I1 := Lib.hid A1.1
  have B1 := Lib.hid A1.2.1
  have HW1 := Lib.hid hw1
  have hs1 := heap_lt I1.out
  have HVY := Lib.hid (readV_yes (t := t))
  obtain ⟨NR, hNR⟩ : ∃ g : Nat → Int, Fa.numR t = g := ⟨_, rfl⟩
  rw [hNR] at HIN HRB HVY
  clear hNR
  clear hR hDN ht htl hl hw1 A1
  go_enter Tryz.func6, Tryz.ntmps6
  go_upto_region 1 with fail
  rw [← HW1.out]
  go_wp2_with fail
  go_at_call 32; with_reducible refine (HOP.out w1).mono ?_; rintro e v0 ⟨rfl, b2, r0⟩
  have S0 : Hid (RrS v0 w1.heap.size (Fa.stR t 0)) := Lib.hid r0
  have N0 : Hid (Below w1.heap.size w1 v0) := Lib.hid b2
  have L0 : Hid (w1.heap.size < v0.heap.size) := Lib.hid (by obtain ⟨E, -, hE⟩ := r0; exact heap_lt hE)
  clear b2 r0 HOP
  go_wp2_with fail
  go_at_call 33; with_reducible refine (HIN.out w1.heap.size 0 v0 (B1.out.trans (N0.out.mono B1.out.size)) S0.out).mono ?_; rintro e v1 ⟨rfl, n2, r2⟩
  have S1 := Lib.hid r2
  have N1 : Hid (Below w1.heap.size w1 v1) := Lib.hid (N0.out.trans (NB.below n2 (Nat.le_refl _) N0.out.size))
  clear n2 r2
  obtain ⟨x1, hx1⟩ : ∃ W, W = v1.alloc (.cells #[.int .i64 (NR 0), .int .i64 0, .int .i64 0, .int .i64 0, .int .i64 0, .int .i64 0, .int .i64 0] 36) := ⟨_, rfl⟩
  have A2 := al1 v1 (.cells #[.int .i64 (NR 0), .int .i64 0, .int .i64 0, .int .i64 0, .int .i64 0, .int .i64 0, .int .i64 0] 36)
  rw [← hx1] at A2
  obtain ⟨BK, hBK⟩ : ∃ n, v1.heap.size = n := ⟨_, rfl⟩
  have X1 : Hid (x1.heap[BK]? = some (.cells #[.int .i64 (NR 0), .int .i64 0, .int .i64 0, .int .i64 0, .int .i64 0, .int .i64 0, .int .i64 0] 36 (0, 0))) := Lib.hid (by rw [← hBK]; exact A2.1)
  have M1 : Hid (Below w1.heap.size w1 x1) := Lib.hid (N1.out.trans (A2.2.1.mono N1.out.size))
  have T1 : Hid (RrS x1 w1.heap.size (Fa.stR t 1)) := Lib.hid (S1.out.below A2.2.1)
  have hBKl : w1.heap.size < BK := by
    rw [← hBK]
    obtain ⟨E, -, hE⟩ := S1.out
    exact heap_lt hE
  have HX1 := Lib.hid hx1
  clear hx1 A2
  go_upto_region 3 with fail
  rw [← HX1.out]
  try rw [hBK]
  clear hBK
  go_wp2_with fail
  go_at_call 33; with_reducible refine (HIN.out w1.heap.size 1 x1 (B1.out.trans (M1.out.mono B1.out.size)) T1.out).mono ?_; rintro e y1 ⟨rfl, n2, r2⟩
  have Y1 : Hid (y1.heap[BK]? = some (.cells #[.int .i64 (NR 0), .int .i64 0, .int .i64 0, .int .i64 0, .int .i64 0, .int .i64 0, .int .i64 0] 36 (0, 0))) := Lib.hid (n2.heap X1.out (by omega))
  have Q1 : Hid (Below w1.heap.size w1 y1) := Lib.hid (M1.out.trans (NB.below n2 (Nat.le_refl _) M1.out.size))
  have P1 := Lib.hid r2
  have c0 : y1.cell? ⟨BK, 1, none⟩ = some (.int .i64 0) := cell_of_heap Y1.out 1 rfl
  have g0 : y1.frozen? ⟨BK, 1, none⟩ = false := free_of_heap Y1.out 1
  obtain ⟨x2, hx2⟩ : ∃ W, W = y1.setCell ⟨BK, 1, none⟩ (.int .i64 (NR 1)) := ⟨_, rfl⟩
  have X2 : Hid (x2.heap[BK]? = some (.cells #[.int .i64 (NR 0), .int .i64 (NR 1), .int .i64 0, .int .i64 0, .int .i64 0, .int .i64 0, .int .i64 0] 36 (0, 0))) := Lib.hid (by rw [hx2]; exact set_heap Y1.out 1 _)
  have M2 : Hid (Below w1.heap.size w1 x2) := Lib.hid (by rw [hx2]; exact Q1.out.setCell (by dsimp only; omega) _)
  have T2 : Hid (RrS x2 w1.heap.size (Fa.stR t 2)) := Lib.hid (by
    obtain ⟨E, h1, h2⟩ := P1.out
    exact ⟨E, h1, by rw [hx2]; exact (heap_setCell_other y1 ⟨BK, 1, none⟩ w1.heap.size _ (by dsimp only; omega)).trans h2⟩)
  have HX2 := Lib.hid hx2
  clear hx2 n2 r2
  go_upto_region 4 with fail
  rw [← HX2.out]
  clear c0 g0
  go_wp2_with fail
  go_at_call 33; with_reducible refine (HIN.out w1.heap.size 2 x2 (B1.out.trans (M2.out.mono B1.out.size)) T2.out).mono ?_; rintro e y2 ⟨rfl, n2, r2⟩
  have Y2 : Hid (y2.heap[BK]? = some (.cells #[.int .i64 (NR 0), .int .i64 (NR 1), .int .i64 0, .int .i64 0, .int .i64 0, .int .i64 0, .int .i64 0] 36 (0, 0))) := Lib.hid (n2.heap X2.out (by omega))
  have Q2 : Hid (Below w1.heap.size w1 y2) := Lib.hid (M2.out.trans (NB.below n2 (Nat.le_refl _) M2.out.size))
  have P2 := Lib.hid r2
  have c0 : y2.cell? ⟨BK, 2, none⟩ = some (.int .i64 0) := cell_of_heap Y2.out 2 rfl
  have g0 : y2.frozen? ⟨BK, 2, none⟩ = false := free_of_heap Y2.out 2
  obtain ⟨x3, hx3⟩ : ∃ W, W = y2.setCell ⟨BK, 2, none⟩ (.int .i64 (NR 2)) := ⟨_, rfl⟩
  have X3 : Hid (x3.heap[BK]? = some (.cells #[.int .i64 (NR 0), .int .i64 (NR 1), .int .i64 (NR 2), .int .i64 0, .int .i64 0, .int .i64 0, .int .i64 0] 36 (0, 0))) := Lib.hid (by rw [hx3]; exact set_heap Y2.out 2 _)
  have M3 : Hid (Below w1.heap.size w1 x3) := Lib.hid (by rw [hx3]; exact Q2.out.setCell (by dsimp only; omega) _)
  have T3 : Hid (RrS x3 w1.heap.size (Fa.stR t 3)) := Lib.hid (by
    obtain ⟨E, h1, h2⟩ := P2.out
    exact ⟨E, h1, by rw [hx3]; exact (heap_setCell_other y2 ⟨BK, 2, none⟩ w1.heap.size _ (by dsimp only; omega)).trans h2⟩)
  have HX3 := Lib.hid hx3
  clear hx3 n2 r2
  go_upto_region 5 with fail
  rw [← HX3.out]
  clear c0 g0
  go_wp2_with fail
  go_at_call 33; with_reducible refine (HIN.out w1.heap.size 3 x3 (B1.out.trans (M3.out.mono B1.out.size)) T3.out).mono ?_; rintro e y3 ⟨rfl, n2, r2⟩
  have Y3 : Hid (y3.heap[BK]? = some (.cells #[.int .i64 (NR 0), .int .i64 (NR 1), .int .i64 (NR 2), .int .i64 0, .int .i64 0, .int .i64 0, .int .i64 0] 36 (0, 0))) := Lib.hid (n2.heap X3.out (by omega))
  have Q3 : Hid (Below w1.heap.size w1 y3) := Lib.hid (M3.out.trans (NB.below n2 (Nat.le_refl _) M3.out.size))
  have P3 := Lib.hid r2
  have c0 : y3.cell? ⟨BK, 3, none⟩ = some (.int .i64 0) := cell_of_heap Y3.out 3 rfl
  have g0 : y3.frozen? ⟨BK, 3, none⟩ = false := free_of_heap Y3.out 3
  obtain ⟨x4, hx4⟩ : ∃ W, W = y3.setCell ⟨BK, 3, none⟩ (.int .i64 (NR 3)) := ⟨_, rfl⟩
  have X4 : Hid (x4.heap[BK]? = some (.cells #[.int .i64 (NR 0), .int .i64 (NR 1), .int .i64 (NR 2), .int .i64 (NR 3), .int .i64 0, .int .i64 0, .int .i64 0] 36 (0, 0))) := Lib.hid (by rw [hx4]; exact set_heap Y3.out 3 _)
  have M4 : Hid (Below w1.heap.size w1 x4) := Lib.hid (by rw [hx4]; exact Q3.out.setCell (by dsimp only; omega) _)
  have T4 : Hid (RrS x4 w1.heap.size (Fa.stR t 4)) := Lib.hid (by
    obtain ⟨E, h1, h2⟩ := P3.out
    exact ⟨E, h1, by rw [hx4]; exact (heap_setCell_other y3 ⟨BK, 3, none⟩ w1.heap.size _ (by dsimp only; omega)).trans h2⟩)
  have HX4 := Lib.hid hx4
  clear hx4 n2 r2
  go_upto_region 6 with fail
  rw [← HX4.out]
  clear c0 g0
  go_wp2_with fail
  go_at_call 33; with_reducible refine (HIN.out w1.heap.size 4 x4 (B1.out.trans (M4.out.mono B1.out.size)) T4.out).mono ?_; rintro e y4 ⟨rfl, n2, r2⟩
  have Y4 : Hid (y4.heap[BK]? = some (.cells #[.int .i64 (NR 0), .int .i64 (NR 1), .int .i64 (NR 2), .int .i64 (NR 3), .int .i64 0, .int .i64 0, .int .i64 0] 36 (0, 0))) := Lib.hid (n2.heap X4.out (by omega))
  have Q4 : Hid (Below w1.heap.size w1 y4) := Lib.hid (M4.out.trans (NB.below n2 (Nat.le_refl _) M4.out.size))
  have P4 := Lib.hid r2
  have c0 : y4.cell? ⟨BK, 4, none⟩ = some (.int .i64 0) := cell_of_heap Y4.out 4 rfl
  have g0 : y4.frozen? ⟨BK, 4, none⟩ = false := free_of_heap Y4.out 4
  obtain ⟨x5, hx5⟩ : ∃ W, W = y4.setCell ⟨BK, 4, none⟩ (.int .i64 (NR 4)) := ⟨_, rfl⟩
  have X5 : Hid (x5.heap[BK]? = some (.cells #[.int .i64 (NR 0), .int .i64 (NR 1), .int .i64 (NR 2), .int .i64 (NR 3), .int .i64 (NR 4), .int .i64 0, .int .i64 0] 36 (0, 0))) := Lib.hid (by rw [hx5]; exact set_heap Y4.out 4 _)
  have M5 : Hid (Below w1.heap.size w1 x5) := Lib.hid (by rw [hx5]; exact Q4.out.setCell (by dsimp only; omega) _)
  have T5 : Hid (RrS x5 w1.heap.size (Fa.stR t 5)) := Lib.hid (by
    obtain ⟨E, h1, h2⟩ := P4.out
    exact ⟨E, h1, by rw [hx5]; exact (heap_setCell_other y4 ⟨BK, 4, none⟩ w1.heap.size _ (by dsimp only; omega)).trans h2⟩)
  have HX5 := Lib.hid hx5
  clear hx5 n2 r2
  go_upto_region 7 with fail
  rw [← HX5.out]
  clear c0 g0
  go_wp2_with fail
  go_at_call 33; with_reducible refine (HIN.out w1.heap.size 5 x5 (B1.out.trans (M5.out.mono B1.out.size)) T5.out).mono ?_; rintro e y5 ⟨rfl, n2, r2⟩
  have Y5 : Hid (y5.heap[BK]? = some (.cells #[.int .i64 (NR 0), .int .i64 (NR 1), .int .i64 (NR 2), .int .i64 (NR 3), .int .i64 (NR 4), .int .i64 0, .int .i64 0] 36 (0, 0))) := Lib.hid (n2.heap X5.out (by omega))
  have Q5 : Hid (Below w1.heap.size w1 y5) := Lib.hid (M5.out.trans (NB.below n2 (Nat.le_refl _) M5.out.size))
  have P5 := Lib.hid r2
  have c0 : y5.cell? ⟨BK, 5, none⟩ = some (.int .i64 0) := cell_of_heap Y5.out 5 rfl
  have g0 : y5.frozen? ⟨BK, 5, none⟩ = false := free_of_heap Y5.out 5
  obtain ⟨x6, hx6⟩ : ∃ W, W = y5.setCell ⟨BK, 5, none⟩ (.int .i64 (NR 5)) := ⟨_, rfl⟩
  have X6 : Hid (x6.heap[BK]? = some (.cells #[.int .i64 (NR 0), .int .i64 (NR 1), .int .i64 (NR 2), .int .i64 (NR 3), .int .i64 (NR 4), .int .i64 (NR 5), .int .i64 0] 36 (0, 0))) := Lib.hid (by rw [hx6]; exact set_heap Y5.out 5 _)
  have M6 : Hid (Below w1.heap.size w1 x6) := Lib.hid (by rw [hx6]; exact Q5.out.setCell (by dsimp only; omega) _)
  have T6 : Hid (RrS x6 w1.heap.size (Fa.stR t 6)) := Lib.hid (by
    obtain ⟨E, h1, h2⟩ := P5.out
    exact ⟨E, h1, by rw [hx6]; exact (heap_setCell_other y5 ⟨BK, 5, none⟩ w1.heap.size _ (by dsimp only; omega)).trans h2⟩)
  have HX6 := Lib.hid hx6
  clear hx6 n2 r2
  go_upto_region 8 with fail
  rw [← HX6.out]
  clear c0 g0
  go_wp2_with fail
  go_at_call 33; with_reducible refine (HIN.out w1.heap.size 6 x6 (B1.out.trans (M6.out.mono B1.out.size)) T6.out).mono ?_; rintro e y6 ⟨rfl, n2, r2⟩
  have Y6 : Hid (y6.heap[BK]? = some (.cells #[.int .i64 (NR 0), .int .i64 (NR 1), .int .i64 (NR 2), .int .i64 (NR 3), .int .i64 (NR 4), .int .i64 (NR 5), .int .i64 0] 36 (0, 0))) := Lib.hid (n2.heap X6.out (by omega))
  have Q6 : Hid (Below w1.heap.size w1 y6) := Lib.hid (M6.out.trans (NB.below n2 (Nat.le_refl _) M6.out.size))
  have P6 := Lib.hid r2
  have c0 : y6.cell? ⟨BK, 6, none⟩ = some (.int .i64 0) := cell_of_heap Y6.out 6 rfl
  have g0 : y6.frozen? ⟨BK, 6, none⟩ = false := free_of_heap Y6.out 6
  obtain ⟨x7, hx7⟩ : ∃ W, W = y6.setCell ⟨BK, 6, none⟩ (.int .i64 (NR 6)) := ⟨_, rfl⟩
  have X7 : Hid (x7.heap[BK]? = some (.cells #[.int .i64 (NR 0), .int .i64 (NR 1), .int .i64 (NR 2), .int .i64 (NR 3), .int .i64 (NR 4), .int .i64 (NR 5), .int .i64 (NR 6)] 36 (0, 0))) := Lib.hid (by rw [hx7]; exact set_heap Y6.out 6 _)
  have M7 : Hid (Below w1.heap.size w1 x7) := Lib.hid (by rw [hx7]; exact Q6.out.setCell (by dsimp only; omega) _)
  have T7 : Hid (RrS x7 w1.heap.size (Fa.stR t 7)) := Lib.hid (by
    obtain ⟨E, h1, h2⟩ := P6.out
    exact ⟨E, h1, by rw [hx7]; exact (heap_setCell_other y6 ⟨BK, 6, none⟩ w1.heap.size _ (by dsimp only; omega)).trans h2⟩)
  have HX7 := Lib.hid hx7
  clear hx7 n2 r2
  go_upto_region 9 with fail
  rw [← HX7.out]
  clear c0 g0
  obtain ⟨u1, hu1⟩ : ∃ W, W = x7 := ⟨_, rfl⟩
  subst hu1
  have IU := X7
  have BU := M7
  have SU := T7
  go_wp2_with fail
  go_at_call 34; with_reducible refine (HDN.out w1.heap.size u1 SU.out).mono ?_; rintro e u2 ⟨rfl, rfl⟩
  cases DN with
  | false =>
    have HNV := Lib.hid (readV_no (t := t) (by unfold Fa.readB; rw [HDR.out]; rfl))
    have RR : Hid (u1.heap[w.heap.size]? = some (.cells #[.int .i64 0, .int .i64 0, .int .i64 0, .int .i64 0, .int .i64 0, .int .i64 0, .int .i64 0] 36 (0, 0))) := Lib.hid (BU.out.block w.heap.size hs1 |>.trans I1.out)
    go_wp2_with (refine wpList_store_row rfl 36 (.tmp 2) (.tmp 37) rfl w.heap.size #[.int .i64 0, .int .i64 0, .int .i64 0, .int .i64 0, .int .i64 0, .int .i64 0, .int .i64 0] rfl rfl 36 _ RR.out (by kernel_rfl) rfl (by kernel_rfl) ?_)
    refine bodyPost_ret (v := .tuple #[.agg #[.int .i64 0, .int .i64 0, .int .i64 0, .int .i64 0, .int .i64 0, .int .i64 0, .int .i64 0], .bool false]) (results_rowtmp2 (p := 2) (ty := 36) (u := 3) (by kernel_rfl) _ _ w.heap.size 36 #[.int .i64 0, .int .i64 0, .int .i64 0, .int .i64 0, .int .i64 0, .int .i64 0, .int .i64 0] (0, 0) _ rfl (setRow_heap _ _ _ _ _ _ RR.out) Tryz.underlying36 rfl (by kernel_rfl)) rfl ?_
    refine ⟨?_, (B1.out.trans (BU.out.mono B1.out.size)).trans ⟨rfl, rfl, rfl, by simp [World.setRow], fun k hk => setRow_other _ _ _ _ (by omega)⟩⟩
    rw [HNV.out]
  | true =>
    have c0 : u1.cell? ⟨BK, 0, none⟩ = some (.int .i64 (NR 0)) := cell_of_heap IU.out 0 rfl
    have c1 : u1.cell? ⟨BK, 1, none⟩ = some (.int .i64 (NR 1)) := cell_of_heap IU.out 1 rfl
    have c2 : u1.cell? ⟨BK, 2, none⟩ = some (.int .i64 (NR 2)) := cell_of_heap IU.out 2 rfl
    have c3 : u1.cell? ⟨BK, 3, none⟩ = some (.int .i64 (NR 3)) := cell_of_heap IU.out 3 rfl
    have c4 : u1.cell? ⟨BK, 4, none⟩ = some (.int .i64 (NR 4)) := cell_of_heap IU.out 4 rfl
    have c5 : u1.cell? ⟨BK, 5, none⟩ = some (.int .i64 (NR 5)) := cell_of_heap IU.out 5 rfl
    have c6 : u1.cell? ⟨BK, 6, none⟩ = some (.int .i64 (NR 6)) := cell_of_heap IU.out 6 rfl
    go_wp2_with fail
    go_at_call 8; with_reducible refine (HRB.out u1).mono ?_; rintro e u3 ⟨rfl, b3⟩
    have BU3 := Lib.hid (BU.out.trans (b3.mono BU.out.size))
    have IU3 := Lib.hid (keep_heap IU.out b3)
    clear b3 c0 c1 c2 c3 c4 c5 c6
    cases R with
    | false =>
      have HNV := Lib.hid (readV_no (t := t) (by unfold Fa.readB; rw [HDR.out, HRR.out]; rfl))
      have RR : Hid (u3.heap[w.heap.size]? = some (.cells #[.int .i64 0, .int .i64 0, .int .i64 0, .int .i64 0, .int .i64 0, .int .i64 0, .int .i64 0] 36 (0, 0))) := Lib.hid (BU3.out.block w.heap.size hs1 |>.trans I1.out)
      go_wp2_with (refine wpList_store_row rfl 36 (.tmp 2) (.tmp 37) rfl w.heap.size #[.int .i64 0, .int .i64 0, .int .i64 0, .int .i64 0, .int .i64 0, .int .i64 0, .int .i64 0] rfl rfl 36 _ RR.out (by kernel_rfl) rfl (by kernel_rfl) ?_)
      refine bodyPost_ret (v := .tuple #[.agg #[.int .i64 0, .int .i64 0, .int .i64 0, .int .i64 0, .int .i64 0, .int .i64 0, .int .i64 0], .bool false]) (results_rowtmp2 (p := 2) (ty := 36) (u := 3) (by kernel_rfl) _ _ w.heap.size 36 #[.int .i64 0, .int .i64 0, .int .i64 0, .int .i64 0, .int .i64 0, .int .i64 0, .int .i64 0] (0, 0) _ rfl (setRow_heap _ _ _ _ _ _ RR.out) Tryz.underlying36 rfl (by kernel_rfl)) rfl ?_
      refine ⟨?_, (B1.out.trans (BU3.out.mono B1.out.size)).trans ⟨rfl, rfl, rfl, by simp [World.setRow], fun k hk => setRow_other _ _ _ _ (by omega)⟩⟩
      rw [HNV.out]
    | true =>
      have HNV := Lib.hid (HVY.out HDR.out HRR.out)
      have c0 : u3.cell? ⟨BK, 0, none⟩ = some (.int .i64 (NR 0)) := cell_of_heap IU3.out 0 rfl
      have c1 : u3.cell? ⟨BK, 1, none⟩ = some (.int .i64 (NR 1)) := cell_of_heap IU3.out 1 rfl
      have c2 : u3.cell? ⟨BK, 2, none⟩ = some (.int .i64 (NR 2)) := cell_of_heap IU3.out 2 rfl
      have c3 : u3.cell? ⟨BK, 3, none⟩ = some (.int .i64 (NR 3)) := cell_of_heap IU3.out 3 rfl
      have c4 : u3.cell? ⟨BK, 4, none⟩ = some (.int .i64 (NR 4)) := cell_of_heap IU3.out 4 rfl
      have c5 : u3.cell? ⟨BK, 5, none⟩ = some (.int .i64 (NR 5)) := cell_of_heap IU3.out 5 rfl
      have c6 : u3.cell? ⟨BK, 6, none⟩ = some (.int .i64 (NR 6)) := cell_of_heap IU3.out 6 rfl
      have RR : Hid (u3.heap[w.heap.size]? = some (.cells #[.int .i64 0, .int .i64 0, .int .i64 0, .int .i64 0, .int .i64 0, .int .i64 0, .int .i64 0] 36 (0, 0))) := Lib.hid (BU3.out.block w.heap.size hs1 |>.trans I1.out)
      go_wp2_with (refine wpList_store_row rfl 36 (.tmp 2) (.tmp 38) rfl w.heap.size #[.int .i64 (NR 0), .int .i64 (NR 1), .int .i64 (NR 2), .int .i64 (NR 3), .int .i64 (NR 4), .int .i64 (NR 5), .int .i64 (NR 6)] rfl rfl 36 _ RR.out (by kernel_rfl) rfl (by kernel_rfl) ?_)
      refine bodyPost_ret (v := .tuple #[.agg #[.int .i64 (NR 0), .int .i64 (NR 1), .int .i64 (NR 2), .int .i64 (NR 3), .int .i64 (NR 4), .int .i64 (NR 5), .int .i64 (NR 6)], .bool true]) (results_rowtmp2 (p := 2) (ty := 36) (u := 3) (by kernel_rfl) _ _ w.heap.size 36 #[.int .i64 (NR 0), .int .i64 (NR 1), .int .i64 (NR 2), .int .i64 (NR 3), .int .i64 (NR 4), .int .i64 (NR 5), .int .i64 (NR 6)] (0, 0) _ rfl (setRow_heap _ _ _ _ _ _ RR.out) Tryz.underlying36 rfl (by kernel_rfl)) rfl ?_
      refine ⟨?_, (B1.out.trans (BU3.out.mono B1.out.size)).trans ⟨rfl, rfl, rfl, by simp [World.setRow], fun k hk => setRow_other _ _ _ _ (by omega)⟩⟩
      rw [HNV.out]
end Go.Proofs.YtcdfmgobokjcnaaGreatDoor
