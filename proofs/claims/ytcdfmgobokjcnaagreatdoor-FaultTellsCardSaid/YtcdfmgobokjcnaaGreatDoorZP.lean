/- Parts Ri, Fx, Fy, Fz, Rj of this claim, laid one behind the other: walks and the plain laws behind them; each contract states its own conditions. -/
import Derived.Laws.Tables
import Derived.Test.YtcdfmgobokjcnaaGreatDoorUJ
/- Walks of package taquinref07: At. -/
namespace Go.Proofs.YtcdfmgobokjcnaaGreatDoor
set_option linter.unusedSimpArgs false
set_option linter.unusedVariables false
open Go.RowKit

set_option maxRecDepth 100000 in
set_option maxHeartbeats 4000000 in
theorem rAt_any (f : Fl.Floor) (kv ov : Value) (c : Int) (w : World) (hb : FB f) :
    Calls Tryz.prog 172 #[flV f kv ov, .int .i64 c] w fun e w' => e = .returned (.tuple #[.int .i64 (Fl.atX f c), .int .i64 (Fl.atY f c), .int .i64 (Fl.atZ f c)]) ∧ Below w.heap.size w w' := by
  have hc := fun W => rIs_any f kv ov c W hb
  obtain ⟨⟨a1, a2⟩, a3, a4⟩ := hb.size
  have HS : Hid (Fl.atX f c = if Fl.isC f c = true then c % f.w else 0) := Lib.hid rfl
  have HY : Hid (Fl.atY f c = if Fl.isC f c = true then c / f.w % f.h else 0) := Lib.hid rfl
  have HZ : Hid (Fl.atZ f c = if Fl.isC f c = true then c / (f.w * f.h) else 0) := Lib.hid rfl
  have hS : Fl.isC f c = true → 0 ≤ c ∧ c < f.w * f.h * f.d := by
    intro h
    unfold Fl.isC Fl.Floor.size at h
    simpa using h
  obtain ⟨B, hB⟩ : ∃ B, Fl.isC f c = B := ⟨_, rfl⟩
  rw [hB] at hc HS HY HZ hS
  have h1 := hb.w1
  have h2 := hb.h1
  have h3 := hb.w2
  have h4 := hb.h2
  have hp : 1 ≤ f.w * f.h := by
    have := Int.mul_le_mul h1 h2 (by omega) (by omega : (0 : Int) ≤ f.w)
    omega
  have B1 := Lib.hid ((Below.refl _ w).alloc (Nat.le_refl _) (.cells #[.int .i64 f.w, .int .i64 f.h, .int .i64 f.d, kv, ov] 24))
  have HC := Lib.hid hc
  unfold flV at HC ⊢
  cases B with
  | false =>
    clear hB hc hS
    go_enter Tryz.func172, Tryz.ntmps172
    go_wp2_with fail
    go_at_call 144; refine (HC.out _).mono ?_; rintro e w1 ⟨rfl, b1⟩
    have B2 := Lib.hid (B1.out.trans (b1.mono B1.out.size))
    clear b1
    go_wp2_with fail
    go_ret3
    exact ⟨by rw [HS.out, HY.out, HZ.out]; rfl, B2.out⟩
  | true =>
    obtain ⟨c0, c1⟩ := hS rfl
    have c2 : 0 ≤ c / f.w := Int.ediv_nonneg c0 (by omega)
    have HX2 : Hid (Fl.atX f c = c % f.w) := Lib.hid (by rw [HS.out]; rfl)
    have HY2 : Hid (Fl.atY f c = c / f.w % f.h) := Lib.hid (by rw [HY.out]; rfl)
    have HZ2 : Hid (Fl.atZ f c = c / (f.w * f.h)) := Lib.hid (by rw [HZ.out]; rfl)
    have HW : Hid (wrap64 ((c / f.w).tdiv f.h) = c / (f.w * f.h)) := Lib.hid (by
      rw [Int.tdiv_eq_ediv_of_nonneg c2, Int.ediv_ediv, if_neg (by omega), Int.sub_zero]
      have q0 : 0 ≤ c / (f.w * f.h) := Int.ediv_nonneg c0 (by omega)
      have q1 : c / (f.w * f.h) ≤ c := Int.ediv_le_self _ c0
      unfold wrap64
      omega)
    clear hB hc hS
    go_enter Tryz.func172, Tryz.ntmps172
    go_wp2_with fail
    go_at_call 144; refine (HC.out _).mono ?_; rintro e w1 ⟨rfl, b1⟩
    have i1 : w1.heap[w.heap.size]? = some (.cells #[.int .i64 f.w, .int .i64 f.h, .int .i64 f.d, kv, ov] 24 (0, 0)) := (b1.block w.heap.size (by simp)).trans (heap_alloc_new _ _)
    have d0 : w1.cell? ⟨w.heap.size, 0, none⟩ = some (.int .i64 f.w) := cell_of_heap i1 0 rfl
    have d1 : w1.cell? ⟨w.heap.size, 1, none⟩ = some (.int .i64 f.h) := cell_of_heap i1 1 rfl
    have B2 := Lib.hid (B1.out.trans (b1.mono B1.out.size))
    clear b1 i1
    go_wp2_with fail
    go_quiet (fail)
    go_wp2_with fail
    go_ret3
    exact ⟨by rw [HX2.out, HY2.out, HZ2.out, ← HW.out]; rfl, B2.out.trans (below_drewN _ _ _)⟩
end Go.Proofs.YtcdfmgobokjcnaaGreatDoor
/- Walks of package floor: At, beside. -/
namespace Go.Proofs.YtcdfmgobokjcnaaGreatDoor
set_option linter.unusedSimpArgs false
set_option linter.unusedVariables false
open Go.RowKit

set_option maxRecDepth 100000 in
set_option maxHeartbeats 4000000 in
theorem At_any (f : Fl.Floor) (kv ov : Value) (c : Int) (w : World) (hb : FB f) :
    Calls Tryz.prog 114 #[flV f kv ov, .int .i64 c] w fun e w' => e = .returned (.tuple #[.int .i64 (Fl.atX f c), .int .i64 (Fl.atY f c), .int .i64 (Fl.atZ f c)]) ∧ Below w.heap.size w w' := by
  have hc := fun W => is_any f kv ov c W hb
  obtain ⟨⟨a1, a2⟩, a3, a4⟩ := hb.size
  have HS : Hid (Fl.atX f c = if Fl.isC f c = true then c % f.w else 0) := Lib.hid rfl
  have HY : Hid (Fl.atY f c = if Fl.isC f c = true then c / f.w % f.h else 0) := Lib.hid rfl
  have HZ : Hid (Fl.atZ f c = if Fl.isC f c = true then c / (f.w * f.h) else 0) := Lib.hid rfl
  have hS : Fl.isC f c = true → 0 ≤ c ∧ c < f.w * f.h * f.d := by
    intro h
    unfold Fl.isC Fl.Floor.size at h
    simpa using h
  obtain ⟨B, hB⟩ : ∃ B, Fl.isC f c = B := ⟨_, rfl⟩
  rw [hB] at hc HS HY HZ hS
  have h1 := hb.w1
  have h2 := hb.h1
  have h3 := hb.w2
  have h4 := hb.h2
  have hp : 1 ≤ f.w * f.h := by
    have := Int.mul_le_mul h1 h2 (by omega) (by omega : (0 : Int) ≤ f.w)
    omega
  have B1 := Lib.hid ((Below.refl _ w).alloc (Nat.le_refl _) (.cells #[.int .i64 f.w, .int .i64 f.h, .int .i64 f.d, kv, ov] 24))
  have HC := Lib.hid hc
  unfold flV at HC ⊢
  cases B with
  | false =>
    clear hB hc hS
    go_enter Tryz.func114, Tryz.ntmps114
    go_wp2_with fail
    go_at_call 151; refine (HC.out _).mono ?_; rintro e w1 ⟨rfl, b1⟩
    have B2 := Lib.hid (B1.out.trans (b1.mono B1.out.size))
    clear b1
    go_wp2_with fail
    go_ret3
    exact ⟨by rw [HS.out, HY.out, HZ.out]; rfl, B2.out⟩
  | true =>
    obtain ⟨c0, c1⟩ := hS rfl
    have c2 : 0 ≤ c / f.w := Int.ediv_nonneg c0 (by omega)
    clear hB hc hS
    go_enter Tryz.func114, Tryz.ntmps114
    go_wp2_with fail
    go_at_call 151; refine (HC.out _).mono ?_; rintro e w1 ⟨rfl, b1⟩
    have i1 : w1.heap[w.heap.size]? = some (.cells #[.int .i64 f.w, .int .i64 f.h, .int .i64 f.d, kv, ov] 24 (0, 0)) := (b1.block w.heap.size (by simp)).trans (heap_alloc_new _ _)
    have d0 : w1.cell? ⟨w.heap.size, 0, none⟩ = some (.int .i64 f.w) := cell_of_heap i1 0 rfl
    have d1 : w1.cell? ⟨w.heap.size, 1, none⟩ = some (.int .i64 f.h) := cell_of_heap i1 1 rfl
    have B2 := Lib.hid (B1.out.trans (b1.mono B1.out.size))
    clear b1 i1
    go_wp2_with fail
    go_quiet (fail)
    go_wp2_with fail
    go_ret3
    exact ⟨by rw [HS.out, HY.out, HZ.out]; rfl, B2.out.trans (below_drewN _ _ _)⟩
end Go.Proofs.YtcdfmgobokjcnaaGreatDoor
/- Walks of package floor: steps. -/
namespace Go.Proofs.YtcdfmgobokjcnaaGreatDoor
set_option linter.unusedSimpArgs false
set_option linter.unusedVariables false
open Go.RowKit

def stepsC : Array Value := #[.int .i64 1, .int .i64 0, .int .i64 0, .int .i64 0, .int .i64 1, .int .i64 0, .int .i64 (-1), .int .i64 0, .int .i64 0, .int .i64 0, .int .i64 (-1), .int .i64 0, .int .i64 0, .int .i64 0, .int .i64 1, .int .i64 0, .int .i64 0, .int .i64 (-1)]
set_option maxHeartbeats 1000000 in
theorem steps_any (w : World) : Calls Tryz.prog 188 #[] w fun e w' => e = .returned (.agg stepsC) ∧ Below w.heap.size w w' := by
  go_enter Tryz.func188, Tryz.ntmps188
  go_wp2_with (refine wpList_store_row rfl 214 (.tmp 0) (.tmp 7) rfl w.heap.size stepsC rfl rfl 214 _ (heap_alloc_new _ _) (by kernel_rfl) rfl (by kernel_rfl) ?_)
  refine bodyPost_ret (v := .agg stepsC) (results_cell_row (p := 0) (ty := 214) (by kernel_rfl) _ _ w.heap.size 214 stepsC (0, 0) _ rfl (setRow_heap _ _ _ _ _ _ (heap_alloc_new _ _)) Tryz.underlying214 rfl (by kernel_rfl)) rfl ⟨rfl, ?_⟩
  refine ((Below.refl _ w).alloc (Nat.le_refl _) _).trans ⟨rfl, rfl, rfl, by simp, fun k hk => setRow_other _ _ _ _ (by omega)⟩
end Go.Proofs.YtcdfmgobokjcnaaGreatDoor
/- Walks of package floor: beside. -/
namespace Go.Proofs.YtcdfmgobokjcnaaGreatDoor
set_option linter.unusedSimpArgs false
set_option linter.unusedVariables false
open Go.RowKit

theorem atX_bd {f : Fl.Floor} (hb : FB f) (c : Int) : 0 ≤ Fl.atX f c ∧ Fl.atX f c ≤ 4096 := by
  unfold Fl.atX
  have := hb.w1
  have h2 := hb.w2
  split
  · have a := Int.emod_nonneg c (show f.w ≠ 0 by omega)
    have b := Int.emod_lt_of_pos c (show 0 < f.w by omega)
    omega
  · omega
theorem atY_bd {f : Fl.Floor} (hb : FB f) (c : Int) : 0 ≤ Fl.atY f c ∧ Fl.atY f c ≤ 4096 := by
  unfold Fl.atY
  have := hb.h1
  have h2 := hb.h2
  split
  · have a := Int.emod_nonneg (c / f.w) (show f.h ≠ 0 by omega)
    have b := Int.emod_lt_of_pos (c / f.w) (show 0 < f.h by omega)
    omega
  · omega
theorem atZ_bd {f : Fl.Floor} (hb : FB f) (c : Int) : 0 ≤ Fl.atZ f c ∧ Fl.atZ f c ≤ 67108864 := by
  unfold Fl.atZ
  split
  · rename_i h
    obtain ⟨⟨a1, a2⟩, a3, a4⟩ := hb.size
    have hc : 0 ≤ c ∧ c < f.w * f.h * f.d := by unfold Fl.isC Fl.Floor.size at h; simpa using h
    have p : 0 ≤ c / (f.w * f.h) := Int.ediv_nonneg hc.1 a1
    have q : c / (f.w * f.h) ≤ c := Int.ediv_le_self _ hc.1
    omega
  · omega
set_option maxRecDepth 100000 in
set_option maxHeartbeats 4000000 in
theorem beside_dir (f : Fl.Floor) (kv ov : Value) (c : Int) (d : Nat) (dx dy dz : Int) (w : World) (hb : FB f) (hd : d < 6) (hx : -1 ≤ dx ∧ dx ≤ 1) (hy : -1 ≤ dy ∧ dy ≤ 1) (hz : -1 ≤ dz ∧ dz ≤ 1)
    (hi : ∀ W : World, (Instr.index 214 (.agg stepsC) (.int .i64 d)).run Tryz.prog W = .ok (.agg #[.int .i64 dx, .int .i64 dy, .int .i64 dz]) W) :
    Calls Tryz.prog 162 #[flV f kv ov, .int .i64 c, .int .i64 d] w fun e w' => e = .returned (.int .i64 (if Fl.isC f c = true then Fl.cell f (Fl.atX f c + dx) (Fl.atY f c + dy) (Fl.atZ f c + dz) else -1)) ∧ Below w.heap.size w w' := by
  have hc := fun W => is_any f kv ov c W hb
  have ha := fun W => At_any f kv ov c W hb
  have hl := fun X Y Z W => Cell_any f kv ov X Y Z W hb
  obtain ⟨x0, x1⟩ := atX_bd hb c
  obtain ⟨y0, y1⟩ := atY_bd hb c
  obtain ⟨z0, z1⟩ := atZ_bd hb c
  obtain ⟨X, hX⟩ : ∃ X, Fl.atX f c = X := ⟨_, rfl⟩
  obtain ⟨Y, hY⟩ : ∃ X, Fl.atY f c = X := ⟨_, rfl⟩
  obtain ⟨Z, hZ⟩ : ∃ X, Fl.atZ f c = X := ⟨_, rfl⟩
  rw [hX, hY, hZ] at ha ⊢
  rw [hX] at x0 x1
  rw [hY] at y0 y1
  rw [hZ] at z0 z1
  obtain ⟨B, hB⟩ : ∃ B, Fl.isC f c = B := ⟨_, rfl⟩
  rw [hB] at hc ⊢
  have B1 := Lib.hid ((Below.refl _ w).alloc (Nat.le_refl _) (.cells #[.int .i64 f.w, .int .i64 f.h, .int .i64 f.d, kv, ov] 24))
  unfold flV at hc ha hl ⊢
  have HC := Lib.hid hc
  have HA := Lib.hid ha
  have HL := Lib.hid hl
  have d0 : (0 : Int) ≤ (d : Int) := by omega
  have d1 : (d : Int) < 6 := by omega
  obtain ⟨hx0, hx1⟩ := hx
  obtain ⟨hy0, hy1⟩ := hy
  obtain ⟨hz0, hz1⟩ := hz
  clear hc ha hl hX hY hZ hB hb hd
  cases B with
  | false =>
    go_enter Tryz.func162, Tryz.ntmps162
    go_wp2_with fail
    go_at_call 151; refine (HC.out _).mono ?_; rintro e w1 ⟨rfl, b1⟩
    have B2 := Lib.hid (B1.out.trans (b1.mono B1.out.size))
    clear b1
    go_wp2_with fail
    go_ret
    exact ⟨rfl, B2.out⟩
  | true =>
    go_enter Tryz.func162, Tryz.ntmps162
    go_wp2_with fail
    go_at_call 151; refine (HC.out _).mono ?_; rintro e w1 ⟨rfl, b1⟩
    have i1 : w1.heap[w.heap.size]? = some (.cells #[.int .i64 f.w, .int .i64 f.h, .int .i64 f.d, kv, ov] 24 (0, 0)) := (b1.block w.heap.size (by simp)).trans (heap_alloc_new _ _)
    have p0 : w1.cell? ⟨w.heap.size, 0, none⟩ = some (.int .i64 f.w) := cell_of_heap i1 0 rfl
    have p1 : w1.cell? ⟨w.heap.size, 1, none⟩ = some (.int .i64 f.h) := cell_of_heap i1 1 rfl
    have p2 : w1.cell? ⟨w.heap.size, 2, none⟩ = some (.int .i64 f.d) := cell_of_heap i1 2 rfl
    have p3 : w1.cell? ⟨w.heap.size, 3, none⟩ = some kv := cell_of_heap i1 3 rfl
    have p4 : w1.cell? ⟨w.heap.size, 4, none⟩ = some ov := cell_of_heap i1 4 rfl
    have B2 := Lib.hid (B1.out.trans (b1.mono B1.out.size))
    have I1 := Lib.hid i1
    clear b1 i1 B1
    go_wp2_with fail
    go_at_call 114; refine (HA.out _).mono ?_; rintro e w2 ⟨rfl, b2⟩
    have B3 := Lib.hid (B2.out.trans (b2.mono B2.out.size))
    have I2 := Lib.hid (keep_heap I1.out b2)
    clear b2 B2 I1 p0 p1 p2 p3 p4
    go_wp2_with fail
    go_at_call 188; refine (steps_any _).mono ?_; rintro e w3 ⟨rfl, b3⟩
    have B4 := Lib.hid (B3.out.trans (b3.mono B3.out.size))
    have i1 := keep_heap I2.out b3
    have p0 : w3.cell? ⟨w.heap.size, 0, none⟩ = some (.int .i64 f.w) := cell_of_heap i1 0 rfl
    have p1 : w3.cell? ⟨w.heap.size, 1, none⟩ = some (.int .i64 f.h) := cell_of_heap i1 1 rfl
    have p2 : w3.cell? ⟨w.heap.size, 2, none⟩ = some (.int .i64 f.d) := cell_of_heap i1 2 rfl
    have p3 : w3.cell? ⟨w.heap.size, 3, none⟩ = some kv := cell_of_heap i1 3 rfl
    have p4 : w3.cell? ⟨w.heap.size, 4, none⟩ = some ov := cell_of_heap i1 4 rfl
    have l3 : w.heap.size < w3.heap.size := heap_lt i1
    clear b3 B3 I2 i1
    go_wp2_with fail
    go_at_call 115; refine (HL.out _ _ _ _).mono ?_; rintro e w4 ⟨rfl, b4⟩
    have B5 := Lib.hid ((B4.out.alloc B4.out.size _).trans (b4.mono (by have := B4.out.size; simp; omega)))
    clear b4
    go_wp2_with fail
    go_ret
    exact ⟨rfl, B5.out⟩
theorem beside_any (f : Fl.Floor) (kv ov : Value) (c : Int) (d : Nat) (w : World) (hb : FB f) (hd : d < 6) :
    Calls Tryz.prog 162 #[flV f kv ov, .int .i64 c, .int .i64 d] w fun e w' => e = .returned (.int .i64 (Fl.beside f c d)) ∧ Below w.heap.size w w' := by
  unfold Fl.beside
  refine beside_dir f kv ov c d (Fl.stX d) (Fl.stY d) (Fl.stZ d) w hb hd ?_ ?_ ?_ ?_
  · rcases d with _ | _ | _ | _ | _ | _ | d <;> first | (exfalso; omega) | decide
  · rcases d with _ | _ | _ | _ | _ | _ | d <;> first | (exfalso; omega) | decide
  · rcases d with _ | _ | _ | _ | _ | _ | d <;> first | (exfalso; omega) | decide
  · intro W
    rcases d with _ | _ | _ | _ | _ | _ | d
    all_goals first | (exfalso; omega) | kernel_rfl
end Go.Proofs.YtcdfmgobokjcnaaGreatDoor
/- Walks of package taquinref07: Beside, in few words: it returns a number. -/
namespace Go.Proofs.YtcdfmgobokjcnaaGreatDoor
set_option linter.unusedSimpArgs false
set_option linter.unusedVariables false
open Go.RowKit

end Go.Proofs.YtcdfmgobokjcnaaGreatDoor
