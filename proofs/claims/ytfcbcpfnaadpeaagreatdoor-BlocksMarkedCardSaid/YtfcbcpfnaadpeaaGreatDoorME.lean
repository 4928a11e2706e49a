/- Parts Fx, Fy, Fz, Rj, Rbe, Rfe, Rg of this claim, laid one behind the other: walks and the plain laws behind them; each contract states its own conditions. -/
import Derived.Laws.Tables
import Derived.Test.YtfcbcpfnaadpeaaGreatDoorMD
namespace Go.Proofs.YtfcbcpfnaadpeaaGreatDoor
set_option maxRecDepth 100000
set_option maxHeartbeats 64000000
set_option linter.unusedSimpArgs false
set_option linter.unusedVariables false
open Go.RowKit
theorem At_any (f : Fl.Floor) (kv ov : Value) (c : Int) (w : World) (hb : FB f) :
 Calls Tryz.prog 203 #[flV f kv ov, .int .i64 c] w fun e w' => e = .returned (.tuple #[.int .i64 (Fl.atX f c), .int .i64 (Fl.atY f c), .int .i64 (Fl.atZ f c)]) ∧ Below w.heap.size w w' := by
 have hc := fun W => is_any f kv ov c W hb
 obtain ⟨⟨a1, a2⟩, a3, a4⟩ := hb.size
 have HS : Hid (Fl.atX f c = if Fl.isC f c = true then c % f.w else 0) := hid rfl
 have HY : Hid (Fl.atY f c = if Fl.isC f c = true then c / f.w % f.h else 0) := hid rfl
 have HZ : Hid (Fl.atZ f c = if Fl.isC f c = true then c / (f.w * f.h) else 0) := hid rfl
 have hS : Fl.isC f c = true → 0 ≤ c ∧ c < f.w * f.h * f.d := by
  intro h
  unfold Fl.isC Fl.Floor.size at h
  simpa using h
 obtain ⟨B, hB⟩ : ∃ B, Fl.isC f c = B := ⟨_, rfl⟩
 rw [hB] at hc HS HY HZ hS
 have h1 := hb.w1
 have h2 := hb.h1
 have h3 := hb.w2
 have h4 := hb.h2
 have hp : 1 ≤ f.w * f.h := by
  have := Int.mul_le_mul h1 h2 (by omega) (by omega : (0 : Int) ≤ f.w)
  omega
 have B1 := hid ((Below.refl _ w).alloc (Nat.le_refl _) (.cells #[.int .i64 f.w, .int .i64 f.h, .int .i64 f.d, kv, ov] 24))
 have HC := hid hc
 unfold flV at HC ⊢
 cases B with
 | false =>
  clear hB hc hS
  go_enter Tryz.func203, Tryz.ntmps203
  go_wp2_with fail
  go_at_call 250; refine (HC.out _).mono ?_; rintro e w1 ⟨rfl, b1⟩
  have B2 := hid (B1.out.trans (b1.mono B1.out.size))
  clear b1
  go_wp2_with fail
  go_ret3
  exact ⟨by rw [HS.out, HY.out, HZ.out]; rfl, B2.out⟩
 | true =>
  obtain ⟨c0, c1⟩ := hS rfl
  have c2 : 0 ≤ c / f.w := Int.ediv_nonneg c0 (by omega)
  clear hB hc hS
  go_enter Tryz.func203, Tryz.ntmps203
  go_wp2_with fail
  go_at_call 250; refine (HC.out _).mono ?_; rintro e w1 ⟨rfl, b1⟩
  have i1 : w1.heap[w.heap.size]? = some (.cells #[.int .i64 f.w, .int .i64 f.h, .int .i64 f.d, kv, ov] 24 (0, 0)) := (b1.block w.heap.size (by simp)).trans (heap_alloc_new _ _)
  have d0 : w1.cell? ⟨w.heap.size, 0, none⟩ = some (.int .i64 f.w) := cell_of_heap i1 0 rfl
  have d1 : w1.cell? ⟨w.heap.size, 1, none⟩ = some (.int .i64 f.h) := cell_of_heap i1 1 rfl
  have B2 := hid (B1.out.trans (b1.mono B1.out.size))
  clear b1 i1
  go_wp2_with fail
  go_quiet (fail)
  go_wp2_with fail
  go_ret3
  exact ⟨by rw [HS.out, HY.out, HZ.out]; rfl, B2.out.trans (below_drewN _ _ _)⟩
def stepsC : Array Value := #[.int .i64 1, .int .i64 0, .int .i64 0, .int .i64 0, .int .i64 1, .int .i64 0, .int .i64 (-1), .int .i64 0, .int .i64 0, .int .i64 0, .int .i64 (-1), .int .i64 0, .int .i64 0, .int .i64 0, .int .i64 1, .int .i64 0, .int .i64 0, .int .i64 (-1)]
theorem steps_any (w : World) : Calls Tryz.prog 251 #[] w fun e w' => e = .returned (.agg stepsC) ∧ Below w.heap.size w w' := by
 go_enter Tryz.func251, Tryz.ntmps251
 go_wp2_with (refine wpList_store_row rfl 268 (.tmp 0) (.tmp 7) rfl w.heap.size stepsC rfl rfl 268 _ (heap_alloc_new _ _) (by kernel_rfl) rfl (by kernel_rfl) ?_)
 refine bodyPost_ret (v := .agg stepsC) (results_cell_row (p := 0) (ty := 268) (by kernel_rfl) _ _ w.heap.size 268 stepsC (0, 0) _ rfl (setRow_heap _ _ _ _ _ _ (heap_alloc_new _ _)) Tryz.underlying268 rfl (by kernel_rfl)) rfl ⟨rfl, ?_⟩
 refine ((Below.refl _ w).alloc (Nat.le_refl _) _).trans ⟨rfl, rfl, rfl, by simp, fun k hk => setRow_other _ _ _ _ (by omega)⟩
theorem atX_bd {f : Fl.Floor} (hb : FB f) (c : Int) : 0 ≤ Fl.atX f c ∧ Fl.atX f c ≤ 4096 := by
 unfold Fl.atX
 have := hb.w1
 have h2 := hb.w2
 split
 · have a := Int.emod_nonneg c (show f.w ≠ 0 by omega)
   have b := Int.emod_lt_of_pos c (show 0 < f.w by omega)
   omega
 · omega
theorem atY_bd {f : Fl.Floor} (hb : FB f) (c : Int) : 0 ≤ Fl.atY f c ∧ Fl.atY f c ≤ 4096 := by
 unfold Fl.atY
 have := hb.h1
 have h2 := hb.h2
 split
 · have a := Int.emod_nonneg (c / f.w) (show f.h ≠ 0 by omega)
   have b := Int.emod_lt_of_pos (c / f.w) (show 0 < f.h by omega)
   omega
 · omega
theorem atZ_bd {f : Fl.Floor} (hb : FB f) (c : Int) : 0 ≤ Fl.atZ f c ∧ Fl.atZ f c ≤ 67108864 := by
 unfold Fl.atZ
 split
 · rename_i h
   obtain ⟨⟨a1, a2⟩, a3, a4⟩ := hb.size
   have hc : 0 ≤ c ∧ c < f.w * f.h * f.d := by unfold Fl.isC Fl.Floor.size at h; simpa using h
   have p : 0 ≤ c / (f.w * f.h) := Int.ediv_nonneg hc.1 a1
   have q : c / (f.w * f.h) ≤ c := Int.ediv_le_self _ hc.1
   omega
 · omega
theorem beside_dir (f : Fl.Floor) (kv ov : Value) (c : Int) (d : Nat) (dx dy dz : Int) (w : World) (hb : FB f) (hd : d < 6) (hx : -1 ≤ dx ∧ dx ≤ 1) (hy : -1 ≤ dy ∧ dy ≤ 1) (hz : -1 ≤ dz ∧ dz ≤ 1)
 (hi : ∀ W : World, (Instr.index 268 (.agg stepsC) (.int .i64 d)).run Tryz.prog W = .ok (.agg #[.int .i64 dx, .int .i64 dy, .int .i64 dz]) W) :
 Calls Tryz.prog 189 #[flV f kv ov, .int .i64 c, .int .i64 d] w fun e w' => e = .returned (.int .i64 (if Fl.isC f c = true then Fl.cell f (Fl.atX f c + dx) (Fl.atY f c + dy) (Fl.atZ f c + dz) else -1)) ∧ Below w.heap.size w w' := by
 have hc := fun W => is_any f kv ov c W hb
 have ha := fun W => At_any f kv ov c W hb
 have hl := fun X Y Z W => Cell_any f kv ov X Y Z W hb
 obtain ⟨x0, x1⟩ := atX_bd hb c
 obtain ⟨y0, y1⟩ := atY_bd hb c
 obtain ⟨z0, z1⟩ := atZ_bd hb c
 obtain ⟨X, hX⟩ : ∃ X, Fl.atX f c = X := ⟨_, rfl⟩
 obtain ⟨Y, hY⟩ : ∃ X, Fl.atY f c = X := ⟨_, rfl⟩
 obtain ⟨Z, hZ⟩ : ∃ X, Fl.atZ f c = X := ⟨_, rfl⟩
 rw [hX, hY, hZ] at ha ⊢
 rw [hX] at x0 x1
 rw [hY] at y0 y1
 rw [hZ] at z0 z1
 obtain ⟨B, hB⟩ : ∃ B, Fl.isC f c = B := ⟨_, rfl⟩
 rw [hB] at hc ⊢
 have B1 := hid ((Below.refl _ w).alloc (Nat.le_refl _) (.cells #[.int .i64 f.w, .int .i64 f.h, .int .i64 f.d, kv, ov] 24))
 unfold flV at hc ha hl ⊢
 have HC := hid hc
 have HA := hid ha
 have HL := hid hl
 have d0 : (0 : Int) ≤ (d : Int) := by omega
 have d1 : (d : Int) < 6 := by omega
 obtain ⟨hx0, hx1⟩ := hx
 obtain ⟨hy0, hy1⟩ := hy
 obtain ⟨hz0, hz1⟩ := hz
 clear hc ha hl hX hY hZ hB hb hd
 cases B with
 | false =>
  go_enter Tryz.func189, Tryz.ntmps189
  go_wp2_with fail
  go_at_call 250; refine (HC.out _).mono ?_; rintro e w1 ⟨rfl, b1⟩
  have B2 := hid (B1.out.trans (b1.mono B1.out.size))
  clear b1
  go_wp2_with fail
  go_ret
  exact ⟨rfl, B2.out⟩
 | true =>
  go_enter Tryz.func189, Tryz.ntmps189
  go_wp2_with fail
  go_at_call 250; refine (HC.out _).mono ?_; rintro e w1 ⟨rfl, b1⟩
  have i1 : w1.heap[w.heap.size]? = some (.cells #[.int .i64 f.w, .int .i64 f.h, .int .i64 f.d, kv, ov] 24 (0, 0)) := (b1.block w.heap.size (by simp)).trans (heap_alloc_new _ _)
  have p0 : w1.cell? ⟨w.heap.size, 0, none⟩ = some (.int .i64 f.w) := cell_of_heap i1 0 rfl
  have p1 : w1.cell? ⟨w.heap.size, 1, none⟩ = some (.int .i64 f.h) := cell_of_heap i1 1 rfl
  have p2 : w1.cell? ⟨w.heap.size, 2, none⟩ = some (.int .i64 f.d) := cell_of_heap i1 2 rfl
  have p3 : w1.cell? ⟨w.heap.size, 3, none⟩ = some kv := cell_of_heap i1 3 rfl
  have p4 : w1.cell? ⟨w.heap.size, 4, none⟩ = some ov := cell_of_heap i1 4 rfl
  have B2 := hid (B1.out.trans (b1.mono B1.out.size))
  have I1 := hid i1
  clear b1 i1 B1
  go_wp2_with fail
  go_at_call 203; refine (HA.out _).mono ?_; rintro e w2 ⟨rfl, b2⟩
  have B3 := hid (B2.out.trans (b2.mono B2.out.size))
  have I2 := hid (keep_heap I1.out b2)
  clear b2 B2 I1 p0 p1 p2 p3 p4
  go_wp2_with fail
  go_at_call 251; refine (steps_any _).mono ?_; rintro e w3 ⟨rfl, b3⟩
  have B4 := hid (B3.out.trans (b3.mono B3.out.size))
  have i1 := keep_heap I2.out b3
  have p0 : w3.cell? ⟨w.heap.size, 0, none⟩ = some (.int .i64 f.w) := cell_of_heap i1 0 rfl
  have p1 : w3.cell? ⟨w.heap.size, 1, none⟩ = some (.int .i64 f.h) := cell_of_heap i1 1 rfl
  have p2 : w3.cell? ⟨w.heap.size, 2, none⟩ = some (.int .i64 f.d) := cell_of_heap i1 2 rfl
  have p3 : w3.cell? ⟨w.heap.size, 3, none⟩ = some kv := cell_of_heap i1 3 rfl
  have p4 : w3.cell? ⟨w.heap.size, 4, none⟩ = some ov := cell_of_heap i1 4 rfl
  have l3 : w.heap.size < w3.heap.size := heap_lt i1
  clear b3 B3 I2 i1
  go_wp2_with fail
  go_at_call 204; refine (HL.out _ _ _ _).mono ?_; rintro e w4 ⟨rfl, b4⟩
  have B5 := hid ((B4.out.alloc B4.out.size _).trans (b4.mono (by have := B4.out.size; simp; omega)))
  clear b4
  go_wp2_with fail
  go_ret
  exact ⟨rfl, B5.out⟩
theorem beside_any (f : Fl.Floor) (kv ov : Value) (c : Int) (d : Nat) (w : World) (hb : FB f) (hd : d < 6) :
 Calls Tryz.prog 189 #[flV f kv ov, .int .i64 c, .int .i64 d] w fun e w' => e = .returned (.int .i64 (Fl.beside f c d)) ∧ Below w.heap.size w w' := by
 unfold Fl.beside
 refine beside_dir f kv ov c d (Fl.stX d) (Fl.stY d) (Fl.stZ d) w hb hd ?_ ?_ ?_ ?_
 · rcases d with _ | _ | _ | _ | _ | _ | d <;> first | (exfalso; omega) | decide
 · rcases d with _ | _ | _ | _ | _ | _ | d <;> first | (exfalso; omega) | decide
 · rcases d with _ | _ | _ | _ | _ | _ | d <;> first | (exfalso; omega) | decide
 · intro W
   rcases d with _ | _ | _ | _ | _ | _ | d
   all_goals first | (exfalso; omega) | kernel_rfl
theorem rBeside_any (f : Fl.Floor) (kv ov : Value) (c d : Int) (w : World) (hb : FB f) :
 Calls Tryz.prog 234 #[flV f kv ov, .int .i64 c, .int .i64 d] w fun e w' => (∃ r : Int, e = .returned (.int .i64 r)) ∧ Below w.heap.size w w' := by
 have hc := fun W => rIs_any f kv ov c W hb
 have ha := fun W => rAt_any f kv ov c W hb
 have hl := fun X Y Z W => rCell_any f kv ov X Y Z W hb
 obtain ⟨X, hX⟩ : ∃ X, Fl.atX f c = X := ⟨_, rfl⟩
 obtain ⟨Y, hY⟩ : ∃ X, Fl.atY f c = X := ⟨_, rfl⟩
 obtain ⟨Z, hZ⟩ : ∃ X, Fl.atZ f c = X := ⟨_, rfl⟩
 rw [hX, hY, hZ] at ha
 obtain ⟨B, hB⟩ : ∃ B, Fl.isC f c = B := ⟨_, rfl⟩
 rw [hB] at hc
 have B1 := hid ((Below.refl _ w).alloc (Nat.le_refl _) (.cells #[.int .i64 f.w, .int .i64 f.h, .int .i64 f.d, kv, ov] 24))
 unfold flV at hc ha hl ⊢
 have HC := hid hc
 have HA := hid ha
 have HL := hid hl
 clear hc ha hl hX hY hZ hB hb
 cases B with
 | false =>
  go_enter Tryz.func234, Tryz.ntmps234
  go_wp2_with fail
  go_at_call 170; refine (HC.out _).mono ?_; rintro e w1 ⟨rfl, b1⟩
  have B2 := hid (B1.out.trans (b1.mono B1.out.size))
  clear b1
  go_wp2_with fail
  go_ret
  exact ⟨⟨_, rfl⟩, B2.out⟩
 | true =>
  go_enter Tryz.func234, Tryz.ntmps234
  go_wp2_with fail
  go_at_call 170; refine (HC.out _).mono ?_; rintro e w1 ⟨rfl, b1⟩
  have i1 : w1.heap[w.heap.size]? = some (.cells #[.int .i64 f.w, .int .i64 f.h, .int .i64 f.d, kv, ov] 24 (0, 0)) := (b1.block w.heap.size (by simp)).trans (heap_alloc_new _ _)
  have p0 : w1.cell? ⟨w.heap.size, 0, none⟩ = some (.int .i64 f.w) := cell_of_heap i1 0 rfl
  have p1 : w1.cell? ⟨w.heap.size, 1, none⟩ = some (.int .i64 f.h) := cell_of_heap i1 1 rfl
  have p2 : w1.cell? ⟨w.heap.size, 2, none⟩ = some (.int .i64 f.d) := cell_of_heap i1 2 rfl
  have p3 : w1.cell? ⟨w.heap.size, 3, none⟩ = some kv := cell_of_heap i1 3 rfl
  have p4 : w1.cell? ⟨w.heap.size, 4, none⟩ = some ov := cell_of_heap i1 4 rfl
  have B2 := hid (B1.out.trans (b1.mono B1.out.size))
  have I1 := hid i1
  clear b1 i1 B1
  go_wp2_with fail
  go_at_call 280; refine (HA.out _).mono ?_; rintro e w2 ⟨rfl, b2⟩
  have B3 := hid (B2.out.trans (b2.mono B2.out.size))
  have i2 := keep_heap I1.out b2
  clear b2 B2 I1 p0 p1 p2 p3 p4
  have p0 : w2.cell? ⟨w.heap.size, 0, none⟩ = some (.int .i64 f.w) := cell_of_heap i2 0 rfl
  have p1 : w2.cell? ⟨w.heap.size, 1, none⟩ = some (.int .i64 f.h) := cell_of_heap i2 1 rfl
  have p2 : w2.cell? ⟨w.heap.size, 2, none⟩ = some (.int .i64 f.d) := cell_of_heap i2 2 rfl
  have p3 : w2.cell? ⟨w.heap.size, 3, none⟩ = some kv := cell_of_heap i2 3 rfl
  have p4 : w2.cell? ⟨w.heap.size, 4, none⟩ = some ov := cell_of_heap i2 4 rfl
  clear i2
  go_wp2_with fail
  all_goals first
   | (go_ret; exact ⟨⟨_, rfl⟩, B3.out⟩)
   | (go_at_call 281; refine (HL.out _ _ _ _).mono ?_; rintro e w4 ⟨rfl, b4⟩
      have B5 := hid (B3.out.trans (b4.mono B3.out.size))
      clear b4
      go_wp2_with fail
      go_ret
      exact ⟨⟨_, rfl⟩, B5.out⟩)
def IsInt (e : Ending) : Prop := ∃ r : Int, e = .returned (.int .i64 r)
theorem rBesideS_any (s : Si.Site) (kv ov zv av sv rv : Value) (w : World) (h : SiV w kv ov zv av sv rv s) (hfl : Fl.Right s.floor) :
 Calls Tryz.prog 175 #[siV s kv ov zv av sv rv] w fun e w' => IsInt e ∧ Below w.heap.size w w' := by
 obtain ⟨a1, c1, a2, c2, a3, c3, a4, c4, a5, c5, a6, c6, rfl, rfl, rfl, rfl, rfl, rfl, m1, m2, m3, m4, m5, m6⟩ := h.open
 have HV := hid h
 have HBS := hid (fun c d W => rBeside_any s.floor (.slice a1 s.floor.kind.length c1) (.slice a2 s.floor.out.length c2) c d W (.of hfl))
 obtain ⟨l1, e1⟩ : ∃ n, s.floor.kind.length = n := ⟨_, rfl⟩
 obtain ⟨l2, e2⟩ : ∃ n, s.floor.out.length = n := ⟨_, rfl⟩
 obtain ⟨l3, e3⟩ : ∃ n, s.zones.length = n := ⟨_, rfl⟩
 obtain ⟨l4, e4⟩ : ∃ n, s.aparts.length = n := ⟨_, rfl⟩
 obtain ⟨l5, e5⟩ : ∃ n, s.shelves.length = n := ⟨_, rfl⟩
 obtain ⟨l6, e6⟩ : ∃ n, s.robots.length = n := ⟨_, rfl⟩
 unfold siV
 unfold flV at HBS
 rw [e1, e2] at HBS
 rw [e5] at m5
 rw [e1, e2, e3, e4, e5, e6] at HV
 rw [e1, e2, e3, e4, e5, e6]
 have E5 := hid e5
 have B1 := hid ((Below.refl _ w).alloc (Nat.le_refl _) (.cells #[.int .i64 s.floor.w, .int .i64 s.floor.h, .int .i64 s.floor.d, .slice a1 l1 c1, .slice a2 l2 c2, .slice a3 l3 c3, .slice a4 l4 c4, .slice a5 l5 c5, .slice a6 l6 c6] 30))
 have I0 := hid (heap_alloc_new w (.cells #[.int .i64 s.floor.w, .int .i64 s.floor.h, .int .i64 s.floor.d, .slice a1 l1 c1, .slice a2 l2 c2, .slice a3 l3 c3, .slice a4 l4 c4, .slice a5 l5 c5, .slice a6 l6 c6] 30))
 clear h hfl e1 e2 e3 e4 e5 e6
 go_enter Tryz.func175, Tryz.ntmps175
 go_wp2_with fail
 go_loopw [3] (fun iv wr => ∃ k : Nat, k ≤ l5 ∧ iv = .int .i64 k ∧ Hid (Below w.heap.size w wr) ∧
  Hid (wr.heap[w.heap.size]? = some (.cells #[.int .i64 s.floor.w, .int .i64 s.floor.h, .int .i64 s.floor.d, .slice a1 l1 c1, .slice a2 l2 c2, .slice a3 l3 c3, .slice a4 l4 c4, .slice a5 l5 c5, .slice a6 l6 c6] 30 (0, 0)))) (fun iv _ => l5 - (intOf iv).toNat)
 case atStart => exact ⟨0, by omega, rfl, B1, I0⟩
 case round =>
  obtain ⟨k, hk, rfl, HB, J0⟩ := hrel
  obtain ⟨wo, rfl⟩ : ∃ wo : World, wo = wr := ⟨_, rfl⟩
  have p7 : wo.cell? ⟨w.heap.size, 7, none⟩ = some (.slice a5 l5 c5) := cell_of_heap J0.out 7 rfl
  by_cases hkn : k < l5
  · have hkl : k < s.shelves.length := by rw [E5.out]; exact hkn
    have k1 : (k : Int) < (l5 : Int) := by omega
    have k0 : (0 : Int) ≤ (k : Int) := by omega
    go_wp2_with fail
    go_loopw [4] (fun iv wr => ∃ d : Nat, d ≤ 4 ∧ iv = .int .i64 d ∧ Hid (Below w.heap.size w wr) ∧
     Hid (wr.heap[w.heap.size]? = some (.cells #[.int .i64 s.floor.w, .int .i64 s.floor.h, .int .i64 s.floor.d, .slice a1 l1 c1, .slice a2 l2 c2, .slice a3 l3 c3, .slice a4 l4 c4, .slice a5 l5 c5, .slice a6 l6 c6] 30 (0, 0)))) (fun iv _ => 4 - (intOf iv).toNat)
    case atStart => exact ⟨0, by omega, rfl, HB, J0⟩
    case round =>
     clear HB J0 p7
     obtain ⟨d, hd, rfl, HB, J0⟩ := hrel
     by_cases hdn : d < 4
     · obtain ⟨sb, so, t1, hsb, r0, r1⟩ := SfV.cell (Rw.keep HV.out.sf HB.out) k hkl
       subst t1
       have HSF : Hid (SfV w (.slice (some ⟨sb, so, none⟩) l5 c5) s.shelves) := hid HV.out.sf
       obtain ⟨C, hC⟩ : ∃ C, s.shelves[k].1 = C := ⟨_, rfl⟩
       obtain ⟨NM, hNM⟩ : ∃ C : ByteArray, ⟨s.shelves[k].2.toArray⟩ = C := ⟨_, rfl⟩
       rw [hC] at r0
       rw [hNM] at r1
       have d1 : (d : Int) < 4 := by omega
       have d0 : (0 : Int) ≤ (d : Int) := by omega
       have lw : w.heap.size < wr.heap.size := heap_lt J0.out
       obtain ⟨p0, p1, p2, p3, p4, -⟩ := cells9 J0.out
       have p7 : wr.cell? ⟨w.heap.size, 7, none⟩ = some (.slice (some ⟨sb, so, none⟩) l5 c5) := cell_of_heap J0.out 7 rfl
       clear hC hNM
       go_upto_region 7 with fail
       go_cut [5] (fun v wx => ∃ x : Int, v = .int .i64 x ∧ Hid (Below wr.heap.size wr wx))
       case first =>
        go_still_tail 9, (by kernel_rfl)
        change wpList _ _ _ _ _ wr.drew
        have BD := hid (below_drewN wr.heap.size wr 1)
        go_wp2_with fail
        go_at_call 234; refine (HBS.out _ _ _).mono ?_; rintro e w2 ⟨⟨x, rfl⟩, b2⟩
        have B2 := hid ((show Below wr.heap.size wr wr.drew from BD.out).trans b2)
        clear b2
        go_wp2_with fail
        go_meet
        exact ⟨x, rfl, B2⟩
       case rest =>
        obtain ⟨x, rfl, HBX⟩ := hcut
        have HBC := hid (HB.out.trans (HBX.out.mono HB.out.size))
        have J9 := hid (keep_heap J0.out HBX.out)
        have lw2 : w.heap.size < wc.heap.size := heap_lt J9.out
        have q6 : wc.cell? ⟨w.heap.size, 6, none⟩ = some (.slice a4 l4 c4) := cell_of_heap J9.out 6 rfl
        have q7 : wc.cell? ⟨w.heap.size, 7, none⟩ = some (.slice (some ⟨sb, so, none⟩) l5 c5) := cell_of_heap J9.out 7 rfl
        have s1 : wc.cell? ⟨sb, so + k * 2 + 1, none⟩ = some (.string NM) := (HBX.out.cell (p := ⟨sb, so + k * 2 + 1, none⟩) hsb).trans r1
        have hKr := idxI_lt (fun y : Int × List UInt8 => decide (y.1 = x)) s.shelves
        have HSH := hid (fun W hb => shelfAt_is (.slice (some ⟨sb, so, none⟩) l5 c5) s.shelves x W (Rw.keep HSF.out hb))
        obtain ⟨K, hK⟩ : ∃ K, sIdx s.shelves x = K := ⟨_, rfl⟩
        rw [hK] at HSH
        rw [show idxI (fun y : Int × List UInt8 => decide (y.1 = x)) s.shelves = K from hK, E5.out] at hKr
        have HD : Hid (∀ q, Below w.heap.size w (wc.drewN q)) := hid (fun q => HBC.out.trans (below_drewN _ _ _))
        have hab : ∀ p : Bool, p = true ∨ p = false := fun p => by cases p <;> simp
        clear p0 p1 p2 p3 p4 p7 r0 r1 hK
        go_wp2_with fail
        go_at_call 172; refine (HSH.out _ HBC.out).mono ?_; rintro e w3 ⟨rfl, rfl⟩
        rcases hab (decide (x ≥ 0)) with hA | hA
        · rcases hab (decide (K ≥ 0)) with hB | hB
          · rcases hab (decide (K < (k : Int))) with hE | hE
            · have hK0 : 0 ≤ K := by simpa using hB
              obtain ⟨m, rfl⟩ : ∃ m : Nat, K = (m : Int) := ⟨K.toNat, by omega⟩
              have hml : m < s.shelves.length := by rw [E5.out]; omega
              obtain ⟨sb2, so2, t2, hsb2, -, r3⟩ := SfV.cell (Rw.keep HSF.out HBC.out) m hml
              injection t2 with t2; injection t2 with t2 t3
              subst t2 t3
              obtain ⟨NM2, hNM2⟩ : ∃ C : ByteArray, ⟨s.shelves[m].2.toArray⟩ = C := ⟨_, rfl⟩
              rw [hNM2] at r3
              obtain ⟨AB, hAB⟩ := Apart_ex s.aparts NM NM2
              have HAP := hid (fun W hb => hAB (.slice a4 l4 c4) W (Rw.keep HV.out.ap hb))
              have hE2 : decide (m < k) = true := decide_eq_true (by have h9 : (m : Int) < (k : Int) := by simpa using hE
                                                                     omega)
              have m0 : (0 : Int) ≤ (m : Int) := by omega
              have m9 : (m : Int) < (l5 : Int) := by omega
              clear hNM2 hAB
              cases AB with
              | false =>
               go_wp2_with fail
               go_quiet ((go_at_call 169; exact qsame (HAP.out _ (HD.out _))))
               go_wp2_with fail
               go_roundw
               case rel => exact ⟨d + 1, by omega, by go_num, hid (HD.out _), J9⟩
               case measure => simp [intOf]; omega
              | true =>
               go_wp2_with fail
               go_quiet ((go_at_call 169; exact qsame (HAP.out _ (HD.out _))))
               go_wp2_with fail
               go_ret
               exact ⟨⟨_, rfl⟩, HD.out _⟩
            · go_wp2_with fail
              go_quiet (fail)
              go_wp2_with fail
              go_roundw
              case rel => exact ⟨d + 1, by omega, by go_num, hid (HD.out _), J9⟩
              case measure => simp [intOf]; omega
          · go_wp2_with fail
            go_quiet (fail)
            go_wp2_with fail
            go_roundw
            case rel => exact ⟨d + 1, by omega, by go_num, hid (HD.out _), J9⟩
            case measure => simp [intOf]; omega
        · go_wp2_with fail
          go_quiet (fail)
          go_wp2_with fail
          go_roundw
          case rel => exact ⟨d + 1, by omega, by go_num, hid (HD.out _), J9⟩
          case measure => simp [intOf]; omega
     · obtain rfl : d = 4 := by omega
       have d1 : ((4 : Nat) : Int) = 4 := rfl
       go_wp2_with fail
       go_roundw
       case rel => exact ⟨k + 1, by omega, by go_num, HB, J0⟩
       case measure => simp [intOf]; omega
  · go_wp2_with fail
    go_ret
    exact ⟨⟨_, rfl⟩, HB.out⟩
structure FewP (s : Si.Site) (c m : Int) : Prop where
 zn : ∀ z ∈ s.zones, (z.cells.length : Int) ≤ c ∧ z.name.length ≤ 40
 ap : ∀ p ∈ s.aparts, p.1.length ≤ 40 ∧ p.2.length ≤ 40
 sf : ∀ p ∈ s.shelves, p.2.length ≤ 40
 kl : (s.floor.kind.length : Int) ≤ c
 nz : (s.zones.length : Int) ≤ m
 na : (s.aparts.length : Int) ≤ m
 ns : (s.shelves.length : Int) ≤ m
 nr : (s.robots.length : Int) ≤ m
theorem all_take {α : Type} {p : α → Prop} {l : List α} {k : Nat} (h : ∀ x ∈ l.take k, p x) (hk : k < l.length) (h1 : p l[k]) : ∀ x ∈ l.take (k + 1), p x := by
 rw [List.take_succ_eq_append_getElem hk]
 intro x hx
 rcases List.mem_append.1 hx with h2 | h2
 · exact h x h2
 · rw [List.mem_singleton] at h2; subst h2; exact h1
theorem all_end {α : Type} {p : α → Prop} {l : List α} {k : Nat} (h : ∀ x ∈ l.take k, p x) (hk : l.length ≤ k) : ∀ x ∈ l, p x := by rwa [List.take_of_length_le hk] at h
theorem rFewS_any (s : Si.Site) (kv ov zv av sv rv : Value) (c m : Int) (w : World) (h : SiV w kv ov zv av sv rv s) (hm0 : m < 1000000000) :
 Calls Tryz.prog 44 #[siV s kv ov zv av sv rv, .int .i64 c, .int .i64 m] w fun e w' => TruePost (FewP s c m) e ∧ Below w.heap.size w w' := by
 obtain ⟨a1, c1, a2, c2, a3, c3, a4, c4, a5, c5, a6, c6, rfl, rfl, rfl, rfl, rfl, rfl, m1, m2, m3, m4, m5, m6⟩ := h.open
 have HV := hid h
 have HFW := hid (fun W hb => rFew_any s.floor (.slice a1 s.floor.kind.length c1) (.slice a2 s.floor.out.length c2) c W (h.fl.keep hb))
 obtain ⟨l1, e1⟩ : ∃ n, s.floor.kind.length = n := ⟨_, rfl⟩
 obtain ⟨l2, e2⟩ : ∃ n, s.floor.out.length = n := ⟨_, rfl⟩
 obtain ⟨l3, e3⟩ : ∃ n, s.zones.length = n := ⟨_, rfl⟩
 obtain ⟨l4, e4⟩ : ∃ n, s.aparts.length = n := ⟨_, rfl⟩
 obtain ⟨l5, e5⟩ : ∃ n, s.shelves.length = n := ⟨_, rfl⟩
 obtain ⟨l6, e6⟩ : ∃ n, s.robots.length = n := ⟨_, rfl⟩
 unfold siV
 unfold flV at HFW
 rw [e1, e2] at HFW
 rw [e3] at m3
 rw [e4] at m4
 rw [e5] at m5
 rw [e1, e2, e3, e4, e5, e6] at HV
 rw [e1, e2, e3, e4, e5, e6]
 have E1 := hid e1
 have E3 := hid e3
 have E4 := hid e4
 have E5 := hid e5
 have E6 := hid e6
 have B1 := hid ((Below.refl _ w).alloc (Nat.le_refl _) (.cells #[.int .i64 s.floor.w, .int .i64 s.floor.h, .int .i64 s.floor.d, .slice a1 l1 c1, .slice a2 l2 c2, .slice a3 l3 c3, .slice a4 l4 c4, .slice a5 l5 c5, .slice a6 l6 c6] 30))
 have I0 := hid (heap_alloc_new w (.cells #[.int .i64 s.floor.w, .int .i64 s.floor.h, .int .i64 s.floor.d, .slice a1 l1 c1, .slice a2 l2 c2, .slice a3 l3 c3, .slice a4 l4 c4, .slice a5 l5 c5, .slice a6 l6 c6] 30))
 have hab : ∀ p : Bool, p = true ∨ p = false := fun p => by cases p <;> simp
 clear h e1 e2 e3 e4 e5 e6
 go_enter Tryz.func44, Tryz.ntmps44
 go_wp2_with fail
 go_loopw [7] (fun iv wr => ∃ k : Nat, k ≤ l3 ∧ iv = .int .i64 k ∧ Hid (∀ x ∈ s.zones.take k, (fun z : Si.Zone => ((z.cells.length : Int) ≤ c ∧ z.name.length ≤ 40)) x) ∧ wr = w.alloc (.cells #[.int .i64 s.floor.w, .int .i64 s.floor.h, .int .i64 s.floor.d, .slice a1 l1 c1, .slice a2 l2 c2, .slice a3 l3 c3, .slice a4 l4 c4, .slice a5 l5 c5, .slice a6 l6 c6] 30)) (fun iv _ => l3 - (intOf iv).toNat)
 case atStart => exact ⟨0, by omega, rfl, hid (by simp), rfl⟩
 case round =>
  obtain ⟨k, hk, rfl, HK, rfl⟩ := hrel
  have p5 : (w.alloc (.cells #[.int .i64 s.floor.w, .int .i64 s.floor.h, .int .i64 s.floor.d, .slice a1 l1 c1, .slice a2 l2 c2, .slice a3 l3 c3, .slice a4 l4 c4, .slice a5 l5 c5, .slice a6 l6 c6] 30)).cell? ⟨w.heap.size, 5, none⟩ = some (.slice a3 l3 c3) := cell_of_heap I0.out 5 rfl
  have hthree : (k < l3 ∧ (k : Int) ≤ m) ∨ (k < l3 ∧ ¬ (k : Int) ≤ m) ∨ ¬ k < l3 := by omega
  rcases hthree with ⟨hkn, hkm⟩ | ⟨hkn, hkm⟩ | hkn
  · have hkl : k < s.zones.length := by rw [E3.out]; exact hkn
    have k1 : (k : Int) < (l3 : Int) := by omega
    have k0 : (0 : Int) ≤ (k : Int) := by omega
    have HT := hid (fun h => all_take HK.out hkl h)
    obtain ⟨zb, zo, u1, u2, t1, hzb, hu1, hu2, r0, r1, r2, r3, r4⟩ := (HV.out.zn.keep B1.out).cell k hkl
    subst t1
    obtain ⟨b1, d1, rfl, n1⟩ := hu1.form
    obtain ⟨b2, d2, rfl, n2⟩ := two_form hu2
    obtain ⟨z, hz⟩ : ∃ z, s.zones[k] = z := ⟨_, rfl⟩
    rw [hz] at r0 r1 r4 HT n1 n2
    have HNL : Hid (((⟨z.name.toArray⟩ : ByteArray).size) = z.name.length) := hid (by show z.name.toArray.size = _; simp)
    obtain ⟨NM, hNM⟩ : ∃ N : ByteArray, ⟨z.name.toArray⟩ = N := ⟨_, rfl⟩
    rw [hNM] at r0 HNL
    obtain ⟨n, hn⟩ : ∃ n, z.cells.length = n := ⟨_, rfl⟩
    obtain ⟨q, hq⟩ : ∃ n, z.shut.length = n := ⟨_, rfl⟩
    rw [hn] at r1 n1 HT
    rw [hq] at r4 n2
    clear hu1 hu2 hz hNM hn hq r2 r3
    by_cases g1 : (n : Int) > c
    · go_wp2_with fail
      go_ret
      exact ⟨TruePost.no _, B1.out⟩
    · by_cases g2 : (q : Int) > 20
      · go_wp2_with fail
        go_ret
        exact ⟨TruePost.no _, B1.out⟩
      · by_cases g3 : (NM.size : Int) > 40
        · go_wp2_with fail
          go_ret
          exact ⟨TruePost.no _, B1.out⟩
        · have HX := hid (HT.out ⟨by omega, by have := HNL.out; omega⟩)
          go_wp2_with fail
          go_roundw
          case rel => exact ⟨k + 1, by omega, by go_num, HX, by first | rfl | trivial⟩
          case measure => simp [intOf]; omega
  all_goals
   have HPZ : Hid ((l3 : Int) ≤ m → ∀ x ∈ s.zones, (fun z : Si.Zone => ((z.cells.length : Int) ≤ c ∧ z.name.length ≤ 40)) x) := hid (fun hle => all_end HK.out (by rw [E3.out]; omega))
   clear HK
   go_wp2_with fail
   go_loopw [8] (fun iv wr => ∃ k : Nat, k ≤ l4 ∧ iv = .int .i64 k ∧ Hid (∀ x ∈ s.aparts.take k, (fun p : List UInt8 × List UInt8 => p.1.length ≤ 40 ∧ p.2.length ≤ 40) x) ∧ wr = w.alloc (.cells #[.int .i64 s.floor.w, .int .i64 s.floor.h, .int .i64 s.floor.d, .slice a1 l1 c1, .slice a2 l2 c2, .slice a3 l3 c3, .slice a4 l4 c4, .slice a5 l5 c5, .slice a6 l6 c6] 30)) (fun iv _ => l4 - (intOf iv).toNat)
   case atStart => exact ⟨0, by omega, rfl, hid (by simp), rfl⟩
   case round =>
    obtain ⟨k, hk, rfl, HK, rfl⟩ := hrel
    have p6 : (w.alloc (.cells #[.int .i64 s.floor.w, .int .i64 s.floor.h, .int .i64 s.floor.d, .slice a1 l1 c1, .slice a2 l2 c2, .slice a3 l3 c3, .slice a4 l4 c4, .slice a5 l5 c5, .slice a6 l6 c6] 30)).cell? ⟨w.heap.size, 6, none⟩ = some (.slice a4 l4 c4) := cell_of_heap I0.out 6 rfl
    have hthree : (k < l4 ∧ (k : Int) ≤ m) ∨ (k < l4 ∧ ¬ (k : Int) ≤ m) ∨ ¬ k < l4 := by omega
    rcases hthree with ⟨hkn, hkm⟩ | ⟨hkn, hkm⟩ | hkn
    · have hkl : k < s.aparts.length := by rw [E4.out]; exact hkn
      have k1 : (k : Int) < (l4 : Int) := by omega
      have k0 : (0 : Int) ≤ (k : Int) := by omega
      have HT := hid (fun h => all_take HK.out hkl h)
      obtain ⟨zb, zo, t1, hzb, r0, r1⟩ := ApV.cell (Rw.keep HV.out.ap B1.out) k hkl
      subst t1
      obtain ⟨z, hz⟩ : ∃ z, s.aparts[k] = z := ⟨_, rfl⟩
      rw [hz] at r0 r1 HT
      have HNL : Hid (((⟨z.1.toArray⟩ : ByteArray).size) = z.1.length) := hid (by show z.1.toArray.size = _; simp)
      have HNM : Hid (((⟨z.2.toArray⟩ : ByteArray).size) = z.2.length) := hid (by show z.2.toArray.size = _; simp)
      obtain ⟨NA, hNA⟩ : ∃ N : ByteArray, ⟨z.1.toArray⟩ = N := ⟨_, rfl⟩
      obtain ⟨NB, hNB⟩ : ∃ N : ByteArray, ⟨z.2.toArray⟩ = N := ⟨_, rfl⟩
      rw [hNA] at r0 HNL
      rw [hNB] at r1 HNM
      clear hz hNA hNB
      by_cases g1 : (NA.size : Int) > 40
      · go_wp2_with fail
        go_ret
        exact ⟨TruePost.no _, B1.out⟩
      · by_cases g2 : (NB.size : Int) > 40
        · go_wp2_with fail
          go_ret
          exact ⟨TruePost.no _, B1.out⟩
        · have HX := hid (HT.out ⟨by have := HNL.out; omega, by have := HNM.out; omega⟩)
          go_wp2_with fail
          go_roundw
          case rel => exact ⟨k + 1, by omega, by go_num, HX, by first | rfl | trivial⟩
          case measure => simp [intOf]; omega
    all_goals
     have HPA : Hid ((l4 : Int) ≤ m → ∀ x ∈ s.aparts, (fun p : List UInt8 × List UInt8 => p.1.length ≤ 40 ∧ p.2.length ≤ 40) x) := hid (fun hle => all_end HK.out (by rw [E4.out]; omega))
     clear HK
     go_wp2_with fail
     go_loopw [9] (fun iv wr => ∃ k : Nat, k ≤ l5 ∧ iv = .int .i64 k ∧ Hid (∀ x ∈ s.shelves.take k, (fun p : Int × List UInt8 => p.2.length ≤ 40) x) ∧ wr = w.alloc (.cells #[.int .i64 s.floor.w, .int .i64 s.floor.h, .int .i64 s.floor.d, .slice a1 l1 c1, .slice a2 l2 c2, .slice a3 l3 c3, .slice a4 l4 c4, .slice a5 l5 c5, .slice a6 l6 c6] 30)) (fun iv _ => l5 - (intOf iv).toNat)
     case atStart => exact ⟨0, by omega, rfl, hid (by simp), rfl⟩
     case round =>
      obtain ⟨k, hk, rfl, HK, rfl⟩ := hrel
      have p7 : (w.alloc (.cells #[.int .i64 s.floor.w, .int .i64 s.floor.h, .int .i64 s.floor.d, .slice a1 l1 c1, .slice a2 l2 c2, .slice a3 l3 c3, .slice a4 l4 c4, .slice a5 l5 c5, .slice a6 l6 c6] 30)).cell? ⟨w.heap.size, 7, none⟩ = some (.slice a5 l5 c5) := cell_of_heap I0.out 7 rfl
      have hthree : (k < l5 ∧ (k : Int) ≤ m) ∨ (k < l5 ∧ ¬ (k : Int) ≤ m) ∨ ¬ k < l5 := by omega
      rcases hthree with ⟨hkn, hkm⟩ | ⟨hkn, hkm⟩ | hkn
      · have hkl : k < s.shelves.length := by rw [E5.out]; exact hkn
        have k1 : (k : Int) < (l5 : Int) := by omega
        have k0 : (0 : Int) ≤ (k : Int) := by omega
        have HT := hid (fun h => all_take HK.out hkl h)
        obtain ⟨zb, zo, t1, hzb, r0, r1⟩ := SfV.cell (Rw.keep HV.out.sf B1.out) k hkl
        subst t1
        obtain ⟨z, hz⟩ : ∃ z, s.shelves[k] = z := ⟨_, rfl⟩
        rw [hz] at r0 r1 HT
        have HNM : Hid (((⟨z.2.toArray⟩ : ByteArray).size) = z.2.length) := hid (by show z.2.toArray.size = _; simp)
        obtain ⟨NB, hNB⟩ : ∃ N : ByteArray, ⟨z.2.toArray⟩ = N := ⟨_, rfl⟩
        rw [hNB] at r1 HNM
        clear hz hNB
        by_cases g2 : (NB.size : Int) > 40
        · go_wp2_with fail
          go_ret
          exact ⟨TruePost.no _, B1.out⟩
        · have HX := hid (HT.out (by have := HNM.out; omega))
          go_wp2_with fail
          go_roundw
          case rel => exact ⟨k + 1, by omega, by go_num, HX, by first | rfl | trivial⟩
          case measure => simp [intOf]; omega
      all_goals
       have HPS : Hid ((l5 : Int) ≤ m → ∀ x ∈ s.shelves, (fun p : Int × List UInt8 => p.2.length ≤ 40) x) := hid (fun hle => all_end HK.out (by rw [E5.out]; omega))
       clear HK
       go_wp2_with fail
       have p0 : (w.alloc (.cells #[.int .i64 s.floor.w, .int .i64 s.floor.h, .int .i64 s.floor.d, .slice a1 l1 c1, .slice a2 l2 c2, .slice a3 l3 c3, .slice a4 l4 c4, .slice a5 l5 c5, .slice a6 l6 c6] 30)).cell? ⟨w.heap.size, 0, none⟩ = some (.int .i64 s.floor.w) := cell_of_heap I0.out 0 rfl
       have HW := HFW.out _ B1.out
       have HFF : Hid ((decide ((l1 : Int) ≤ c) && decide ((l2 : Int) ≤ c)) = true → (l1 : Int) ≤ c) := hid (fun h => by simp at h; exact h.1)
       obtain ⟨FB, hFB⟩ : ∃ b, (decide ((l1 : Int) ≤ c) && decide ((l2 : Int) ≤ c)) = b := ⟨_, rfl⟩
       rw [hFB] at HW HFF
       have HWW := hid HW
       clear hFB HW p5 p6 p7
       go_at_call 116; refine HWW.out.mono ?_; rintro e w2 ⟨rfl, b2⟩
       have i2 := keep_heap I0.out b2
       have B2 := hid (B1.out.trans (b2.mono B1.out.size))
       have lw2 : w.heap.size < w2.heap.size := heap_lt i2
       have p5 : w2.cell? ⟨w.heap.size, 5, none⟩ = some (.slice a3 l3 c3) := cell_of_heap i2 5 rfl
       have p6 : w2.cell? ⟨w.heap.size, 6, none⟩ = some (.slice a4 l4 c4) := cell_of_heap i2 6 rfl
       have p7 : w2.cell? ⟨w.heap.size, 7, none⟩ = some (.slice a5 l5 c5) := cell_of_heap i2 7 rfl
       have p8 : w2.cell? ⟨w.heap.size, 8, none⟩ = some (.slice a6 l6 c6) := cell_of_heap i2 8 rfl
       clear b2 i2 p0
       cases FB with
       | false =>
        go_wp2_with fail
        go_ret
        exact ⟨TruePost.no _, B2.out⟩
       | true =>
        go_wp2_with fail
        all_goals
         go_ret
         first
          | exact ⟨TruePost.no _, B2.out⟩
          | (refine ⟨⟨_, rfl, fun h => ?_⟩, B2.out⟩
             have h9 : (l6 : Int) ≤ m := by first | exact of_decide_eq_true h | simpa using h
             exact ⟨HPZ.out (by omega), HPA.out (by omega), HPS.out (by omega), by rw [E1.out]; exact HFF.out (by first | rfl | trivial), by rw [E3.out]; omega, by rw [E4.out]; omega, by rw [E5.out]; omega, by rw [E6.out]; omega⟩)
structure ShOk (f : Fl.Floor) (l : List (Int × List UInt8)) : Prop where
 a : ∀ x ∈ l, Fl.isC f x.1 = true ∧ (Si.kindAt f x.1 = 1 ∨ Si.kindAt f x.1 = 2)
 d : (l.map (·.1)).Nodup
structure RbOk (f : Fl.Floor) (l : List (Int × Int)) : Prop where
 a : ∀ x ∈ l, Fl.isC f x.1 = true ∧ Si.kindAt f x.1 ≠ 0 ∧ 0 ≤ x.2 ∧ x.2 ≤ 1000000
 d : (l.map (·.1)).Nodup
theorem nodup_step {α : Type} {l : List (Int × α)} {k : Nat} (h : ((l.take k).map (·.1)).Nodup) (hk : k < l.length) (hn : noAt (l.take k) l[k].1) : ((l.take (k + 1)).map (·.1)).Nodup := by
 rw [List.take_succ_eq_append_getElem hk, List.map_append, List.nodup_append]
 refine ⟨h, by simp, fun x hx y hy => ?_⟩
 obtain ⟨z, hz, rfl⟩ := List.mem_map.1 hx
 rw [List.map_singleton, List.mem_singleton] at hy
 subst hy
 exact hn z hz
theorem ShOk.nil (f : Fl.Floor) : ShOk f [] := ⟨fun z h => (by cases h), List.Pairwise.nil⟩
theorem RbOk.nil (f : Fl.Floor) : RbOk f [] := ⟨fun z h => (by cases h), List.Pairwise.nil⟩
theorem ShOk.step {f : Fl.Floor} {l : List (Int × List UInt8)} {k : Nat} (h : ShOk f (l.take k)) (hk : k < l.length) (h1 : Fl.isC f l[k].1 = true ∧ (Si.kindAt f l[k].1 = 1 ∨ Si.kindAt f l[k].1 = 2)) (hn : sIdx (l.take k) l[k].1 < 0) : ShOk f (l.take (k + 1)) :=
 ⟨all_take h.a hk h1, nodup_step h.d hk ((sIdx_neg _ _).1 hn)⟩
theorem RbOk.step {f : Fl.Floor} {l : List (Int × Int)} {k : Nat} (h : RbOk f (l.take k)) (hk : k < l.length) (h1 : Fl.isC f l[k].1 = true ∧ Si.kindAt f l[k].1 ≠ 0 ∧ 0 ≤ l[k].2 ∧ l[k].2 ≤ 1000000) (hn : sIdx (l.take k) l[k].1 < 0) : RbOk f (l.take (k + 1)) :=
 ⟨all_take h.a hk h1, nodup_step h.d hk ((sIdx_neg _ _).1 hn)⟩
theorem Si.Right.of {s : Si.Site} (hf : Fl.Right s.floor) (hz : ZOk s.floor s.zones) (hn : s.zones.length ≤ 64) (hs : ShOk s.floor s.shelves) (hsn : s.shelves.length ≤ 3000) (hr : RbOk s.floor s.robots) (hrn : s.robots.length ≤ 200) : Si.Right s where
 fl := hf
 zn := hn
 zc := fun z h => let ⟨h1, h2, h3, h4, h5⟩ := hz.a z h; ⟨h1, h2, h3, h4, h5⟩
 zk := fun z h c hc => hz.b z h c hc
 zd := hz.d
 sn := hsn
 sc := hs.a
 sd := hs.d
 rn := hrn
 rc := hr.a
 rd := hr.d
theorem kindAt_nat {f : Fl.Floor} {C : Nat} {K : Int} (h : C < f.kind.length) (hK : f.kind[C] = K) : Si.kindAt f (C : Int) = K := by
 unfold Si.kindAt
 rw [Int.toNat_natCast, List.getD_eq_getElem?_getD, List.getElem?_eq_getElem h, Option.getD_some, hK]
def RtP (s : Si.Site) : Prop := Si.Right s ∧ ∀ z ∈ s.zones, z.keep ≤ z.cells.length
structure Names (s : Si.Site) : Prop where
 z : ∀ z ∈ s.zones, z.name.length ≤ 1000000
 a : ∀ p ∈ s.aparts, p.1.length ≤ 1000000 ∧ p.2.length ≤ 1000000
 s : ∀ p ∈ s.shelves, p.2.length ≤ 1000000
theorem bytes_size (l : List UInt8) : (⟨l.toArray⟩ : ByteArray).size = l.length := by show l.toArray.size = _; simp
theorem rRight11_any (s : Si.Site) (kv ov zv av sv rv : Value) (w : World) (h : SiV w kv ov zv av sv rv s) (hcp : SiCap zv av sv rv) (hnm : Names s) :
 Calls Tryz.prog 99 #[siV s kv ov zv av sv rv] w fun e w' => TruePost (RtP s) e ∧ Below w.heap.size w w' := by
 obtain ⟨a1, c1, a2, c2, a3, c3, a4, c4, a5, c5, a6, c6, rfl, rfl, rfl, rfl, rfl, rfl, m1, m2, m3, m4, m5, m6⟩ := h.open
 have hca : s.aparts.length ≤ c4 := hcp.a.1
 have hcs : s.shelves.length ≤ c5 := hcp.s.1
 have hcr : s.robots.length ≤ c6 := hcp.r.1
 have HV := hid h
 have HNM := hid hnm
 have HFL := hid (fun W hb => rFloor_any s.floor (.slice a1 s.floor.kind.length c1) (.slice a2 s.floor.out.length c2) W (h.fl.keep hb))
 have HIS := hid (fun (hf : Fl.Right s.floor) c W => rIs_any s.floor (.slice a1 s.floor.kind.length c1) (.slice a2 s.floor.out.length c2) c W (.of hf))
 have HRZ := hid (fun (hf : Fl.Right s.floor) W hb => rightZones_any s (.slice a1 s.floor.kind.length c1) (.slice a2 s.floor.out.length c2) (.slice a3 s.zones.length c3) (.slice a4 s.aparts.length c4) (.slice a5 s.shelves.length c5) (.slice a6 s.robots.length c6) W (h.keep hb) hcp hf hnm.z)
 have HBE := hid (fun (hf : Fl.Right s.floor) W hb => rBesideS_any s (.slice a1 s.floor.kind.length c1) (.slice a2 s.floor.out.length c2) (.slice a3 s.zones.length c3) (.slice a4 s.aparts.length c4) (.slice a5 s.shelves.length c5) (.slice a6 s.robots.length c6) W (h.keep hb) hf)
 have HCH := hid (fun W hb => charger_any s.floor (.slice a1 s.floor.kind.length c1) (.slice a2 s.floor.out.length c2) W (h.fl.keep hb))
 have HBL := hid (fun (z : Si.Zone) u1 u2 W hb h1 h2 h3 => blanks_any s (.slice a1 s.floor.kind.length c1) (.slice a2 s.floor.out.length c2) (.slice a3 s.zones.length c3) (.slice a4 s.aparts.length c4) (.slice a5 s.shelves.length c5) (.slice a6 s.robots.length c6) z u1 u2 W (h.keep hb) h1 h2 h3)
 obtain ⟨l1, e1⟩ : ∃ n, s.floor.kind.length = n := ⟨_, rfl⟩
 obtain ⟨l2, e2⟩ : ∃ n, s.floor.out.length = n := ⟨_, rfl⟩
 obtain ⟨l3, e3⟩ : ∃ n, s.zones.length = n := ⟨_, rfl⟩
 obtain ⟨l4, e4⟩ : ∃ n, s.aparts.length = n := ⟨_, rfl⟩
 obtain ⟨l5, e5⟩ : ∃ n, s.shelves.length = n := ⟨_, rfl⟩
 obtain ⟨l6, e6⟩ : ∃ n, s.robots.length = n := ⟨_, rfl⟩
 unfold siV at HRZ HBE HBL ⊢
 unfold flV at HFL HIS HCH
 rw [e1, e2] at HFL HIS HCH
 rw [e3] at m3
 rw [e4] at m4 hca
 rw [e5] at m5 hcs
 rw [e6] at m6 hcr
 rw [e1, e2, e3, e4, e5, e6] at HV HRZ HBE HBL
 rw [e1, e2, e3, e4, e5, e6]
 have E1 := hid e1
 have E3 := hid e3
 have E4 := hid e4
 have E5 := hid e5
 have E6 := hid e6
 have B1 := hid ((Below.refl _ w).alloc (Nat.le_refl _) (.cells #[.int .i64 s.floor.w, .int .i64 s.floor.h, .int .i64 s.floor.d, .slice a1 l1 c1, .slice a2 l2 c2, .slice a3 l3 c3, .slice a4 l4 c4, .slice a5 l5 c5, .slice a6 l6 c6] 30))
 have I0 := hid (heap_alloc_new w (.cells #[.int .i64 s.floor.w, .int .i64 s.floor.h, .int .i64 s.floor.d, .slice a1 l1 c1, .slice a2 l2 c2, .slice a3 l3 c3, .slice a4 l4 c4, .slice a5 l5 c5, .slice a6 l6 c6] 30))
 have hab : ∀ p : Bool, p = true ∨ p = false := fun p => by cases p <;> simp
 clear h hcp hnm e1 e2 e3 e4 e5 e6
 go_enter Tryz.func99, Tryz.ntmps99
 go_wp2_with fail
 go_at_call 166; refine (HFL.out _ B1.out).mono ?_; rintro e w1 ⟨⟨rb, rfl, hrb⟩, b1⟩
 have HRB := hid hrb
 have B2 := hid (B1.out.trans (b1.mono B1.out.size))
 have i1 := keep_heap I0.out b1
 have I1 := hid i1
 obtain ⟨pw10, pw11, pw12, pw13, pw14, pw15, pw16, pw17, pw18⟩ := cells9 i1
 clear b1 i1 hrb
 cases rb with
 | false =>
  go_wp2_with fail
  go_ret
  exact ⟨TruePost.no _, B2.out⟩
 | true =>
  have HF := hid (HRB.out rfl)
  have HKL : Hid ((l1 : Int) = s.floor.size) := hid (by rw [← E1.out]; exact HF.out.kl)
  clear HRB
  go_wp2_with fail
  go_at_call 167; refine (HRZ.out HF.out _ B2.out).mono ?_; rintro e w2 ⟨⟨rb, rfl, hrb⟩, b2⟩
  have HZR := hid hrb
  have B3 := hid (B2.out.trans (b2.mono B2.out.size))
  have i2 := keep_heap I1.out b2
  have I2 := hid i2
  clear b2 hrb pw10 pw11 pw12 pw13 pw14 pw15 pw16 pw17 pw18 B1 B2 I0 I1
  obtain ⟨pw20, pw21, pw22, pw23, pw24, pw25, pw26, pw27, pw28⟩ := cells9 i2
  clear i2
  cases rb with
  | false =>
   go_wp2_with fail
   go_ret
   exact ⟨TruePost.no _, B3.out⟩
  | true =>
   have HZ := hid (HZR.out rfl)
   clear HZR
   rcases hab (decide ((l5 : Int) > 3000)) with hN | hN
   · go_wp2_with fail
     go_ret
     exact ⟨TruePost.no _, B3.out⟩
   · rcases hab (decide ((l6 : Int) > 200)) with hM | hM
     · go_wp2_with fail
       go_ret
       exact ⟨TruePost.no _, B3.out⟩
     · have HNN : Hid (s.shelves.length ≤ 3000 ∧ s.robots.length ≤ 200) := hid (by rw [E5.out, E6.out]; simp at hN hM; omega)
       go_wp2_with fail
       go_loopw [3] (fun iv wr => ∃ k : Nat, k ≤ l4 ∧ iv = .int .i64 k ∧ Hid (Below w.heap.size w wr) ∧ Hid (wr.heap[w.heap.size]? = some (.cells #[.int .i64 s.floor.w, .int .i64 s.floor.h, .int .i64 s.floor.d, .slice a1 l1 c1, .slice a2 l2 c2, .slice a3 l3 c3, .slice a4 l4 c4, .slice a5 l5 c5, .slice a6 l6 c6] 30 (0, 0)))) (fun iv _ => l4 - (intOf iv).toNat)
       case atStart => exact ⟨0, by omega, rfl, B3, I2⟩
       case round =>
        clear B3 I2
        obtain ⟨k, hk, rfl, HB, J0⟩ := hrel
        obtain ⟨wo, rfl⟩ : ∃ wo : World, wo = wr := ⟨_, rfl⟩
        have lw : w.heap.size < wo.heap.size := heap_lt J0.out
        have p6 : wo.cell? ⟨w.heap.size, 6, none⟩ = some (.slice a4 l4 c4) := cell_of_heap J0.out 6 rfl
        by_cases hkn : k < l4
        · have hkl : k < s.aparts.length := by rw [E4.out]; exact hkn
          obtain ⟨zb, zo, t1, hzb, r0, r1⟩ := ApV.cell (Rw.keep HV.out.ap HB.out) k hkl
          subst t1
          obtain ⟨NA, hNA⟩ : ∃ N : ByteArray, ⟨s.aparts[k].1.toArray⟩ = N := ⟨_, rfl⟩
          obtain ⟨NB, hNB⟩ : ∃ N : ByteArray, ⟨s.aparts[k].2.toArray⟩ = N := ⟨_, rfl⟩
          rw [hNA] at r0
          rw [hNB] at r1
          obtain ⟨N1, hN1⟩ := rName_ex NA (by rw [← hNA, bytes_size]; exact (HNM.out.a _ (List.getElem_mem hkl)).1)
          obtain ⟨N2, hN2⟩ := rName_ex NB (by rw [← hNB, bytes_size]; exact (HNM.out.a _ (List.getElem_mem hkl)).2)
          obtain ⟨AP, hAP⟩ := Apart_ex (s.aparts.take k) NA NB
          have HN1 := hid hN1
          have HN2 := hid hN2
          have HAP := hid (fun W hb => hAP (.slice (some ⟨zb, zo, none⟩) k c4) W (Rw.keep (ApV.take (show ApV w (.slice (some ⟨zb, zo, none⟩) l4 c4) s.aparts from HV.out.ap) k (by omega)) hb))
          have BO : Hid (Below wo.heap.size wo (wo.alloc (.cells #[.string NA, .string NB] 161))) := hid ((Below.refl _ wo).alloc (Nat.le_refl _) _)
          have BQ : Hid (∀ q, Below w.heap.size w ((wo.alloc (.cells #[.string NA, .string NB] 161)).drewN q)) := hid (fun q => (HB.out.trans (BO.out.mono HB.out.size)).trans (below_drewN _ _ _))
          have J9 := hid (keep_heap J0.out BO.out)
          have k1 : (k : Int) < (l4 : Int) := by omega
          have k0 : (0 : Int) ≤ (k : Int) := by omega
          have k9 : (k : Int) ≤ (c4 : Int) := by omega
          have k8 : k ≤ c4 := by omega
          clear hNA hNB hN1 hN2 hAP
          cases N1 with
          | false =>
           go_wp2_with fail
           go_quiet (first
            | (go_at_call 168; with_reducible exact qsame (HN1.out _))
            | (go_at_call 168; with_reducible exact qsame (HN2.out _))
            | (go_at_call 169; exact qsame (HAP.out _ (BQ.out _))))
           go_wp2_with fail
           go_ret
           exact ⟨TruePost.no _, BQ.out _⟩
          | true =>
           cases N2 with
           | false =>
            go_wp2_with fail
            go_quiet (first
             | (go_at_call 168; with_reducible exact qsame (HN1.out _))
             | (go_at_call 168; with_reducible exact qsame (HN2.out _))
             | (go_at_call 169; exact qsame (HAP.out _ (BQ.out _))))
            go_wp2_with fail
            go_ret
            exact ⟨TruePost.no _, BQ.out _⟩
           | true =>
            cases AP with
            | true =>
             go_wp2_with fail
             go_quiet (first
              | (go_at_call 168; with_reducible exact qsame (HN1.out _))
              | (go_at_call 168; with_reducible exact qsame (HN2.out _))
              | (go_at_call 169; exact qsame (HAP.out _ (BQ.out _))))
             go_wp2_with fail
             go_ret
             exact ⟨TruePost.no _, BQ.out _⟩
            | false =>
             go_wp2_with fail
             go_quiet (first
              | (go_at_call 168; with_reducible exact qsame (HN1.out _))
              | (go_at_call 168; with_reducible exact qsame (HN2.out _))
              | (go_at_call 169; exact qsame (HAP.out _ (BQ.out _))))
             go_wp2_with fail
             go_roundw
             case rel => exact ⟨k + 1, by omega, by go_num, hid (BQ.out _), J9⟩
             case measure => simp [intOf]; omega
        · have S0 : Hid (ShOk s.floor (s.shelves.take 0)) := hid (by rw [List.take_zero]; exact ShOk.nil _)
          go_wp2_with fail
          go_loopw [5] (fun iv wr => ∃ k : Nat, k ≤ l5 ∧ iv = .int .i64 k ∧ Hid (ShOk s.floor (s.shelves.take k)) ∧ Hid (Below w.heap.size w wr) ∧ Hid (wr.heap[w.heap.size]? = some (.cells #[.int .i64 s.floor.w, .int .i64 s.floor.h, .int .i64 s.floor.d, .slice a1 l1 c1, .slice a2 l2 c2, .slice a3 l3 c3, .slice a4 l4 c4, .slice a5 l5 c5, .slice a6 l6 c6] 30 (0, 0)))) (fun iv _ => l5 - (intOf iv).toNat)
          case atStart => exact ⟨0, by omega, rfl, S0, HB, J0⟩
          case round =>
           clear HB J0 S0 p6 lw
           obtain ⟨k, hk, rfl, HS, HB, J0⟩ := hrel
           obtain ⟨wo, rfl⟩ : ∃ wo : World, wo = wr := ⟨_, rfl⟩
           have lw : w.heap.size < wo.heap.size := heap_lt J0.out
           obtain ⟨pwo0, pwo1, pwo2, pwo3, pwo4, pwo5, pwo6, pwo7, pwo8⟩ := cells9 J0.out
           by_cases hkn : k < l5
           · have hkl : k < s.shelves.length := by rw [E5.out]; exact hkn
             obtain ⟨zb, zo, t1, hzb, r0, r1⟩ := SfV.cell (Rw.keep HV.out.sf HB.out) k hkl
             subst t1
             have HSF : Hid (SfV w (.slice (some ⟨zb, zo, none⟩) l5 c5) s.shelves) := hid HV.out.sf
             obtain ⟨NM, hNM⟩ : ∃ N : ByteArray, ⟨s.shelves[k].2.toArray⟩ = N := ⟨_, rfl⟩
             rw [hNM] at r1
             obtain ⟨N1, hN1⟩ := rName_ex NM (by rw [← hNM, bytes_size]; exact HNM.out.s _ (List.getElem_mem hkl))
             have HN1 := hid hN1
             obtain ⟨C, hC⟩ : ∃ C, s.shelves[k].1 = C := ⟨_, rfl⟩
             rw [hC] at r0
             have HC := hid hC
             have HI := hid (fun W => HIS.out HF.out C W)
             obtain ⟨IB, hIB⟩ : ∃ x, Fl.isC s.floor C = x := ⟨_, rfl⟩
             rw [hIB] at HI
             have HIB := hid hIB
             have BO : Hid (Below wo.heap.size wo (wo.alloc (.cells #[.int .i64 C, .string NM] 163))) := hid ((Below.refl _ wo).alloc (Nat.le_refl _) _)
             have HB2 : Hid (Below w.heap.size w (wo.alloc (.cells #[.int .i64 C, .string NM] 163))) := hid (HB.out.trans (BO.out.mono HB.out.size))
             have J2 := hid (keep_heap J0.out BO.out)
             have X2 := hid (heap_alloc_new wo (.cells #[.int .i64 C, .string NM] 163))
             have k1 : (k : Int) < (l5 : Int) := by omega
             have k0 : (0 : Int) ≤ (k : Int) := by omega
             have k9 : (k : Int) ≤ (c5 : Int) := by omega
             have k8 : k ≤ c5 := by omega
             clear hNM hN1 hC hIB
             go_upto_region 13 with fail
             go_cut [92] (fun v wx => ∃ b : Bool, v = .bool b ∧ Hid (b = false → IB = true) ∧ Hid (Below wo.heap.size (wo.alloc (.cells #[.int .i64 C, .string NM] 163)) wx) ∧ Hid (wx.heap[wo.heap.size]? = some (.cells #[.int .i64 C, .string NM] 163 (0, 0))))
             case first =>
              go_wp2_with fail
              go_at_call 170; refine (HI.out _).mono ?_; rintro e w3 ⟨rfl, b3⟩
              have B4 : Hid (Below wo.heap.size (wo.alloc (.cells #[.int .i64 C, .string NM] 163)) w3) := hid (b3.mono (by simp))
              have X3 := hid (keep_heap X2.out b3)
              have y1 : w3.cell? ⟨wo.heap.size, 1, none⟩ = some (.string NM) := cell_of_heap X3.out 1 rfl
              clear b3
              cases IB with
              | false =>
               go_wp2_with fail
               go_meet
               exact ⟨true, rfl, hid (fun h => (by cases h)), B4, X3⟩
              | true =>
               go_wp2_with fail
               all_goals first
                | (go_meet; exact ⟨_, rfl, hid (fun _ => by first | rfl | trivial), B4, X3⟩)
                | (go_at_call 168; refine (HN1.out _).mono ?_; rintro e w4 ⟨rfl, rfl⟩
                   cases N1
                   all_goals
                    go_wp2_with fail
                    go_meet
                    exact ⟨_, rfl, hid (fun _ => by first | rfl | trivial), B4, X3⟩)
             case rest =>
              obtain ⟨bb, rfl, HBI, HBX, HXC⟩ := hcut
              have HBC : Hid (Below w.heap.size w wc) := hid (HB2.out.trans (HBX.out.mono HB.out.size))
              have J3 : Hid (wc.heap[w.heap.size]? = _) := hid ((HBX.out.block w.heap.size lw).trans J2.out)
              cases bb with
              | true =>
               go_wp2_with fail
               go_ret
               exact ⟨TruePost.no _, HBC.out⟩
              | false =>
               have hIt := HBI.out rfl
               have hin : 0 ≤ C ∧ C < s.floor.size := by
                have h9 := HIB.out
                rw [hIt] at h9
                unfold Fl.isC at h9
                simpa using h9
               have HIT : Hid (Fl.isC s.floor C = true) := hid (by rw [HIB.out]; exact hIt)
               obtain ⟨D, rfl⟩ : ∃ D : Nat, C = (D : Int) := ⟨C.toNat, by omega⟩
               have hDl : (D : Int) < (l1 : Int) := by rw [HKL.out]; exact hin.2
               have D0 : (0 : Int) ≤ (D : Int) := by omega
               obtain ⟨g3, o3, t3, r3⟩ := (HV.out.fl.kind.keep HBC.out).cell D (by rw [E1.out]; omega)
               subst t3
               obtain ⟨K, hK⟩ : ∃ x, s.floor.kind[D]'(by rw [E1.out]; omega) = x := ⟨_, rfl⟩
               rw [hK] at r3
               have HKA := hid (kindAt_nat (by rw [E1.out]; omega) hK)
               have HST := hid (stands_any K)
               obtain ⟨SB, hSB⟩ : ∃ x, (decide (K = 1) || decide (K = 2)) = x := ⟨_, rfl⟩
               rw [hSB] at HST
               have HSB := hid hSB
               have HSH := hid (fun W hb => shelfAt_is (.slice (some ⟨zb, zo, none⟩) k c5) (s.shelves.take k) (D : Int) W (Rw.keep (SfV.take HSF.out k (by omega)) hb))
               have HIX : Hid (sIdx (s.shelves.take k) (D : Int) = sIdx (s.shelves.take k) (D : Int)) := hid rfl
               obtain ⟨X, hX⟩ : ∃ x, sIdx (s.shelves.take k) (D : Int) = x := ⟨_, rfl⟩
               rw [hX] at HSH
               have HX := hid hX
               have BQ : Hid (∀ q, Below w.heap.size w (wc.drewN q)) := hid (fun q => HBC.out.trans (below_drewN _ _ _))
               have x0 : wc.cell? ⟨wo.heap.size, 0, none⟩ = some (.int .i64 (D : Int)) := cell_of_heap HXC.out 0 rfl
               have lw2 : w.heap.size < wc.heap.size := heap_lt J3.out
               have q3 : wc.cell? ⟨w.heap.size, 3, none⟩ = some (.slice (some ⟨g3, o3, none⟩) l1 c1) := cell_of_heap J3.out 3 rfl
               have q7 : wc.cell? ⟨w.heap.size, 7, none⟩ = some (.slice (some ⟨zb, zo, none⟩) l5 c5) := cell_of_heap J3.out 7 rfl
               clear hIt hin hK hSB hX HIX
               cases SB with
               | false =>
                go_wp2_with fail
                go_quiet (first
                 | (go_at_call 171; exact qsame (HST.out _))
                 | (go_at_call 172; exact qsame (HSH.out _ (BQ.out _))))
                go_wp2_with fail
                go_ret
                exact ⟨TruePost.no _, BQ.out _⟩
               | true =>
                rcases hab (decide (X ≥ 0)) with hG | hG
                · go_wp2_with fail
                  go_quiet (first
                   | (go_at_call 171; exact qsame (HST.out _))
                   | (go_at_call 172; exact qsame (HSH.out _ (BQ.out _))))
                  go_wp2_with fail
                  go_ret
                  exact ⟨TruePost.no _, BQ.out _⟩
                · have HNX : Hid (ShOk s.floor (s.shelves.take (k + 1))) := hid (HS.out.step hkl (by rw [HC.out]; exact ⟨HIT.out, by rw [HKA.out]; have h9 := HSB.out; simp at h9; exact h9⟩) (by rw [HC.out, HX.out]; simp at hG; omega))
                  go_wp2_with fail
                  go_quiet (first
                   | (go_at_call 171; exact qsame (HST.out _))
                   | (go_at_call 172; exact qsame (HSH.out _ (BQ.out _))))
                  go_wp2_with fail
                  go_roundw
                  case rel => exact ⟨k + 1, by omega, by go_num, HNX, hid (BQ.out _), J3⟩
                  case measure => simp [intOf]; omega
           · obtain rfl : l5 = k := by omega
             have HSA : Hid (ShOk s.floor s.shelves) := hid (by have h9 := HS.out; have e9 : s.shelves.take l5 = s.shelves := List.take_of_length_le (by rw [E5.out]; omega); rw [e9] at h9; exact h9)
             have S0 : Hid (RbOk s.floor (s.robots.take 0)) := hid (by rw [List.take_zero]; exact RbOk.nil _)
             go_wp2_with fail
             go_loopw [7] (fun iv wr => ∃ k : Nat, k ≤ l6 ∧ iv = .int .i64 k ∧ Hid (RbOk s.floor (s.robots.take k)) ∧ Hid (Below w.heap.size w wr) ∧ Hid (wr.heap[w.heap.size]? = some (.cells #[.int .i64 s.floor.w, .int .i64 s.floor.h, .int .i64 s.floor.d, .slice a1 l1 c1, .slice a2 l2 c2, .slice a3 l3 c3, .slice a4 l4 c4, .slice a5 l5 c5, .slice a6 l6 c6] 30 (0, 0)))) (fun iv _ => l6 - (intOf iv).toNat)
             case atStart => exact ⟨0, by omega, rfl, S0, HB, J0⟩
             case round =>
              clear HB J0 S0 HS lw pwo0 pwo1 pwo2 pwo3 pwo4 pwo5 pwo6 pwo7 pwo8
              obtain ⟨k, hk, rfl, HS, HB, J0⟩ := hrel
              obtain ⟨wo, rfl⟩ : ∃ wo : World, wo = wr := ⟨_, rfl⟩
              have lw : w.heap.size < wo.heap.size := heap_lt J0.out
              obtain ⟨pwo0, pwo1, pwo2, pwo3, pwo4, pwo5, pwo6, pwo7, pwo8⟩ := cells9 J0.out
              by_cases hkn : k < l6
              · have hkl : k < s.robots.length := by rw [E6.out]; exact hkn
                have HRB : Hid (ShV w (.slice a6 l6 c6) s.robots) := hid HV.out.rb
                obtain ⟨zb, zo, t1, hzb, r0, r1⟩ := ShV.cell (Rw.keep HRB.out HB.out) k hkl
                subst t1
                obtain ⟨C, hC⟩ : ∃ C, s.robots[k].1 = C := ⟨_, rfl⟩
                obtain ⟨CH, hCH⟩ : ∃ C, s.robots[k].2 = C := ⟨_, rfl⟩
                rw [hC] at r0
                rw [hCH] at r1
                have HC := hid hC
                have HCHG := hid hCH
                have HI := hid (fun W => HIS.out HF.out C W)
                obtain ⟨IB, hIB⟩ : ∃ x, Fl.isC s.floor C = x := ⟨_, rfl⟩
                rw [hIB] at HI
                have HIB := hid hIB
                have BO : Hid (Below wo.heap.size wo (wo.alloc (.cells #[.int .i64 C, .int .i64 CH] 159))) := hid ((Below.refl _ wo).alloc (Nat.le_refl _) _)
                have HB2 : Hid (Below w.heap.size w (wo.alloc (.cells #[.int .i64 C, .int .i64 CH] 159))) := hid (HB.out.trans (BO.out.mono HB.out.size))
                have J2 := hid (keep_heap J0.out BO.out)
                have X2 := hid (heap_alloc_new wo (.cells #[.int .i64 C, .int .i64 CH] 159))
                have k1 : (k : Int) < (l6 : Int) := by omega
                have k0 : (0 : Int) ≤ (k : Int) := by omega
                have k9 : (k : Int) ≤ (c6 : Int) := by omega
                have k8 : k ≤ c6 := by omega
                clear hC hCH hIB
                cases IB with
                | false =>
                 go_wp2_with fail
                 go_at_call 170; refine (HI.out _).mono ?_; rintro e w3 ⟨rfl, b3⟩
                 have B4 := hid (HB2.out.trans (b3.mono HB2.out.size))
                 clear b3
                 go_wp2_with fail
                 go_ret
                 exact ⟨TruePost.no _, B4.out⟩
                | true =>
                 have hin : 0 ≤ C ∧ C < s.floor.size := by
                  have h9 := HIB.out
                  unfold Fl.isC at h9
                  simpa using h9
                 obtain ⟨D, rfl⟩ : ∃ D : Nat, C = (D : Int) := ⟨C.toNat, by omega⟩
                 have hDl : (D : Int) < (l1 : Int) := by rw [HKL.out]; exact hin.2
                 have D0 : (0 : Int) ≤ (D : Int) := by omega
                 obtain ⟨g3, o3, t3, r3⟩ := (HV.out.fl.kind.keep HB.out).cell D (by rw [E1.out]; omega)
                 subst t3
                 have lg3 := cell_block_lt r3
                 obtain ⟨K, hK⟩ : ∃ x, s.floor.kind[D]'(by rw [E1.out]; omega) = x := ⟨_, rfl⟩
                 rw [hK] at r3
                 have HKA := hid (kindAt_nat (by rw [E1.out]; omega) hK)
                 have HSH := hid (fun W hb => robotAt_is (.slice (some ⟨zb, zo, none⟩) k c6) (s.robots.take k) (D : Int) W (Rw.keep (RbV.take (show RbV w (.slice (some ⟨zb, zo, none⟩) l6 c6) s.robots from HRB.out) k (by omega)) hb))
                 obtain ⟨X, hX⟩ : ∃ x, decide (0 ≤ sIdx (s.robots.take k) (D : Int)) = x := ⟨_, rfl⟩
                 rw [hX] at HSH
                 have HX := hid hX
                 clear hin hK hX
                 rcases hab (decide (CH < 0)) with hP | hP
                 · go_wp2_with fail
                   go_at_call 170; refine (HI.out _).mono ?_; rintro e w3 ⟨rfl, b3⟩
                   have B4 := hid (HB2.out.trans (b3.mono HB2.out.size))
                   have X3 := hid (keep_heap X2.out b3)
                   have x1 : w3.cell? ⟨wo.heap.size, 1, none⟩ = some (.int .i64 CH) := cell_of_heap X3.out 1 rfl
                   clear b3
                   go_wp2_with fail
                   go_ret
                   exact ⟨TruePost.no _, B4.out⟩
                 · rcases hab (decide (CH > 1000000)) with hQ | hQ
                   · go_wp2_with fail
                     go_at_call 170; refine (HI.out _).mono ?_; rintro e w3 ⟨rfl, b3⟩
                     have B4 := hid (HB2.out.trans (b3.mono HB2.out.size))
                     have X3 := hid (keep_heap X2.out b3)
                     have x1 : w3.cell? ⟨wo.heap.size, 1, none⟩ = some (.int .i64 CH) := cell_of_heap X3.out 1 rfl
                     clear b3
                     go_wp2_with fail
                     go_ret
                     exact ⟨TruePost.no _, B4.out⟩
                   · go_wp2_with fail
                     go_at_call 170; refine (HI.out _).mono ?_; rintro e w3 ⟨rfl, b3⟩
                     have B4 := hid (HB2.out.trans (b3.mono HB2.out.size))
                     have X3 := hid (keep_heap X2.out b3)
                     have J3 := hid (keep_heap J2.out b3)
                     have x0 : w3.cell? ⟨wo.heap.size, 0, none⟩ = some (.int .i64 (D : Int)) := cell_of_heap X3.out 0 rfl
                     have x1 : w3.cell? ⟨wo.heap.size, 1, none⟩ = some (.int .i64 CH) := cell_of_heap X3.out 1 rfl
                     have x3 : w3.cell? ⟨w.heap.size, 3, none⟩ = some (.slice (some ⟨g3, o3, none⟩) l1 c1) := cell_of_heap J3.out 3 rfl
                     have x8 : w3.cell? ⟨w.heap.size, 8, none⟩ = some (.slice (some ⟨zb, zo, none⟩) l6 c6) := cell_of_heap J3.out 8 rfl
                     have x9 : w3.cell? ⟨g3, o3 + D, none⟩ = some (.int .i64 K) := ((BO.out.trans (b3.mono (by simp))).cell (p := ⟨g3, o3 + D, none⟩) lg3).trans r3
                     have lw3 : w.heap.size < w3.heap.size := heap_lt J3.out
                     have BQ : Hid (∀ q, Below w.heap.size w (w3.drewN q)) := hid (fun q => B4.out.trans (below_drewN _ _ _))
                     clear b3 r3 pwo0 pwo1 pwo2 pwo3 pwo4 pwo5 pwo6 pwo7 pwo8
                     by_cases hK0 : K = 0
                     · have e1 : (K == 0) = true := by simp [hK0]
                       clear hK0
                       go_wp2_with fail
                       go_quiet (first
                        | (go_at_call 173; exact qsame (HSH.out _ (BQ.out _))))
                       go_wp2_with fail
                       go_ret
                       exact ⟨TruePost.no _, BQ.out _⟩
                     · have e1 : (K == 0) = false := by simp [hK0]
                       have HK0 := hid hK0
                       clear hK0
                       cases X with
                       | true =>
                        go_wp2_with fail
                        go_quiet (first
                         | (go_at_call 173; exact qsame (HSH.out _ (BQ.out _))))
                        go_wp2_with fail
                        go_ret
                        exact ⟨TruePost.no _, BQ.out _⟩
                       | false =>
                        have HNX : Hid (RbOk s.floor (s.robots.take (k + 1))) := hid (HS.out.step hkl (by rw [HC.out, HCHG.out]; exact ⟨HIB.out, by rw [HKA.out]; exact HK0.out, by simp at hP; omega, by simp at hQ; omega⟩) (by rw [HC.out]; have h9 := HX.out; simp at h9; omega))
                        go_wp2_with fail
                        go_quiet (first
                         | (go_at_call 173; exact qsame (HSH.out _ (BQ.out _))))
                        go_wp2_with fail
                        go_roundw
                        case rel => exact ⟨k + 1, by omega, by go_num, HNX, hid (BQ.out _), J3⟩
                        case measure => simp [intOf]; omega
              · obtain rfl : l6 = k := by omega
                have HRA : Hid (RbOk s.floor s.robots) := hid (by have h9 := HS.out; have e9 : s.robots.take l6 = s.robots := List.take_of_length_le (by rw [E6.out]; omega); rw [e9] at h9; exact h9)
                go_wp2_with fail
                go_loopw [9] (fun iv wr => ∃ k : Nat, k ≤ l3 ∧ iv = .int .i64 k ∧ Hid (∀ z ∈ s.zones.take k, z.keep ≤ z.cells.length) ∧ Hid (Below w.heap.size w wr) ∧ Hid (wr.heap[w.heap.size]? = some (.cells #[.int .i64 s.floor.w, .int .i64 s.floor.h, .int .i64 s.floor.d, .slice a1 l1 c1, .slice a2 l2 c2, .slice a3 l3 c3, .slice a4 l4 c4, .slice a5 l5 c5, .slice a6 l6 c6] 30 (0, 0)))) (fun iv _ => l3 - (intOf iv).toNat)
                case atStart => exact ⟨0, by omega, rfl, hid (by simp), HB, J0⟩
                case round =>
                 clear HB J0 lw HS pwo0 pwo1 pwo2 pwo3 pwo4 pwo5 pwo6 pwo7 pwo8
                 obtain ⟨k, hk, rfl, HS, HB, J0⟩ := hrel
                 obtain ⟨wo, rfl⟩ : ∃ wo : World, wo = wr := ⟨_, rfl⟩
                 have lw : w.heap.size < wo.heap.size := heap_lt J0.out
                 obtain ⟨pwo0, pwo1, pwo2, pwo3, pwo4, pwo5, pwo6, pwo7, pwo8⟩ := cells9 J0.out
                 by_cases hkn : k < l3
                 · have hkl : k < s.zones.length := by rw [E3.out]; exact hkn
                   obtain ⟨zb, zo, u1, u2, t1, hzb, hu1, hu2, r0, r1, r2, r3, r4⟩ := (HV.out.zn.keep HB.out).cell k hkl
                   subst t1
                   obtain ⟨z, hz⟩ : ∃ z, s.zones[k] = z := ⟨_, rfl⟩
                   have HZM : Hid (z ∈ s.zones) := hid (by rw [← hz]; exact List.getElem_mem hkl)
                   have HZE := hid hz
                   rw [hz] at r0 r2 r3 hu1 hu2
                   have HU1 := hid hu1
                   have HU2 := hid hu2
                   obtain ⟨b1, d1, rfl, n1⟩ := hu1.form
                   obtain ⟨b2, d2, rfl, n2⟩ := two_form hu2
                   have HCC : Hid (∀ c ∈ z.cells, 0 ≤ c ∧ c.toNat < l1) := hid (fun c hc => by
                    have h9 := (HZ.out.1.b z HZM.out c hc).1
                    have h8 : 0 ≤ c ∧ c < s.floor.size := by unfold Fl.isC at h9; simpa using h9
                    have := HKL.out
                    omega)
                   have k1 : (k : Int) < (l3 : Int) := by omega
                   have k0 : (0 : Int) ≤ (k : Int) := by omega
                   obtain ⟨KP, hKP⟩ : ∃ x, z.keep = x := ⟨_, rfl⟩
                   have HKP := hid hKP
                   rw [hKP] at r3
                   have HB9 := hid (fun W hb h1 h2 => HBL.out z (.slice b1 z.cells.length d1) (.slice b2 z.shut.length d2) W hb h1 h2 HCC.out)
                   obtain ⟨n, hn⟩ : ∃ n, z.cells.length = n := ⟨_, rfl⟩
                   obtain ⟨m, hm⟩ : ∃ n, z.shut.length = n := ⟨_, rfl⟩
                   rw [hn] at r1 n1 HU1
                   rw [hm] at r4 n2 HU2
                   rw [hn, hm] at HB9
                   have HN := hid hn
                   obtain ⟨NM, hNM⟩ : ∃ N : ByteArray, ⟨z.name.toArray⟩ = N := ⟨_, rfl⟩
                   rw [hNM] at r0 HB9
                   rw [hKP] at HB9
                   obtain ⟨SP, hSP⟩ : ∃ x, z.speed = x := ⟨_, rfl⟩
                   rw [hSP] at r2 HB9
                   clear hu1 hu2 hz hKP hn hm hNM hSP
                   go_upto_region 28 with fail
                   go_cut [177] (fun v wx => ∃ b : Bool, v = .bool b ∧ Hid (b = false → KP ≤ n) ∧ Hid (Below wo.heap.size wo wx))
                   case first =>
                    go_region_held3 (fun w' => w'.cell? ⟨w.heap.size, 0, none⟩ = some (.int .i64 s.floor.w) ∧ w'.cell? ⟨w.heap.size, 1, none⟩ = some (.int .i64 s.floor.h) ∧ w'.cell? ⟨w.heap.size, 2, none⟩ = some (.int .i64 s.floor.d) ∧ w'.cell? ⟨w.heap.size, 3, none⟩ = some (.slice a1 l1 c1) ∧ w'.cell? ⟨w.heap.size, 4, none⟩ = some (.slice a2 l2 c2) ∧ w'.cell? ⟨w.heap.size, 5, none⟩ = some (.slice (some ⟨zb, zo, none⟩) l3 c3) ∧ w'.cell? ⟨w.heap.size, 6, none⟩ = some (.slice a4 l4 c4) ∧ w'.cell? ⟨w.heap.size, 7, none⟩ = some (.slice a5 l5 c5) ∧ w'.cell? ⟨w.heap.size, 8, none⟩ = some (.slice a6 l6 c6) ∧ w'.cell? ⟨zb, zo + k * 5, none⟩ = some (.string NM) ∧ w'.cell? ⟨zb, zo + k * 5 + 1, none⟩ = some (.slice b1 n d1) ∧ w'.cell? ⟨zb, zo + k * 5 + 2, none⟩ = some (.int .i64 SP) ∧ w'.cell? ⟨zb, zo + k * 5 + 3, none⟩ = some (.int .i64 KP) ∧ w'.cell? ⟨zb, zo + k * 5 + 4, none⟩ = some (.slice b2 m d2)) (go_keep)
                     ((go_at_call 174; refine (HB9.out wo.drew (HB.out.trans (below_drewN _ _ 1)) (HU1.out.keep (below_drewN _ _ 1)) (Rw.keep HU2.out (below_drewN _ _ 1))).mono ?_; rintro e w3 ⟨⟨q, rfl, hq⟩, b3⟩; have BX : Below wo.heap.size wo w3 := (show Below wo.heap.size wo wo.drew from below_drewN _ _ 1).trans b3; have HQ := hid hq; have s0 := (BX.cell (p := ⟨w.heap.size, 0, none⟩) lw).trans pwo0; have s1 := (BX.cell (p := ⟨w.heap.size, 1, none⟩) lw).trans pwo1; have s2 := (BX.cell (p := ⟨w.heap.size, 2, none⟩) lw).trans pwo2; have s3 := (BX.cell (p := ⟨w.heap.size, 3, none⟩) lw).trans pwo3; have s4 := (BX.cell (p := ⟨w.heap.size, 4, none⟩) lw).trans pwo4; have s5 := (BX.cell (p := ⟨w.heap.size, 5, none⟩) lw).trans pwo5; have s6 := (BX.cell (p := ⟨w.heap.size, 6, none⟩) lw).trans pwo6; have s7 := (BX.cell (p := ⟨w.heap.size, 7, none⟩) lw).trans pwo7; have s8 := (BX.cell (p := ⟨w.heap.size, 8, none⟩) lw).trans pwo8; have z0 := (BX.cell (p := ⟨zb, zo + k * 5, none⟩) hzb).trans r0; have z1 := (BX.cell (p := ⟨zb, zo + k * 5 + 1, none⟩) hzb).trans r1; have z2 := (BX.cell (p := ⟨zb, zo + k * 5 + 2, none⟩) hzb).trans r2; have z3 := (BX.cell (p := ⟨zb, zo + k * 5 + 3, none⟩) hzb).trans r3; have z4 := (BX.cell (p := ⟨zb, zo + k * 5 + 4, none⟩) hzb).trans r4; clear b3 hq))
                    all_goals go_wp2_with fail
                    all_goals
                     go_meet
                     exact ⟨_, rfl, hid (fun h => by have h9 := HQ.out; simp at h; omega), hid BX⟩
                   case rest =>
                    obtain ⟨bb, rfl, HBB, HBX⟩ := hcut
                    have HBC := hid (HB.out.trans (HBX.out.mono HB.out.size))
                    have J3 := hid (keep_heap J0.out HBX.out)
                    cases bb with
                    | true =>
                     go_wp2_with fail
                     go_ret
                     exact ⟨TruePost.no _, HBC.out⟩
                    | false =>
                     have HNX : Hid (∀ z ∈ s.zones.take (k + 1), z.keep ≤ z.cells.length) := hid (all_take HS.out hkl (by rw [HZE.out, HKP.out, HN.out]; exact HBB.out (by first | rfl | trivial)))
                     go_wp2_with fail
                     go_roundw
                     case rel => exact ⟨k + 1, by omega, by go_num, HNX, HBC, J3⟩
                     case measure => simp [intOf]; omega
                 · obtain rfl : l3 = k := by omega
                   have HKA : Hid (∀ z ∈ s.zones, z.keep ≤ z.cells.length) := hid (all_end HS.out (by rw [E3.out]; omega))
                   have HRT : Hid (RtP s) := hid ⟨Si.Right.of HF.out HZ.out.1 (by rw [E3.out]; exact HZ.out.2) HSA.out HNN.out.1 HRA.out HNN.out.2, HKA.out⟩
                   go_wp2_with fail
                   go_at_call 175; refine (HBE.out HF.out _ HB.out).mono ?_; rintro e w3 ⟨⟨q, rfl⟩, b3⟩
                   have B4 := hid (HB.out.trans (b3.mono HB.out.size))
                   have J3 := hid (keep_heap J0.out b3)
                   clear b3 pwo0 pwo1 pwo2 pwo3 pwo4 pwo5 pwo6 pwo7 pwo8
                   obtain ⟨pw30, pw31, pw32, pw33, pw34, pw35, pw36, pw37, pw38⟩ := cells9 J3.out
                   rcases hab (decide (q < 0)) with hG | hG
                   · go_wp2_with fail
                     go_at_call 176; refine (HCH.out _ B4.out).mono ?_; rintro e w4 ⟨⟨r, rfl⟩, b4⟩
                     have B5 := hid (B4.out.trans (b4.mono B4.out.size))
                     clear b4
                     cases r
                     all_goals
                      go_wp2_with fail
                      go_ret
                      exact ⟨⟨_, rfl, fun _ => HRT.out⟩, B5.out⟩
                   · go_wp2_with fail
                     go_ret
                     exact ⟨TruePost.no _, B4.out⟩
end Go.Proofs.YtfcbcpfnaadpeaaGreatDoor
