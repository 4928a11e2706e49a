/- Parts TeA of this claim, laid one behind the other: walks and the plain laws behind them; each contract states its own conditions. -/
import Derived.Test.YtfcbcpfnaadpeaaGreatDoorZC
import Derived.Test.YtfcbcpfnaadpeaaGreatDoorZH
namespace Go.Proofs.YtfcbcpfnaadpeaaGreatDoor
set_option maxRecDepth 100000
set_option maxHeartbeats 64000000
set_option linter.unusedSimpArgs false
set_option linter.unusedVariables false
open Go.RowKit
theorem rBes_0 (f : Fl.Floor) (kv ov : Value) (c : Int) (w : World) (hb : FB f) :
 Calls Tryz.prog 234 #[flV f kv ov, .int .i64 c, .int .i64 0] w fun e w' => e = .returned (.int .i64 (Fl.beside f c 0)) ∧ Below w.heap.size w w' := by
 have hc := fun W => rIs_any f kv ov c W hb
 have ha := fun W => rAt_any f kv ov c W hb
 have hl := fun X Y Z W => rCell_any f kv ov X Y Z W hb
 obtain ⟨x0, x1⟩ := atX_bd hb c
 obtain ⟨y0, y1⟩ := atY_bd hb c
 obtain ⟨z0, z1⟩ := atZ_bd hb c
 have HBS : Hid (Fl.beside f c 0 = if Fl.isC f c = true then Fl.cell f (Fl.atX f c + Fl.stX 0) (Fl.atY f c + Fl.stY 0) (Fl.atZ f c + Fl.stZ 0) else -1) := hid rfl
 obtain ⟨X, hX⟩ : ∃ X, Fl.atX f c = X := ⟨_, rfl⟩
 obtain ⟨Y, hY⟩ : ∃ X, Fl.atY f c = X := ⟨_, rfl⟩
 obtain ⟨Z, hZ⟩ : ∃ X, Fl.atZ f c = X := ⟨_, rfl⟩
 obtain ⟨R, hR⟩ : ∃ X, Fl.beside f c 0 = X := ⟨_, rfl⟩
 rw [hX, hY, hZ, hR] at HBS
 rw [hX] at x0 x1
 rw [hY] at y0 y1
 rw [hZ] at z0 z1
 rw [hR]
 rw [hX, hY, hZ] at ha
 obtain ⟨B, hB⟩ : ∃ B, Fl.isC f c = B := ⟨_, rfl⟩
 rw [hB] at hc HBS
 have B1 := hid ((Below.refl _ w).alloc (Nat.le_refl _) (.cells #[.int .i64 f.w, .int .i64 f.h, .int .i64 f.d, kv, ov] 24))
 unfold flV at hc ha hl ⊢
 have HC := hid hc
 have HA := hid ha
 have HL := hid hl
 clear hc ha hl hX hY hZ hB hb hR
 cases B with
 | false =>
  have HRE : Hid (R = -1) := hid HBS.out
  clear HBS
  go_enter Tryz.func234, Tryz.ntmps234
  go_wp2_with fail
  go_at_call 170; refine (HC.out _).mono ?_; rintro e w1 ⟨rfl, b1⟩
  have B2 := hid (B1.out.trans (b1.mono B1.out.size))
  clear b1
  go_wp2_with fail
  go_ret
  exact ⟨by rw [HRE.out]; rfl, B2.out⟩
 | true =>
  have HRE : Hid (R = Fl.cell f (X + Fl.stX 0) (Y + Fl.stY 0) (Z + Fl.stZ 0)) := hid HBS.out
  clear HBS
  go_enter Tryz.func234, Tryz.ntmps234
  go_wp2_with fail
  go_at_call 170; refine (HC.out _).mono ?_; rintro e w1 ⟨rfl, b1⟩
  have i1 : w1.heap[w.heap.size]? = some (.cells #[.int .i64 f.w, .int .i64 f.h, .int .i64 f.d, kv, ov] 24 (0, 0)) := (b1.block w.heap.size (by simp)).trans (heap_alloc_new _ _)
  have p0 : w1.cell? ⟨w.heap.size, 0, none⟩ = some (.int .i64 f.w) := cell_of_heap i1 0 rfl
  have p1 : w1.cell? ⟨w.heap.size, 1, none⟩ = some (.int .i64 f.h) := cell_of_heap i1 1 rfl
  have p2 : w1.cell? ⟨w.heap.size, 2, none⟩ = some (.int .i64 f.d) := cell_of_heap i1 2 rfl
  have p3 : w1.cell? ⟨w.heap.size, 3, none⟩ = some kv := cell_of_heap i1 3 rfl
  have p4 : w1.cell? ⟨w.heap.size, 4, none⟩ = some ov := cell_of_heap i1 4 rfl
  have B2 := hid (B1.out.trans (b1.mono B1.out.size))
  have I1 := hid i1
  clear b1 i1 B1
  go_wp2_with fail
  go_at_call 280; refine (HA.out _).mono ?_; rintro e w2 ⟨rfl, b2⟩
  have B3 := hid (B2.out.trans (b2.mono B2.out.size))
  have i2 := keep_heap I1.out b2
  clear b2 B2 I1 p0 p1 p2 p3 p4
  have p0 : w2.cell? ⟨w.heap.size, 0, none⟩ = some (.int .i64 f.w) := cell_of_heap i2 0 rfl
  have p1 : w2.cell? ⟨w.heap.size, 1, none⟩ = some (.int .i64 f.h) := cell_of_heap i2 1 rfl
  have p2 : w2.cell? ⟨w.heap.size, 2, none⟩ = some (.int .i64 f.d) := cell_of_heap i2 2 rfl
  have p3 : w2.cell? ⟨w.heap.size, 3, none⟩ = some kv := cell_of_heap i2 3 rfl
  have p4 : w2.cell? ⟨w.heap.size, 4, none⟩ = some ov := cell_of_heap i2 4 rfl
  clear i2
  go_wp2_with fail
  go_at_call 281; refine (HL.out _ _ _ _).mono ?_; rintro e w4 ⟨rfl, b4⟩
  have B5 := hid (B3.out.trans (b4.mono B3.out.size))
  clear b4
  go_wp2_with fail
  go_ret
  exact ⟨by rw [HRE.out]; simp [Fl.stX, Fl.stY, Fl.stZ, Int.sub_eq_add_neg], B5.out⟩
theorem rBes_1 (f : Fl.Floor) (kv ov : Value) (c : Int) (w : World) (hb : FB f) :
 Calls Tryz.prog 234 #[flV f kv ov, .int .i64 c, .int .i64 1] w fun e w' => e = .returned (.int .i64 (Fl.beside f c 1)) ∧ Below w.heap.size w w' := by
 have hc := fun W => rIs_any f kv ov c W hb
 have ha := fun W => rAt_any f kv ov c W hb
 have hl := fun X Y Z W => rCell_any f kv ov X Y Z W hb
 obtain ⟨x0, x1⟩ := atX_bd hb c
 obtain ⟨y0, y1⟩ := atY_bd hb c
 obtain ⟨z0, z1⟩ := atZ_bd hb c
 have HBS : Hid (Fl.beside f c 1 = if Fl.isC f c = true then Fl.cell f (Fl.atX f c + Fl.stX 1) (Fl.atY f c + Fl.stY 1) (Fl.atZ f c + Fl.stZ 1) else -1) := hid rfl
 obtain ⟨X, hX⟩ : ∃ X, Fl.atX f c = X := ⟨_, rfl⟩
 obtain ⟨Y, hY⟩ : ∃ X, Fl.atY f c = X := ⟨_, rfl⟩
 obtain ⟨Z, hZ⟩ : ∃ X, Fl.atZ f c = X := ⟨_, rfl⟩
 obtain ⟨R, hR⟩ : ∃ X, Fl.beside f c 1 = X := ⟨_, rfl⟩
 rw [hX, hY, hZ, hR] at HBS
 rw [hX] at x0 x1
 rw [hY] at y0 y1
 rw [hZ] at z0 z1
 rw [hR]
 rw [hX, hY, hZ] at ha
 obtain ⟨B, hB⟩ : ∃ B, Fl.isC f c = B := ⟨_, rfl⟩
 rw [hB] at hc HBS
 have B1 := hid ((Below.refl _ w).alloc (Nat.le_refl _) (.cells #[.int .i64 f.w, .int .i64 f.h, .int .i64 f.d, kv, ov] 24))
 unfold flV at hc ha hl ⊢
 have HC := hid hc
 have HA := hid ha
 have HL := hid hl
 clear hc ha hl hX hY hZ hB hb hR
 cases B with
 | false =>
  have HRE : Hid (R = -1) := hid HBS.out
  clear HBS
  go_enter Tryz.func234, Tryz.ntmps234
  go_wp2_with fail
  go_at_call 170; refine (HC.out _).mono ?_; rintro e w1 ⟨rfl, b1⟩
  have B2 := hid (B1.out.trans (b1.mono B1.out.size))
  clear b1
  go_wp2_with fail
  go_ret
  exact ⟨by rw [HRE.out]; rfl, B2.out⟩
 | true =>
  have HRE : Hid (R = Fl.cell f (X + Fl.stX 1) (Y + Fl.stY 1) (Z + Fl.stZ 1)) := hid HBS.out
  clear HBS
  go_enter Tryz.func234, Tryz.ntmps234
  go_wp2_with fail
  go_at_call 170; refine (HC.out _).mono ?_; rintro e w1 ⟨rfl, b1⟩
  have i1 : w1.heap[w.heap.size]? = some (.cells #[.int .i64 f.w, .int .i64 f.h, .int .i64 f.d, kv, ov] 24 (0, 0)) := (b1.block w.heap.size (by simp)).trans (heap_alloc_new _ _)
  have p0 : w1.cell? ⟨w.heap.size, 0, none⟩ = some (.int .i64 f.w) := cell_of_heap i1 0 rfl
  have p1 : w1.cell? ⟨w.heap.size, 1, none⟩ = some (.int .i64 f.h) := cell_of_heap i1 1 rfl
  have p2 : w1.cell? ⟨w.heap.size, 2, none⟩ = some (.int .i64 f.d) := cell_of_heap i1 2 rfl
  have p3 : w1.cell? ⟨w.heap.size, 3, none⟩ = some kv := cell_of_heap i1 3 rfl
  have p4 : w1.cell? ⟨w.heap.size, 4, none⟩ = some ov := cell_of_heap i1 4 rfl
  have B2 := hid (B1.out.trans (b1.mono B1.out.size))
  have I1 := hid i1
  clear b1 i1 B1
  go_wp2_with fail
  go_at_call 280; refine (HA.out _).mono ?_; rintro e w2 ⟨rfl, b2⟩
  have B3 := hid (B2.out.trans (b2.mono B2.out.size))
  have i2 := keep_heap I1.out b2
  clear b2 B2 I1 p0 p1 p2 p3 p4
  have p0 : w2.cell? ⟨w.heap.size, 0, none⟩ = some (.int .i64 f.w) := cell_of_heap i2 0 rfl
  have p1 : w2.cell? ⟨w.heap.size, 1, none⟩ = some (.int .i64 f.h) := cell_of_heap i2 1 rfl
  have p2 : w2.cell? ⟨w.heap.size, 2, none⟩ = some (.int .i64 f.d) := cell_of_heap i2 2 rfl
  have p3 : w2.cell? ⟨w.heap.size, 3, none⟩ = some kv := cell_of_heap i2 3 rfl
  have p4 : w2.cell? ⟨w.heap.size, 4, none⟩ = some ov := cell_of_heap i2 4 rfl
  clear i2
  go_wp2_with fail
  go_at_call 281; refine (HL.out _ _ _ _).mono ?_; rintro e w4 ⟨rfl, b4⟩
  have B5 := hid (B3.out.trans (b4.mono B3.out.size))
  clear b4
  go_wp2_with fail
  go_ret
  exact ⟨by rw [HRE.out]; simp [Fl.stX, Fl.stY, Fl.stZ, Int.sub_eq_add_neg], B5.out⟩
theorem rBes_2 (f : Fl.Floor) (kv ov : Value) (c : Int) (w : World) (hb : FB f) :
 Calls Tryz.prog 234 #[flV f kv ov, .int .i64 c, .int .i64 2] w fun e w' => e = .returned (.int .i64 (Fl.beside f c 2)) ∧ Below w.heap.size w w' := by
 have hc := fun W => rIs_any f kv ov c W hb
 have ha := fun W => rAt_any f kv ov c W hb
 have hl := fun X Y Z W => rCell_any f kv ov X Y Z W hb
 obtain ⟨x0, x1⟩ := atX_bd hb c
 obtain ⟨y0, y1⟩ := atY_bd hb c
 obtain ⟨z0, z1⟩ := atZ_bd hb c
 have HBS : Hid (Fl.beside f c 2 = if Fl.isC f c = true then Fl.cell f (Fl.atX f c + Fl.stX 2) (Fl.atY f c + Fl.stY 2) (Fl.atZ f c + Fl.stZ 2) else -1) := hid rfl
 obtain ⟨X, hX⟩ : ∃ X, Fl.atX f c = X := ⟨_, rfl⟩
 obtain ⟨Y, hY⟩ : ∃ X, Fl.atY f c = X := ⟨_, rfl⟩
 obtain ⟨Z, hZ⟩ : ∃ X, Fl.atZ f c = X := ⟨_, rfl⟩
 obtain ⟨R, hR⟩ : ∃ X, Fl.beside f c 2 = X := ⟨_, rfl⟩
 rw [hX, hY, hZ, hR] at HBS
 rw [hX] at x0 x1
 rw [hY] at y0 y1
 rw [hZ] at z0 z1
 rw [hR]
 rw [hX, hY, hZ] at ha
 obtain ⟨B, hB⟩ : ∃ B, Fl.isC f c = B := ⟨_, rfl⟩
 rw [hB] at hc HBS
 have B1 := hid ((Below.refl _ w).alloc (Nat.le_refl _) (.cells #[.int .i64 f.w, .int .i64 f.h, .int .i64 f.d, kv, ov] 24))
 unfold flV at hc ha hl ⊢
 have HC := hid hc
 have HA := hid ha
 have HL := hid hl
 clear hc ha hl hX hY hZ hB hb hR
 cases B with
 | false =>
  have HRE : Hid (R = -1) := hid HBS.out
  clear HBS
  go_enter Tryz.func234, Tryz.ntmps234
  go_wp2_with fail
  go_at_call 170; refine (HC.out _).mono ?_; rintro e w1 ⟨rfl, b1⟩
  have B2 := hid (B1.out.trans (b1.mono B1.out.size))
  clear b1
  go_wp2_with fail
  go_ret
  exact ⟨by rw [HRE.out]; rfl, B2.out⟩
 | true =>
  have HRE : Hid (R = Fl.cell f (X + Fl.stX 2) (Y + Fl.stY 2) (Z + Fl.stZ 2)) := hid HBS.out
  clear HBS
  go_enter Tryz.func234, Tryz.ntmps234
  go_wp2_with fail
  go_at_call 170; refine (HC.out _).mono ?_; rintro e w1 ⟨rfl, b1⟩
  have i1 : w1.heap[w.heap.size]? = some (.cells #[.int .i64 f.w, .int .i64 f.h, .int .i64 f.d, kv, ov] 24 (0, 0)) := (b1.block w.heap.size (by simp)).trans (heap_alloc_new _ _)
  have p0 : w1.cell? ⟨w.heap.size, 0, none⟩ = some (.int .i64 f.w) := cell_of_heap i1 0 rfl
  have p1 : w1.cell? ⟨w.heap.size, 1, none⟩ = some (.int .i64 f.h) := cell_of_heap i1 1 rfl
  have p2 : w1.cell? ⟨w.heap.size, 2, none⟩ = some (.int .i64 f.d) := cell_of_heap i1 2 rfl
  have p3 : w1.cell? ⟨w.heap.size, 3, none⟩ = some kv := cell_of_heap i1 3 rfl
  have p4 : w1.cell? ⟨w.heap.size, 4, none⟩ = some ov := cell_of_heap i1 4 rfl
  have B2 := hid (B1.out.trans (b1.mono B1.out.size))
  have I1 := hid i1
  clear b1 i1 B1
  go_wp2_with fail
  go_at_call 280; refine (HA.out _).mono ?_; rintro e w2 ⟨rfl, b2⟩
  have B3 := hid (B2.out.trans (b2.mono B2.out.size))
  have i2 := keep_heap I1.out b2
  clear b2 B2 I1 p0 p1 p2 p3 p4
  have p0 : w2.cell? ⟨w.heap.size, 0, none⟩ = some (.int .i64 f.w) := cell_of_heap i2 0 rfl
  have p1 : w2.cell? ⟨w.heap.size, 1, none⟩ = some (.int .i64 f.h) := cell_of_heap i2 1 rfl
  have p2 : w2.cell? ⟨w.heap.size, 2, none⟩ = some (.int .i64 f.d) := cell_of_heap i2 2 rfl
  have p3 : w2.cell? ⟨w.heap.size, 3, none⟩ = some kv := cell_of_heap i2 3 rfl
  have p4 : w2.cell? ⟨w.heap.size, 4, none⟩ = some ov := cell_of_heap i2 4 rfl
  clear i2
  go_wp2_with fail
  go_at_call 281; refine (HL.out _ _ _ _).mono ?_; rintro e w4 ⟨rfl, b4⟩
  have B5 := hid (B3.out.trans (b4.mono B3.out.size))
  clear b4
  go_wp2_with fail
  go_ret
  exact ⟨by rw [HRE.out]; simp [Fl.stX, Fl.stY, Fl.stZ, Int.sub_eq_add_neg], B5.out⟩
theorem rBes_3 (f : Fl.Floor) (kv ov : Value) (c : Int) (w : World) (hb : FB f) :
 Calls Tryz.prog 234 #[flV f kv ov, .int .i64 c, .int .i64 3] w fun e w' => e = .returned (.int .i64 (Fl.beside f c 3)) ∧ Below w.heap.size w w' := by
 have hc := fun W => rIs_any f kv ov c W hb
 have ha := fun W => rAt_any f kv ov c W hb
 have hl := fun X Y Z W => rCell_any f kv ov X Y Z W hb
 obtain ⟨x0, x1⟩ := atX_bd hb c
 obtain ⟨y0, y1⟩ := atY_bd hb c
 obtain ⟨z0, z1⟩ := atZ_bd hb c
 have HBS : Hid (Fl.beside f c 3 = if Fl.isC f c = true then Fl.cell f (Fl.atX f c + Fl.stX 3) (Fl.atY f c + Fl.stY 3) (Fl.atZ f c + Fl.stZ 3) else -1) := hid rfl
 obtain ⟨X, hX⟩ : ∃ X, Fl.atX f c = X := ⟨_, rfl⟩
 obtain ⟨Y, hY⟩ : ∃ X, Fl.atY f c = X := ⟨_, rfl⟩
 obtain ⟨Z, hZ⟩ : ∃ X, Fl.atZ f c = X := ⟨_, rfl⟩
 obtain ⟨R, hR⟩ : ∃ X, Fl.beside f c 3 = X := ⟨_, rfl⟩
 rw [hX, hY, hZ, hR] at HBS
 rw [hX] at x0 x1
 rw [hY] at y0 y1
 rw [hZ] at z0 z1
 rw [hR]
 rw [hX, hY, hZ] at ha
 obtain ⟨B, hB⟩ : ∃ B, Fl.isC f c = B := ⟨_, rfl⟩
 rw [hB] at hc HBS
 have B1 := hid ((Below.refl _ w).alloc (Nat.le_refl _) (.cells #[.int .i64 f.w, .int .i64 f.h, .int .i64 f.d, kv, ov] 24))
 unfold flV at hc ha hl ⊢
 have HC := hid hc
 have HA := hid ha
 have HL := hid hl
 clear hc ha hl hX hY hZ hB hb hR
 cases B with
 | false =>
  have HRE : Hid (R = -1) := hid HBS.out
  clear HBS
  go_enter Tryz.func234, Tryz.ntmps234
  go_wp2_with fail
  go_at_call 170; refine (HC.out _).mono ?_; rintro e w1 ⟨rfl, b1⟩
  have B2 := hid (B1.out.trans (b1.mono B1.out.size))
  clear b1
  go_wp2_with fail
  go_ret
  exact ⟨by rw [HRE.out]; rfl, B2.out⟩
 | true =>
  have HRE : Hid (R = Fl.cell f (X + Fl.stX 3) (Y + Fl.stY 3) (Z + Fl.stZ 3)) := hid HBS.out
  clear HBS
  go_enter Tryz.func234, Tryz.ntmps234
  go_wp2_with fail
  go_at_call 170; refine (HC.out _).mono ?_; rintro e w1 ⟨rfl, b1⟩
  have i1 : w1.heap[w.heap.size]? = some (.cells #[.int .i64 f.w, .int .i64 f.h, .int .i64 f.d, kv, ov] 24 (0, 0)) := (b1.block w.heap.size (by simp)).trans (heap_alloc_new _ _)
  have p0 : w1.cell? ⟨w.heap.size, 0, none⟩ = some (.int .i64 f.w) := cell_of_heap i1 0 rfl
  have p1 : w1.cell? ⟨w.heap.size, 1, none⟩ = some (.int .i64 f.h) := cell_of_heap i1 1 rfl
  have p2 : w1.cell? ⟨w.heap.size, 2, none⟩ = some (.int .i64 f.d) := cell_of_heap i1 2 rfl
  have p3 : w1.cell? ⟨w.heap.size, 3, none⟩ = some kv := cell_of_heap i1 3 rfl
  have p4 : w1.cell? ⟨w.heap.size, 4, none⟩ = some ov := cell_of_heap i1 4 rfl
  have B2 := hid (B1.out.trans (b1.mono B1.out.size))
  have I1 := hid i1
  clear b1 i1 B1
  go_wp2_with fail
  go_at_call 280; refine (HA.out _).mono ?_; rintro e w2 ⟨rfl, b2⟩
  have B3 := hid (B2.out.trans (b2.mono B2.out.size))
  have i2 := keep_heap I1.out b2
  clear b2 B2 I1 p0 p1 p2 p3 p4
  have p0 : w2.cell? ⟨w.heap.size, 0, none⟩ = some (.int .i64 f.w) := cell_of_heap i2 0 rfl
  have p1 : w2.cell? ⟨w.heap.size, 1, none⟩ = some (.int .i64 f.h) := cell_of_heap i2 1 rfl
  have p2 : w2.cell? ⟨w.heap.size, 2, none⟩ = some (.int .i64 f.d) := cell_of_heap i2 2 rfl
  have p3 : w2.cell? ⟨w.heap.size, 3, none⟩ = some kv := cell_of_heap i2 3 rfl
  have p4 : w2.cell? ⟨w.heap.size, 4, none⟩ = some ov := cell_of_heap i2 4 rfl
  clear i2
  go_wp2_with fail
  go_at_call 281; refine (HL.out _ _ _ _).mono ?_; rintro e w4 ⟨rfl, b4⟩
  have B5 := hid (B3.out.trans (b4.mono B3.out.size))
  clear b4
  go_wp2_with fail
  go_ret
  exact ⟨by rw [HRE.out]; simp [Fl.stX, Fl.stY, Fl.stZ, Int.sub_eq_add_neg], B5.out⟩
theorem rBes_4 (f : Fl.Floor) (kv ov : Value) (c : Int) (w : World) (hb : FB f) :
 Calls Tryz.prog 234 #[flV f kv ov, .int .i64 c, .int .i64 4] w fun e w' => e = .returned (.int .i64 (Fl.beside f c 4)) ∧ Below w.heap.size w w' := by
 have hc := fun W => rIs_any f kv ov c W hb
 have ha := fun W => rAt_any f kv ov c W hb
 have hl := fun X Y Z W => rCell_any f kv ov X Y Z W hb
 obtain ⟨x0, x1⟩ := atX_bd hb c
 obtain ⟨y0, y1⟩ := atY_bd hb c
 obtain ⟨z0, z1⟩ := atZ_bd hb c
 have HBS : Hid (Fl.beside f c 4 = if Fl.isC f c = true then Fl.cell f (Fl.atX f c + Fl.stX 4) (Fl.atY f c + Fl.stY 4) (Fl.atZ f c + Fl.stZ 4) else -1) := hid rfl
 obtain ⟨X, hX⟩ : ∃ X, Fl.atX f c = X := ⟨_, rfl⟩
 obtain ⟨Y, hY⟩ : ∃ X, Fl.atY f c = X := ⟨_, rfl⟩
 obtain ⟨Z, hZ⟩ : ∃ X, Fl.atZ f c = X := ⟨_, rfl⟩
 obtain ⟨R, hR⟩ : ∃ X, Fl.beside f c 4 = X := ⟨_, rfl⟩
 rw [hX, hY, hZ, hR] at HBS
 rw [hX] at x0 x1
 rw [hY] at y0 y1
 rw [hZ] at z0 z1
 rw [hR]
 rw [hX, hY, hZ] at ha
 obtain ⟨B, hB⟩ : ∃ B, Fl.isC f c = B := ⟨_, rfl⟩
 rw [hB] at hc HBS
 have B1 := hid ((Below.refl _ w).alloc (Nat.le_refl _) (.cells #[.int .i64 f.w, .int .i64 f.h, .int .i64 f.d, kv, ov] 24))
 unfold flV at hc ha hl ⊢
 have HC := hid hc
 have HA := hid ha
 have HL := hid hl
 clear hc ha hl hX hY hZ hB hb hR
 cases B with
 | false =>
  have HRE : Hid (R = -1) := hid HBS.out
  clear HBS
  go_enter Tryz.func234, Tryz.ntmps234
  go_wp2_with fail
  go_at_call 170; refine (HC.out _).mono ?_; rintro e w1 ⟨rfl, b1⟩
  have B2 := hid (B1.out.trans (b1.mono B1.out.size))
  clear b1
  go_wp2_with fail
  go_ret
  exact ⟨by rw [HRE.out]; rfl, B2.out⟩
 | true =>
  have HRE : Hid (R = Fl.cell f (X + Fl.stX 4) (Y + Fl.stY 4) (Z + Fl.stZ 4)) := hid HBS.out
  clear HBS
  go_enter Tryz.func234, Tryz.ntmps234
  go_wp2_with fail
  go_at_call 170; refine (HC.out _).mono ?_; rintro e w1 ⟨rfl, b1⟩
  have i1 : w1.heap[w.heap.size]? = some (.cells #[.int .i64 f.w, .int .i64 f.h, .int .i64 f.d, kv, ov] 24 (0, 0)) := (b1.block w.heap.size (by simp)).trans (heap_alloc_new _ _)
  have p0 : w1.cell? ⟨w.heap.size, 0, none⟩ = some (.int .i64 f.w) := cell_of_heap i1 0 rfl
  have p1 : w1.cell? ⟨w.heap.size, 1, none⟩ = some (.int .i64 f.h) := cell_of_heap i1 1 rfl
  have p2 : w1.cell? ⟨w.heap.size, 2, none⟩ = some (.int .i64 f.d) := cell_of_heap i1 2 rfl
  have p3 : w1.cell? ⟨w.heap.size, 3, none⟩ = some kv := cell_of_heap i1 3 rfl
  have p4 : w1.cell? ⟨w.heap.size, 4, none⟩ = some ov := cell_of_heap i1 4 rfl
  have B2 := hid (B1.out.trans (b1.mono B1.out.size))
  have I1 := hid i1
  clear b1 i1 B1
  go_wp2_with fail
  go_at_call 280; refine (HA.out _).mono ?_; rintro e w2 ⟨rfl, b2⟩
  have B3 := hid (B2.out.trans (b2.mono B2.out.size))
  have i2 := keep_heap I1.out b2
  clear b2 B2 I1 p0 p1 p2 p3 p4
  have p0 : w2.cell? ⟨w.heap.size, 0, none⟩ = some (.int .i64 f.w) := cell_of_heap i2 0 rfl
  have p1 : w2.cell? ⟨w.heap.size, 1, none⟩ = some (.int .i64 f.h) := cell_of_heap i2 1 rfl
  have p2 : w2.cell? ⟨w.heap.size, 2, none⟩ = some (.int .i64 f.d) := cell_of_heap i2 2 rfl
  have p3 : w2.cell? ⟨w.heap.size, 3, none⟩ = some kv := cell_of_heap i2 3 rfl
  have p4 : w2.cell? ⟨w.heap.size, 4, none⟩ = some ov := cell_of_heap i2 4 rfl
  clear i2
  go_wp2_with fail
  go_at_call 281; refine (HL.out _ _ _ _).mono ?_; rintro e w4 ⟨rfl, b4⟩
  have B5 := hid (B3.out.trans (b4.mono B3.out.size))
  clear b4
  go_wp2_with fail
  go_ret
  exact ⟨by rw [HRE.out]; simp [Fl.stX, Fl.stY, Fl.stZ, Int.sub_eq_add_neg], B5.out⟩
theorem rBes_5 (f : Fl.Floor) (kv ov : Value) (c : Int) (w : World) (hb : FB f) :
 Calls Tryz.prog 234 #[flV f kv ov, .int .i64 c, .int .i64 5] w fun e w' => e = .returned (.int .i64 (Fl.beside f c 5)) ∧ Below w.heap.size w w' := by
 have hc := fun W => rIs_any f kv ov c W hb
 have ha := fun W => rAt_any f kv ov c W hb
 have hl := fun X Y Z W => rCell_any f kv ov X Y Z W hb
 obtain ⟨x0, x1⟩ := atX_bd hb c
 obtain ⟨y0, y1⟩ := atY_bd hb c
 obtain ⟨z0, z1⟩ := atZ_bd hb c
 have HBS : Hid (Fl.beside f c 5 = if Fl.isC f c = true then Fl.cell f (Fl.atX f c + Fl.stX 5) (Fl.atY f c + Fl.stY 5) (Fl.atZ f c + Fl.stZ 5) else -1) := hid rfl
 obtain ⟨X, hX⟩ : ∃ X, Fl.atX f c = X := ⟨_, rfl⟩
 obtain ⟨Y, hY⟩ : ∃ X, Fl.atY f c = X := ⟨_, rfl⟩
 obtain ⟨Z, hZ⟩ : ∃ X, Fl.atZ f c = X := ⟨_, rfl⟩
 obtain ⟨R, hR⟩ : ∃ X, Fl.beside f c 5 = X := ⟨_, rfl⟩
 rw [hX, hY, hZ, hR] at HBS
 rw [hX] at x0 x1
 rw [hY] at y0 y1
 rw [hZ] at z0 z1
 rw [hR]
 rw [hX, hY, hZ] at ha
 obtain ⟨B, hB⟩ : ∃ B, Fl.isC f c = B := ⟨_, rfl⟩
 rw [hB] at hc HBS
 have B1 := hid ((Below.refl _ w).alloc (Nat.le_refl _) (.cells #[.int .i64 f.w, .int .i64 f.h, .int .i64 f.d, kv, ov] 24))
 unfold flV at hc ha hl ⊢
 have HC := hid hc
 have HA := hid ha
 have HL := hid hl
 clear hc ha hl hX hY hZ hB hb hR
 cases B with
 | false =>
  have HRE : Hid (R = -1) := hid HBS.out
  clear HBS
  go_enter Tryz.func234, Tryz.ntmps234
  go_wp2_with fail
  go_at_call 170; refine (HC.out _).mono ?_; rintro e w1 ⟨rfl, b1⟩
  have B2 := hid (B1.out.trans (b1.mono B1.out.size))
  clear b1
  go_wp2_with fail
  go_ret
  exact ⟨by rw [HRE.out]; rfl, B2.out⟩
 | true =>
  have HRE : Hid (R = Fl.cell f (X + Fl.stX 5) (Y + Fl.stY 5) (Z + Fl.stZ 5)) := hid HBS.out
  clear HBS
  go_enter Tryz.func234, Tryz.ntmps234
  go_wp2_with fail
  go_at_call 170; refine (HC.out _).mono ?_; rintro e w1 ⟨rfl, b1⟩
  have i1 : w1.heap[w.heap.size]? = some (.cells #[.int .i64 f.w, .int .i64 f.h, .int .i64 f.d, kv, ov] 24 (0, 0)) := (b1.block w.heap.size (by simp)).trans (heap_alloc_new _ _)
  have p0 : w1.cell? ⟨w.heap.size, 0, none⟩ = some (.int .i64 f.w) := cell_of_heap i1 0 rfl
  have p1 : w1.cell? ⟨w.heap.size, 1, none⟩ = some (.int .i64 f.h) := cell_of_heap i1 1 rfl
  have p2 : w1.cell? ⟨w.heap.size, 2, none⟩ = some (.int .i64 f.d) := cell_of_heap i1 2 rfl
  have p3 : w1.cell? ⟨w.heap.size, 3, none⟩ = some kv := cell_of_heap i1 3 rfl
  have p4 : w1.cell? ⟨w.heap.size, 4, none⟩ = some ov := cell_of_heap i1 4 rfl
  have B2 := hid (B1.out.trans (b1.mono B1.out.size))
  have I1 := hid i1
  clear b1 i1 B1
  go_wp2_with fail
  go_at_call 280; refine (HA.out _).mono ?_; rintro e w2 ⟨rfl, b2⟩
  have B3 := hid (B2.out.trans (b2.mono B2.out.size))
  have i2 := keep_heap I1.out b2
  clear b2 B2 I1 p0 p1 p2 p3 p4
  have p0 : w2.cell? ⟨w.heap.size, 0, none⟩ = some (.int .i64 f.w) := cell_of_heap i2 0 rfl
  have p1 : w2.cell? ⟨w.heap.size, 1, none⟩ = some (.int .i64 f.h) := cell_of_heap i2 1 rfl
  have p2 : w2.cell? ⟨w.heap.size, 2, none⟩ = some (.int .i64 f.d) := cell_of_heap i2 2 rfl
  have p3 : w2.cell? ⟨w.heap.size, 3, none⟩ = some kv := cell_of_heap i2 3 rfl
  have p4 : w2.cell? ⟨w.heap.size, 4, none⟩ = some ov := cell_of_heap i2 4 rfl
  clear i2
  go_wp2_with fail
  go_at_call 281; refine (HL.out _ _ _ _).mono ?_; rintro e w4 ⟨rfl, b4⟩
  have B5 := hid (B3.out.trans (b4.mono B3.out.size))
  clear b4
  go_wp2_with fail
  go_ret
  exact ⟨by rw [HRE.out]; simp [Fl.stX, Fl.stY, Fl.stZ, Int.sub_eq_add_neg], B5.out⟩
theorem rBesE_any (f : Fl.Floor) (kv ov : Value) (c : Int) (d : Nat) (w : World) (hb : FB f) (hd : d < 6) :
 Calls Tryz.prog 234 #[flV f kv ov, .int .i64 c, .int .i64 d] w fun e w' => e = .returned (.int .i64 (Fl.beside f c d)) ∧ Below w.heap.size w w' := by
 rcases d with _ | _ | _ | _ | _ | _ | d
 · exact rBes_0 f kv ov c w hb
 · exact rBes_1 f kv ov c w hb
 · exact rBes_2 f kv ov c w hb
 · exact rBes_3 f kv ov c w hb
 · exact rBes_4 f kv ov c w hb
 · exact rBes_5 f kv ov c w hb
 · omega
theorem rNext_raw (f : Fl.Floor) (kv ov : Value) (c n d : Nat) (w : World) (hr : Fl.Right f) (hF : FlV w kv ov f) (hc : c < f.kind.length) (hn : n < f.kind.length) (hd : d < 6) (hbn : Fl.beside f c d = (n : Int)) :
 Calls Tryz.prog 222 #[flV f kv ov, .int .i64 c, .int .i64 d] w fun e w' => e = .returned (nxtV (Fl.open2 f c n d) n) ∧ Below w.heap.size w w' := by
 have hb := fun W => rBesE_any f kv ov (c : Int) d W (.of hr) hd
 rw [hbn] at hb
 obtain ⟨ka, kc, rfl, hkm⟩ := hF.kind.form
 obtain ⟨oa, oc, rfl, hom⟩ := hF.out.form
 obtain ⟨kb, ko, e1, kcell⟩ := hF.kind.cell c hc
 obtain ⟨kb2, ko2, e2, ncell⟩ := hF.kind.cell n hn
 obtain ⟨ob, oo, e3, ocell⟩ := hF.out.cell c (by rw [hr.ol]; exact hc)
 subst e1
 injection e2 with e2
 injection e2 with e2 e4
 subst e2 e4
 subst e3
 have ho := hr.os _ (List.getElem_mem (by rw [hr.ol]; exact hc : c < f.out.length))
 obtain ⟨K, hK⟩ : ∃ K, f.kind[c] = K := ⟨_, rfl⟩
 obtain ⟨M, hM⟩ : ∃ K, f.kind[n] = K := ⟨_, rfl⟩
 obtain ⟨O, hO⟩ : ∃ K, f.out[c]'(by rw [hr.ol]; exact hc) = K := ⟨_, rfl⟩
 rw [hK] at kcell
 rw [hM] at ncell
 rw [hO] at ocell ho
 have HO : Hid (Fl.open2 f c n d = (!(decide (K = 0) || (decide (M = 0) || decide (O / 2 ^ d % 2 = 0))) && !(decide (4 ≤ d) && (!decide (K = 6) || !decide (M = 6))))) := hid (by
  unfold Fl.open2
  rw [getD_lt _ _ _ hc, getD_lt _ _ _ hn, getD_lt _ _ _ (by rw [hr.ol]; exact hc : c < f.out.length), hK, hM, hO])
 have hol := hr.ol
 rw [hol] at hb hom
 rw [hol]
 unfold flV at hb ⊢
 obtain ⟨L, hL⟩ : ∃ L, f.kind.length = L := ⟨_, rfl⟩
 rw [hL] at hb hom hc hn
 rw [hL]
 have HB := hid hb
 have B1 := hid ((Below.refl _ w).alloc (Nat.le_refl _) (.cells #[.int .i64 f.w, .int .i64 f.h, .int .i64 f.d, .slice (some ⟨kb, ko, none⟩) L kc, .slice (some ⟨ob, oo, none⟩) L oc] 24))
 have d0 : (0 : Int) ≤ (d : Int) := by omega
 have d1 : (d : Int) < 6 := by omega
 have c0 : (0 : Int) ≤ (c : Int) := by omega
 have c1 : (c : Int) < (L : Int) := by omega
 have n0 : (0 : Int) ≤ (n : Int) := by omega
 have n1 : (n : Int) < (L : Int) := by omega
 obtain ⟨o0, o1⟩ := ho
 have lk := cell_block_lt kcell
 have lo := cell_block_lt ocell
 obtain ⟨R, hR⟩ : ∃ R, Fl.open2 f c n d = R := ⟨_, rfl⟩
 rw [hR] at HO ⊢
 have hp : 0 ≤ O / 2 ^ d := Int.ediv_nonneg o0 (by have := Int.pow_pos (n := 2) (m := d) (by omega); omega)
 have hq : O / 2 ^ d ≤ 63 := Int.le_trans (Int.ediv_le_self _ o0) o1
 have hbit := bit_and1 (O / 2 ^ d) hp hq
 obtain ⟨Bt, hBt⟩ : ∃ Bt, O / 2 ^ d % 2 = Bt := ⟨_, rfl⟩
 rw [hBt] at hbit HO
 clear hb hbn hF hol hL hK hM hO hR hkm hr hd hBt hp hq
 clear hc hn
 by_cases k0 : K = 0
 · have e1 : (K == 0) = true := beq_iff_eq.2 k0
   have HR : Hid (R = false) := hid (by rw [HO.out]; simp [k0])
   clear k0
   go_enter Tryz.func222, Tryz.ntmps222
   go_wp2_with fail
   go_at_call 234; refine (HB.out _).mono ?_; rintro e w1 ⟨rfl, b1⟩
   have i1 : w1.heap[w.heap.size]? = some (.cells #[.int .i64 f.w, .int .i64 f.h, .int .i64 f.d, .slice (some ⟨kb, ko, none⟩) L kc, .slice (some ⟨ob, oo, none⟩) L oc] 24 (0, 0)) := (b1.block w.heap.size (by simp)).trans (heap_alloc_new _ _)
   have p3 : w1.cell? ⟨w.heap.size, 3, none⟩ = some (.slice (some ⟨kb, ko, none⟩) L kc) := cell_of_heap i1 3 rfl
   have p4 : w1.cell? ⟨w.heap.size, 4, none⟩ = some (.slice (some ⟨ob, oo, none⟩) L oc) := cell_of_heap i1 4 rfl
   have B2 := hid (B1.out.trans (b1.mono B1.out.size))
   have q0 : w1.cell? ⟨kb, ko + c, none⟩ = some (.int .i64 K) := (B2.out.cell (p := ⟨kb, ko + c, none⟩) lk).trans kcell
   have q1 : w1.cell? ⟨kb, ko + n, none⟩ = some (.int .i64 M) := (B2.out.cell (p := ⟨kb, ko + n, none⟩) lk).trans ncell
   have q2 : w1.cell? ⟨ob, oo + c, none⟩ = some (.int .i64 O) := (B2.out.cell (p := ⟨ob, oo + c, none⟩) lo).trans ocell
   clear b1 i1 B1 kcell ncell ocell
   go_wp2_with fail
   all_goals
    go_ret2
    exact ⟨by rw [HR.out]; rfl, B2.out⟩
 by_cases m0 : M = 0
 · have e1 : (K == 0) = false := beq_eq_false_iff_ne.2 k0
   have e2 : (M == 0) = true := beq_iff_eq.2 m0
   have HR : Hid (R = false) := hid (by rw [HO.out]; simp [m0])
   clear k0 m0
   go_enter Tryz.func222, Tryz.ntmps222
   go_wp2_with fail
   go_at_call 234; refine (HB.out _).mono ?_; rintro e w1 ⟨rfl, b1⟩
   have i1 : w1.heap[w.heap.size]? = some (.cells #[.int .i64 f.w, .int .i64 f.h, .int .i64 f.d, .slice (some ⟨kb, ko, none⟩) L kc, .slice (some ⟨ob, oo, none⟩) L oc] 24 (0, 0)) := (b1.block w.heap.size (by simp)).trans (heap_alloc_new _ _)
   have p3 : w1.cell? ⟨w.heap.size, 3, none⟩ = some (.slice (some ⟨kb, ko, none⟩) L kc) := cell_of_heap i1 3 rfl
   have p4 : w1.cell? ⟨w.heap.size, 4, none⟩ = some (.slice (some ⟨ob, oo, none⟩) L oc) := cell_of_heap i1 4 rfl
   have B2 := hid (B1.out.trans (b1.mono B1.out.size))
   have q0 : w1.cell? ⟨kb, ko + c, none⟩ = some (.int .i64 K) := (B2.out.cell (p := ⟨kb, ko + c, none⟩) lk).trans kcell
   have q1 : w1.cell? ⟨kb, ko + n, none⟩ = some (.int .i64 M) := (B2.out.cell (p := ⟨kb, ko + n, none⟩) lk).trans ncell
   have q2 : w1.cell? ⟨ob, oo + c, none⟩ = some (.int .i64 O) := (B2.out.cell (p := ⟨ob, oo + c, none⟩) lo).trans ocell
   clear b1 i1 B1 kcell ncell ocell
   go_wp2_with fail
   all_goals
    go_ret2
    exact ⟨by rw [HR.out]; rfl, B2.out⟩
 have e1 : (K == 0) = false := beq_eq_false_iff_ne.2 k0
 have e2 : (M == 0) = false := beq_eq_false_iff_ne.2 m0
 by_cases b0 : Bt = 0
 · have e3 : (Bt == 0) = true := beq_iff_eq.2 b0
   have HR : Hid (R = false) := hid (by rw [HO.out]; simp [b0])
   clear k0 m0 b0
   go_enter Tryz.func222, Tryz.ntmps222
   go_wp2_with fail
   go_at_call 234; refine (HB.out _).mono ?_; rintro e w1 ⟨rfl, b1⟩
   have i1 : w1.heap[w.heap.size]? = some (.cells #[.int .i64 f.w, .int .i64 f.h, .int .i64 f.d, .slice (some ⟨kb, ko, none⟩) L kc, .slice (some ⟨ob, oo, none⟩) L oc] 24 (0, 0)) := (b1.block w.heap.size (by simp)).trans (heap_alloc_new _ _)
   have p3 : w1.cell? ⟨w.heap.size, 3, none⟩ = some (.slice (some ⟨kb, ko, none⟩) L kc) := cell_of_heap i1 3 rfl
   have p4 : w1.cell? ⟨w.heap.size, 4, none⟩ = some (.slice (some ⟨ob, oo, none⟩) L oc) := cell_of_heap i1 4 rfl
   have B2 := hid (B1.out.trans (b1.mono B1.out.size))
   have q0 : w1.cell? ⟨kb, ko + c, none⟩ = some (.int .i64 K) := (B2.out.cell (p := ⟨kb, ko + c, none⟩) lk).trans kcell
   have q1 : w1.cell? ⟨kb, ko + n, none⟩ = some (.int .i64 M) := (B2.out.cell (p := ⟨kb, ko + n, none⟩) lk).trans ncell
   have q2 : w1.cell? ⟨ob, oo + c, none⟩ = some (.int .i64 O) := (B2.out.cell (p := ⟨ob, oo + c, none⟩) lo).trans ocell
   clear b1 i1 B1 kcell ncell ocell
   go_wp2_with fail
   all_goals
    go_ret2
    exact ⟨by rw [HR.out]; rfl, B2.out⟩
 have e3 : (Bt == 0) = false := beq_eq_false_iff_ne.2 b0
 by_cases d4 : d < 4
 · have e4 : ((d : Int) == 4) = false := beq_eq_false_iff_ne.2 (by omega)
   have e5 : ((d : Int) == 5) = false := beq_eq_false_iff_ne.2 (by omega)
   have e8 : ¬ (4 : Int) ≤ (d : Int) := by omega
   have HR : Hid (R = true) := hid (by rw [HO.out]; simp [k0, m0, b0, show ¬ 4 ≤ d by omega])
   clear k0 m0 b0 d4
   go_enter Tryz.func222, Tryz.ntmps222
   go_wp2_with fail
   go_at_call 234; refine (HB.out _).mono ?_; rintro e w1 ⟨rfl, b1⟩
   have i1 : w1.heap[w.heap.size]? = some (.cells #[.int .i64 f.w, .int .i64 f.h, .int .i64 f.d, .slice (some ⟨kb, ko, none⟩) L kc, .slice (some ⟨ob, oo, none⟩) L oc] 24 (0, 0)) := (b1.block w.heap.size (by simp)).trans (heap_alloc_new _ _)
   have p3 : w1.cell? ⟨w.heap.size, 3, none⟩ = some (.slice (some ⟨kb, ko, none⟩) L kc) := cell_of_heap i1 3 rfl
   have p4 : w1.cell? ⟨w.heap.size, 4, none⟩ = some (.slice (some ⟨ob, oo, none⟩) L oc) := cell_of_heap i1 4 rfl
   have B2 := hid (B1.out.trans (b1.mono B1.out.size))
   have q0 : w1.cell? ⟨kb, ko + c, none⟩ = some (.int .i64 K) := (B2.out.cell (p := ⟨kb, ko + c, none⟩) lk).trans kcell
   have q1 : w1.cell? ⟨kb, ko + n, none⟩ = some (.int .i64 M) := (B2.out.cell (p := ⟨kb, ko + n, none⟩) lk).trans ncell
   have q2 : w1.cell? ⟨ob, oo + c, none⟩ = some (.int .i64 O) := (B2.out.cell (p := ⟨ob, oo + c, none⟩) lo).trans ocell
   clear b1 i1 B1 kcell ncell ocell
   go_wp2_with fail
   all_goals
    go_ret2
    exact ⟨by rw [HR.out]; rfl, B2.out⟩
 have e9 : (4 : Int) ≤ (d : Int) := by omega
 by_cases k6 : K = 6
 · have e6 : (K != 6) = false := by simp [k6]
   by_cases m6 : M = 6
   · have e7 : (M != 6) = false := by simp [m6]
     have HR : Hid (R = true) := hid (by rw [HO.out]; simp [k0, m0, b0, k6, m6])
     clear k0 m0 b0 k6 m6
     go_enter Tryz.func222, Tryz.ntmps222
     go_wp2_with fail
     go_at_call 234; refine (HB.out _).mono ?_; rintro e w1 ⟨rfl, b1⟩
     have i1 : w1.heap[w.heap.size]? = some (.cells #[.int .i64 f.w, .int .i64 f.h, .int .i64 f.d, .slice (some ⟨kb, ko, none⟩) L kc, .slice (some ⟨ob, oo, none⟩) L oc] 24 (0, 0)) := (b1.block w.heap.size (by simp)).trans (heap_alloc_new _ _)
     have p3 : w1.cell? ⟨w.heap.size, 3, none⟩ = some (.slice (some ⟨kb, ko, none⟩) L kc) := cell_of_heap i1 3 rfl
     have p4 : w1.cell? ⟨w.heap.size, 4, none⟩ = some (.slice (some ⟨ob, oo, none⟩) L oc) := cell_of_heap i1 4 rfl
     have B2 := hid (B1.out.trans (b1.mono B1.out.size))
     have q0 : w1.cell? ⟨kb, ko + c, none⟩ = some (.int .i64 K) := (B2.out.cell (p := ⟨kb, ko + c, none⟩) lk).trans kcell
     have q1 : w1.cell? ⟨kb, ko + n, none⟩ = some (.int .i64 M) := (B2.out.cell (p := ⟨kb, ko + n, none⟩) lk).trans ncell
     have q2 : w1.cell? ⟨ob, oo + c, none⟩ = some (.int .i64 O) := (B2.out.cell (p := ⟨ob, oo + c, none⟩) lo).trans ocell
     clear b1 i1 B1 kcell ncell ocell
     go_wp2_with fail
     all_goals first | (exfalso; omega) | skip
     all_goals
      go_ret2
      exact ⟨by rw [HR.out]; rfl, B2.out⟩
   · have e7 : (M != 6) = true := by simp [m6]
     have HR : Hid (R = false) := hid (by rw [HO.out]; simp [m6]; intros; omega)
     have hd45 : ((d : Int) == 4) = false → ((d : Int) == 5) = true := fun h => beq_iff_eq.2 (by have := beq_eq_false_iff_ne.1 h; omega)
     clear k0 m0 b0 k6 m6
     go_enter Tryz.func222, Tryz.ntmps222
     go_wp2_with fail
     go_at_call 234; refine (HB.out _).mono ?_; rintro e w1 ⟨rfl, b1⟩
     have i1 : w1.heap[w.heap.size]? = some (.cells #[.int .i64 f.w, .int .i64 f.h, .int .i64 f.d, .slice (some ⟨kb, ko, none⟩) L kc, .slice (some ⟨ob, oo, none⟩) L oc] 24 (0, 0)) := (b1.block w.heap.size (by simp)).trans (heap_alloc_new _ _)
     have p3 : w1.cell? ⟨w.heap.size, 3, none⟩ = some (.slice (some ⟨kb, ko, none⟩) L kc) := cell_of_heap i1 3 rfl
     have p4 : w1.cell? ⟨w.heap.size, 4, none⟩ = some (.slice (some ⟨ob, oo, none⟩) L oc) := cell_of_heap i1 4 rfl
     have B2 := hid (B1.out.trans (b1.mono B1.out.size))
     have q0 : w1.cell? ⟨kb, ko + c, none⟩ = some (.int .i64 K) := (B2.out.cell (p := ⟨kb, ko + c, none⟩) lk).trans kcell
     have q1 : w1.cell? ⟨kb, ko + n, none⟩ = some (.int .i64 M) := (B2.out.cell (p := ⟨kb, ko + n, none⟩) lk).trans ncell
     have q2 : w1.cell? ⟨ob, oo + c, none⟩ = some (.int .i64 O) := (B2.out.cell (p := ⟨ob, oo + c, none⟩) lo).trans ocell
     clear b1 i1 B1 kcell ncell ocell
     go_wp2_with fail
     all_goals first | (exfalso; omega) | skip
     all_goals
      go_ret2
      exact ⟨by rw [HR.out]; rfl, B2.out⟩
 · have e6 : (K != 6) = true := by simp [k6]
   have HR : Hid (R = false) := hid (by rw [HO.out]; simp [k6]; intros; omega)
   clear k0 m0 b0 k6
   go_enter Tryz.func222, Tryz.ntmps222
   go_wp2_with fail
   go_at_call 234; refine (HB.out _).mono ?_; rintro e w1 ⟨rfl, b1⟩
   have i1 : w1.heap[w.heap.size]? = some (.cells #[.int .i64 f.w, .int .i64 f.h, .int .i64 f.d, .slice (some ⟨kb, ko, none⟩) L kc, .slice (some ⟨ob, oo, none⟩) L oc] 24 (0, 0)) := (b1.block w.heap.size (by simp)).trans (heap_alloc_new _ _)
   have p3 : w1.cell? ⟨w.heap.size, 3, none⟩ = some (.slice (some ⟨kb, ko, none⟩) L kc) := cell_of_heap i1 3 rfl
   have p4 : w1.cell? ⟨w.heap.size, 4, none⟩ = some (.slice (some ⟨ob, oo, none⟩) L oc) := cell_of_heap i1 4 rfl
   have B2 := hid (B1.out.trans (b1.mono B1.out.size))
   have q0 : w1.cell? ⟨kb, ko + c, none⟩ = some (.int .i64 K) := (B2.out.cell (p := ⟨kb, ko + c, none⟩) lk).trans kcell
   have q1 : w1.cell? ⟨kb, ko + n, none⟩ = some (.int .i64 M) := (B2.out.cell (p := ⟨kb, ko + n, none⟩) lk).trans ncell
   have q2 : w1.cell? ⟨ob, oo + c, none⟩ = some (.int .i64 O) := (B2.out.cell (p := ⟨ob, oo + c, none⟩) lo).trans ocell
   clear b1 i1 B1 kcell ncell ocell
   go_wp2_with fail
   all_goals first | (exfalso; omega) | skip
   all_goals
    go_ret2
    exact ⟨by rw [HR.out]; rfl, B2.out⟩
theorem rNext_none (f : Fl.Floor) (kv ov : Value) (c d : Nat) (w : World) (hr : Fl.Right f) (hd : d < 6) (hbn : Fl.beside f c d = -1) :
 Calls Tryz.prog 222 #[flV f kv ov, .int .i64 c, .int .i64 d] w fun e w' => e = .returned (nextV none) ∧ Below w.heap.size w w' := by
 have hb := fun W => rBesE_any f kv ov (c : Int) d W (.of hr) hd
 rw [hbn] at hb
 unfold flV at hb ⊢
 have HB := hid hb
 have B1 := hid ((Below.refl _ w).alloc (Nat.le_refl _) (.cells #[.int .i64 f.w, .int .i64 f.h, .int .i64 f.d, kv, ov] 24))
 clear hb hbn
 unfold nextV
 go_enter Tryz.func222, Tryz.ntmps222
 go_wp2_with fail
 go_at_call 234; refine (HB.out _).mono ?_; rintro e w1 ⟨rfl, b1⟩
 have B2 := hid (B1.out.trans (b1.mono B1.out.size))
 clear b1
 go_wp2_with fail
 go_ret2
 exact ⟨rfl, B2.out⟩
theorem rNext_any (f : Fl.Floor) (kv ov : Value) (c d : Nat) (w : World) (hr : Fl.Right f) (hF : FlV w kv ov f) (hc : c < f.kind.length) (hd : d < 6) :
 Calls Tryz.prog 222 #[flV f kv ov, .int .i64 c, .int .i64 d] w fun e w' => e = .returned (nextV (Fl.next f c d)) ∧ Below w.heap.size w w' := by
 rcases next_cases hr c d with ⟨h1, h2⟩ | ⟨n, hn, h1, h2⟩
 · rw [h2]; exact rNext_none f kv ov c d w hr hd h1
 · rw [h2]
   refine (rNext_raw f kv ov c n d w hr hF hc hn hd h1).mono ?_
   rintro e w' ⟨rfl, hb⟩
   refine ⟨?_, hb⟩
   cases Fl.open2 f c n d <;> rfl
end Go.Proofs.YtfcbcpfnaadpeaaGreatDoor
