/- Parts Fx, Fy, Fz, Rj, Rbe, Rfe, Rg of this claim, laid one behind the other: walks and the plain laws behind them; each contract states its own conditions. -/
import Derived.Test.YtfcbcpfnaadpeaaGreatDoorBC
import Derived.Laws.Tables
/- Walks of package floor: At, beside. -/
namespace Go.Proofs.YtfcbcpfnaadpeaaGreatDoor
set_option linter.unusedSimpArgs false
set_option linter.unusedVariables false
open Go.RowKit

set_option maxRecDepth 100000 in
set_option maxHeartbeats 4000000 in
theorem At_any (f : Fl.Floor) (kv ov : Value) (c : Int) (w : World) (hb : FB f) :
    Calls Tryz.prog 203 #[flV f kv ov, .int .i64 c] w fun e w' => e = .returned (.tuple #[.int .i64 (Fl.atX f c), .int .i64 (Fl.atY f c), .int .i64 (Fl.atZ f c)]) ∧ Below w.heap.size w w' := by
  have hc := fun W => is_any f kv ov c W hb
  obtain ⟨⟨a1, a2⟩, a3, a4⟩ := hb.size
  have HS : Hid (Fl.atX f c = if Fl.isC f c = true then c % f.w else 0) := Lib.hid rfl
  have HY : Hid (Fl.atY f c = if Fl.isC f c = true then c / f.w % f.h else 0) := Lib.hid rfl
  have HZ : Hid (Fl.atZ f c = if Fl.isC f c = true then c / (f.w * f.h) else 0) := Lib.hid rfl
  have hS : Fl.isC f c = true → 0 ≤ c ∧ c < f.w * f.h * f.d := by
    intro h
    unfold Fl.isC Fl.Floor.size at h
    simpa using h
  obtain ⟨B, hB⟩ : ∃ B, Fl.isC f c = B := ⟨_, rfl⟩
  rw [hB] at hc HS HY HZ hS
  have h1 := hb.w1
  have h2 := hb.h1
  have h3 := hb.w2
  have h4 := hb.h2
  have hp : 1 ≤ f.w * f.h := by
    have := Int.mul_le_mul h1 h2 (by omega) (by omega : (0 : Int) ≤ f.w)
    omega
  have B1 := Lib.hid ((Below.refl _ w).alloc (Nat.le_refl _) (.cells #[.int .i64 f.w, .int .i64 f.h, .int .i64 f.d, kv, ov] 24))
  have HC := Lib.hid hc
  unfold flV at HC ⊢
  cases B with
  | false =>
    clear hB hc hS
    go_enter Tryz.func203, Tryz.ntmps203
    go_wp2_with fail
    go_at_call 250; refine (HC.out _).mono ?_; rintro e w1 ⟨rfl, b1⟩
    have B2 := Lib.hid (B1.out.trans (b1.mono B1.out.size))
    clear b1
    go_wp2_with fail
    go_ret3
    exact ⟨by rw [HS.out, HY.out, HZ.out]; rfl, B2.out⟩
  | true =>
    obtain ⟨c0, c1⟩ := hS rfl
    have c2 : 0 ≤ c / f.w := Int.ediv_nonneg c0 (by omega)
    clear hB hc hS
    go_enter Tryz.func203, Tryz.ntmps203
    go_wp2_with fail
    go_at_call 250; refine (HC.out _).mono ?_; rintro e w1 ⟨rfl, b1⟩
    have i1 : w1.heap[w.heap.size]? = some (.cells #[.int .i64 f.w, .int .i64 f.h, .int .i64 f.d, kv, ov] 24 (0, 0)) := (b1.block w.heap.size (by simp)).trans (heap_alloc_new _ _)
    have d0 : w1.cell? ⟨w.heap.size, 0, none⟩ = some (.int .i64 f.w) := cell_of_heap i1 0 rfl
    have d1 : w1.cell? ⟨w.heap.size, 1, none⟩ = some (.int .i64 f.h) := cell_of_heap i1 1 rfl
    have B2 := Lib.hid (B1.out.trans (b1.mono B1.out.size))
    clear b1 i1
    go_wp2_with fail
    go_quiet (fail)
    go_wp2_with fail
    go_ret3
    exact ⟨by rw [HS.out, HY.out, HZ.out]; rfl, B2.out.trans (below_drewN _ _ _)⟩
end Go.Proofs.YtfcbcpfnaadpeaaGreatDoor
/- Walks of package floor: steps. -/
namespace Go.Proofs.YtfcbcpfnaadpeaaGreatDoor
set_option linter.unusedSimpArgs false
set_option linter.unusedVariables false
open Go.RowKit

def stepsC : Array Value := #[.int .i64 1, .int .i64 0, .int .i64 0, .int .i64 0, .int .i64 1, .int .i64 0, .int .i64 (-1), .int .i64 0, .int .i64 0, .int .i64 0, .int .i64 (-1), .int .i64 0, .int .i64 0, .int .i64 0, .int .i64 1, .int .i64 0, .int .i64 0, .int .i64 (-1)]
set_option maxHeartbeats 1000000 in
theorem steps_any (w : World) : Calls Tryz.prog 251 #[] w fun e w' => e = .returned (.agg stepsC) ∧ Below w.heap.size w w' := by
  go_enter Tryz.func251, Tryz.ntmps251
  go_wp2_with (refine wpList_store_row rfl 268 (.tmp 0) (.tmp 7) rfl w.heap.size stepsC rfl rfl 268 _ (heap_alloc_new _ _) (by kernel_rfl) rfl (by kernel_rfl) ?_)
  refine bodyPost_ret (v := .agg stepsC) (results_cell_row (p := 0) (ty := 268) (by kernel_rfl) _ _ w.heap.size 268 stepsC (0, 0) _ rfl (setRow_heap _ _ _ _ _ _ (heap_alloc_new _ _)) Tryz.underlying268 rfl (by kernel_rfl)) rfl ⟨rfl, ?_⟩
  refine ((Below.refl _ w).alloc (Nat.le_refl _) _).trans ⟨rfl, rfl, rfl, by simp, fun k hk => setRow_other _ _ _ _ (by omega)⟩
end Go.Proofs.YtfcbcpfnaadpeaaGreatDoor
/- Walks of package floor: beside. -/
namespace Go.Proofs.YtfcbcpfnaadpeaaGreatDoor
set_option linter.unusedSimpArgs false
set_option linter.unusedVariables false
open Go.RowKit

theorem atX_bd {f : Fl.Floor} (hb : FB f) (c : Int) : 0 ≤ Fl.atX f c ∧ Fl.atX f c ≤ 4096 := by
  unfold Fl.atX
  have := hb.w1
  have h2 := hb.w2
  split
  · have a := Int.emod_nonneg c (show f.w ≠ 0 by omega)
    have b := Int.emod_lt_of_pos c (show 0 < f.w by omega)
    omega
  · omega
theorem atY_bd {f : Fl.Floor} (hb : FB f) (c : Int) : 0 ≤ Fl.atY f c ∧ Fl.atY f c ≤ 4096 := by
  unfold Fl.atY
  have := hb.h1
  have h2 := hb.h2
  split
  · have a := Int.emod_nonneg (c / f.w) (show f.h ≠ 0 by omega)
    have b := Int.emod_lt_of_pos (c / f.w) (show 0 < f.h by omega)
    omega
  · omega
theorem atZ_bd {f : Fl.Floor} (hb : FB f) (c : Int) : 0 ≤ Fl.atZ f c ∧ Fl.atZ f c ≤ 67108864 := by
  unfold Fl.atZ
  split
  · rename_i h
    obtain ⟨⟨a1, a2⟩, a3, a4⟩ := hb.size
    have hc : 0 ≤ c ∧ c < f.w * f.h * f.d := by unfold Fl.isC Fl.Floor.size at h; simpa using h
    have p : 0 ≤ c / (f.w * f.h) := Int.ediv_nonneg hc.1 a1
    have q : c / (f.w * f.h) ≤ c := Int.ediv_le_self _ hc.1
    omega
  · omega
set_option maxRecDepth 100000 in
set_option maxHeartbeats 4000000 in
theorem beside_dir (f : Fl.Floor) (kv ov : Value) (c : Int) (d : Nat) (dx dy dz : Int) (w : World) (hb : FB f) (hd : d < 6) (hx : -1 ≤ dx ∧ dx ≤ 1) (hy : -1 ≤ dy ∧ dy ≤ 1) (hz : -1 ≤ dz ∧ dz ≤ 1)
    (hi : ∀ W : World, (Instr.index 268 (.agg stepsC) (.int .i64 d)).run Tryz.prog W = .ok (.agg #[.int .i64 dx, .int .i64 dy, .int .i64 dz]) W) :
    Calls Tryz.prog 189 #[flV f kv ov, .int .i64 c, .int .i64 d] w fun e w' => e = .returned (.int .i64 (if Fl.isC f c = true then Fl.cell f (Fl.atX f c + dx) (Fl.atY f c + dy) (Fl.atZ f c + dz) else -1)) ∧ Below w.heap.size w w' := by
  have hc := fun W => is_any f kv ov c W hb
  have ha := fun W => At_any f kv ov c W hb
  have hl := fun X Y Z W => Cell_any f kv ov X Y Z W hb
  obtain ⟨x0, x1⟩ := atX_bd hb c
  obtain ⟨y0, y1⟩ := atY_bd hb c
  obtain ⟨z0, z1⟩ := atZ_bd hb c
  obtain ⟨X, hX⟩ : ∃ X, Fl.atX f c = X := ⟨_, rfl⟩
  obtain ⟨Y, hY⟩ : ∃ X, Fl.atY f c = X := ⟨_, rfl⟩
  obtain ⟨Z, hZ⟩ : ∃ X, Fl.atZ f c = X := ⟨_, rfl⟩
  rw [hX, hY, hZ] at ha ⊢
  rw [hX] at x0 x1
  rw [hY] at y0 y1
  rw [hZ] at z0 z1
  obtain ⟨B, hB⟩ : ∃ B, Fl.isC f c = B := ⟨_, rfl⟩
  rw [hB] at hc ⊢
  have B1 := Lib.hid ((Below.refl _ w).alloc (Nat.le_refl _) (.cells #[.int .i64 f.w, .int .i64 f.h, .int .i64 f.d, kv, ov] 24))
  unfold flV at hc ha hl ⊢
  have HC := Lib.hid hc
  have HA := Lib.hid ha
  have HL := Lib.hid hl
  have d0 : (0 : Int) ≤ (d : Int) := by omega
  have d1 : (d : Int) < 6 := by omega
  obtain ⟨hx0, hx1⟩ := hx
  obtain ⟨hy0, hy1⟩ := hy
  obtain ⟨hz0, hz1⟩ := hz
  clear hc ha hl hX hY hZ hB hb hd
  cases B with
  | false =>
    go_enter Tryz.func189, Tryz.ntmps189
    go_wp2_with fail
    go_at_call 250; refine (HC.out _).mono ?_; rintro e w1 ⟨rfl, b1⟩
    have B2 := Lib.hid (B1.out.trans (b1.mono B1.out.size))
    clear b1
    go_wp2_with fail
    go_ret
    exact ⟨rfl, B2.out⟩
  | true =>
    go_enter Tryz.func189, Tryz.ntmps189
    go_wp2_with fail
    go_at_call 250; refine (HC.out _).mono ?_; rintro e w1 ⟨rfl, b1⟩
    have i1 : w1.heap[w.heap.size]? = some (.cells #[.int .i64 f.w, .int .i64 f.h, .int .i64 f.d, kv, ov] 24 (0, 0)) := (b1.block w.heap.size (by simp)).trans (heap_alloc_new _ _)
    have p0 : w1.cell? ⟨w.heap.size, 0, none⟩ = some (.int .i64 f.w) := cell_of_heap i1 0 rfl
    have p1 : w1.cell? ⟨w.heap.size, 1, none⟩ = some (.int .i64 f.h) := cell_of_heap i1 1 rfl
    have p2 : w1.cell? ⟨w.heap.size, 2, none⟩ = some (.int .i64 f.d) := cell_of_heap i1 2 rfl
    have p3 : w1.cell? ⟨w.heap.size, 3, none⟩ = some kv := cell_of_heap i1 3 rfl
    have p4 : w1.cell? ⟨w.heap.size, 4, none⟩ = some ov := cell_of_heap i1 4 rfl
    have B2 := Lib.hid (B1.out.trans (b1.mono B1.out.size))
    have I1 := Lib.hid i1
    clear b1 i1 B1
    go_wp2_with fail
    go_at_call 203; refine (HA.out _).mono ?_; rintro e w2 ⟨rfl, b2⟩
    have B3 := Lib.hid (B2.out.trans (b2.mono B2.out.size))
    have I2 := Lib.hid (keep_heap I1.out b2)
    clear b2 B2 I1 p0 p1 p2 p3 p4
    go_wp2_with fail
    go_at_call 251; refine (steps_any _).mono ?_; rintro e w3 ⟨rfl, b3⟩
    have B4 := Lib.hid (B3.out.trans (b3.mono B3.out.size))
    have i1 := keep_heap I2.out b3
    have p0 : w3.cell? ⟨w.heap.size, 0, none⟩ = some (.int .i64 f.w) := cell_of_heap i1 0 rfl
    have p1 : w3.cell? ⟨w.heap.size, 1, none⟩ = some (.int .i64 f.h) := cell_of_heap i1 1 rfl
    have p2 : w3.cell? ⟨w.heap.size, 2, none⟩ = some (.int .i64 f.d) := cell_of_heap i1 2 rfl
    have p3 : w3.cell? ⟨w.heap.size, 3, none⟩ = some kv := cell_of_heap i1 3 rfl
    have p4 : w3.cell? ⟨w.heap.size, 4, none⟩ = some ov := cell_of_heap i1 4 rfl
    have l3 : w.heap.size < w3.heap.size := heap_lt i1
    clear b3 B3 I2 i1
    go_wp2_with fail
    go_at_call 204; refine (HL.out _ _ _ _).mono ?_; rintro e w4 ⟨rfl, b4⟩
    have B5 := Lib.hid ((B4.out.alloc B4.out.size _).trans (b4.mono (by have := B4.out.size; simp; omega)))
    clear b4
    go_wp2_with fail
    go_ret
    exact ⟨rfl, B5.out⟩
theorem beside_any (f : Fl.Floor) (kv ov : Value) (c : Int) (d : Nat) (w : World) (hb : FB f) (hd : d < 6) :
    Calls Tryz.prog 189 #[flV f kv ov, .int .i64 c, .int .i64 d] w fun e w' => e = .returned (.int .i64 (Fl.beside f c d)) ∧ Below w.heap.size w w' := by
  unfold Fl.beside
  refine beside_dir f kv ov c d (Fl.stX d) (Fl.stY d) (Fl.stZ d) w hb hd ?_ ?_ ?_ ?_
  · rcases d with _ | _ | _ | _ | _ | _ | d <;> first | (exfalso; omega) | decide
  · rcases d with _ | _ | _ | _ | _ | _ | d <;> first | (exfalso; omega) | decide
  · rcases d with _ | _ | _ | _ | _ | _ | d <;> first | (exfalso; omega) | decide
  · intro W
    rcases d with _ | _ | _ | _ | _ | _ | d
    all_goals first | (exfalso; omega) | kernel_rfl
end Go.Proofs.YtfcbcpfnaadpeaaGreatDoor
/- Walks of package taquinref07: Beside, in few words: it returns a number. -/
namespace Go.Proofs.YtfcbcpfnaadpeaaGreatDoor
set_option linter.unusedSimpArgs false
set_option linter.unusedVariables false
open Go.RowKit

end Go.Proofs.YtfcbcpfnaadpeaaGreatDoor
/- Walks of package taquinref11: Beside, in few words: it returns a number. -/
namespace Go.Proofs.YtfcbcpfnaadpeaaGreatDoor
set_option linter.unusedSimpArgs false
set_option linter.unusedVariables false
open Go.RowKit

end Go.Proofs.YtfcbcpfnaadpeaaGreatDoor
/- Walks of package taquinref11: Few. -/
namespace Go.Proofs.YtfcbcpfnaadpeaaGreatDoor
set_option linter.unusedSimpArgs false
set_option linter.unusedVariables false
open Go.RowKit

/-- What is few where Few says so. -/
structure FewP (s : Si.Site) (c m : Int) : Prop where
  zn : ∀ z ∈ s.zones, (z.cells.length : Int) ≤ c ∧ z.name.length ≤ 40
  ap : ∀ p ∈ s.aparts, p.1.length ≤ 40 ∧ p.2.length ≤ 40
  sf : ∀ p ∈ s.shelves, p.2.length ≤ 40
  kl : (s.floor.kind.length : Int) ≤ c
  nz : (s.zones.length : Int) ≤ m
  na : (s.aparts.length : Int) ≤ m
  ns : (s.shelves.length : Int) ≤ m
  nr : (s.robots.length : Int) ≤ m
theorem all_take {α : Type} {p : α → Prop} {l : List α} {k : Nat} (h : ∀ x ∈ l.take k, p x) (hk : k < l.length) (h1 : p l[k]) : ∀ x ∈ l.take (k + 1), p x := by
  rw [List.take_succ_eq_append_getElem hk]
  intro x hx
  rcases List.mem_append.1 hx with h2 | h2
  · exact h x h2
  · rw [List.mem_singleton] at h2; subst h2; exact h1
end Go.Proofs.YtfcbcpfnaadpeaaGreatDoor
/- Walks of package taquinref11: Right. -/
namespace Go.Proofs.YtfcbcpfnaadpeaaGreatDoor
set_option linter.unusedSimpArgs false
set_option linter.unusedVariables false
open Go.RowKit

/-- The first shelves are right. -/
structure ShOk (f : Fl.Floor) (l : List (Int × List UInt8)) : Prop where
  a : ∀ x ∈ l, Fl.isC f x.1 = true ∧ (Si.kindAt f x.1 = 1 ∨ Si.kindAt f x.1 = 2)
  d : (l.map (·.1)).Nodup
structure RbOk (f : Fl.Floor) (l : List (Int × Int)) : Prop where
  a : ∀ x ∈ l, Fl.isC f x.1 = true ∧ Si.kindAt f x.1 ≠ 0 ∧ 0 ≤ x.2 ∧ x.2 ≤ 1000000
  d : (l.map (·.1)).Nodup
theorem nodup_step {α : Type} {l : List (Int × α)} {k : Nat} (h : ((l.take k).map (·.1)).Nodup) (hk : k < l.length) (hn : noAt (l.take k) l[k].1) : ((l.take (k + 1)).map (·.1)).Nodup := by
  rw [List.take_succ_eq_append_getElem hk, List.map_append, List.nodup_append]
  refine ⟨h, by simp, fun x hx y hy => ?_⟩
  obtain ⟨z, hz, rfl⟩ := List.mem_map.1 hx
  rw [List.map_singleton, List.mem_singleton] at hy
  subst hy
  exact hn z hz
theorem ShOk.nil (f : Fl.Floor) : ShOk f [] := ⟨fun z h => (by cases h), List.Pairwise.nil⟩
theorem RbOk.nil (f : Fl.Floor) : RbOk f [] := ⟨fun z h => (by cases h), List.Pairwise.nil⟩
theorem ShOk.step {f : Fl.Floor} {l : List (Int × List UInt8)} {k : Nat} (h : ShOk f (l.take k)) (hk : k < l.length) (h1 : Fl.isC f l[k].1 = true ∧ (Si.kindAt f l[k].1 = 1 ∨ Si.kindAt f l[k].1 = 2)) (hn : sIdx (l.take k) l[k].1 < 0) : ShOk f (l.take (k + 1)) :=
  ⟨all_take h.a hk h1, nodup_step h.d hk ((sIdx_neg _ _).1 hn)⟩
theorem RbOk.step {f : Fl.Floor} {l : List (Int × Int)} {k : Nat} (h : RbOk f (l.take k)) (hk : k < l.length) (h1 : Fl.isC f l[k].1 = true ∧ Si.kindAt f l[k].1 ≠ 0 ∧ 0 ≤ l[k].2 ∧ l[k].2 ≤ 1000000) (hn : sIdx (l.take k) l[k].1 < 0) : RbOk f (l.take (k + 1)) :=
  ⟨all_take h.a hk h1, nodup_step h.d hk ((sIdx_neg _ _).1 hn)⟩
theorem Si.Right.of {s : Si.Site} (hf : Fl.Right s.floor) (hz : ZOk s.floor s.zones) (hn : s.zones.length ≤ 64) (hs : ShOk s.floor s.shelves) (hsn : s.shelves.length ≤ 3000) (hr : RbOk s.floor s.robots) (hrn : s.robots.length ≤ 200) : Si.Right s where
  fl := hf
  zn := hn
  zc := fun z h => let ⟨h1, h2, h3, h4, h5⟩ := hz.a z h; ⟨h1, h2, h3, h4, h5⟩
  zk := fun z h c hc => hz.b z h c hc
  zd := hz.d
  sn := hsn
  sc := hs.a
  sd := hs.d
  rn := hrn
  rc := hr.a
  rd := hr.d
end Go.Proofs.YtfcbcpfnaadpeaaGreatDoor
