/- Parts RfM of this claim, laid one behind the other: walks and the plain laws behind them; each contract states its own conditions. -/
import Derived.Test.YtcdfmgobokjcnaaGreatDoorTB
/- Walk of taquinref29.Run. -/
namespace Go.Proofs.YtcdfmgobokjcnaaGreatDoor
set_option linter.unusedSimpArgs false
set_option linter.unusedVariables false
open Go.RowKit

theorem setRow_cell_at (w : World) (g k o : Nat) (cs : Array Value) (h : k ≠ g) : (w.setRow g cs).cell? ⟨k, o, none⟩ = w.cell? ⟨k, o, none⟩ := by
  unfold World.cell?
  rw [setRow_other _ _ _ _ h]
theorem below_setRow_at {base : Nat} {w W : World} (g : Nat) (cs : Array Value) (h : Below base w W) (hg : base ≤ g) : Below base w (W.setRow g cs) :=
  h.trans ⟨rfl, rfl, rfl, by simp, fun k hk => setRow_other _ _ _ _ (by have := h.size; omega)⟩
set_option maxRecDepth 100000 in
set_option maxHeartbeats 16000000 in
theorem rRun29_any (b : Fa.Bud) (v : Value) (l : List Fa.Flt) (w : World) (hb : BudN b) (h : FtV w v l) :
    Calls Tryz.prog 14 #[.agg (budA b), v] w fun e w' => e = .returned (runV (Fa.run b l)) ∧ Below w.heap.size w w' := by
  obtain ⟨a, cap, rfl, hm⟩ := h.form
  have HS := Lib.hid (fun c x W hc => rSpend29_any c x W hc)
  have H := Lib.hid h
  obtain ⟨W0, hW0⟩ : ∃ W, W = (w.alloc (.cells #[.int .i64 b.stops, .int .i64 b.cells, .int .i64 b.mutes, .int .i64 b.muteMost, .int .i64 b.lifts, .int .i64 b.liftMost, .int .i64 b.steps] 36)).alloc (.cells #[.int .i64 0, .int .i64 0, .int .i64 0, .int .i64 0, .int .i64 0, .int .i64 0, .int .i64 0] 36) := ⟨_, rfl⟩
  have HA := Lib.hid (al2 w (.cells #[.int .i64 b.stops, .int .i64 b.cells, .int .i64 b.mutes, .int .i64 b.muteMost, .int .i64 b.lifts, .int .i64 b.liftMost, .int .i64 b.steps] 36) (.cells #[.int .i64 0, .int .i64 0, .int .i64 0, .int .i64 0, .int .i64 0, .int .i64 0, .int .i64 0] 36))
  rw [← hW0] at HA
  have HW := Lib.hid hW0
  obtain ⟨R, hR⟩ : ∃ R, Fa.run b l = R := ⟨_, rfl⟩
  have HR0 : Hid ((Fa.run b (l.drop 0)).1 = R.1 ∧ 0 + (Fa.run b (l.drop 0)).2 = R.2) := Lib.hid (by rw [← hR]; exact ⟨rfl, by simp⟩)
  rw [hR]
  have HBn := Lib.hid hb
  obtain ⟨n, hn⟩ : ∃ n, l.length = n := ⟨_, rfl⟩
  rw [hn] at hm H ⊢
  have HN := Lib.hid hn
  clear h hb hR hn hW0
  unfold budA runV
  go_enter Tryz.func14, Tryz.ntmps14
  go_upto_region 1 with fail
  rw [← HW.out]
  go_wp2_with fail
  go_loopw [6] (fun iv wr => ∃ (k : Nat) (c : Fa.Bud), k ≤ n ∧ iv = .int .i64 k ∧ Hid ((Fa.run c (l.drop k)).1 = R.1 ∧ k + (Fa.run c (l.drop k)).2 = R.2) ∧ Hid (BudN c) ∧ Hid (BudAt wr w.heap.size c 36) ∧ Hid (wr.heap[w.heap.size + 1]? = some (.cells budZ 36 (0, 0))) ∧ Hid (Below w.heap.size w wr)) (fun iv _ => n - (intOf iv).toNat)
  case atStart => exact ⟨0, b, by omega, rfl, HR0, HBn, Lib.hid HA.out.1, Lib.hid HA.out.2.1, Lib.hid HA.out.2.2.1⟩
  case round =>
    obtain ⟨k, c, hk, rfl, HK, HC, IB, IZ, HB⟩ := hrel
    clear HA HW
    by_cases hkn : k < n
    · have hkl : k < l.length := by rw [HN.out]; exact hkn
      obtain ⟨fb, fo, rfl, hfb, f0, f1, f2⟩ := H.out.cell k hkl
      have hd := List.drop_eq_getElem_cons hkl
      obtain ⟨x, hx⟩ : ∃ x, l[k] = x := ⟨_, rfl⟩
      rw [hx] at f0 f1 f2 hd
      have HK2 := HK.out
      rw [hd] at HK2
      obtain ⟨c2, ev, e1, e2, e3, e4, e5⟩ := spendV_ok c (Fa.spend c x)
      have HB7 := HB.out
      rw [← HB7.cell (p := ⟨fb, fo + k * 3, none⟩) hfb] at f0
      rw [← HB7.cell (p := ⟨fb, fo + k * 3 + 1, none⟩) hfb] at f1
      rw [← HB7.cell (p := ⟨fb, fo + k * 3 + 2, none⟩) hfb] at f2
      have hsz := HB7.size
      have HS2 : Hid (∀ W, _) := Lib.hid (fun W => by have := HS.out c x W HC.out; rw [e1] at this; exact this)
      have hlt : w.heap.size < wr.heap.size := IB.out.lt
      have hlt1 : w.heap.size + 1 < wr.heap.size := heap_lt IZ.out
      have k1 : (k : Int) < (n : Int) := by omega
      have k0 : (0 : Int) ≤ (k : Int) := by omega
      have g1 : k < n := hkn
      obtain ⟨p0, p1, p2, p3, p4, p5, p6⟩ := IB.out.cells
      obtain ⟨xk, xa, xn⟩ := x
      have HKr := Lib.hid HK2
      obtain ⟨SV, hsp⟩ : ∃ s, Fa.spend c ⟨xk, xa, xn⟩ = s := ⟨_, rfl⟩
      rw [hsp] at e2 e3 e4 e5
      have HSP := Lib.hid hsp
      have E2 := Lib.hid e2
      have E4 := Lib.hid e4
      have E5 := Lib.hid e5
      clear HB7 hd HK2 hx hkl HK e1 e2 e3 e4 e5 hsp HS
      unfold fltV budA at HS2
      dsimp only at HS2 f0 f1 f2
      go_upto_region 4 with fail
      go_cut [7, 8] (fun v7 v8 wq => ∃ g, v7 = .pointer (some ⟨g, 0, none⟩) ∧ v8 = .int .i64 ev ∧ g ≠ w.heap.size ∧ Hid (wq.heap[g]? = some (.cells #[.int .i64 c2.stops, .int .i64 c2.cells, .int .i64 c2.mutes, .int .i64 c2.muteMost, .int .i64 c2.lifts, .int .i64 c2.liftMost, .int .i64 c2.steps] 36 (0, 0))) ∧ Hid (BudAt wq w.heap.size c 36) ∧ Hid (wq.heap[w.heap.size + 1]? = some (.cells budZ 36 (0, 0))) ∧ Hid (Below w.heap.size w wq))
      case first =>
        refine wp_region_held_drew (S := fun W' => W'.cell? ⟨w.heap.size, 0, none⟩ = some (.int .i64 c.stops) ∧ W'.cell? ⟨w.heap.size, 1, none⟩ = some (.int .i64 c.cells) ∧ W'.cell? ⟨w.heap.size, 2, none⟩ = some (.int .i64 c.mutes) ∧ W'.cell? ⟨w.heap.size, 3, none⟩ = some (.int .i64 c.muteMost) ∧ W'.cell? ⟨w.heap.size, 4, none⟩ = some (.int .i64 c.lifts) ∧ W'.cell? ⟨w.heap.size, 5, none⟩ = some (.int .i64 c.liftMost) ∧ W'.cell? ⟨w.heap.size, 6, none⟩ = some (.int .i64 c.steps) ∧ W'.cell? ⟨fb, fo + k * 3, none⟩ = some (.int .i64 xk) ∧ W'.cell? ⟨fb, fo + k * 3 + 1, none⟩ = some (.int .i64 xa) ∧ W'.cell? ⟨fb, fo + k * 3 + 2, none⟩ = some (.int .i64 xn)) (by kernel_rfl) ⟨p0, p1, p2, p3, p4, p5, p6, f0, f1, f2⟩ (fun hHeld => ?_)
        obtain ⟨u0, hwx⟩ : ∃ W, W = wr.drew := ⟨_, rfl⟩
        rw [← hwx] at hHeld ⊢
        have bx : Below wr.heap.size wr u0 := by subst hwx; exact ⟨rfl, rfl, rfl, Nat.le_refl _, fun _ _ => rfl⟩
        have Uu0 := Lib.hid (HB.out.trans (bx.mono HB.out.size))
        have IBu0 := Lib.hid (IB.out.keep bx)
        have IZu0 := Lib.hid (keep_heap IZ.out bx)
        clear hwx bx p0 p1 p2 p3 p4 p5 p6 f0 f1 f2 HB IB IZ
        try simp only [Act.put, List.getElem_toArray, List.getElem_cons_zero, List.getElem_cons_succ, List.setIfInBounds_toArray, List.set_cons_zero, List.set_cons_succ]
        refine wpAnyH_take (i := 0) (oi := _) (v := ?_) rfl (by kernel_rfl) (by kernel_rfl) (by kernel_rfl) (fun _ _ _ h => h) (Or.inl ⟨by rfl, ?_⟩) (by assumption) ?_
        rotate_left
        · intro w hSw; obtain ⟨k0, k1, k2, k3, k4, k5, k6, k7, k8, k9⟩ := hSw; go_simp; all_goals (with_reducible rfl)
        try simp only [Act.put, List.getElem_toArray, List.getElem_cons_zero, List.getElem_cons_succ, List.setIfInBounds_toArray, List.set_cons_zero, List.set_cons_succ]
        refine wpAnyH_take (i := 1) (oi := _) (v := ?_) rfl (by kernel_rfl) (by kernel_rfl) (by kernel_rfl) (fun _ _ _ h => h) (Or.inl ⟨by rfl, ?_⟩) (by assumption) ?_
        rotate_left
        · intro w hSw; obtain ⟨k0, k1, k2, k3, k4, k5, k6, k7, k8, k9⟩ := hSw; go_simp; all_goals (with_reducible rfl)
        try simp only [Act.put, List.getElem_toArray, List.getElem_cons_zero, List.getElem_cons_succ, List.setIfInBounds_toArray, List.set_cons_zero, List.set_cons_succ]
        refine wpAnyH_take (i := 2) (oi := _) (v := ?_) rfl (by kernel_rfl) (by kernel_rfl) (by kernel_rfl) (fun _ _ _ h => h) (Or.inl ⟨by rfl, ?_⟩) (by assumption) ?_
        rotate_left
        · intro w hSw; obtain ⟨k0, k1, k2, k3, k4, k5, k6, k7, k8, k9⟩ := hSw; go_simp; all_goals (with_reducible rfl)
        try simp only [Act.put, List.getElem_toArray, List.getElem_cons_zero, List.getElem_cons_succ, List.setIfInBounds_toArray, List.set_cons_zero, List.set_cons_succ]
        refine wpAnyH_take (i := 3) (oi := _) (v := ?_) rfl (by kernel_rfl) (by kernel_rfl) (by kernel_rfl) (fun _ _ _ h => h) (Or.inl ⟨by rfl, ?_⟩) (by assumption) ?_
        rotate_left
        · intro w hSw; obtain ⟨k0, k1, k2, k3, k4, k5, k6, k7, k8, k9⟩ := hSw; go_simp; all_goals (with_reducible rfl)
        try simp only [Act.put, List.getElem_toArray, List.getElem_cons_zero, List.getElem_cons_succ, List.setIfInBounds_toArray, List.set_cons_zero, List.set_cons_succ]
        refine wpAnyH_take (i := 4) (oi := _) (v := ?_) rfl (by kernel_rfl) (by kernel_rfl) (by kernel_rfl) (fun _ _ _ h => h) (Or.inl ⟨by rfl, ?_⟩) (by assumption) ?_
        rotate_left
        · intro w hSw; obtain ⟨k0, k1, k2, k3, k4, k5, k6, k7, k8, k9⟩ := hSw; go_simp; all_goals (with_reducible rfl)
        try simp only [Act.put, List.getElem_toArray, List.getElem_cons_zero, List.getElem_cons_succ, List.setIfInBounds_toArray, List.set_cons_zero, List.set_cons_succ]
        refine wpAnyH_ready (rs := [5, 9]) (by kernel_rfl) (by simp) ?_
        refine AllReadyH.cons (o := _) rfl (fun K9 hK => ?_) ?_
        · skip
          go_simp
          go_at_call 12; with_reducible refine (HS2.out _).mono ?_; rintro e u1 ⟨rfl, b9⟩
          have Uu1 := Lib.hid (Uu0.out.trans (b9.mono Uu0.out.size))
          have IBu1 := Lib.hid (IBu0.out.keep b9)
          have IZu1 := Lib.hid (keep_heap IZu0.out b9)
          have SX : u1.cell? ⟨w.heap.size, 0, none⟩ = some (.int .i64 c.stops) ∧ u1.cell? ⟨w.heap.size, 1, none⟩ = some (.int .i64 c.cells) ∧ u1.cell? ⟨w.heap.size, 2, none⟩ = some (.int .i64 c.mutes) ∧ u1.cell? ⟨w.heap.size, 3, none⟩ = some (.int .i64 c.muteMost) ∧ u1.cell? ⟨w.heap.size, 4, none⟩ = some (.int .i64 c.lifts) ∧ u1.cell? ⟨w.heap.size, 5, none⟩ = some (.int .i64 c.liftMost) ∧ u1.cell? ⟨w.heap.size, 6, none⟩ = some (.int .i64 c.steps) ∧ u1.cell? ⟨fb, fo + k * 3, none⟩ = some (.int .i64 xk) ∧ u1.cell? ⟨fb, fo + k * 3 + 1, none⟩ = some (.int .i64 xa) ∧ u1.cell? ⟨fb, fo + k * 3 + 2, none⟩ = some (.int .i64 xn) := by
            obtain ⟨k0, k1, k2, k3, k4, k5, k6, k7, k8, k9⟩ := hHeld
            exact ⟨(b9.cell (cell_block_lt k0)).trans k0, (b9.cell (cell_block_lt k1)).trans k1, (b9.cell (cell_block_lt k2)).trans k2, (b9.cell (cell_block_lt k3)).trans k3, (b9.cell (cell_block_lt k4)).trans k4, (b9.cell (cell_block_lt k5)).trans k5, (b9.cell (cell_block_lt k6)).trans k6, (b9.cell (cell_block_lt k7)).trans k7, (b9.cell (cell_block_lt k8)).trans k8, (b9.cell (cell_block_lt k9)).trans k9⟩
          clear b9 hHeld
          go_simp
          refine hK.out _ _ SX (fun hHeld => ?_)
          clear hK K9 SX
          try simp only [Act.put, List.getElem_toArray, List.getElem_cons_zero, List.getElem_cons_succ, List.setIfInBounds_toArray, List.set_cons_zero, List.set_cons_succ]
          refine wpAnyH_take (i := 6) (oi := _) (v := ?_) rfl (by kernel_rfl) (by kernel_rfl) (by kernel_rfl) (fun _ _ _ h => h) (Or.inl ⟨by rfl, ?_⟩) (by assumption) ?_
          rotate_left
          · intro w hSw; obtain ⟨k0, k1, k2, k3, k4, k5, k6, k7, k8, k9⟩ := hSw; go_simp; all_goals (with_reducible rfl)
          try simp only [Act.put, List.getElem_toArray, List.getElem_cons_zero, List.getElem_cons_succ, List.setIfInBounds_toArray, List.set_cons_zero, List.set_cons_succ]
          refine wpAnyH_take (i := 7) (oi := _) (v := ?_) rfl (by kernel_rfl) (by kernel_rfl) (by kernel_rfl) (fun _ _ _ h => h) (Or.inl ⟨by rfl, ?_⟩) (by assumption) ?_
          rotate_left
          · intro w hSw; obtain ⟨k0, k1, k2, k3, k4, k5, k6, k7, k8, k9⟩ := hSw; go_simp; all_goals (with_reducible rfl)
          try simp only [Act.put, List.getElem_toArray, List.getElem_cons_zero, List.getElem_cons_succ, List.setIfInBounds_toArray, List.set_cons_zero, List.set_cons_succ]
          refine wpAnyH_take (i := 8) (oi := _) (v := ?_) rfl (by kernel_rfl) (by kernel_rfl) (by kernel_rfl) (fun _ _ _ h => h) (Or.inl ⟨by rfl, ?_⟩) (by assumption) ?_
          rotate_left
          · intro w hSw; obtain ⟨k0, k1, k2, k3, k4, k5, k6, k7, k8, k9⟩ := hSw; go_simp; all_goals (with_reducible rfl)
          try simp only [Act.put, List.getElem_toArray, List.getElem_cons_zero, List.getElem_cons_succ, List.setIfInBounds_toArray, List.set_cons_zero, List.set_cons_succ]
          refine wpAnyH_ready (rs := [9]) (by kernel_rfl) (by simp) ?_
          refine AllReadyH.cons (o := _) rfl (fun K9 hK => ?_) AllReadyH.nil
          go_simp
          obtain ⟨u2, hwu2⟩ : ∃ W, W = u1.alloc (.cells #[.int .i64 0, .int .i64 0, .int .i64 0, .int .i64 0, .int .i64 0, .int .i64 0, .int .i64 0] 36) := ⟨_, rfl⟩
          have b9 : Below u1.heap.size u1 u2 := by rw [hwu2]; exact (Below.refl _ _).alloc (Nat.le_refl _) _
          have Uu2 := Lib.hid (Uu1.out.trans (b9.mono Uu1.out.size))
          obtain ⟨G, hG⟩ : ∃ n, u1.heap.size = n := ⟨_, rfl⟩
          have hGg : w.heap.size + 1 < G := by rw [← hG]; exact heap_lt IZu1.out
          have hfb2 : fb < G := by rw [← hG]; have := Uu1.out.size; omega
          have Gu2 : Hid (u2.heap[G]? = some (.cells #[.int .i64 0, .int .i64 0, .int .i64 0, .int .i64 0, .int .i64 0, .int .i64 0, .int .i64 0] 36 (0, 0))) := Lib.hid (by rw [hwu2, ← hG]; exact heap_alloc_new _ _)
          have IBu2 := Lib.hid (IBu1.out.keep b9)
          have IZu2 := Lib.hid (keep_heap IZu1.out b9)
          have SX : u2.cell? ⟨w.heap.size, 0, none⟩ = some (.int .i64 c.stops) ∧ u2.cell? ⟨w.heap.size, 1, none⟩ = some (.int .i64 c.cells) ∧ u2.cell? ⟨w.heap.size, 2, none⟩ = some (.int .i64 c.mutes) ∧ u2.cell? ⟨w.heap.size, 3, none⟩ = some (.int .i64 c.muteMost) ∧ u2.cell? ⟨w.heap.size, 4, none⟩ = some (.int .i64 c.lifts) ∧ u2.cell? ⟨w.heap.size, 5, none⟩ = some (.int .i64 c.liftMost) ∧ u2.cell? ⟨w.heap.size, 6, none⟩ = some (.int .i64 c.steps) ∧ u2.cell? ⟨fb, fo + k * 3, none⟩ = some (.int .i64 xk) ∧ u2.cell? ⟨fb, fo + k * 3 + 1, none⟩ = some (.int .i64 xa) ∧ u2.cell? ⟨fb, fo + k * 3 + 2, none⟩ = some (.int .i64 xn) := by
            obtain ⟨k0, k1, k2, k3, k4, k5, k6, k7, k8, k9⟩ := hHeld
            exact ⟨(b9.cell (cell_block_lt k0)).trans k0, (b9.cell (cell_block_lt k1)).trans k1, (b9.cell (cell_block_lt k2)).trans k2, (b9.cell (cell_block_lt k3)).trans k3, (b9.cell (cell_block_lt k4)).trans k4, (b9.cell (cell_block_lt k5)).trans k5, (b9.cell (cell_block_lt k6)).trans k6, (b9.cell (cell_block_lt k7)).trans k7, (b9.cell (cell_block_lt k8)).trans k8, (b9.cell (cell_block_lt k9)).trans k9⟩
          rw [← hwu2, hG]
          clear hwu2 b9 hG hHeld
          refine hK.out _ _ SX (fun hHeld => ?_)
          clear hK K9 SX
          try simp only [Act.put, List.getElem_toArray, List.getElem_cons_zero, List.getElem_cons_succ, List.setIfInBounds_toArray, List.set_cons_zero, List.set_cons_succ]
          refine wpAnyH_ready (rs := [10]) (by kernel_rfl) (by simp) ?_
          refine AllReadyH.cons (o := _) rfl (fun K9 hK => ?_) AllReadyH.nil
          rw [if_pos (by rfl)]
          refine wp_store_row 36 (.tmp 7) (.tmp 22) rfl G #[.int .i64 c2.stops, .int .i64 c2.cells, .int .i64 c2.mutes, .int .i64 c2.muteMost, .int .i64 c2.lifts, .int .i64 c2.liftMost, .int .i64 c2.steps] rfl rfl 36 _ Gu2.out (by kernel_rfl) rfl (by kernel_rfl) ?_
          have SX : (u2.setRow G #[.int .i64 c2.stops, .int .i64 c2.cells, .int .i64 c2.mutes, .int .i64 c2.muteMost, .int .i64 c2.lifts, .int .i64 c2.liftMost, .int .i64 c2.steps]).cell? ⟨w.heap.size, 0, none⟩ = some (.int .i64 c.stops) ∧ (u2.setRow G #[.int .i64 c2.stops, .int .i64 c2.cells, .int .i64 c2.mutes, .int .i64 c2.muteMost, .int .i64 c2.lifts, .int .i64 c2.liftMost, .int .i64 c2.steps]).cell? ⟨w.heap.size, 1, none⟩ = some (.int .i64 c.cells) ∧ (u2.setRow G #[.int .i64 c2.stops, .int .i64 c2.cells, .int .i64 c2.mutes, .int .i64 c2.muteMost, .int .i64 c2.lifts, .int .i64 c2.liftMost, .int .i64 c2.steps]).cell? ⟨w.heap.size, 2, none⟩ = some (.int .i64 c.mutes) ∧ (u2.setRow G #[.int .i64 c2.stops, .int .i64 c2.cells, .int .i64 c2.mutes, .int .i64 c2.muteMost, .int .i64 c2.lifts, .int .i64 c2.liftMost, .int .i64 c2.steps]).cell? ⟨w.heap.size, 3, none⟩ = some (.int .i64 c.muteMost) ∧ (u2.setRow G #[.int .i64 c2.stops, .int .i64 c2.cells, .int .i64 c2.mutes, .int .i64 c2.muteMost, .int .i64 c2.lifts, .int .i64 c2.liftMost, .int .i64 c2.steps]).cell? ⟨w.heap.size, 4, none⟩ = some (.int .i64 c.lifts) ∧ (u2.setRow G #[.int .i64 c2.stops, .int .i64 c2.cells, .int .i64 c2.mutes, .int .i64 c2.muteMost, .int .i64 c2.lifts, .int .i64 c2.liftMost, .int .i64 c2.steps]).cell? ⟨w.heap.size, 5, none⟩ = some (.int .i64 c.liftMost) ∧ (u2.setRow G #[.int .i64 c2.stops, .int .i64 c2.cells, .int .i64 c2.mutes, .int .i64 c2.muteMost, .int .i64 c2.lifts, .int .i64 c2.liftMost, .int .i64 c2.steps]).cell? ⟨w.heap.size, 6, none⟩ = some (.int .i64 c.steps) ∧ (u2.setRow G #[.int .i64 c2.stops, .int .i64 c2.cells, .int .i64 c2.mutes, .int .i64 c2.muteMost, .int .i64 c2.lifts, .int .i64 c2.liftMost, .int .i64 c2.steps]).cell? ⟨fb, fo + k * 3, none⟩ = some (.int .i64 xk) ∧ (u2.setRow G #[.int .i64 c2.stops, .int .i64 c2.cells, .int .i64 c2.mutes, .int .i64 c2.muteMost, .int .i64 c2.lifts, .int .i64 c2.liftMost, .int .i64 c2.steps]).cell? ⟨fb, fo + k * 3 + 1, none⟩ = some (.int .i64 xa) ∧ (u2.setRow G #[.int .i64 c2.stops, .int .i64 c2.cells, .int .i64 c2.mutes, .int .i64 c2.muteMost, .int .i64 c2.lifts, .int .i64 c2.liftMost, .int .i64 c2.steps]).cell? ⟨fb, fo + k * 3 + 2, none⟩ = some (.int .i64 xn) := by
            obtain ⟨k0, k1, k2, k3, k4, k5, k6, k7, k8, k9⟩ := hHeld
            exact ⟨(setRow_cell_at _ _ _ _ _ (by omega)).trans k0, (setRow_cell_at _ _ _ _ _ (by omega)).trans k1, (setRow_cell_at _ _ _ _ _ (by omega)).trans k2, (setRow_cell_at _ _ _ _ _ (by omega)).trans k3, (setRow_cell_at _ _ _ _ _ (by omega)).trans k4, (setRow_cell_at _ _ _ _ _ (by omega)).trans k5, (setRow_cell_at _ _ _ _ _ (by omega)).trans k6, (setRow_cell_at _ _ _ _ _ (by omega)).trans k7, (setRow_cell_at _ _ _ _ _ (by omega)).trans k8, (setRow_cell_at _ _ _ _ _ (by omega)).trans k9⟩
          refine hK.out _ _ SX (fun hHeld => ?_)
          clear hK K9 SX
          try simp only [Act.put, List.getElem_toArray, List.getElem_cons_zero, List.getElem_cons_succ, List.setIfInBounds_toArray, List.set_cons_zero, List.set_cons_succ]
          refine wpAnyH_take (i := 11) (oi := _) (v := ?_) rfl (by kernel_rfl) (by kernel_rfl) (by kernel_rfl) (fun _ _ _ h => h) (Or.inl ⟨by rfl, ?_⟩) (by assumption) ?_
          rotate_left
          · intro w hSw; obtain ⟨k0, k1, k2, k3, k4, k5, k6, k7, k8, k9⟩ := hSw; go_simp; all_goals (with_reducible rfl)
          try simp only [Act.put, List.getElem_toArray, List.getElem_cons_zero, List.getElem_cons_succ, List.setIfInBounds_toArray, List.set_cons_zero, List.set_cons_succ]
          refine wpAnyH_done (by kernel_rfl) ?_ _
          clear hHeld
          go_wp2_with fail
          go_meet
          exact ⟨G, rfl, rfl, by omega, Lib.hid (setRow_heap _ _ _ _ _ _ Gu2.out), Lib.hid ((setRow_other _ _ _ _ (by omega)).trans IBu2.out), Lib.hid ((setRow_other _ _ _ _ (by omega)).trans IZu2.out), Lib.hid (below_setRow_at _ _ Uu2.out (by omega))⟩
        refine AllReadyH.cons (o := _) rfl (fun K9 hK => ?_) AllReadyH.nil
        go_simp
        obtain ⟨u1, hwu1⟩ : ∃ W, W = u0.alloc (.cells #[.int .i64 0, .int .i64 0, .int .i64 0, .int .i64 0, .int .i64 0, .int .i64 0, .int .i64 0] 36) := ⟨_, rfl⟩
        have b9 : Below u0.heap.size u0 u1 := by rw [hwu1]; exact (Below.refl _ _).alloc (Nat.le_refl _) _
        have Uu1 := Lib.hid (Uu0.out.trans (b9.mono Uu0.out.size))
        obtain ⟨G, hG⟩ : ∃ n, u0.heap.size = n := ⟨_, rfl⟩
        have hGg : w.heap.size + 1 < G := by rw [← hG]; exact heap_lt IZu0.out
        have hfb2 : fb < G := by rw [← hG]; have := Uu0.out.size; omega
        have Gu1 : Hid (u1.heap[G]? = some (.cells #[.int .i64 0, .int .i64 0, .int .i64 0, .int .i64 0, .int .i64 0, .int .i64 0, .int .i64 0] 36 (0, 0))) := Lib.hid (by rw [hwu1, ← hG]; exact heap_alloc_new _ _)
        have IBu1 := Lib.hid (IBu0.out.keep b9)
        have IZu1 := Lib.hid (keep_heap IZu0.out b9)
        have SX : u1.cell? ⟨w.heap.size, 0, none⟩ = some (.int .i64 c.stops) ∧ u1.cell? ⟨w.heap.size, 1, none⟩ = some (.int .i64 c.cells) ∧ u1.cell? ⟨w.heap.size, 2, none⟩ = some (.int .i64 c.mutes) ∧ u1.cell? ⟨w.heap.size, 3, none⟩ = some (.int .i64 c.muteMost) ∧ u1.cell? ⟨w.heap.size, 4, none⟩ = some (.int .i64 c.lifts) ∧ u1.cell? ⟨w.heap.size, 5, none⟩ = some (.int .i64 c.liftMost) ∧ u1.cell? ⟨w.heap.size, 6, none⟩ = some (.int .i64 c.steps) ∧ u1.cell? ⟨fb, fo + k * 3, none⟩ = some (.int .i64 xk) ∧ u1.cell? ⟨fb, fo + k * 3 + 1, none⟩ = some (.int .i64 xa) ∧ u1.cell? ⟨fb, fo + k * 3 + 2, none⟩ = some (.int .i64 xn) := by
          obtain ⟨k0, k1, k2, k3, k4, k5, k6, k7, k8, k9⟩ := hHeld
          exact ⟨(b9.cell (cell_block_lt k0)).trans k0, (b9.cell (cell_block_lt k1)).trans k1, (b9.cell (cell_block_lt k2)).trans k2, (b9.cell (cell_block_lt k3)).trans k3, (b9.cell (cell_block_lt k4)).trans k4, (b9.cell (cell_block_lt k5)).trans k5, (b9.cell (cell_block_lt k6)).trans k6, (b9.cell (cell_block_lt k7)).trans k7, (b9.cell (cell_block_lt k8)).trans k8, (b9.cell (cell_block_lt k9)).trans k9⟩
        rw [← hwu1, hG]
        clear hwu1 b9 hG hHeld
        refine hK.out _ _ SX (fun hHeld => ?_)
        clear hK K9 SX
        try simp only [Act.put, List.getElem_toArray, List.getElem_cons_zero, List.getElem_cons_succ, List.setIfInBounds_toArray, List.set_cons_zero, List.set_cons_succ]
        refine wpAnyH_ready (rs := [5]) (by kernel_rfl) (by simp) ?_
        refine AllReadyH.cons (o := _) rfl (fun K9 hK => ?_) AllReadyH.nil
        go_simp
        go_at_call 12; with_reducible refine (HS2.out _).mono ?_; rintro e u2 ⟨rfl, b9⟩
        have Uu2 := Lib.hid (Uu1.out.trans (b9.mono Uu1.out.size))
        have IBu2 := Lib.hid (IBu1.out.keep b9)
        have IZu2 := Lib.hid (keep_heap IZu1.out b9)
        have Gu2 := Lib.hid (keep_heap Gu1.out b9)
        have SX : u2.cell? ⟨w.heap.size, 0, none⟩ = some (.int .i64 c.stops) ∧ u2.cell? ⟨w.heap.size, 1, none⟩ = some (.int .i64 c.cells) ∧ u2.cell? ⟨w.heap.size, 2, none⟩ = some (.int .i64 c.mutes) ∧ u2.cell? ⟨w.heap.size, 3, none⟩ = some (.int .i64 c.muteMost) ∧ u2.cell? ⟨w.heap.size, 4, none⟩ = some (.int .i64 c.lifts) ∧ u2.cell? ⟨w.heap.size, 5, none⟩ = some (.int .i64 c.liftMost) ∧ u2.cell? ⟨w.heap.size, 6, none⟩ = some (.int .i64 c.steps) ∧ u2.cell? ⟨fb, fo + k * 3, none⟩ = some (.int .i64 xk) ∧ u2.cell? ⟨fb, fo + k * 3 + 1, none⟩ = some (.int .i64 xa) ∧ u2.cell? ⟨fb, fo + k * 3 + 2, none⟩ = some (.int .i64 xn) := by
          obtain ⟨k0, k1, k2, k3, k4, k5, k6, k7, k8, k9⟩ := hHeld
          exact ⟨(b9.cell (cell_block_lt k0)).trans k0, (b9.cell (cell_block_lt k1)).trans k1, (b9.cell (cell_block_lt k2)).trans k2, (b9.cell (cell_block_lt k3)).trans k3, (b9.cell (cell_block_lt k4)).trans k4, (b9.cell (cell_block_lt k5)).trans k5, (b9.cell (cell_block_lt k6)).trans k6, (b9.cell (cell_block_lt k7)).trans k7, (b9.cell (cell_block_lt k8)).trans k8, (b9.cell (cell_block_lt k9)).trans k9⟩
        clear b9 hHeld
        go_simp
        refine hK.out _ _ SX (fun hHeld => ?_)
        clear hK K9 SX
        try simp only [Act.put, List.getElem_toArray, List.getElem_cons_zero, List.getElem_cons_succ, List.setIfInBounds_toArray, List.set_cons_zero, List.set_cons_succ]
        refine wpAnyH_take (i := 6) (oi := _) (v := ?_) rfl (by kernel_rfl) (by kernel_rfl) (by kernel_rfl) (fun _ _ _ h => h) (Or.inl ⟨by rfl, ?_⟩) (by assumption) ?_
        rotate_left
        · intro w hSw; obtain ⟨k0, k1, k2, k3, k4, k5, k6, k7, k8, k9⟩ := hSw; go_simp; all_goals (with_reducible rfl)
        try simp only [Act.put, List.getElem_toArray, List.getElem_cons_zero, List.getElem_cons_succ, List.setIfInBounds_toArray, List.set_cons_zero, List.set_cons_succ]
        refine wpAnyH_take (i := 7) (oi := _) (v := ?_) rfl (by kernel_rfl) (by kernel_rfl) (by kernel_rfl) (fun _ _ _ h => h) (Or.inl ⟨by rfl, ?_⟩) (by assumption) ?_
        rotate_left
        · intro w hSw; obtain ⟨k0, k1, k2, k3, k4, k5, k6, k7, k8, k9⟩ := hSw; go_simp; all_goals (with_reducible rfl)
        try simp only [Act.put, List.getElem_toArray, List.getElem_cons_zero, List.getElem_cons_succ, List.setIfInBounds_toArray, List.set_cons_zero, List.set_cons_succ]
        refine wpAnyH_take (i := 8) (oi := _) (v := ?_) rfl (by kernel_rfl) (by kernel_rfl) (by kernel_rfl) (fun _ _ _ h => h) (Or.inl ⟨by rfl, ?_⟩) (by assumption) ?_
        rotate_left
        · intro w hSw; obtain ⟨k0, k1, k2, k3, k4, k5, k6, k7, k8, k9⟩ := hSw; go_simp; all_goals (with_reducible rfl)
        try simp only [Act.put, List.getElem_toArray, List.getElem_cons_zero, List.getElem_cons_succ, List.setIfInBounds_toArray, List.set_cons_zero, List.set_cons_succ]
        refine wpAnyH_ready (rs := [10]) (by kernel_rfl) (by simp) ?_
        refine AllReadyH.cons (o := _) rfl (fun K9 hK => ?_) AllReadyH.nil
        rw [if_pos (by rfl)]
        refine wp_store_row 36 (.tmp 7) (.tmp 22) rfl G #[.int .i64 c2.stops, .int .i64 c2.cells, .int .i64 c2.mutes, .int .i64 c2.muteMost, .int .i64 c2.lifts, .int .i64 c2.liftMost, .int .i64 c2.steps] rfl rfl 36 _ Gu2.out (by kernel_rfl) rfl (by kernel_rfl) ?_
        have SX : (u2.setRow G #[.int .i64 c2.stops, .int .i64 c2.cells, .int .i64 c2.mutes, .int .i64 c2.muteMost, .int .i64 c2.lifts, .int .i64 c2.liftMost, .int .i64 c2.steps]).cell? ⟨w.heap.size, 0, none⟩ = some (.int .i64 c.stops) ∧ (u2.setRow G #[.int .i64 c2.stops, .int .i64 c2.cells, .int .i64 c2.mutes, .int .i64 c2.muteMost, .int .i64 c2.lifts, .int .i64 c2.liftMost, .int .i64 c2.steps]).cell? ⟨w.heap.size, 1, none⟩ = some (.int .i64 c.cells) ∧ (u2.setRow G #[.int .i64 c2.stops, .int .i64 c2.cells, .int .i64 c2.mutes, .int .i64 c2.muteMost, .int .i64 c2.lifts, .int .i64 c2.liftMost, .int .i64 c2.steps]).cell? ⟨w.heap.size, 2, none⟩ = some (.int .i64 c.mutes) ∧ (u2.setRow G #[.int .i64 c2.stops, .int .i64 c2.cells, .int .i64 c2.mutes, .int .i64 c2.muteMost, .int .i64 c2.lifts, .int .i64 c2.liftMost, .int .i64 c2.steps]).cell? ⟨w.heap.size, 3, none⟩ = some (.int .i64 c.muteMost) ∧ (u2.setRow G #[.int .i64 c2.stops, .int .i64 c2.cells, .int .i64 c2.mutes, .int .i64 c2.muteMost, .int .i64 c2.lifts, .int .i64 c2.liftMost, .int .i64 c2.steps]).cell? ⟨w.heap.size, 4, none⟩ = some (.int .i64 c.lifts) ∧ (u2.setRow G #[.int .i64 c2.stops, .int .i64 c2.cells, .int .i64 c2.mutes, .int .i64 c2.muteMost, .int .i64 c2.lifts, .int .i64 c2.liftMost, .int .i64 c2.steps]).cell? ⟨w.heap.size, 5, none⟩ = some (.int .i64 c.liftMost) ∧ (u2.setRow G #[.int .i64 c2.stops, .int .i64 c2.cells, .int .i64 c2.mutes, .int .i64 c2.muteMost, .int .i64 c2.lifts, .int .i64 c2.liftMost, .int .i64 c2.steps]).cell? ⟨w.heap.size, 6, none⟩ = some (.int .i64 c.steps) ∧ (u2.setRow G #[.int .i64 c2.stops, .int .i64 c2.cells, .int .i64 c2.mutes, .int .i64 c2.muteMost, .int .i64 c2.lifts, .int .i64 c2.liftMost, .int .i64 c2.steps]).cell? ⟨fb, fo + k * 3, none⟩ = some (.int .i64 xk) ∧ (u2.setRow G #[.int .i64 c2.stops, .int .i64 c2.cells, .int .i64 c2.mutes, .int .i64 c2.muteMost, .int .i64 c2.lifts, .int .i64 c2.liftMost, .int .i64 c2.steps]).cell? ⟨fb, fo + k * 3 + 1, none⟩ = some (.int .i64 xa) ∧ (u2.setRow G #[.int .i64 c2.stops, .int .i64 c2.cells, .int .i64 c2.mutes, .int .i64 c2.muteMost, .int .i64 c2.lifts, .int .i64 c2.liftMost, .int .i64 c2.steps]).cell? ⟨fb, fo + k * 3 + 2, none⟩ = some (.int .i64 xn) := by
          obtain ⟨k0, k1, k2, k3, k4, k5, k6, k7, k8, k9⟩ := hHeld
          exact ⟨(setRow_cell_at _ _ _ _ _ (by omega)).trans k0, (setRow_cell_at _ _ _ _ _ (by omega)).trans k1, (setRow_cell_at _ _ _ _ _ (by omega)).trans k2, (setRow_cell_at _ _ _ _ _ (by omega)).trans k3, (setRow_cell_at _ _ _ _ _ (by omega)).trans k4, (setRow_cell_at _ _ _ _ _ (by omega)).trans k5, (setRow_cell_at _ _ _ _ _ (by omega)).trans k6, (setRow_cell_at _ _ _ _ _ (by omega)).trans k7, (setRow_cell_at _ _ _ _ _ (by omega)).trans k8, (setRow_cell_at _ _ _ _ _ (by omega)).trans k9⟩
        refine hK.out _ _ SX (fun hHeld => ?_)
        clear hK K9 SX
        try simp only [Act.put, List.getElem_toArray, List.getElem_cons_zero, List.getElem_cons_succ, List.setIfInBounds_toArray, List.set_cons_zero, List.set_cons_succ]
        refine wpAnyH_take (i := 11) (oi := _) (v := ?_) rfl (by kernel_rfl) (by kernel_rfl) (by kernel_rfl) (fun _ _ _ h => h) (Or.inl ⟨by rfl, ?_⟩) (by assumption) ?_
        rotate_left
        · intro w hSw; obtain ⟨k0, k1, k2, k3, k4, k5, k6, k7, k8, k9⟩ := hSw; go_simp; all_goals (with_reducible rfl)
        try simp only [Act.put, List.getElem_toArray, List.getElem_cons_zero, List.getElem_cons_succ, List.setIfInBounds_toArray, List.set_cons_zero, List.set_cons_succ]
        refine wpAnyH_done (by kernel_rfl) ?_ _
        clear hHeld
        go_wp2_with fail
        go_meet
        exact ⟨G, rfl, rfl, by omega, Lib.hid (setRow_heap _ _ _ _ _ _ Gu2.out), Lib.hid ((setRow_other _ _ _ _ (by omega)).trans IBu2.out), Lib.hid ((setRow_other _ _ _ _ (by omega)).trans IZu2.out), Lib.hid (below_setRow_at _ _ Uu2.out (by omega))⟩
      case rest =>
        obtain ⟨g, rfl, rfl, hgn, HG, IBq, IZq, HBq⟩ := hcut
        clear HB IB IZ p0 p1 p2 p3 p4 p5 p6 f0 f1 f2 HS2
        have gl := heap_lt IBq.out
        cases SV with
        | none =>
          obtain rfl := E4.out rfl
          have JZ := IZq.out
          obtain ⟨p0, p1, p2, p3, p4, p5, p6⟩ := IBq.out.cells
          go_wp2_with (refine wpList_store_row rfl 36 (.tmp 4) (.tmp 26) rfl (w.heap.size + 1) #[.int .i64 c.stops, .int .i64 c.cells, .int .i64 c.mutes, .int .i64 c.muteMost, .int .i64 c.lifts, .int .i64 c.liftMost, .int .i64 c.steps] rfl rfl 36 budZ JZ (by kernel_rfl) rfl (by kernel_rfl) ?_)
          refine bodyPost_ret (v := .tuple #[.agg #[.int .i64 c.stops, .int .i64 c.cells, .int .i64 c.mutes, .int .i64 c.muteMost, .int .i64 c.lifts, .int .i64 c.liftMost, .int .i64 c.steps], .int .i64 (k : Int)]) (results_rowtmp2 (p := 4) (ty := 36) (u := 5) (by kernel_rfl) _ _ (w.heap.size + 1) 36 #[.int .i64 c.stops, .int .i64 c.cells, .int .i64 c.mutes, .int .i64 c.muteMost, .int .i64 c.lifts, .int .i64 c.liftMost, .int .i64 c.steps] (0, 0) _ rfl (setRow_heap _ _ _ _ _ _ JZ) Tryz.underlying36 rfl (by kernel_rfl)) rfl ?_
          refine ⟨?_, below_setRow_at _ _ HBq.out (by omega)⟩
          obtain ⟨y1, y2⟩ := HKr.out
          rw [Fa.run, HSP.out] at y1 y2
          dsimp only at y1 y2
          rw [← y1, ← y2]; rfl
        | some d =>
          obtain rfl := E5.out (by simp)
          have hcd : c2 = d := E2.out
          subst hcd
          have HCd := Lib.hid (spend_num HC.out HSP.out)
          have q0 := cell_of_heap HG.out 0 (v := .int .i64 c2.stops) rfl
          have q1 := cell_of_heap HG.out 1 (v := .int .i64 c2.cells) rfl
          have q2 := cell_of_heap HG.out 2 (v := .int .i64 c2.mutes) rfl
          have q3 := cell_of_heap HG.out 3 (v := .int .i64 c2.muteMost) rfl
          have q4 := cell_of_heap HG.out 4 (v := .int .i64 c2.lifts) rfl
          have q5 := cell_of_heap HG.out 5 (v := .int .i64 c2.liftMost) rfl
          have q6 := cell_of_heap HG.out 6 (v := .int .i64 c2.steps) rfl
          have JB := IBq.out
          unfold BudAt at JB
          go_wp2_with (refine wpList_store_row rfl 36 (.tmp 2) (.tmp 28) rfl w.heap.size #[.int .i64 c2.stops, .int .i64 c2.cells, .int .i64 c2.mutes, .int .i64 c2.muteMost, .int .i64 c2.lifts, .int .i64 c2.liftMost, .int .i64 c2.steps] rfl rfl 36 (budA c) JB (by kernel_rfl) rfl (by kernel_rfl) ?_)
          go_roundw
          case rel =>
            refine ⟨k + 1, c2, by omega, by go_num, Lib.hid ?_, HCd, Lib.hid (setRow_heap _ _ _ _ _ _ IBq.out), Lib.hid ((setRow_other _ _ _ _ (by omega)).trans IZq.out), Lib.hid (below_setRow_at _ _ HBq.out (by omega))⟩
            obtain ⟨y1, y2⟩ := HKr.out
            rw [Fa.run, HSP.out] at y1 y2
            dsimp only at y1 y2
            exact ⟨y1, by omega⟩
          case measure => simp [intOf]; omega
    · have HE : Hid (c = R.1 ∧ k = R.2) := Lib.hid (by
        obtain ⟨y1, y2⟩ := HK.out
        rw [List.drop_eq_nil_of_le (by rw [HN.out]; omega)] at y1 y2
        exact ⟨y1, y2⟩)
      have hke : k = n := by omega
      subst hke
      have JZ := IZ.out
      obtain ⟨p0, p1, p2, p3, p4, p5, p6⟩ := IB.out.cells
      go_wp2_with (refine wpList_store_row rfl 36 (.tmp 4) (.tmp 29) rfl (w.heap.size + 1) #[.int .i64 c.stops, .int .i64 c.cells, .int .i64 c.mutes, .int .i64 c.muteMost, .int .i64 c.lifts, .int .i64 c.liftMost, .int .i64 c.steps] rfl rfl 36 budZ JZ (by kernel_rfl) rfl (by kernel_rfl) ?_)
      refine bodyPost_ret (v := .tuple #[.agg #[.int .i64 c.stops, .int .i64 c.cells, .int .i64 c.mutes, .int .i64 c.muteMost, .int .i64 c.lifts, .int .i64 c.liftMost, .int .i64 c.steps], .int .i64 (k : Int)]) (results_rowtmp2 (p := 4) (ty := 36) (u := 5) (by kernel_rfl) _ _ (w.heap.size + 1) 36 #[.int .i64 c.stops, .int .i64 c.cells, .int .i64 c.mutes, .int .i64 c.muteMost, .int .i64 c.lifts, .int .i64 c.liftMost, .int .i64 c.steps] (0, 0) _ rfl (setRow_heap _ _ _ _ _ _ JZ) Tryz.underlying36 rfl (by kernel_rfl)) rfl ?_
      refine ⟨?_, below_setRow_at _ _ HB.out (by omega)⟩
      rw [← HE.out.1, ← HE.out.2]; rfl
end Go.Proofs.YtcdfmgobokjcnaaGreatDoor
