/- Parts Gi, Gj of this claim, laid one behind the other: walks and the plain laws behind them; each contract states its own conditions. -/
import Derived.Laws.StructEq
import Derived.ChangeKeysEq
import Derived.Test.YtcdfmgobokjcnaaGreatDoorYG
/- Walks of package taquinlaw29: sample. -/
namespace Go.Proofs.YtcdfmgobokjcnaaGreatDoor
set_option linter.unusedSimpArgs false
set_option linter.unusedVariables false
open Go.RowKit Go.Sort

theorem results_rows2 {P : Program} {fn : Func} {p q : Tmp} {ty ty2 : TypeId} (h : fn.results = #[.cell p ty, .cell q ty2]) (tmps : Array Value) (w : World) (g g2 : Nat) (t t2 : TypeId) (cs cs2 : Array Value) (fr fr2 : Nat × Nat) (d d2 : TypeDesc)
    (hp : tmps.getD p undef = .pointer (some ⟨g, 0, none⟩)) (hg : w.heap[g]? = some (.cells cs t fr)) (hq : tmps.getD q undef = .pointer (some ⟨g2, 0, none⟩)) (hg2 : w.heap[g2]? = some (.cells cs2 t2 fr2))
    (hu : P.underlying ty = some d) (hd : (match d with | .struct _ | .array _ _ => true | _ => false) = true) (hi : (P.info? ty).map (·.size) = some cs.size)
    (hu2 : P.underlying ty2 = some d2) (hd2 : (match d2 with | .struct _ | .array _ _ => true | _ => false) = true) (hi2 : (P.info? ty2).map (·.size) = some cs2.size) :
    (results fn tmps).run P w = .ok (.tuple #[.agg cs, .agg cs2]) w := by
  have e : (results fn tmps).run P w = ((asAddr (tmps.getD p undef)).run P w).andThen fun a w₁ => ((loadVar ty a).run P w₁).andThen fun v w₂ => ((asAddr (tmps.getD q undef)).run P w₂).andThen fun a2 w₃ => ((loadVar ty2 a2).run P w₃).andThen fun v2 w₄ => .ok (.tuple #[v, v2]) w₄ := by
    simp only [results, h]
    simp [Sem.run_bind, Result.andThen]
  rw [e, hp, hq]
  simp [asAddr, run_loadVar_row w g t ty cs fr d hg hu hd hi, run_loadVar_row w g2 t2 ty2 cs2 fr2 d2 hg2 hu2 hd2 hi2, Result.andThen]
theorem own_setB {w : World} {base N : Nat} {e : TypeId} {sz n : Nat} {v : Value} {xs : List Value} (h : w.ownsRow base e sz v n xs) (hN : N < base) (i : Nat) (x : Value) : (w.setCell ⟨N, i, none⟩ x).ownsRow base e sz v n xs := by
  refine ⟨h.1, ?_⟩
  rcases h.2 with h | ⟨g, cap, cur, rfl, h1, h2, h3⟩
  · exact .inl h
  · exact .inr ⟨g, cap, cur, rfl, h1, (Below.heap_setCell _ _ _ _ (by dsimp only; omega)).trans h2, h3⟩
/-- Two rows that hold other numbers lie in other blocks. -/
theorem own_apart {w : World} {base : Nat} {v1 v2 : Value} {n1 n2 : Nat} {l1 l2 : List Int} {a b : Int} (h1 : w.ownsRow base 3 1 v1 n1 (ints l1)) (h2 : w.ownsRow base 3 1 v2 n2 (ints l2)) (hab : a ≠ b) (ha : l1[0]? = some a) (hb : l2[0]? = some b) : v1.ownBlock ≠ v2.ownBlock := by
  intro e
  rcases h1.2 with ⟨rfl, h0⟩ | ⟨g, cap, cur, rfl, k1, k2, k3⟩
  · have := h1.1
    rw [h0, ints_len] at this
    have : l1 = [] := List.eq_nil_of_length_eq_zero (by omega)
    subst this; cases ha
  · rcases h2.2 with ⟨rfl, h0⟩ | ⟨g2, cap2, cur2, rfl, j1, j2, j3⟩
    · cases e
    · have e : some g = some g2 := e
      injection e with e
      subst e
      have c1 := h1.cells (g := g) rfl 0 (.int .i64 a) (by simp [ints, ha])
      have c2 := h2.cells (g := g) rfl 0 (.int .i64 b) (by simp [ints, hb])
      rw [c1] at c2
      injection c2 with c2
      injection c2 with _ c2
      exact hab c2
theorem rep0 (k : Nat) (x : Int) (h : 0 < k) : (List.replicate k x)[0]? = some x := by
  obtain ⟨m, rfl⟩ : ∃ m, k = m + 1 := ⟨k - 1, by omega⟩
  rfl
theorem ints_rep (k : Nat) (x : Int) : ints (List.replicate k x) ++ ints [x] = ints (List.replicate (k + 1) x) := by
  rw [← ints_app]
  congr 1
  rw [List.replicate_succ']
theorem own_set_other {w : World} {base g : Nat} {e : TypeId} {sz n : Nat} {v : Value} {xs : List Value} (h : w.ownsRow base e sz v n xs) (hN : v.ownBlock ≠ some g) (i : Nat) (x : Value) : (w.setCell ⟨g, i, none⟩ x).ownsRow base e sz v n xs := by
  refine ⟨h.1, ?_⟩
  rcases h.2 with h | ⟨g2, cap, cur, rfl, h1, h2, h3⟩
  · exact .inl h
  · exact .inr ⟨g2, cap, cur, rfl, h1, (Below.heap_setCell _ _ _ _ (by dsimp only; intro e; exact hN (by rw [e]; rfl))).trans h2, h3⟩
theorem own_set0 {w : World} {base g cap n : Nat} {e : TypeId} {xs : List Value} (h : w.ownsRow base e 1 (.slice (some ⟨g, 0, none⟩) n cap) n xs) (i : Nat) (x : Value) : (w.setCell ⟨g, i, none⟩ x).ownsRow base e 1 (.slice (some ⟨g, 0, none⟩) n cap) n (xs.set i x) := by
  rcases h.2 with ⟨h, -⟩ | ⟨g2, cap2, cur, e1, h1, h2, h3, h4, h5, h6⟩
  · cases h
  · injection e1 with e1 _ e3
    injection e1 with e1
    injection e1 with e1
    subst e1 e3
    refine ⟨by rw [List.length_set]; exact h.1, .inr ⟨g, cap, _, rfl, h1, set_heap h2 i x, h3, h4, by simpa using h5, ?_⟩⟩
    simp only [Array.toList_setIfInBounds]
    rw [List.take_set, h6]
/-- What sample returns. -/
def SmpPost (w : World) (e : Ending) (w' : World) : Prop :=
  ∃ kv ov ha hn hc rv, e = .returned (.tuple #[siF Fa.sampF kv ov (.slice none 0 0) (.slice none 0 0) (.slice none 0 0) (.slice ha hn hc), stV Fa.sampS (.slice none 0 0) rv (.slice none 0 0) (.slice none 0 0) (.slice none 0 0)]) ∧
    FlV w' kv ov Fa.sampF ∧ StV w' (.slice none 0 0) rv (.slice none 0 0) (.slice none 0 0) (.slice none 0 0) Fa.sampS ∧ Below w.heap.size w w'
set_option maxRecDepth 100000 in
set_option maxHeartbeats 16000000 in
theorem sample_any (w : World) : Calls Tryz.prog 28 #[] w (SmpPost w) := by
  unfold SmpPost
  obtain ⟨w3, hw3⟩ : ∃ W, W = ((w.alloc (.cells #[.int .i64 0, .int .i64 0, .int .i64 0, .slice none 0 0, .slice none 0 0, .slice none 0 0, .slice none 0 0, .slice none 0 0, .slice none 0 0] 30)).alloc (.cells #[.int .i64 0, .slice none 0 0, .slice none 0 0, .slice none 0 0, .slice none 0 0, .slice none 0 0] 34)).alloc (.cells #[.int .i64 10, .int .i64 1, .int .i64 1, .slice none 0 0, .slice none 0 0] 24) := ⟨_, rfl⟩
  have HA := Lib.hid (al3 w (.cells #[.int .i64 0, .int .i64 0, .int .i64 0, .slice none 0 0, .slice none 0 0, .slice none 0 0, .slice none 0 0, .slice none 0 0, .slice none 0 0] 30) (.cells #[.int .i64 0, .slice none 0 0, .slice none 0 0, .slice none 0 0, .slice none 0 0, .slice none 0 0] 34) (.cells #[.int .i64 10, .int .i64 1, .int .i64 1, .slice none 0 0, .slice none 0 0] 24))
  rw [← hw3] at HA
  have HW := Lib.hid hw3
  clear hw3
  go_enter Tryz.func28, Tryz.ntmps28
  go_wp2_with fail
  rw [← HW.out]
  go_loopw [3] (fun iv wr => ∃ (k : Nat) (ka oa : Option Addr) (kc oc : Nat), k ≤ 10 ∧ iv = .int .i64 k ∧ Hid (wr.heap[w.heap.size]? = some (.cells #[.int .i64 0, .int .i64 0, .int .i64 0, .slice none 0 0, .slice none 0 0, .slice none 0 0, .slice none 0 0, .slice none 0 0, .slice none 0 0] 30 (0, 0))) ∧ Hid (wr.heap[w.heap.size + 1]? = some (.cells #[.int .i64 0, .slice none 0 0, .slice none 0 0, .slice none 0 0, .slice none 0 0, .slice none 0 0] 34 (0, 0))) ∧ Hid (wr.heap[w.heap.size + 1 + 1]? = some (.cells #[.int .i64 10, .int .i64 1, .int .i64 1, .slice ka k kc, .slice oa k oc] 24 (0, 0))) ∧
    Hid (wr.ownsRow (w.heap.size + 3) 3 1 (.slice ka k kc) k (ints (List.replicate k 1))) ∧ Hid (wr.ownsRow (w.heap.size + 3) 3 1 (.slice oa k oc) k (ints (List.replicate k 5))) ∧ Hid (k = 0 → oa = none) ∧ Hid (Below w.heap.size w wr)) (fun iv _ => 10 - (intOf iv).toNat)
  case atStart => exact ⟨0, none, none, 0, 0, by omega, rfl, Lib.hid HA.out.1, Lib.hid HA.out.2.1, Lib.hid HA.out.2.2.1, Lib.hid ⟨rfl, .inl ⟨rfl, rfl⟩⟩, Lib.hid ⟨rfl, .inl ⟨rfl, rfl⟩⟩, Lib.hid (fun _ => rfl), Lib.hid HA.out.2.2.2.1⟩
  case round =>
    obtain ⟨k, ka, oa, kc, oc, hk, rfl, I0, I1, I2, HK, HO, HZ, HB⟩ := hrel
    clear HA HW
    by_cases hk10 : k < 10
    · have hlt : w.heap.size + 3 ≤ wr.heap.size := heap_lt I2.out
      have b1 := al1 wr (.cells #[.int .i64 1] 3)
      have J2 := Lib.hid (keep_heap I2.out b1.2.1)
      have HK1 := Lib.hid (own_belowB HK.out b1.2.1)
      have HO1 := Lib.hid (own_belowB HO.out b1.2.1)
      have hc1 := cell_of_heap b1.1 0 (v := .int .i64 1) rfl
      have B1 := Lib.hid b1.2.1
      have hs1 : w.heap.size + 3 ≤ (wr.alloc (.cells #[.int .i64 1] 3)).heap.size := Nat.le_trans hlt B1.out.size
      have HN1 := Lib.hid (is_new1 b1.1)
      have k3 : wr.cell? ⟨w.heap.size + 1 + 1, 3, none⟩ = some (.slice ka k kc) := cell_of_heap I2.out 3 rfl
      have hap : (Value.slice oa k oc).ownBlock = none ∨ (Value.slice oa k oc).ownBlock ≠ (Value.slice ka k kc).ownBlock := by
        by_cases h0 : k = 0
        · left; rw [HZ.out h0]; rfl
        · right; exact own_apart HO.out HK.out (by omega : (5 : Int) ≠ 1) (rep0 _ _ (by omega)) (rep0 _ _ (by omega))
      have HAP := Lib.hid hap
      clear b1 hap hc1
      go_wp2_with (at_builtin; refine wpList_append_sl rfl (.tmp 11) (.tmp 12) 22 rfl (w.heap.size + 3) 3 (.int .i64 0) 8 Tryz.underlying22 intInfoB rfl (.slice ka k kc) k (ints (List.replicate k 1)) rfl HK1.out _ (ints [1]) rfl HN1.out (ints_one _) ?d1 ?d2 hs1 ?_)
      case d1 => simp [ints]; unfold maxLen; omega
      case d2 => simp [ints]; omega
      intro v3 w3 ho3 hg3
      rw [ints_len, ints_rep] at ho3
      obtain ⟨ka', kc', rfl, -⟩ := own_slice ho3
      have HK3 := Lib.hid ho3
      have HO3 := Lib.hid (HO1.out.kept hg3 HAP.out)
      have B3 : Hid (Below (w.heap.size + 3) (wr.alloc (.cells #[.int .i64 1] 3)) w3) := Lib.hid (below_own HK1.out hg3 (Nat.le_refl _) hs1)
      have J3 := Lib.hid ((B3.out.block _ (by omega)).trans J2.out)
      have hhl3 : w.heap.size + 3 ≤ w3.heap.size := Nat.le_trans hs1 B3.out.size
      have y3 : w3.cell? ⟨w.heap.size + 1 + 1, 3, none⟩ = some (.slice ka k kc) := cell_of_heap J3.out 3 rfl
      have z3 := free_of_heap J3.out 3
      have BB3 : Hid (Below (w.heap.size + 3) wr w3) := Lib.hid ((B1.out.mono hlt).trans B3.out)
      clear ho3 hg3 HN1 k3
      go_upto_region 6 with fail
      obtain ⟨w4, hw4⟩ : ∃ W, W = w3.setCell ⟨w.heap.size + 1 + 1, 3, none⟩ (.slice ka' (k + 1) kc') := ⟨_, rfl⟩
      have J4 : Hid (w4.heap[w.heap.size + 1 + 1]? = some (.cells #[.int .i64 10, .int .i64 1, .int .i64 1, (.slice ka' (k + 1) kc'), .slice oa k oc] 24 (0, 0))) := Lib.hid (by rw [hw4]; exact set_heap J3.out 3 _)
      have HK4 := Lib.hid (own_setB HK3.out (show w.heap.size + 1 + 1 < w.heap.size + 3 by omega) 3 (.slice ka' (k + 1) kc'))
      have HO4 := Lib.hid (own_setB HO3.out (show w.heap.size + 1 + 1 < w.heap.size + 3 by omega) 3 (.slice ka' (k + 1) kc'))
      have B4 : Hid (Below (w.heap.size + 2) wr w4) := Lib.hid (by rw [hw4]; exact (BB3.out.mono (by omega)).setCell (by dsimp only; omega) _)
      have hs4 : w.heap.size + 3 ≤ w4.heap.size := by rw [hw4]; simpa using hhl3
      rw [← hw4] at HK4 HO4 ⊢
      clear hw4 y3 z3
      have b1 := al1 w4 (.cells #[.int .i64 5] 3)
      have J5 := Lib.hid (keep_heap J4.out b1.2.1)
      have HK5 := Lib.hid (own_belowB HK4.out b1.2.1)
      have HO5 := Lib.hid (own_belowB HO4.out b1.2.1)
      have B5 := Lib.hid b1.2.1
      have hs5 : w.heap.size + 3 ≤ (w4.alloc (.cells #[.int .i64 5] 3)).heap.size := Nat.le_trans hs4 B5.out.size
      have HN5 := Lib.hid (is_new1 b1.1)
      have k4 : w4.cell? ⟨w.heap.size + 1 + 1, 4, none⟩ = some (.slice oa k oc) := cell_of_heap J4.out 4 rfl
      have hap : (Value.slice ka' (k + 1) kc').ownBlock = none ∨ (Value.slice ka' (k + 1) kc').ownBlock ≠ (Value.slice oa k oc).ownBlock := by
        by_cases h0 : k = 0
        · rw [HZ.out h0]
          cases ka' with
          | none => left; rfl
          | some a => right; intro e; cases e
        · right; exact own_apart HK4.out HO4.out (by omega : (1 : Int) ≠ 5) (rep0 _ _ (by omega)) (rep0 _ _ (by omega))
      have HAP2 := Lib.hid hap
      clear b1 hap
      go_wp2_with (at_builtin; refine wpList_append_sl rfl (.tmp 16) (.tmp 17) 22 rfl (w.heap.size + 3) 3 (.int .i64 0) 8 Tryz.underlying22 intInfoB rfl (.slice oa k oc) k (ints (List.replicate k 5)) rfl HO5.out _ (ints [5]) rfl HN5.out (ints_one _) ?d3 ?d4 hs5 ?_)
      case d3 => simp [ints]; unfold maxLen; omega
      case d4 => simp [ints]; omega
      intro v6 w6 ho6 hg6
      rw [ints_len, ints_rep] at ho6
      obtain ⟨oa', oc', rfl, -⟩ := own_slice ho6
      have HO6 := Lib.hid ho6
      have HK6 := Lib.hid (HK5.out.kept hg6 HAP2.out)
      have B6 : Hid (Below (w.heap.size + 3) (w4.alloc (.cells #[.int .i64 5] 3)) w6) := Lib.hid (below_own HO5.out hg6 (Nat.le_refl _) hs5)
      have J6 := Lib.hid ((B6.out.block _ (by omega)).trans J5.out)
      have y4 : w6.cell? ⟨w.heap.size + 1 + 1, 4, none⟩ = some (.slice oa k oc) := cell_of_heap J6.out 4 rfl
      have z4 := free_of_heap J6.out 4
      have BB6 : Hid (Below (w.heap.size + 2) wr w6) := Lib.hid (B4.out.trans ((B5.out.mono (by omega)).trans (B6.out.mono (by omega))))
      clear ho6 hg6 HN5 k4
      go_wp2_with fail
      go_roundw
      case rel =>
        have hw7 : Below (w.heap.size + 2) wr (w6.setCell ⟨w.heap.size + 1 + 1, 4, none⟩ (.slice oa' (k + 1) oc')) := BB6.out.setCell (by dsimp only; omega) _
        exact ⟨k + 1, ka', oa', kc', oc', by omega, by go_num, Lib.hid ((hw7.block _ (by omega)).trans I0.out), Lib.hid ((hw7.block _ (by omega)).trans I1.out), Lib.hid (set_heap J6.out 4 _), Lib.hid (own_setB HK6.out (by omega) _ _), Lib.hid (own_setB HO6.out (by omega) _ _), Lib.hid (fun h => by omega), Lib.hid (HB.out.trans (hw7.mono (by omega)))⟩
      case measure => simp [intOf]; omega
    · have hke : k = 10 := by omega
      subst hke
      rcases HK.out.2 with ⟨e1, h0⟩ | ⟨g, cap, cur, e1, hbg, hg, hnc, hcm, hcs, htk⟩
      · cases h0
      injection e1 with e1 _ e3
      subst e1 e3
      have c0 := HK.out.cells (g := g) rfl 0 (.int .i64 1) rfl
      rw [Addr.add_lit, Nat.zero_add] at c0
      have z0 := free_of_heap hg 0
      have hne : (Value.slice oa 10 oc).ownBlock ≠ some g := own_apart HO.out HK.out (by omega : (5 : Int) ≠ 1) (rep0 _ _ (by omega)) (rep0 _ _ (by omega))
      have hm3 : wr.cell? ⟨w.heap.size + 1 + 1, 3, none⟩ = some (.slice (some ⟨g, 0, none⟩) 10 kc) := cell_of_heap I2.out 3 rfl
      have hsz := heap_lt I2.out
      have hKs := own_set0 HK.out 0 (.int .i64 3)
      have hOs := own_set_other HO.out hne 0 (.int .i64 3)
      have hJ2 := (Below.heap_setCell wr ⟨g, 0, none⟩ (.int .i64 3) (w.heap.size + 1 + 1) (by dsimp only; omega)).trans I2.out
      have hJ0 := (Below.heap_setCell wr ⟨g, 0, none⟩ (.int .i64 3) w.heap.size (by dsimp only; omega)).trans I0.out
      have hJ1 := (Below.heap_setCell wr ⟨g, 0, none⟩ (.int .i64 3) (w.heap.size + 1) (by dsimp only; omega)).trans I1.out
      have hBs : Below w.heap.size w (wr.setCell ⟨g, 0, none⟩ (.int .i64 3)) := HB.out.setCell (by dsimp only; omega) _
      obtain ⟨w5, hw5⟩ : ∃ W, W = wr.setCell ⟨g, 0, none⟩ (.int .i64 3) := ⟨_, rfl⟩
      rw [← hw5] at hKs hOs hJ2 hJ0 hJ1 hBs
      have HKs := Lib.hid hKs
      have HOs := Lib.hid hOs
      have K0 := Lib.hid hJ0
      have K1 := Lib.hid hJ1
      have K2 := Lib.hid hJ2
      have HBs := Lib.hid hBs
      have HW5 := Lib.hid hw5
      clear hKs hOs hJ2 hJ0 hJ1 hBs hw5 hcs htk hg hne
      go_upto_region 8 with fail
      rw [← HW5.out]
      have m0 := cell_of_heap K2.out 0 (v := .int .i64 10) rfl
      have m1 := cell_of_heap K2.out 1 (v := .int .i64 1) rfl
      have m2 := cell_of_heap K2.out 2 (v := .int .i64 1) rfl
      have m3 := cell_of_heap K2.out 3 (v := .slice (some ⟨g, 0, none⟩) 10 kc) rfl
      have m4 := cell_of_heap K2.out 4 (v := .slice oa 10 oc) rfl
      have hA := al3 w5 (.cells #[.int .i64 3, .int .i64 9, .int .i64 8, .int .i64 9] 93) (.cells #[.int .i64 10, .int .i64 1, .int .i64 1, .slice (some ⟨g, 0, none⟩) 10 kc, .slice oa 10 oc, .slice none 0 0, .slice none 0 0, .slice none 0 0, .slice (some ⟨w5.heap.size, 0, none⟩) 2 2] 30) (.cells #[.int .i64 3, .int .i64 (-1), .int .i64 9, .int .i64 0, .int .i64 0, .bool false, .int .i64 8, .int .i64 (-1), .int .i64 9, .int .i64 0, .int .i64 0, .bool false] 72)
      have hsz5 : w.heap.size + 3 ≤ w5.heap.size := heap_lt K2.out
      obtain ⟨w8, hw8⟩ : ∃ W, W = ((w5.alloc (.cells #[.int .i64 3, .int .i64 9, .int .i64 8, .int .i64 9] 93)).alloc (.cells #[.int .i64 10, .int .i64 1, .int .i64 1, .slice (some ⟨g, 0, none⟩) 10 kc, .slice oa 10 oc, .slice none 0 0, .slice none 0 0, .slice none 0 0, .slice (some ⟨w5.heap.size, 0, none⟩) 2 2] 30)).alloc (.cells #[.int .i64 3, .int .i64 (-1), .int .i64 9, .int .i64 0, .int .i64 0, .bool false, .int .i64 8, .int .i64 (-1), .int .i64 9, .int .i64 0, .int .i64 0, .bool false] 72) := ⟨_, rfl⟩
      rw [← hw8] at hA
      obtain ⟨hA1, hA2, hA3, hA4, hA5⟩ := hA
      have L0 := keep_heap K0.out hA4
      have L1 := keep_heap K1.out hA4
      have HW8 := Lib.hid hw8
      have HA3 := Lib.hid hA3
      have HA4 := Lib.hid hA4
      have L1' := (setRow_other w8 w.heap.size (w.heap.size + 1) #[.int .i64 10, .int .i64 1, .int .i64 1, .slice (some ⟨g, 0, none⟩) 10 kc, .slice oa 10 oc, .slice none 0 0, .slice none 0 0, .slice none 0 0, .slice (some ⟨w5.heap.size, 0, none⟩) 2 2] (by omega)).trans L1
      have HL0 := Lib.hid L0
      have HL1 := Lib.hid L1'
      clear hw8 L0 L1 L1' hA1 hA2 hA3 hA4 hA5
      go_upto_region 9 with fail
      go_wp2_with (first | (rw [← HW8.out]; refine wpList_store_row rfl 30 (.tmp 0) (.tmp 28) rfl w.heap.size #[.int .i64 10, .int .i64 1, .int .i64 1, .slice (some ⟨g, 0, none⟩) 10 kc, .slice oa 10 oc, .slice none 0 0, .slice none 0 0, .slice none 0 0, .slice (some ⟨w5.heap.size, 0, none⟩) 2 2] rfl rfl 30 #[.int .i64 0, .int .i64 0, .int .i64 0, .slice none 0 0, .slice none 0 0, .slice none 0 0, .slice none 0 0, .slice none 0 0, .slice none 0 0] HL0.out (by kernel_rfl) rfl (by kernel_rfl) ?_) | (refine wpList_store_row rfl 34 (.tmp 1) (.tmp 32) rfl (w.heap.size + 1) #[.int .i64 0, .slice none 0 0, .slice (some ⟨w5.heap.size + 1 + 1, 0, none⟩) 2 2, .slice none 0 0, .slice none 0 0, .slice none 0 0] rfl rfl 34 #[.int .i64 0, .slice none 0 0, .slice none 0 0, .slice none 0 0, .slice none 0 0, .slice none 0 0] HL1.out (by kernel_rfl) rfl (by kernel_rfl) ?_))
      have hB1 : Below (w.heap.size) w8 (w8.setRow w.heap.size #[.int .i64 10, .int .i64 1, .int .i64 1, .slice (some ⟨g, 0, none⟩) 10 kc, .slice oa 10 oc, .slice none 0 0, .slice none 0 0, .slice none 0 0, .slice (some ⟨w5.heap.size, 0, none⟩) 2 2]) := ⟨rfl, rfl, rfl, by simp, fun k hk => setRow_other _ _ _ _ (by omega)⟩
      have hB2 : Below (w.heap.size) (w8.setRow w.heap.size #[.int .i64 10, .int .i64 1, .int .i64 1, .slice (some ⟨g, 0, none⟩) 10 kc, .slice oa 10 oc, .slice none 0 0, .slice none 0 0, .slice none 0 0, .slice (some ⟨w5.heap.size, 0, none⟩) 2 2]) ((w8.setRow w.heap.size #[.int .i64 10, .int .i64 1, .int .i64 1, .slice (some ⟨g, 0, none⟩) 10 kc, .slice oa 10 oc, .slice none 0 0, .slice none 0 0, .slice none 0 0, .slice (some ⟨w5.heap.size, 0, none⟩) 2 2]).setRow (w.heap.size + 1) #[.int .i64 0, .slice none 0 0, .slice (some ⟨w5.heap.size + 1 + 1, 0, none⟩) 2 2, .slice none 0 0, .slice none 0 0, .slice none 0 0]) := ⟨rfl, rfl, rfl, by simp, fun k hk => setRow_other _ _ _ _ (by omega)⟩
      have hoth : ∀ k, w.heap.size + 3 ≤ k → ((w8.setRow w.heap.size #[.int .i64 10, .int .i64 1, .int .i64 1, .slice (some ⟨g, 0, none⟩) 10 kc, .slice oa 10 oc, .slice none 0 0, .slice none 0 0, .slice none 0 0, .slice (some ⟨w5.heap.size, 0, none⟩) 2 2]).setRow (w.heap.size + 1) #[.int .i64 0, .slice none 0 0, .slice (some ⟨w5.heap.size + 1 + 1, 0, none⟩) 2 2, .slice none 0 0, .slice none 0 0, .slice none 0 0]).heap[k]? = w8.heap[k]? := fun k hk => (setRow_other _ _ _ _ (by omega)).trans (setRow_other _ _ _ _ (by omega))
      have hS1 : ((w8.setRow w.heap.size #[.int .i64 10, .int .i64 1, .int .i64 1, .slice (some ⟨g, 0, none⟩) 10 kc, .slice oa 10 oc, .slice none 0 0, .slice none 0 0, .slice none 0 0, .slice (some ⟨w5.heap.size, 0, none⟩) 2 2]).setRow (w.heap.size + 1) #[.int .i64 0, .slice none 0 0, .slice (some ⟨w5.heap.size + 1 + 1, 0, none⟩) 2 2, .slice none 0 0, .slice none 0 0, .slice none 0 0]).heap[w.heap.size]? = some (.cells #[.int .i64 10, .int .i64 1, .int .i64 1, .slice (some ⟨g, 0, none⟩) 10 kc, .slice oa 10 oc, .slice none 0 0, .slice none 0 0, .slice none 0 0, .slice (some ⟨w5.heap.size, 0, none⟩) 2 2] 30 (0, 0)) := (setRow_other _ _ _ _ (by omega)).trans (setRow_heap _ _ _ _ _ _ HL0.out)
      have hS2 : ((w8.setRow w.heap.size #[.int .i64 10, .int .i64 1, .int .i64 1, .slice (some ⟨g, 0, none⟩) 10 kc, .slice oa 10 oc, .slice none 0 0, .slice none 0 0, .slice none 0 0, .slice (some ⟨w5.heap.size, 0, none⟩) 2 2]).setRow (w.heap.size + 1) #[.int .i64 0, .slice none 0 0, .slice (some ⟨w5.heap.size + 1 + 1, 0, none⟩) 2 2, .slice none 0 0, .slice none 0 0, .slice none 0 0]).heap[w.heap.size + 1]? = some (.cells #[.int .i64 0, .slice none 0 0, .slice (some ⟨w5.heap.size + 1 + 1, 0, none⟩) 2 2, .slice none 0 0, .slice none 0 0, .slice none 0 0] 34 (0, 0)) := setRow_heap _ _ _ _ _ _ HL1.out
      obtain ⟨w9, hw9⟩ : ∃ W, W = (w8.setRow w.heap.size #[.int .i64 10, .int .i64 1, .int .i64 1, .slice (some ⟨g, 0, none⟩) 10 kc, .slice oa 10 oc, .slice none 0 0, .slice none 0 0, .slice none 0 0, .slice (some ⟨w5.heap.size, 0, none⟩) 2 2]).setRow (w.heap.size + 1) #[.int .i64 0, .slice none 0 0, .slice (some ⟨w5.heap.size + 1 + 1, 0, none⟩) 2 2, .slice none 0 0, .slice none 0 0, .slice none 0 0] := ⟨_, rfl⟩
      rw [← hw9] at hoth hS1 hS2 hB2 ⊢
      have hrow : ∀ (v : Value) (n : Nat) (xs : List Value), w5.ownsRow (w.heap.size + 3) 3 1 v n xs → w9.ownsRow (w.heap.size + 3) 3 1 v n xs := by
        intro v n xs h
        have h8 := own_belowB h HA4.out
        refine ⟨h8.1, ?_⟩
        rcases h8.2 with h | ⟨g2, cap2, cur2, rfl, q1, q2, q3⟩
        · exact .inl h
        · exact .inr ⟨g2, cap2, cur2, rfl, q1, (hoth _ q1).trans q2, q3⟩
      refine bodyPost_ret (v := .tuple #[.agg #[.int .i64 10, .int .i64 1, .int .i64 1, .slice (some ⟨g, 0, none⟩) 10 kc, .slice oa 10 oc, .slice none 0 0, .slice none 0 0, .slice none 0 0, .slice (some ⟨w5.heap.size, 0, none⟩) 2 2], .agg #[.int .i64 0, .slice none 0 0, .slice (some ⟨w5.heap.size + 1 + 1, 0, none⟩) 2 2, .slice none 0 0, .slice none 0 0, .slice none 0 0]]) (results_rows2 (p := 0) (q := 1) (ty := 30) (ty2 := 34) (by kernel_rfl) _ _ w.heap.size (w.heap.size + 1) 30 34 _ _ (0, 0) (0, 0) _ _ rfl hS1 rfl hS2 Tryz.underlying30 rfl (by kernel_rfl) Tryz.underlying34 rfl (by kernel_rfl)) rfl ?_
      refine ⟨_, _, _, _, _, _, rfl, ⟨?_, ?_⟩, ⟨Sl.nil _, ?_, Sl.nil _, Sl.nil _, Rw.nil _ _⟩, ?_⟩
      · exact Sl.of_own (hrow _ _ _ HKs.out) (by unfold maxLen; omega)
      · exact Sl.of_own (hrow _ _ _ HOs.out) (by unfold maxLen; omega)
      · have hb9 := (hoth _ (by omega : w.heap.size + 3 ≤ w5.heap.size + 1 + 1)).trans HA3.out
        refine ⟨some ⟨w5.heap.size + 1 + 1, 0, none⟩, 2, rfl, by simp [maxLen, Fa.sampS], (fun h => by cases h), fun i hi => ⟨_, 0, rfl, heap_lt hb9, fun j hj => ?_⟩⟩
        have hi2 : i = 0 ∨ i = 1 := by simp [Fa.sampS] at hi; omega
        have hj2 : j = 0 ∨ j = 1 ∨ j = 2 ∨ j = 3 ∨ j = 4 ∨ j = 5 := by omega
        rcases hi2 with rfl | rfl <;> rcases hj2 with rfl | rfl | rfl | rfl | rfl | rfl <;> exact cell_of_heap hb9 _ rfl
      · exact HBs.out.trans ((HA4.out.mono (by omega)).trans (hB1.trans hB2))
end Go.Proofs.YtcdfmgobokjcnaaGreatDoor
/- Structs of numbers compared; taquinref29.Same. -/
namespace Go.Proofs.YtcdfmgobokjcnaaGreatDoor
set_option linter.unusedSimpArgs false
set_option linter.unusedVariables false
open Go.RowKit Go.Sort

/-- Fields that are numbers, one cell after the other. -/
def fieldsI (ti : TypeId) (j n : Nat) : List (Bool × TypeId × Nat) := (List.range n).map fun i => (false, ti, j + i)
theorem fieldsI_succ (ti : TypeId) (j n : Nat) : fieldsI ti j (n + 1) = (false, ti, j) :: fieldsI ti (j + 1) n := by
  unfold fieldsI
  rw [List.range_succ_eq_map, List.map_cons, List.map_map]
  congr 1
  apply List.map_congr_left
  intro i _
  simp only [Function.comp_apply, Nat.succ_eq_add_one]
  rw [show j + (i + 1) = j + 1 + i by omega]
theorem eq_ints {P : Program} {d : Nat} {ti : TypeId} (hs : P.underlying ti = some (.int .i64)) (hk : P.plainKey ti = true) (xs ys : Array Value) (w : World) :
    ∀ (al bl : List Int) (fs : List Field) (j : Nat), al.length = bl.length → fs.map (fun f => (f.name == "_", f.type, f.offset)) = fieldsI ti j al.length →
      (∀ i, i < al.length → xs[j + i]? = some (.int .i64 (al.getD i 0)) ∧ ys[j + i]? = some (.int .i64 (bl.getD i 0))) → (Op.eqFields (d + 1) xs ys fs).run P w = .ok (decide (al = bl)) w
  | [], [], fs, j, _, hf, _ => by
    simp [fieldsI] at hf
    subst hf
    simp [Op.eqFields]
  | a :: al, b :: bl, fs, j, hl, hf, hx => by
    rw [List.length_cons, fieldsI_succ] at hf
    cases fs with
    | nil => cases hf
    | cons f fs =>
      rw [List.map_cons] at hf
      injection hf with h1 h2
      simp at h1
      obtain ⟨n1, n2, n3⟩ := h1
      obtain ⟨x0, y0⟩ := hx 0 (by simp)
      simp at x0 y0
      have q1 : (part ti xs j).run P w = .ok (.int .i64 a) w := run_part_plain w hk x0
      have q2 : (part ti ys j).run P w = .ok (.int .i64 b) w := run_part_plain w hk y0
      have r1 := run_equalIn_int (P := P) w d ti .i64 .i64 a b hs
      have ih := eq_ints (d := d) hs hk xs ys w al bl fs (j + 1) (by simpa using hl) h2 (fun i hi => by
        have := hx (i + 1) (by simpa using hi)
        rw [show j + (i + 1) = j + 1 + i by omega] at this
        simpa using this)
      simp only [Op.eqFields, n1, n2, n3, ne_eq, not_false_eq_true, if_true, Sem.run_bind, q1, q2, r1, Result.andThen_ok]
      by_cases hab : a = b
      · subst hab
        simp [ih]
      · simp [hab]
  | [], b :: bl, _, _, h, _, _ => by cases h
  | a :: al, [], _, _, h, _, _ => by cases h
def fltL (x : Fa.Flt) : List Int := [x.kind, x.a, x.n]
def budL (b : Fa.Bud) : List Int := [b.stops, b.cells, b.mutes, b.muteMost, b.lifts, b.liftMost, b.steps]
theorem fltL_eq (x y : Fa.Flt) : decide (fltL x = fltL y) = decide (x = y) := by
  congr 1
  obtain ⟨a, b, c⟩ := x
  obtain ⟨d, e, f⟩ := y
  simp [fltL]
theorem budL_eq (x y : Fa.Bud) : decide (budL x = budL y) = decide (x = y) := by
  congr 1
  obtain ⟨a, b, c, d, e, f, g⟩ := x
  obtain ⟨a', b', c', d', e', f', g'⟩ := y
  simp [budL]
set_option maxRecDepth 100000 in
theorem flt_in (x y : Fa.Flt) (w : World) : (Op.equalIn 10000 38 (.agg #[.int .i64 x.kind, .int .i64 x.a, .int .i64 x.n]) (.agg #[.int .i64 y.kind, .int .i64 y.a, .int .i64 y.n])).run Tryz.prog w = .ok (decide (x = y)) w := by
  have hu : Tryz.prog.underlying 38 = some (.struct (Tryz.prog.fieldsOf 38)) := by kernel_rfl
  have hp : Tryz.prog.stoodInHeld 38 = false := by kernel_rfl
  have hk : Tryz.prog.plainKey 3 = true := by kernel_rfl
  have hm : (Tryz.prog.fieldsOf 38).toList.map (fun f => (f.name == "_", f.type, f.offset)) = fieldsI 3 0 3 := by kernel_rfl
  rw [run_equalIn_agg _ _ _ _ _ hu hp, eq_ints Tryz.underlying3 hk _ _ w (fltL x) (fltL y) _ 0 rfl hm (fun i hi => by
    have : i = 0 ∨ i = 1 ∨ i = 2 := by simp [fltL] at hi; omega
    rcases this with rfl | rfl | rfl <;> exact ⟨rfl, rfl⟩), fltL_eq]
theorem flt_neq (x y : Fa.Flt) (w : World) : (binOp .neq 38 (.agg #[.int .i64 x.kind, .int .i64 x.a, .int .i64 x.n]) (.agg #[.int .i64 y.kind, .int .i64 y.a, .int .i64 y.n])).run Tryz.prog w = .ok (.bool (!decide (x = y))) w := by
  rw [run_neq_struct, flt_in]; rfl
set_option maxRecDepth 100000 in
theorem bud_in (x y : Fa.Bud) (w : World) : (Op.equalIn 10000 36 (.agg (budA x)) (.agg (budA y))).run Tryz.prog w = .ok (decide (x = y)) w := by
  have hu : Tryz.prog.underlying 36 = some (.struct (Tryz.prog.fieldsOf 36)) := by kernel_rfl
  have hp : Tryz.prog.stoodInHeld 36 = false := by kernel_rfl
  have hk : Tryz.prog.plainKey 3 = true := by kernel_rfl
  have hm : (Tryz.prog.fieldsOf 36).toList.map (fun f => (f.name == "_", f.type, f.offset)) = fieldsI 3 0 7 := by kernel_rfl
  rw [run_equalIn_agg _ _ _ _ _ hu hp, eq_ints Tryz.underlying3 hk _ _ w (budL x) (budL y) _ 0 rfl hm (fun i hi => by
    have : i = 0 ∨ i = 1 ∨ i = 2 ∨ i = 3 ∨ i = 4 ∨ i = 5 ∨ i = 6 := by simp [budL] at hi; omega
    rcases this with rfl | rfl | rfl | rfl | rfl | rfl | rfl <;> exact ⟨rfl, rfl⟩), budL_eq]
theorem bud_eql (x y : Fa.Bud) (w : World) : (binOp .eql 36 (.agg #[.int .i64 x.stops, .int .i64 x.cells, .int .i64 x.mutes, .int .i64 x.muteMost, .int .i64 x.lifts, .int .i64 x.liftMost, .int .i64 x.steps]) (.agg #[.int .i64 y.stops, .int .i64 y.cells, .int .i64 y.mutes, .int .i64 y.muteMost, .int .i64 y.lifts, .int .i64 y.liftMost, .int .i64 y.steps])).run Tryz.prog w = .ok (.bool (decide (x = y))) w := by
  rw [run_eql_struct, ← budA, ← budA, bud_in]; rfl
set_option maxRecDepth 100000 in
set_option maxHeartbeats 8000000 in
theorem sameF_any (v1 v2 : Value) (l m : List Fa.Flt) (w : World) (h1 : FtV w v1 l) (h2 : FtV w v2 m) :
    Calls Tryz.prog 25 #[v1, v2] w fun e w' => e = .returned (.bool (decide (l = m))) ∧ Below w.heap.size w w' := by
  obtain ⟨a1, c1, rfl, hm1⟩ := h1.form
  obtain ⟨a2, c2, rfl, hm2⟩ := h2.form
  have H1 := Lib.hid h1
  have H2 := Lib.hid h2
  obtain ⟨R, hR⟩ : ∃ R, decide (l = m) = R := ⟨_, rfl⟩
  have HL : Hid (l.length ≠ m.length → R = false) := Lib.hid (fun h => by rw [← hR]; exact decide_eq_false (fun e => h (by rw [e])))
  have HR0 : Hid (decide (l.drop 0 = m.drop 0) = R) := Lib.hid hR
  rw [hR]
  obtain ⟨n1, e1⟩ : ∃ n, l.length = n := ⟨_, rfl⟩
  obtain ⟨n2, e2⟩ : ∃ n, m.length = n := ⟨_, rfl⟩
  rw [e1] at hm1 H1 HL ⊢
  rw [e2] at hm2 H2 HL ⊢
  have E1 := Lib.hid e1
  have E2 := Lib.hid e2
  clear h1 h2 hR e1 e2
  by_cases hn : n1 = n2
  · subst hn
    go_enter Tryz.func25, Tryz.ntmps25
    go_wp2_with fail
    go_loopw [5] (fun iv wr => ∃ k : Nat, k ≤ n1 ∧ iv = .int .i64 k ∧ Hid (decide (l.drop k = m.drop k) = R) ∧ Hid (Below w.heap.size w wr)) (fun iv _ => n1 - (intOf iv).toNat)
    case atStart => exact ⟨0, by omega, rfl, HR0, Lib.hid (Below.refl _ _)⟩
    case round =>
      obtain ⟨k, hk, rfl, HK, HB⟩ := hrel
      by_cases hkn : k < n1
      · have k1 : k < l.length := by rw [E1.out]; exact hkn
        have k2 : k < m.length := by rw [E2.out]; exact hkn
        obtain ⟨b1, o1, rfl, hb1, x0, x1, x2⟩ := (H1.out.keep HB.out).cell k k1
        obtain ⟨b2, o2, rfl, hb2, y0, y1, y2⟩ := (H2.out.keep HB.out).cell k k2
        have d1 := List.drop_eq_getElem_cons k1
        have d2 := List.drop_eq_getElem_cons k2
        obtain ⟨X, hX⟩ : ∃ X, l[k] = X := ⟨_, rfl⟩
        obtain ⟨Y, hY⟩ : ∃ X, m[k] = X := ⟨_, rfl⟩
        rw [hX] at x0 x1 x2 d1
        rw [hY] at y0 y1 y2 d2
        have HK2 := HK.out
        rw [d1, d2] at HK2
        have HKH := Lib.hid HK2
        have hnq := fun W => flt_neq X Y W
        have i0 : (0 : Int) ≤ (k : Int) := by omega
        have i1 : (k : Int) < (n1 : Int) := by omega
        obtain ⟨z, hz⟩ : ∃ z, decide (X = Y) = z := ⟨_, rfl⟩
        have HZ := Lib.hid hz
        rw [hz] at hnq
        clear hX hY d1 d2 HK2 hz k1 k2
        go_upto_region 6 with fail
        go_quiet (fail)
        generalize hw2 : wr.drewN nq = w2
        have HB2 : Hid (Below w.heap.size w w2) := Lib.hid (by rw [← hw2]; exact HB.out.trans ((below_drewN _ _ _).mono HB.out.size))
        clear hw2 x0 x1 x2 y0 y1 y2 hnq
        cases z with
        | true =>
          have HN : Hid (decide (l.drop (k + 1) = m.drop (k + 1)) = R) := Lib.hid (by
            rw [← HKH.out]
            have := of_decide_eq_true HZ.out
            subst this
            simp)
          go_wp2_with fail
          go_roundw
          case rel => exact ⟨k + 1, by omega, by go_num, HN, HB2⟩
          case measure => simp [intOf]; omega
        | false =>
          have HN : Hid (R = false) := Lib.hid (by
            rw [← HKH.out]
            have := of_decide_eq_false HZ.out
            simp [this])
          go_wp2_with fail
          go_ret
          exact ⟨by rw [HN.out]; rfl, HB2.out⟩
      · have HN : Hid (R = true) := Lib.hid (by
          rw [← HK.out, show l.drop k = [] from List.drop_eq_nil_of_le (by rw [E1.out]; omega), show m.drop k = [] from List.drop_eq_nil_of_le (by rw [E2.out]; omega)]; rfl)
        go_wp2_with fail
        go_ret
        exact ⟨by rw [HN.out]; rfl, HB.out⟩
  · have HR := Lib.hid (HL.out hn)
    have e1 : ((n1 : Int) != (n2 : Int)) = true := by simp; omega
    clear hn
    go_enter Tryz.func25, Tryz.ntmps25
    go_wp2_with fail
    go_ret
    exact ⟨by rw [HR.out]; rfl, Below.refl _ _⟩
end Go.Proofs.YtcdfmgobokjcnaaGreatDoor
