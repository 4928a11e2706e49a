/- Walks of package taquinlaw29: sample. -/
import Derived.Test.YtcdfmgobokjcnaaGh
namespace Go.Proofs.Ytcdfmgobokjcnaa
set_option linter.unusedSimpArgs false
set_option linter.unusedVariables false
open Go.RowKit Go.Sort

theorem results_rows2 {P : Program} {fn : Func} {p q : Tmp} {ty ty2 : TypeId} (h : fn.results = #[.cell p ty, .cell q ty2]) (tmps : Array Value) (w : World) (g g2 : Nat) (t t2 : TypeId) (cs cs2 : Array Value) (fr fr2 : Nat × Nat) (d d2 : TypeDesc)
    (hp : tmps.getD p undef = .pointer (some ⟨g, 0, none⟩)) (hg : w.heap[g]? = some (.cells cs t fr)) (hq : tmps.getD q undef = .pointer (some ⟨g2, 0, none⟩)) (hg2 : w.heap[g2]? = some (.cells cs2 t2 fr2))
    (hu : P.underlying ty = some d) (hd : (match d with | .struct _ | .array _ _ => true | _ => false) = true) (hi : (P.info? ty).map (·.size) = some cs.size)
    (hu2 : P.underlying ty2 = some d2) (hd2 : (match d2 with | .struct _ | .array _ _ => true | _ => false) = true) (hi2 : (P.info? ty2).map (·.size) = some cs2.size) :
    (results fn tmps).run P w = .ok (.tuple #[.agg cs, .agg cs2]) w := by
  have e : (results fn tmps).run P w = ((asAddr (tmps.getD p undef)).run P w).andThen fun a w₁ => ((loadVar ty a).run P w₁).andThen fun v w₂ => ((asAddr (tmps.getD q undef)).run P w₂).andThen fun a2 w₃ => ((loadVar ty2 a2).run P w₃).andThen fun v2 w₄ => .ok (.tuple #[v, v2]) w₄ := by
    simp only [results, h]
    simp [Sem.run_bind, Result.andThen]
  rw [e, hp, hq]
  simp [asAddr, run_loadVar_row w g t ty cs fr d hg hu hd hi, run_loadVar_row w g2 t2 ty2 cs2 fr2 d2 hg2 hu2 hd2 hi2, Result.andThen]
theorem own_setB {w : World} {base N : Nat} {e : TypeId} {sz n : Nat} {v : Value} {xs : List Value} (h : w.ownsRow base e sz v n xs) (hN : N < base) (i : Nat) (x : Value) : (w.setCell ⟨N, i, none⟩ x).ownsRow base e sz v n xs := by
  refine ⟨h.1, ?_⟩
  rcases h.2 with h | ⟨g, cap, cur, rfl, h1, h2, h3⟩
  · exact .inl h
  · exact .inr ⟨g, cap, cur, rfl, h1, (Below.heap_setCell _ _ _ _ (by dsimp only; omega)).trans h2, h3⟩
/-- Two rows that hold other numbers lie in other blocks. -/
theorem own_apart {w : World} {base : Nat} {v1 v2 : Value} {n1 n2 : Nat} {l1 l2 : List Int} {a b : Int} (h1 : w.ownsRow base 3 1 v1 n1 (ints l1)) (h2 : w.ownsRow base 3 1 v2 n2 (ints l2)) (hab : a ≠ b) (ha : l1[0]? = some a) (hb : l2[0]? = some b) : v1.ownBlock ≠ v2.ownBlock := by
  intro e
  rcases h1.2 with ⟨rfl, h0⟩ | ⟨g, cap, cur, rfl, k1, k2, k3⟩
  · have := h1.1
    rw [h0, ints_len] at this
    have : l1 = [] := List.eq_nil_of_length_eq_zero (by omega)
    subst this; cases ha
  · rcases h2.2 with ⟨rfl, h0⟩ | ⟨g2, cap2, cur2, rfl, j1, j2, j3⟩
    · cases e
    · have e : some g = some g2 := e
      injection e with e
      subst e
      have c1 := h1.cells (g := g) rfl 0 (.int .i64 a) (by simp [ints, ha])
      have c2 := h2.cells (g := g) rfl 0 (.int .i64 b) (by simp [ints, hb])
      rw [c1] at c2
      injection c2 with c2
      injection c2 with _ c2
      exact hab c2
theorem rep0 (k : Nat) (x : Int) (h : 0 < k) : (List.replicate k x)[0]? = some x := by
  obtain ⟨m, rfl⟩ : ∃ m, k = m + 1 := ⟨k - 1, by omega⟩
  rfl
theorem ints_rep (k : Nat) (x : Int) : ints (List.replicate k x) ++ ints [x] = ints (List.replicate (k + 1) x) := by
  rw [← ints_app]
  congr 1
  rw [List.replicate_succ']
theorem own_set_other {w : World} {base g : Nat} {e : TypeId} {sz n : Nat} {v : Value} {xs : List Value} (h : w.ownsRow base e sz v n xs) (hN : v.ownBlock ≠ some g) (i : Nat) (x : Value) : (w.setCell ⟨g, i, none⟩ x).ownsRow base e sz v n xs := by
  refine ⟨h.1, ?_⟩
  rcases h.2 with h | ⟨g2, cap, cur, rfl, h1, h2, h3⟩
  · exact .inl h
  · exact .inr ⟨g2, cap, cur, rfl, h1, (Below.heap_setCell _ _ _ _ (by dsimp only; intro e; exact hN (by rw [e]; rfl))).trans h2, h3⟩
theorem own_set0 {w : World} {base g cap n : Nat} {e : TypeId} {xs : List Value} (h : w.ownsRow base e 1 (.slice (some ⟨g, 0, none⟩) n cap) n xs) (i : Nat) (x : Value) : (w.setCell ⟨g, i, none⟩ x).ownsRow base e 1 (.slice (some ⟨g, 0, none⟩) n cap) n (xs.set i x) := by
  rcases h.2 with ⟨h, -⟩ | ⟨g2, cap2, cur, e1, h1, h2, h3, h4, h5, h6⟩
  · cases h
  · injection e1 with e1 _ e3
    injection e1 with e1
    injection e1 with e1
    subst e1 e3
    refine ⟨by rw [List.length_set]; exact h.1, .inr ⟨g, cap, _, rfl, h1, set_heap h2 i x, h3, h4, by simpa using h5, ?_⟩⟩
    simp only [Array.toList_setIfInBounds]
    rw [List.take_set, h6]
/-- What sample returns. -/
def SmpPost (w : World) (e : Ending) (w' : World) : Prop :=
  ∃ kv ov ha hn hc rv, e = .returned (.tuple #[siF Fa.sampF kv ov (.slice none 0 0) (.slice none 0 0) (.slice none 0 0) (.slice ha hn hc), stV Fa.sampS (.slice none 0 0) rv (.slice none 0 0) (.slice none 0 0) (.slice none 0 0)]) ∧
    FlV w' kv ov Fa.sampF ∧ StV w' (.slice none 0 0) rv (.slice none 0 0) (.slice none 0 0) (.slice none 0 0) Fa.sampS ∧ Below w.heap.size w w'
set_option maxRecDepth 100000 in
set_option maxHeartbeats 16000000 in
theorem sample_any (w : World) : Calls Try.prog 10 #[] w (SmpPost w) := by
  unfold SmpPost
  obtain ⟨w3, hw3⟩ : ∃ W, W = ((w.alloc (.cells #[.int .i64 0, .int .i64 0, .int .i64 0, .slice none 0 0, .slice none 0 0, .slice none 0 0, .slice none 0 0, .slice none 0 0, .slice none 0 0] 43)).alloc (.cells #[.int .i64 0, .slice none 0 0, .slice none 0 0, .slice none 0 0, .slice none 0 0, .slice none 0 0] 47)).alloc (.cells #[.int .i64 10, .int .i64 1, .int .i64 1, .slice none 0 0, .slice none 0 0] 37) := ⟨_, rfl⟩
  have HA := Lib.hid (al3 w (.cells #[.int .i64 0, .int .i64 0, .int .i64 0, .slice none 0 0, .slice none 0 0, .slice none 0 0, .slice none 0 0, .slice none 0 0, .slice none 0 0] 43) (.cells #[.int .i64 0, .slice none 0 0, .slice none 0 0, .slice none 0 0, .slice none 0 0, .slice none 0 0] 47) (.cells #[.int .i64 10, .int .i64 1, .int .i64 1, .slice none 0 0, .slice none 0 0] 37))
  rw [← hw3] at HA
  have HW := Lib.hid hw3
  clear hw3
  go_enter Try.func10, Try.ntmps10
  go_wp2_with fail
  rw [← HW.out]
  go_loopw [3] (fun iv wr => ∃ (k : Nat) (ka oa : Option Addr) (kc oc : Nat), k ≤ 10 ∧ iv = .int .i64 k ∧ Hid (wr.heap[w.heap.size]? = some (.cells #[.int .i64 0, .int .i64 0, .int .i64 0, .slice none 0 0, .slice none 0 0, .slice none 0 0, .slice none 0 0, .slice none 0 0, .slice none 0 0] 43 (0, 0))) ∧ Hid (wr.heap[w.heap.size + 1]? = some (.cells #[.int .i64 0, .slice none 0 0, .slice none 0 0, .slice none 0 0, .slice none 0 0, .slice none 0 0] 47 (0, 0))) ∧ Hid (wr.heap[w.heap.size + 1 + 1]? = some (.cells #[.int .i64 10, .int .i64 1, .int .i64 1, .slice ka k kc, .slice oa k oc] 37 (0, 0))) ∧
    Hid (wr.ownsRow (w.heap.size + 3) 3 1 (.slice ka k kc) k (ints (List.replicate k 1))) ∧ Hid (wr.ownsRow (w.heap.size + 3) 3 1 (.slice oa k oc) k (ints (List.replicate k 5))) ∧ Hid (k = 0 → oa = none) ∧ Hid (Below w.heap.size w wr)) (fun iv _ => 10 - (intOf iv).toNat)
  case atStart => exact ⟨0, none, none, 0, 0, by omega, rfl, Lib.hid HA.out.1, Lib.hid HA.out.2.1, Lib.hid HA.out.2.2.1, Lib.hid ⟨rfl, .inl ⟨rfl, rfl⟩⟩, Lib.hid ⟨rfl, .inl ⟨rfl, rfl⟩⟩, Lib.hid (fun _ => rfl), Lib.hid HA.out.2.2.2.1⟩
  case round =>
    obtain ⟨k, ka, oa, kc, oc, hk, rfl, I0, I1, I2, HK, HO, HZ, HB⟩ := hrel
    clear HA HW
    by_cases hk10 : k < 10
    · have hlt : w.heap.size + 3 ≤ wr.heap.size := heap_lt I2.out
      have b1 := al1 wr (.cells #[.int .i64 1] 3)
      have J2 := Lib.hid (keep_heap I2.out b1.2.1)
      have HK1 := Lib.hid (own_belowB HK.out b1.2.1)
      have HO1 := Lib.hid (own_belowB HO.out b1.2.1)
      have hc1 := cell_of_heap b1.1 0 (v := .int .i64 1) rfl
      have B1 := Lib.hid b1.2.1
      have hs1 : w.heap.size + 3 ≤ (wr.alloc (.cells #[.int .i64 1] 3)).heap.size := Nat.le_trans hlt B1.out.size
      have HN1 := Lib.hid (is_new1 b1.1)
      have k3 : wr.cell? ⟨w.heap.size + 1 + 1, 3, none⟩ = some (.slice ka k kc) := cell_of_heap I2.out 3 rfl
      have hap : (Value.slice oa k oc).ownBlock = none ∨ (Value.slice oa k oc).ownBlock ≠ (Value.slice ka k kc).ownBlock := by
        by_cases h0 : k = 0
        · left; rw [HZ.out h0]; rfl
        · right; exact own_apart HO.out HK.out (by omega : (5 : Int) ≠ 1) (rep0 _ _ (by omega)) (rep0 _ _ (by omega))
      have HAP := Lib.hid hap
      clear b1 hap hc1
      go_wp2_with (at_builtin; refine wpList_append_sl rfl (.tmp 11) (.tmp 12) 29 rfl (w.heap.size + 3) 3 (.int .i64 0) 8 Try.underlying29 intInfoB rfl (.slice ka k kc) k (ints (List.replicate k 1)) rfl HK1.out _ (ints [1]) rfl HN1.out (ints_one _) ?d1 ?d2 hs1 ?_)
      case d1 => simp [ints]; unfold maxLen; omega
      case d2 => simp [ints]; omega
      intro v3 w3 ho3 hg3
      rw [ints_len, ints_rep] at ho3
      obtain ⟨ka', kc', rfl, -⟩ := own_slice ho3
      have HK3 := Lib.hid ho3
      have HO3 := Lib.hid (HO1.out.kept hg3 HAP.out)
      have B3 : Hid (Below (w.heap.size + 3) (wr.alloc (.cells #[.int .i64 1] 3)) w3) := Lib.hid (below_own HK1.out hg3 (Nat.le_refl _) hs1)
      have J3 := Lib.hid ((B3.out.block _ (by omega)).trans J2.out)
      have hhl3 : w.heap.size + 3 ≤ w3.heap.size := Nat.le_trans hs1 B3.out.size
      have y3 : w3.cell? ⟨w.heap.size + 1 + 1, 3, none⟩ = some (.slice ka k kc) := cell_of_heap J3.out 3 rfl
      have z3 := free_of_heap J3.out 3
      have BB3 : Hid (Below (w.heap.size + 3) wr w3) := Lib.hid ((B1.out.mono hlt).trans B3.out)
      clear ho3 hg3 HN1 k3
      go_upto_region 6 with fail
      obtain ⟨w4, hw4⟩ : ∃ W, W = w3.setCell ⟨w.heap.size + 1 + 1, 3, none⟩ (.slice ka' (k + 1) kc') := ⟨_, rfl⟩
      have J4 : Hid (w4.heap[w.heap.size + 1 + 1]? = some (.cells #[.int .i64 10, .int .i64 1, .int .i64 1, (.slice ka' (k + 1) kc'), .slice oa k oc] 37 (0, 0))) := Lib.hid (by rw [hw4]; exact set_heap J3.out 3 _)
      have HK4 := Lib.hid (own_setB HK3.out (show w.heap.size + 1 + 1 < w.heap.size + 3 by omega) 3 (.slice ka' (k + 1) kc'))
      have HO4 := Lib.hid (own_setB HO3.out (show w.heap.size + 1 + 1 < w.heap.size + 3 by omega) 3 (.slice ka' (k + 1) kc'))
      have B4 : Hid (Below (w.heap.size + 2) wr w4) := Lib.hid (by rw [hw4]; exact (BB3.out.mono (by omega)).setCell (by dsimp only; omega) _)
      have hs4 : w.heap.size + 3 ≤ w4.heap.size := by rw [hw4]; simpa using hhl3
      rw [← hw4] at HK4 HO4 ⊢
      clear hw4 y3 z3
      have b1 := al1 w4 (.cells #[.int .i64 5] 3)
      have J5 := Lib.hid (keep_heap J4.out b1.2.1)
      have HK5 := Lib.hid (own_belowB HK4.out b1.2.1)
      have HO5 := Lib.hid (own_belowB HO4.out b1.2.1)
      have B5 := Lib.hid b1.2.1
      have hs5 : w.heap.size + 3 ≤ (w4.alloc (.cells #[.int .i64 5] 3)).heap.size := Nat.le_trans hs4 B5.out.size
      have HN5 := Lib.hid (is_new1 b1.1)
      have k4 : w4.cell? ⟨w.heap.size + 1 + 1, 4, none⟩ = some (.slice oa k oc) := cell_of_heap J4.out 4 rfl
      have hap : (Value.slice ka' (k + 1) kc').ownBlock = none ∨ (Value.slice ka' (k + 1) kc').ownBlock ≠ (Value.slice oa k oc).ownBlock := by
        by_cases h0 : k = 0
        · rw [HZ.out h0]
          cases ka' with
          | none => left; rfl
          | some a => right; intro e; cases e
        · right; exact own_apart HK4.out HO4.out (by omega : (1 : Int) ≠ 5) (rep0 _ _ (by omega)) (rep0 _ _ (by omega))
      have HAP2 := Lib.hid hap
      clear b1 hap
      go_wp2_with (at_builtin; refine wpList_append_sl rfl (.tmp 16) (.tmp 17) 29 rfl (w.heap.size + 3) 3 (.int .i64 0) 8 Try.underlying29 intInfoB rfl (.slice oa k oc) k (ints (List.replicate k 5)) rfl HO5.out _ (ints [5]) rfl HN5.out (ints_one _) ?d3 ?d4 hs5 ?_)
      case d3 => simp [ints]; unfold maxLen; omega
      case d4 => simp [ints]; omega
      intro v6 w6 ho6 hg6
      rw [ints_len, ints_rep] at ho6
      obtain ⟨oa', oc', rfl, -⟩ := own_slice ho6
      have HO6 := Lib.hid ho6
      have HK6 := Lib.hid (HK5.out.kept hg6 HAP2.out)
      have B6 : Hid (Below (w.heap.size + 3) (w4.alloc (.cells #[.int .i64 5] 3)) w6) := Lib.hid (below_own HO5.out hg6 (Nat.le_refl _) hs5)
      have J6 := Lib.hid ((B6.out.block _ (by omega)).trans J5.out)
      have y4 : w6.cell? ⟨w.heap.size + 1 + 1, 4, none⟩ = some (.slice oa k oc) := cell_of_heap J6.out 4 rfl
      have z4 := free_of_heap J6.out 4
      have BB6 : Hid (Below (w.heap.size + 2) wr w6) := Lib.hid (B4.out.trans ((B5.out.mono (by omega)).trans (B6.out.mono (by omega))))
      clear ho6 hg6 HN5 k4
      go_wp2_with fail
      go_roundw
      case rel =>
        have hw7 : Below (w.heap.size + 2) wr (w6.setCell ⟨w.heap.size + 1 + 1, 4, none⟩ (.slice oa' (k + 1) oc')) := BB6.out.setCell (by dsimp only; omega) _
        exact ⟨k + 1, ka', oa', kc', oc', by omega, by go_num, Lib.hid ((hw7.block _ (by omega)).trans I0.out), Lib.hid ((hw7.block _ (by omega)).trans I1.out), Lib.hid (set_heap J6.out 4 _), Lib.hid (own_setB HK6.out (by omega) _ _), Lib.hid (own_setB HO6.out (by omega) _ _), Lib.hid (fun h => by omega), Lib.hid (HB.out.trans (hw7.mono (by omega)))⟩
      case measure => simp [intOf]; omega
    · have hke : k = 10 := by omega
      subst hke
      rcases HK.out.2 with ⟨e1, h0⟩ | ⟨g, cap, cur, e1, hbg, hg, hnc, hcm, hcs, htk⟩
      · cases h0
      injection e1 with e1 _ e3
      subst e1 e3
      have c0 := HK.out.cells (g := g) rfl 0 (.int .i64 1) rfl
      rw [Addr.add_lit, Nat.zero_add] at c0
      have z0 := free_of_heap hg 0
      have hne : (Value.slice oa 10 oc).ownBlock ≠ some g := own_apart HO.out HK.out (by omega : (5 : Int) ≠ 1) (rep0 _ _ (by omega)) (rep0 _ _ (by omega))
      have hm3 : wr.cell? ⟨w.heap.size + 1 + 1, 3, none⟩ = some (.slice (some ⟨g, 0, none⟩) 10 kc) := cell_of_heap I2.out 3 rfl
      have hsz := heap_lt I2.out
      have hKs := own_set0 HK.out 0 (.int .i64 3)
      have hOs := own_set_other HO.out hne 0 (.int .i64 3)
      have hJ2 := (Below.heap_setCell wr ⟨g, 0, none⟩ (.int .i64 3) (w.heap.size + 1 + 1) (by dsimp only; omega)).trans I2.out
      have hJ0 := (Below.heap_setCell wr ⟨g, 0, none⟩ (.int .i64 3) w.heap.size (by dsimp only; omega)).trans I0.out
      have hJ1 := (Below.heap_setCell wr ⟨g, 0, none⟩ (.int .i64 3) (w.heap.size + 1) (by dsimp only; omega)).trans I1.out
      have hBs : Below w.heap.size w (wr.setCell ⟨g, 0, none⟩ (.int .i64 3)) := HB.out.setCell (by dsimp only; omega) _
      obtain ⟨w5, hw5⟩ : ∃ W, W = wr.setCell ⟨g, 0, none⟩ (.int .i64 3) := ⟨_, rfl⟩
      rw [← hw5] at hKs hOs hJ2 hJ0 hJ1 hBs
      have HKs := Lib.hid hKs
      have HOs := Lib.hid hOs
      have K0 := Lib.hid hJ0
      have K1 := Lib.hid hJ1
      have K2 := Lib.hid hJ2
      have HBs := Lib.hid hBs
      have HW5 := Lib.hid hw5
      clear hKs hOs hJ2 hJ0 hJ1 hBs hw5 hcs htk hg hne
      go_upto_region 8 with fail
      rw [← HW5.out]
      have m0 := cell_of_heap K2.out 0 (v := .int .i64 10) rfl
      have m1 := cell_of_heap K2.out 1 (v := .int .i64 1) rfl
      have m2 := cell_of_heap K2.out 2 (v := .int .i64 1) rfl
      have m3 := cell_of_heap K2.out 3 (v := .slice (some ⟨g, 0, none⟩) 10 kc) rfl
      have m4 := cell_of_heap K2.out 4 (v := .slice oa 10 oc) rfl
      have hA := al3 w5 (.cells #[.int .i64 3, .int .i64 9, .int .i64 8, .int .i64 9] 60) (.cells #[.int .i64 10, .int .i64 1, .int .i64 1, .slice (some ⟨g, 0, none⟩) 10 kc, .slice oa 10 oc, .slice none 0 0, .slice none 0 0, .slice none 0 0, .slice (some ⟨w5.heap.size, 0, none⟩) 2 2] 43) (.cells #[.int .i64 3, .int .i64 (-1), .int .i64 9, .int .i64 0, .int .i64 0, .bool false, .int .i64 8, .int .i64 (-1), .int .i64 9, .int .i64 0, .int .i64 0, .bool false] 62)
      have hsz5 : w.heap.size + 3 ≤ w5.heap.size := heap_lt K2.out
      obtain ⟨w8, hw8⟩ : ∃ W, W = ((w5.alloc (.cells #[.int .i64 3, .int .i64 9, .int .i64 8, .int .i64 9] 60)).alloc (.cells #[.int .i64 10, .int .i64 1, .int .i64 1, .slice (some ⟨g, 0, none⟩) 10 kc, .slice oa 10 oc, .slice none 0 0, .slice none 0 0, .slice none 0 0, .slice (some ⟨w5.heap.size, 0, none⟩) 2 2] 43)).alloc (.cells #[.int .i64 3, .int .i64 (-1), .int .i64 9, .int .i64 0, .int .i64 0, .bool false, .int .i64 8, .int .i64 (-1), .int .i64 9, .int .i64 0, .int .i64 0, .bool false] 62) := ⟨_, rfl⟩
      rw [← hw8] at hA
      obtain ⟨hA1, hA2, hA3, hA4, hA5⟩ := hA
      have L0 := keep_heap K0.out hA4
      have L1 := keep_heap K1.out hA4
      have HW8 := Lib.hid hw8
      have HA3 := Lib.hid hA3
      have HA4 := Lib.hid hA4
      have L1' := (setRow_other w8 w.heap.size (w.heap.size + 1) #[.int .i64 10, .int .i64 1, .int .i64 1, .slice (some ⟨g, 0, none⟩) 10 kc, .slice oa 10 oc, .slice none 0 0, .slice none 0 0, .slice none 0 0, .slice (some ⟨w5.heap.size, 0, none⟩) 2 2] (by omega)).trans L1
      have HL0 := Lib.hid L0
      have HL1 := Lib.hid L1'
      clear hw8 L0 L1 L1' hA1 hA2 hA3 hA4 hA5
      go_upto_region 9 with fail
      go_wp2_with (first | (rw [← HW8.out]; refine wpList_store_row rfl 43 (.tmp 0) (.tmp 28) rfl w.heap.size #[.int .i64 10, .int .i64 1, .int .i64 1, .slice (some ⟨g, 0, none⟩) 10 kc, .slice oa 10 oc, .slice none 0 0, .slice none 0 0, .slice none 0 0, .slice (some ⟨w5.heap.size, 0, none⟩) 2 2] rfl rfl 43 #[.int .i64 0, .int .i64 0, .int .i64 0, .slice none 0 0, .slice none 0 0, .slice none 0 0, .slice none 0 0, .slice none 0 0, .slice none 0 0] HL0.out (by kernel_rfl) rfl (by kernel_rfl) ?_) | (refine wpList_store_row rfl 47 (.tmp 1) (.tmp 32) rfl (w.heap.size + 1) #[.int .i64 0, .slice none 0 0, .slice (some ⟨w5.heap.size + 1 + 1, 0, none⟩) 2 2, .slice none 0 0, .slice none 0 0, .slice none 0 0] rfl rfl 47 #[.int .i64 0, .slice none 0 0, .slice none 0 0, .slice none 0 0, .slice none 0 0, .slice none 0 0] HL1.out (by kernel_rfl) rfl (by kernel_rfl) ?_))
      have hB1 : Below (w.heap.size) w8 (w8.setRow w.heap.size #[.int .i64 10, .int .i64 1, .int .i64 1, .slice (some ⟨g, 0, none⟩) 10 kc, .slice oa 10 oc, .slice none 0 0, .slice none 0 0, .slice none 0 0, .slice (some ⟨w5.heap.size, 0, none⟩) 2 2]) := ⟨rfl, rfl, rfl, by simp, fun k hk => setRow_other _ _ _ _ (by omega)⟩
      have hB2 : Below (w.heap.size) (w8.setRow w.heap.size #[.int .i64 10, .int .i64 1, .int .i64 1, .slice (some ⟨g, 0, none⟩) 10 kc, .slice oa 10 oc, .slice none 0 0, .slice none 0 0, .slice none 0 0, .slice (some ⟨w5.heap.size, 0, none⟩) 2 2]) ((w8.setRow w.heap.size #[.int .i64 10, .int .i64 1, .int .i64 1, .slice (some ⟨g, 0, none⟩) 10 kc, .slice oa 10 oc, .slice none 0 0, .slice none 0 0, .slice none 0 0, .slice (some ⟨w5.heap.size, 0, none⟩) 2 2]).setRow (w.heap.size + 1) #[.int .i64 0, .slice none 0 0, .slice (some ⟨w5.heap.size + 1 + 1, 0, none⟩) 2 2, .slice none 0 0, .slice none 0 0, .slice none 0 0]) := ⟨rfl, rfl, rfl, by simp, fun k hk => setRow_other _ _ _ _ (by omega)⟩
      have hoth : ∀ k, w.heap.size + 3 ≤ k → ((w8.setRow w.heap.size #[.int .i64 10, .int .i64 1, .int .i64 1, .slice (some ⟨g, 0, none⟩) 10 kc, .slice oa 10 oc, .slice none 0 0, .slice none 0 0, .slice none 0 0, .slice (some ⟨w5.heap.size, 0, none⟩) 2 2]).setRow (w.heap.size + 1) #[.int .i64 0, .slice none 0 0, .slice (some ⟨w5.heap.size + 1 + 1, 0, none⟩) 2 2, .slice none 0 0, .slice none 0 0, .slice none 0 0]).heap[k]? = w8.heap[k]? := fun k hk => (setRow_other _ _ _ _ (by omega)).trans (setRow_other _ _ _ _ (by omega))
      have hS1 : ((w8.setRow w.heap.size #[.int .i64 10, .int .i64 1, .int .i64 1, .slice (some ⟨g, 0, none⟩) 10 kc, .slice oa 10 oc, .slice none 0 0, .slice none 0 0, .slice none 0 0, .slice (some ⟨w5.heap.size, 0, none⟩) 2 2]).setRow (w.heap.size + 1) #[.int .i64 0, .slice none 0 0, .slice (some ⟨w5.heap.size + 1 + 1, 0, none⟩) 2 2, .slice none 0 0, .slice none 0 0, .slice none 0 0]).heap[w.heap.size]? = some (.cells #[.int .i64 10, .int .i64 1, .int .i64 1, .slice (some ⟨g, 0, none⟩) 10 kc, .slice oa 10 oc, .slice none 0 0, .slice none 0 0, .slice none 0 0, .slice (some ⟨w5.heap.size, 0, none⟩) 2 2] 43 (0, 0)) := (setRow_other _ _ _ _ (by omega)).trans (setRow_heap _ _ _ _ _ _ HL0.out)
      have hS2 : ((w8.setRow w.heap.size #[.int .i64 10, .int .i64 1, .int .i64 1, .slice (some ⟨g, 0, none⟩) 10 kc, .slice oa 10 oc, .slice none 0 0, .slice none 0 0, .slice none 0 0, .slice (some ⟨w5.heap.size, 0, none⟩) 2 2]).setRow (w.heap.size + 1) #[.int .i64 0, .slice none 0 0, .slice (some ⟨w5.heap.size + 1 + 1, 0, none⟩) 2 2, .slice none 0 0, .slice none 0 0, .slice none 0 0]).heap[w.heap.size + 1]? = some (.cells #[.int .i64 0, .slice none 0 0, .slice (some ⟨w5.heap.size + 1 + 1, 0, none⟩) 2 2, .slice none 0 0, .slice none 0 0, .slice none 0 0] 47 (0, 0)) := setRow_heap _ _ _ _ _ _ HL1.out
      obtain ⟨w9, hw9⟩ : ∃ W, W = (w8.setRow w.heap.size #[.int .i64 10, .int .i64 1, .int .i64 1, .slice (some ⟨g, 0, none⟩) 10 kc, .slice oa 10 oc, .slice none 0 0, .slice none 0 0, .slice none 0 0, .slice (some ⟨w5.heap.size, 0, none⟩) 2 2]).setRow (w.heap.size + 1) #[.int .i64 0, .slice none 0 0, .slice (some ⟨w5.heap.size + 1 + 1, 0, none⟩) 2 2, .slice none 0 0, .slice none 0 0, .slice none 0 0] := ⟨_, rfl⟩
      rw [← hw9] at hoth hS1 hS2 hB2 ⊢
      have hrow : ∀ (v : Value) (n : Nat) (xs : List Value), w5.ownsRow (w.heap.size + 3) 3 1 v n xs → w9.ownsRow (w.heap.size + 3) 3 1 v n xs := by
        intro v n xs h
        have h8 := own_belowB h HA4.out
        refine ⟨h8.1, ?_⟩
        rcases h8.2 with h | ⟨g2, cap2, cur2, rfl, q1, q2, q3⟩
        · exact .inl h
        · exact .inr ⟨g2, cap2, cur2, rfl, q1, (hoth _ q1).trans q2, q3⟩
      refine bodyPost_ret (v := .tuple #[.agg #[.int .i64 10, .int .i64 1, .int .i64 1, .slice (some ⟨g, 0, none⟩) 10 kc, .slice oa 10 oc, .slice none 0 0, .slice none 0 0, .slice none 0 0, .slice (some ⟨w5.heap.size, 0, none⟩) 2 2], .agg #[.int .i64 0, .slice none 0 0, .slice (some ⟨w5.heap.size + 1 + 1, 0, none⟩) 2 2, .slice none 0 0, .slice none 0 0, .slice none 0 0]]) (results_rows2 (p := 0) (q := 1) (ty := 43) (ty2 := 47) (by kernel_rfl) _ _ w.heap.size (w.heap.size + 1) 43 47 _ _ (0, 0) (0, 0) _ _ rfl hS1 rfl hS2 Try.underlying43 rfl (by kernel_rfl) Try.underlying47 rfl (by kernel_rfl)) rfl ?_
      refine ⟨_, _, _, _, _, _, rfl, ⟨?_, ?_⟩, ⟨Sl.nil _, ?_, Sl.nil _, Sl.nil _, Rw.nil _ _⟩, ?_⟩
      · exact Sl.of_own (hrow _ _ _ HKs.out) (by unfold maxLen; omega)
      · exact Sl.of_own (hrow _ _ _ HOs.out) (by unfold maxLen; omega)
      · have hb9 := (hoth _ (by omega : w.heap.size + 3 ≤ w5.heap.size + 1 + 1)).trans HA3.out
        refine ⟨some ⟨w5.heap.size + 1 + 1, 0, none⟩, 2, rfl, by simp [maxLen, Fa.sampS], (fun h => by cases h), fun i hi => ⟨_, 0, rfl, heap_lt hb9, fun j hj => ?_⟩⟩
        have hi2 : i = 0 ∨ i = 1 := by simp [Fa.sampS] at hi; omega
        have hj2 : j = 0 ∨ j = 1 ∨ j = 2 ∨ j = 3 ∨ j = 4 ∨ j = 5 := by omega
        rcases hi2 with rfl | rfl <;> rcases hj2 with rfl | rfl | rfl | rfl | rfl | rfl <;> exact cell_of_heap hb9 _ rfl
      · exact HBs.out.trans ((HA4.out.mono (by omega)).trans (hB1.trans hB2))
end Go.Proofs.Ytcdfmgobokjcnaa
