/- Parts Bu, Bv of this claim, laid one behind the other: walks and the plain laws behind them; each contract states its own conditions. -/
import Derived.Test.YtfcbcpfnaadpeaaGreatDoorMK
import Derived.Test.YtfcbcpfnaadpeaaGreatDoorML
namespace Go.Proofs.YtfcbcpfnaadpeaaGreatDoor
set_option maxRecDepth 100000
set_option maxHeartbeats 64000000
set_option linter.unusedSimpArgs false
set_option linter.unusedVariables false
open Go.RowKit
def certZero : Array Value := #[.int .i64 0, .slice none 0 0, .slice none 0 0, .slice none 0 0, .int .i64 0, .slice none 0 0]
theorem results_rowtmp {P : Program} {fn : Func} {p u : Tmp} {ty : TypeId} (h : fn.results = #[.cell p ty, .tmp u]) (tmps : Array Value) (w : World) (g : Nat) (t : TypeId) (cs : Array Value) (fr : Nat × Nat) (d : TypeDesc)
 (hp : tmps.getD p undef = .pointer (some ⟨g, 0, none⟩)) (hg : w.heap[g]? = some (.cells cs t fr))
 (hu : P.underlying ty = some d) (hd : (match d with | .struct _ | .array _ _ => true | _ => false) = true) (hi : (P.info? ty).map (·.size) = some cs.size) :
 (results fn tmps).run P w = .ok (.tuple #[.agg cs, tmps.getD u undef]) w := by
 rw [results_cell_tmp h, hp]
 simp [asAddr, run_loadVar_row w g t ty cs fr d hg hu hd hi, Result.andThen]
abbrev six (w : World) (N : Nat) (x0 x1 x2 x3 x4 x5 : Value) : World := (((((w.setCell ⟨N, 0, none⟩ x0).setCell ⟨N, 1, none⟩ x1).setCell ⟨N, 2, none⟩ x2).setCell ⟨N, 3, none⟩ x3).setCell ⟨N, 4, none⟩ x4).setCell ⟨N, 5, none⟩ x5
theorem six_heap {w : World} {N : Nat} (x0 x1 x2 x3 x4 x5 : Value) (h : w.heap[N]? = some (.cells certZero 38 (0, 0))) : (six w N x0 x1 x2 x3 x4 x5).heap[N]? = some (.cells #[x0, x1, x2, x3, x4, x5] 38 (0, 0)) :=
 set_heap (set_heap (set_heap (set_heap (set_heap (set_heap h 0 x0) 1 x1) 2 x2) 3 x3) 4 x4) 5 x5
theorem six_tro {w : World} {N : Nat} (x0 x1 x2 x3 x4 x5 : Value) (h : w.heap[N]? = some (.cells certZero 38 (0, 0))) {base : Nat} {v : Value} {l : List (Nat × Nat)} (k : TrO w base v l) : TrO (six w N x0 x1 x2 x3 x4 x5) base v l :=
 (((((k.set h (by decide) (by decide) 0).set (set_heap h 0 x0) (by decide) (by decide) 1).set (set_heap (set_heap h 0 x0) 1 x1) (by decide) (by decide) 2).set (set_heap (set_heap (set_heap h 0 x0) 1 x1) 2 x2) (by decide) (by decide) 3).set (set_heap (set_heap (set_heap (set_heap h 0 x0) 1 x1) 2 x2) 3 x3) (by decide) (by decide) 4).set (set_heap (set_heap (set_heap (set_heap (set_heap h 0 x0) 1 x1) 2 x2) 3 x3) 4 x4) (by decide) (by decide) 5
theorem six_own {w : World} {N : Nat} (x0 x1 x2 x3 x4 x5 : Value) (h : w.heap[N]? = some (.cells certZero 38 (0, 0))) {base n sz : Nat} {e : TypeId} {v : Value} {xs : List Value} (hne : e ≠ 38) (k : w.ownsRow base e sz v n xs) : (six w N x0 x1 x2 x3 x4 x5).ownsRow base e sz v n xs :=
 own_set (own_set (own_set (own_set (own_set (own_set k h hne 0 x0) (set_heap h 0 x0) hne 1 x1) (set_heap (set_heap h 0 x0) 1 x1) hne 2 x2) (set_heap (set_heap (set_heap h 0 x0) 1 x1) 2 x2) hne 3 x3) (set_heap (set_heap (set_heap (set_heap h 0 x0) 1 x1) 2 x2) 3 x3) hne 4 x4) (set_heap (set_heap (set_heap (set_heap (set_heap h 0 x0) 1 x1) 2 x2) 3 x3) 4 x4) hne 5 x5
theorem six_res {w : World} {N : Nat} (x0 x1 x2 x3 x4 x5 : Value) (h : w.heap[N]? = some (.cells certZero 38 (0, 0))) {base : Nat} {v : Value} {fs : List Nat} (k : Res w base v fs) : Res (six w N x0 x1 x2 x3 x4 x5) base v fs := by
 obtain ⟨us, a, b, c⟩ := k
 exact ⟨us, a, six_own x0 x1 x2 x3 x4 x5 h (by decide) b, fun i k1 k2 => six_own x0 x1 x2 x3 x4 x5 h (by decide) (c i k1 k2)⟩
theorem six_below {w a : World} {N B : Nat} (x0 x1 x2 x3 x4 x5 : Value) (hN : B ≤ N) (k : Below B a w) : Below B a (six w N x0 x1 x2 x3 x4 x5) :=
 (((((k.setCell (by exact hN) x0).setCell (by exact hN) x1).setCell (by exact hN) x2).setCell (by exact hN) x3).setCell (by exact hN) x4).setCell (by exact hN) x5
def RelN (N : Nat) (w w' : World) : Prop := w.heap.size ≤ w'.heap.size ∧ ∀ k, k < w.heap.size → k ≠ N → w'.heap[k]? = w.heap[k]?
theorem RelN.refl (N : Nat) (w : World) : RelN N w w := ⟨Nat.le_refl _, fun _ _ _ => rfl⟩
theorem RelN.below {N : Nat} {w w' w'' : World} (h : RelN N w w') (hb : Below w.heap.size w' w'') : RelN N w w'' := ⟨Nat.le_trans h.1 hb.size, fun k hk hn => (hb.block k hk).trans (h.2 k hk hn)⟩
theorem RelN.set {N : Nat} {w w' : World} (h : RelN N w w') (i : Nat) (v : Value) : RelN N w (w'.setCell ⟨N, i, none⟩ v) := ⟨by simpa [World.setCell] using h.1, fun k hk hn => (heap_setCell_other _ _ k _ hn).trans (h.2 k hk hn)⟩
theorem RelN.heap {N k : Nat} {w w' : World} {cs ds : Array Value} {t t' : TypeId} {fr f : Nat × Nat} (h : RelN N w w') (hN : w.heap[N]? = some (.cells cs t fr)) (hk : w.heap[k]? = some (.cells ds t' f)) (hne : t' ≠ t) : w'.heap[k]? = some (.cells ds t' f) := by
 rw [h.2 k (heap_lt hk) (fun e => ?_), hk]
 subst e
 rw [hN] at hk
 injection hk with hk; injection hk with _ hk
 exact hne hk.symm
theorem RelN.own {N base : Nat} {w w' : World} {cs : Array Value} {t e : TypeId} {fr : Nat × Nat} {sz n : Nat} {v : Value} {xs : List Value} (h : RelN N w w') (hN : w.heap[N]? = some (.cells cs t fr)) (hne : e ≠ t) (k : w.ownsRow base e sz v n xs) : w'.ownsRow base e sz v n xs := by
 refine ⟨k.1, ?_⟩
 rcases k.2 with k | ⟨g, cap, cur, rfl, h1, h2, h3⟩
 · exact .inl k
 · exact .inr ⟨g, cap, cur, rfl, h1, h.heap hN h2 hne, h3⟩
theorem RelN.tro {N base : Nat} {w w' : World} {cs : Array Value} {t : TypeId} {fr : Nat × Nat} {v : Value} {l : List (Nat × Nat)} (h : RelN N w w') (hN : w.heap[N]? = some (.cells cs t fr)) (h1 : 43 ≠ t) (h2 : 3 ≠ t) (k : TrO w base v l) : TrO w' base v l := by
 obtain ⟨gs, a, b, c⟩ := k
 exact ⟨gs, a, h.own hN h1 b, fun j k1 k2 => ⟨h.heap hN (c j k1 k2).1 h2, h.heap hN (c j k1 k2).2 h2⟩⟩
theorem ints_app (l : List Int) (x : Int) : ints (l ++ [x]) = ints l ++ [.int .i64 x] := by simp [ints]
theorem capOf_le {s : Si.Site} (h : Si.Ok s) (a : Nat) : 0 ≤ Si.capOf s a ∧ Si.capOf s a ≤ 100000 := by
 refine ⟨Si.capOf_nonneg s a, ?_⟩
 by_cases ha : a < s.zones.length
 · rw [Si.capOf_eq ha]
   have h1 := (h.zs _ (List.getElem_mem ha)).2
   have h2 := (h.zk _ (List.getElem_mem ha)).1
   omega
 · unfold Si.capOf
   rw [List.getElem?_eq_none (by omega)]
   show (0 : Int) ≤ 100000
   omega
theorem listW_lt {x n i : Nat} (hx : x < 2 ^ n) (hi : i ∈ Pt.listW x) : i < n := by
 unfold Pt.listW at hi
 rw [List.mem_filter] at hi
 apply Classical.byContradiction
 intro h
 have : x.testBit i = false := Nat.testBit_lt_two_pow (Nat.lt_of_lt_of_le hx (Nat.pow_le_pow_right (by omega) (by omega)))
 rw [this] at hi
 simp at hi
def sumTo (s : Si.Site) (l : List Nat) (k : Nat) : Int := ((l.take k).map (Si.capOf s)).sum
theorem sumTo_succ (s : Si.Site) (l : List Nat) (k : Nat) (h : k < l.length) : sumTo s l (k + 1) = sumTo s l k + Si.capOf s l[k] := by
 unfold sumTo
 rw [List.take_succ_eq_append_getElem h, List.map_append, List.sum_append]; simp
theorem sumTo_le {s : Si.Site} (h : Si.Ok s) (l : List Nat) : ∀ k, k ≤ l.length → 0 ≤ sumTo s l k ∧ sumTo s l k ≤ k * 100000
 | 0, _ => by simp [sumTo]
 | k + 1, hk => by
  rw [sumTo_succ s l k (by omega)]
  have h1 := sumTo_le h l k (by omega)
  have h2 := capOf_le h (l[k]'(by omega))
  omega
theorem sumTo_all (s : Si.Site) (x : Nat) : sumTo s (Pt.listW x) (Pt.listW x).length = Si.sumCaps s x := by unfold sumTo Si.sumCaps; rw [List.take_length]
theorem listW_len (x : Nat) : (Pt.listW x).length ≤ 64 := by
 unfold Pt.listW
 have := List.length_filter_le (fun i => x.testBit i) (List.range 64)
 simpa using this
def CapV : Value → Prop
 | .slice _ n c => n ≤ c
 | _ => True
theorem CapV.own {w : World} {base sz : Nat} {e : TypeId} {v : Value} {n : Nat} {xs : List Value} (h : w.ownsRow base e sz v n xs) : CapV v := by
 rcases h.2 with ⟨rfl, h0⟩ | ⟨g, cap, cur, rfl, hb, hh, hnc, hcm, hcs, ht⟩
 · exact Nat.le_refl _
 · exact hnc
def BuildPost (s : Si.Site) (w : World) (e : Ending) (w' : World) : Prop :=
 Below w.heap.size w w' ∧ ∃ ws : List Nat, ws.Perm (List.range' 1 (2 ^ s.zones.length - 1)) ∧ ws.Pairwise (fun a b => Pt.cmpW a b < 0) ∧
  (((∃ x ∈ Pt.pick (Pt.edgesL (Si.linked s) s.zones.length) [] ws, Si.sumCaps s x ≤ s.robots.length) ∧ e = .returned (.tuple #[.agg certZero, .int .i64 19])) ∨
   ((∀ x ∈ Pt.pick (Pt.edgesL (Si.linked s) s.zones.length) [] ws, ¬ Si.sumCaps s x ≤ s.robots.length) ∧ ∃ tv cv kv sv, e = .returned (.tuple #[.agg #[.int .i64 s.zones.length, tv, cv, kv, .int .i64 s.robots.length, sv], .int .i64 0]) ∧
    Tr w' tv (Si.netT s) ∧ Is w' cv (Si.capsL s) ∧ Is w' kv (s.zones.map (·.keep)) ∧ Ll w' sv ((Pt.pick (Pt.edgesL (Si.linked s) s.zones.length) [] ws).map fun x => Si.nn (Pt.listW x)) ∧ CapV tv ∧ CapV cv ∧ CapV sv))
theorem Build_any (s : Si.Site) (kv ov zv av sv rv : Value) (w : World) (h : SiV w kv ov zv av sv rv s) (hk : Si.Ok s) (hz : s.zones.length ≤ 14) (hE : Env w) :
 Calls Tryz.prog 12 #[siV s kv ov zv av sv rv] w (BuildPost s w) := by
 obtain ⟨a1, c1, a2, c2, a3, c3, a4, c4, a5, c5, a6, c6, rfl, rfl, rfl, rfl, rfl, rfl, m1, m2, m3, m4, m5, m6⟩ := h.open
 have HNT := hid (fun W hV => Net_any s (.slice a1 s.floor.kind.length c1) (.slice a2 s.floor.out.length c2) (.slice a3 s.zones.length c3) (.slice a4 s.aparts.length c4) (.slice a5 s.shelves.length c5) (.slice a6 s.robots.length c6) W hV hk)
 have HCP := hid (fun W hV => Caps_any s (.slice a1 s.floor.kind.length c1) (.slice a2 s.floor.out.length c2) (.slice a3 s.zones.length c3) (.slice a4 s.aparts.length c4) (.slice a5 s.shelves.length c5) (.slice a6 s.robots.length c6) W hV hk)
 obtain ⟨W0, hW0⟩ : ∃ W0, W0 = (w.alloc (.cells #[.int .i64 s.floor.w, .int .i64 s.floor.h, .int .i64 s.floor.d, .slice a1 s.floor.kind.length c1, .slice a2 s.floor.out.length c2, .slice a3 s.zones.length c3, .slice a4 s.aparts.length c4, .slice a5 s.shelves.length c5, .slice a6 s.robots.length c6] 30)).alloc (.cells certZero 38) := ⟨_, rfl⟩
 have B0 : Hid (Below w.heap.size w W0) := hid (by rw [hW0]; exact ((Below.refl _ w).alloc (Nat.le_refl _) _).alloc (by simp) _)
 have i0 : W0.heap[w.heap.size]? = some (.cells #[.int .i64 s.floor.w, .int .i64 s.floor.h, .int .i64 s.floor.d, .slice a1 s.floor.kind.length c1, .slice a2 s.floor.out.length c2, .slice a3 s.zones.length c3, .slice a4 s.aparts.length c4, .slice a5 s.shelves.length c5, .slice a6 s.robots.length c6] 30 (0, 0)) := by rw [hW0]; exact heap_old (heap_alloc_new _ _)
 have R0 : Hid (W0.heap[w.heap.size + 1]? = some (.cells certZero 38 (0, 0))) := hid (by rw [hW0]; exact heap_two3 w _ _)
 have hs0 : w.heap.size + 2 ≤ W0.heap.size := by rw [hW0]; simp
 have HKK := hid hk
 have HEE := hid hE
 unfold siV at HNT HCP ⊢
 obtain ⟨l1, e1⟩ : ∃ n, s.floor.kind.length = n := ⟨_, rfl⟩
 obtain ⟨l2, e2⟩ : ∃ n, s.floor.out.length = n := ⟨_, rfl⟩
 obtain ⟨l3, e3⟩ : ∃ n, s.zones.length = n := ⟨_, rfl⟩
 obtain ⟨l4, e4⟩ : ∃ n, s.aparts.length = n := ⟨_, rfl⟩
 obtain ⟨l5, e5⟩ : ∃ n, s.shelves.length = n := ⟨_, rfl⟩
 obtain ⟨l6, e6⟩ : ∃ n, s.robots.length = n := ⟨_, rfl⟩
 rw [e1, e2, e3, e4, e5, e6] at h HNT HCP hW0 i0
 rw [e1, e2, e3, e4, e5, e6]
 rw [e3] at hz m3
 rw [e6] at m6
 have HV := hid (h.keep B0.out)
 have HE3 := hid e3
 have HE6 := hid e6
 have HW0 := hid hW0
 have q : ((l3 : Int) > 14) = False := by simp; omega
 obtain ⟨f1, g1⟩ : ∃ x, s.floor.w = x := ⟨_, rfl⟩
 obtain ⟨f2, g2⟩ : ∃ x, s.floor.h = x := ⟨_, rfl⟩
 obtain ⟨f3, g3⟩ : ∃ x, s.floor.d = x := ⟨_, rfl⟩
 rw [g1, g2, g3] at HNT HCP HW0 i0
 rw [g1, g2, g3]
 have I0 := hid i0
 clear h hk hE hW0 e1 e2 e3 e4 e5 e6 g1 g2 g3 i0
 go_enter Tryz.func12, Tryz.ntmps12
 go_upto_region 3 with fail
 have hfold := HW0.out
 unfold certZero at hfold
 rw [← hfold]
 have p0 := cell_of_heap I0.out 0 rfl
 have p1 := cell_of_heap I0.out 1 rfl
 have p2 := cell_of_heap I0.out 2 rfl
 have p3 := cell_of_heap I0.out 3 rfl
 have p4 := cell_of_heap I0.out 4 rfl
 have p5 := cell_of_heap I0.out 5 rfl
 have p6 := cell_of_heap I0.out 6 rfl
 have p7 := cell_of_heap I0.out 7 rfl
 have p8 := cell_of_heap I0.out 8 rfl
 clear hfold
 go_cut [4] (fun v wx => ∃ bb tv cv, v = .pointer (some ⟨bb, 0, none⟩) ∧ W0.heap.size ≤ bb ∧ Hid (wx.heap[bb]? = some (.cells #[.int .i64 l3, tv, cv, .slice none 0 0, .int .i64 l6, .slice none 0 0] 38 (0, 0))) ∧ Hid (TrO wx W0.heap.size tv (pairsTo s l3)) ∧ Hid (wx.ownsRow W0.heap.size 3 1 cv l3 (ints (Si.capsL s))) ∧ Hid (Below W0.heap.size W0 wx))
 case first =>
  have hlt0 : w.heap.size < W0.heap.size := by omega
  have ne1 : W0.heap.size ≠ w.heap.size := by omega
  have ne2 : w.heap.size ≠ W0.heap.size := by omega
  go_region_held3 (fun w' => w'.cell? ⟨w.heap.size, 0, none⟩ = some (.int .i64 f1) ∧ w'.cell? ⟨w.heap.size, 1, none⟩ = some (.int .i64 f2) ∧ w'.cell? ⟨w.heap.size, 2, none⟩ = some (.int .i64 f3) ∧ w'.cell? ⟨w.heap.size, 3, none⟩ = some (.slice a1 l1 c1) ∧ w'.cell? ⟨w.heap.size, 4, none⟩ = some (.slice a2 l2 c2) ∧ w'.cell? ⟨w.heap.size, 5, none⟩ = some (.slice a3 l3 c3) ∧ w'.cell? ⟨w.heap.size, 6, none⟩ = some (.slice a4 l4 c4) ∧ w'.cell? ⟨w.heap.size, 7, none⟩ = some (.slice a5 l5 c5) ∧ w'.cell? ⟨w.heap.size, 8, none⟩ = some (.slice a6 l6 c6)) (go_keep)
   (first | (go_at_call 15; refine (HNT.out _ (HV.out.keep (by (repeat (with_reducible first | exact Below.refl _ _ | refine Below.drew ?_ | refine Below.alloc ?_ (by simp) _)); all_goals fail))).mono ?_; rintro e w2 ⟨tv, rfl, ht, hb⟩; obtain ⟨ta, tc, htv, -⟩ := ht.form; subst htv; have BD := hid ((show Below W0.heap.size W0 _ from (by (repeat (with_reducible first | exact Below.refl _ _ | refine Below.drew ?_ | refine Below.alloc ?_ (by simp) _)); all_goals fail)).trans (hb.mono (by simp))); have TT := hid (ht.mono (base' := W0.heap.size) (by simp)); have m0 := (BD.out.cell (p := ⟨w.heap.size, 0, none⟩) hlt0).trans p0; have m1 := (BD.out.cell (p := ⟨w.heap.size, 1, none⟩) hlt0).trans p1; have m2 := (BD.out.cell (p := ⟨w.heap.size, 2, none⟩) hlt0).trans p2; have m3 := (BD.out.cell (p := ⟨w.heap.size, 3, none⟩) hlt0).trans p3; have m4 := (BD.out.cell (p := ⟨w.heap.size, 4, none⟩) hlt0).trans p4; have m5 := (BD.out.cell (p := ⟨w.heap.size, 5, none⟩) hlt0).trans p5; have m6 := (BD.out.cell (p := ⟨w.heap.size, 6, none⟩) hlt0).trans p6; have m7 := (BD.out.cell (p := ⟨w.heap.size, 7, none⟩) hlt0).trans p7; have m8 := (BD.out.cell (p := ⟨w.heap.size, 8, none⟩) hlt0).trans p8; (first | have ZA := hid (keep_heap (heap_drew (heap_alloc_new W0 (.cells certZero 38 (0, 0)))) hb) | have ZA := hid (keep_heap (heap_alloc_new W0 (.cells certZero 38 (0, 0))) hb) | skip); have hs2 := BD.out.size; have ne3 : w2.heap.size ≠ w.heap.size := (by omega); have ne4 : w.heap.size ≠ w2.heap.size := (by omega); clear ht hb) | (go_at_call 46; refine (HCP.out _ (HV.out.keep (BD.out.trans (Below.mono (by (repeat (with_reducible first | exact Below.refl _ _ | refine Below.drew ?_ | refine Below.alloc ?_ (by simp) _)); all_goals fail) BD.out.size)))).mono ?_; rintro e w3 ⟨cv, rfl, -, ho, hb⟩; obtain ⟨ca, cc, hcv, -⟩ := own_slice ho; subst hcv; have BE := hid (BD.out.trans ((show Below w2.heap.size w2 _ from (by (repeat (with_reducible first | exact Below.refl _ _ | refine Below.drew ?_ | refine Below.alloc ?_ (by simp) _)); all_goals fail)).trans (hb.mono (by simp)) |>.mono BD.out.size)); have TU := hid (TT.out.below ((show Below w2.heap.size w2 _ from (by (repeat (with_reducible first | exact Below.refl _ _ | refine Below.drew ?_ | refine Below.alloc ?_ (by simp) _)); all_goals fail)).trans (hb.mono (by simp)))); have OC := hid (own_mono (base' := W0.heap.size) ho (by have h1 := BD.out.size; simp; omega)); have n0 := (BE.out.cell (p := ⟨w.heap.size, 0, none⟩) hlt0).trans p0; have n1 := (BE.out.cell (p := ⟨w.heap.size, 1, none⟩) hlt0).trans p1; have n2 := (BE.out.cell (p := ⟨w.heap.size, 2, none⟩) hlt0).trans p2; have n3 := (BE.out.cell (p := ⟨w.heap.size, 3, none⟩) hlt0).trans p3; have n4 := (BE.out.cell (p := ⟨w.heap.size, 4, none⟩) hlt0).trans p4; have n5 := (BE.out.cell (p := ⟨w.heap.size, 5, none⟩) hlt0).trans p5; have n6 := (BE.out.cell (p := ⟨w.heap.size, 6, none⟩) hlt0).trans p6; have n7 := (BE.out.cell (p := ⟨w.heap.size, 7, none⟩) hlt0).trans p7; have n8 := (BE.out.cell (p := ⟨w.heap.size, 8, none⟩) hlt0).trans p8; (first | have ZB := hid (keep_heap (heap_drew (heap_alloc_new w2 (.cells certZero 38 (0, 0)))) hb) | have ZB := hid (keep_heap (heap_alloc_new w2 (.cells certZero 38 (0, 0))) hb) | have ZB := hid (keep_heap ZA.out (Below.mono hb (Nat.le_refl _))) | skip); (first | (have z0 := cell_of_heap ZB.out 0 (v := (.int .i64 0)) rfl; have y0 := free_of_heap ZB.out 0; have z1 := cell_of_heap ZB.out 1 (v := (.slice none 0 0)) rfl; have y1 := free_of_heap ZB.out 1; have z2 := cell_of_heap ZB.out 2 (v := (.slice none 0 0)) rfl; have y2 := free_of_heap ZB.out 2; have z3 := cell_of_heap ZB.out 3 (v := (.slice none 0 0)) rfl; have y3 := free_of_heap ZB.out 3; have z4 := cell_of_heap ZB.out 4 (v := (.int .i64 0)) rfl; have y4 := free_of_heap ZB.out 4; have z5 := cell_of_heap ZB.out 5 (v := (.slice none 0 0)) rfl; have y5 := free_of_heap ZB.out 5) | skip); clear ho hb))
  all_goals go_wp2_with fail
  all_goals
   go_meet
   with_reducible first
    | exact ⟨_, _, _, rfl, (by have := BE.out.size; omega), hid (heap_alloc_new _ _), hid (TU.out.below ((Below.refl _ _).alloc (Nat.le_refl _) _)), hid (World.ownsRow.alloc OC.out _), hid (BE.out.alloc BE.out.size _)⟩
    | exact ⟨_, _, _, rfl, Nat.le_refl _, hid (six_heap _ _ _ _ _ _ ZB.out), hid (six_tro _ _ _ _ _ _ ZB.out TU.out), hid (six_own _ _ _ _ _ _ ZB.out (by decide) OC.out), hid (six_below _ _ _ _ _ _ (Nat.le_refl _) BE.out)⟩
    | exact ⟨_, _, _, rfl, hs2, hid (six_heap _ _ _ _ _ _ ZB.out), hid (six_tro _ _ _ _ _ _ ZB.out TU.out), hid (six_own _ _ _ _ _ _ ZB.out (by decide) OC.out), hid (six_below _ _ _ _ _ _ hs2 BE.out)⟩
 case rest =>
  obtain ⟨bb, tv, cv, rfl, hbb, HB1, HT1, HO1, HBX⟩ := hcut
  clear p0 p1 p2 p3 p4 p5 p6 p7 p8
  have i5 : wc.cell? ⟨w.heap.size, 5, none⟩ = some (.slice a3 l3 c3) := cell_of_heap (keep_heap I0.out HBX.out) 5 rfl
  have hsx := HBX.out.size
  have hbl := heap_lt HB1.out
  have K0 : Hid (wc.ownsRow wc.heap.size 3 1 (.slice none 0 0) 0 (ints ((s.zones.take 0).map (·.keep)))) := hid (World.ownsRow_nil ..)
  go_wp2_with fail
  go_loopw [28] (fun iv wr => ∃ (a : Nat) (kw : Value), a ≤ l3 ∧ iv = .int .i64 a ∧ Hid (wr.heap[bb]? = some (.cells #[.int .i64 l3, tv, cv, kw, .int .i64 l6, .slice none 0 0] 38 (0, 0))) ∧ Hid (wr.ownsRow wc.heap.size 3 1 kw a (ints ((s.zones.take a).map (·.keep)))) ∧ Hid (Below W0.heap.size W0 wr) ∧ Hid (RelN bb wc wr)) (fun iv _ => l3 - (intOf iv).toNat)
  case atStart => exact ⟨0, _, by omega, rfl, HB1, K0, HBX, hid (RelN.refl _ _)⟩
  case round =>
   obtain ⟨a, kw, ha, rfl, HBB, HKO, HBR, HRL⟩ := hrel
   by_cases hal : a < l3
   · have haz : a < s.zones.length := by rw [HE3.out]; exact hal
     obtain ⟨zb, zo, u1, u2, e1, hzb, hu1, hu2, q0, q1, q2, q3, q4⟩ := (HV.out.zn.keep HBR.out).cell a haz
     subst e1
     obtain ⟨z1, d1, rfl, -⟩ := hu1.form
     obtain ⟨z2, d2, rfl, -⟩ := two_form hu2
     have HKS : Hid ((s.zones.take (a + 1)).map (·.keep) = (s.zones.take a).map (·.keep) ++ [s.zones[a].keep]) := hid (by rw [List.take_succ_eq_append_getElem haz, List.map_append]; rfl)
     obtain ⟨Y1, hY1⟩ : ∃ n, s.zones[a].cells.length = n := ⟨_, rfl⟩
     obtain ⟨KP, hKP⟩ : ∃ n, s.zones[a].keep = n := ⟨_, rfl⟩
     obtain ⟨Y2, hY2⟩ : ∃ n, s.zones[a].shut.length = n := ⟨_, rfl⟩
     obtain ⟨NM, hNM⟩ : ∃ C, s.zones[a].name = C := ⟨_, rfl⟩
     obtain ⟨SP, hSP⟩ : ∃ C, s.zones[a].speed = C := ⟨_, rfl⟩
     rw [hY1] at q1
     rw [hKP] at q3 HKS
     rw [hY2] at q4
     rw [hNM] at q0
     rw [hSP] at q2
     obtain ⟨ka, kc, hks, -⟩ := own_slice HKO.out
     subst hks
     have hwz := HRL.out.1
     have g0 : (0 : Int) ≤ (a : Int) := by omega
     have g9 : (a : Int) < (l3 : Int) := by omega
     have hb3 := cell_of_heap HBB.out 3 (v := .slice ka a kc) rfl
     have hbw : bb < wr.heap.size := by omega
     clear hu1 hu2 hY1 hKP hY2 hNM hSP
     go_wp2_with (at_builtin; refine wpList_app_int rfl (.tmp 33) (.tmp 36) rfl wc.heap.size (.slice ka a kc) a _ rfl (World.ownsRow.alloc (World.ownsRow.alloc HKO.out _) _) (wr.heap.size + 1) 1 KP rfl (heap_two3 wr _ _) ?c1 ?c2 ?_)
     case c1 => omega
     case c2 => first | omega | (simp; omega)
     intro av cw w4 ho4 hg4
     have hbl4 : Below wc.heap.size wr w4 := ((((Below.refl _ wr).alloc hwz _).alloc (by simp; omega) _)).trans (below_own (World.ownsRow.alloc (World.ownsRow.alloc HKO.out _) _) hg4 (Nat.le_refl _) (by simp; omega))
     have HB4 := hid hbl4
     have HO4 : Hid (w4.ownsRow wc.heap.size 3 1 (.slice av (a + 1) cw) (a + 1) (ints ((s.zones.take (a + 1)).map (·.keep)))) := hid (by rw [HKS.out, ints_app, List.map_take]; exact ho4)
     have HN4 : Hid (w4.heap[bb]? = some (.cells #[.int .i64 l3, tv, cv, .slice ka a kc, .int .i64 l6, .slice none 0 0] 38 (0, 0))) := hid ((hbl4.block bb hbl).trans HBB.out)
     have y0 := cell_of_heap HN4.out 3 (v := .slice ka a kc) rfl
     have y1 := free_of_heap HN4.out 3
     clear ho4 hg4 hbl4 hb3
     go_wp2_with fail
     go_roundw
     case rel => exact ⟨a + 1, .slice av (a + 1) cw, by omega, by go_num, hid (set_heap HN4.out 3 _), hid (own_set HO4.out HN4.out (by decide) 3 _), hid ((HBR.out.trans (HB4.out.mono hsx)).setCell hbb _), hid ((HRL.out.below HB4.out).set 3 _)⟩
     case measure => simp [intOf]; omega
   · obtain rfl : a = l3 := by omega
     have hT := HRL.out.tro HB1.out (by decide) (by decide) HT1.out
     have HOC := hid (HRL.out.own HB1.out (by decide) HO1.out)
     have HKF : Hid (wr.ownsRow wc.heap.size 3 1 kw a (ints (s.zones.map (·.keep)))) := hid (by have := HKO.out; rwa [List.take_of_length_le (by rw [HE3.out]; omega)] at this)
     obtain ⟨ta, tc, htv, -⟩ := hT.form
     subst htv
     obtain ⟨ca, cc, hcv, -⟩ := own_slice HO1.out
     subst hcv
     obtain ⟨ka, kc, hks, -⟩ := own_slice HKO.out
     subst hks
     have HTO := hid hT
     have hlen := pairs_len s HKK.out.zn a (by omega)
     have hdd : ∀ t ∈ (pairsTo s a).map pairT, (∀ p ∈ t.1, 0 ≤ p ∧ p < 64) ∧ ∀ p ∈ t.2, 0 ≤ p ∧ p < 64 := by
      intro t ht
      obtain ⟨x, hx, rfl⟩ := List.mem_map.1 ht
      unfold pairsTo at hx
      rw [List.mem_flatMap] at hx
      obtain ⟨i, hi, hx⟩ := hx
      rw [List.mem_map] at hx
      obtain ⟨j, hj, rfl⟩ := hx
      rw [List.mem_range] at hi
      have hj2 := (Si.mem_linksZ.1 hj).1
      rw [HE3.out] at hj2
      exact ⟨fun p hp => by simp [pairT] at hp; omega, fun p hp => by simp [pairT] at hp; omega⟩
     have hEW : Env wr := HEE.out.below (B0.out.trans (HBR.out.mono (by omega)))
     have HSP := siphons_any a (.slice ta (pairsTo s a).length tc) ((pairsTo s a).map pairT) wr hT.tr hdd (by rw [List.length_map]; omega) hz hEW
     have hED : ((pairsTo s a).map pairT).map edgeOf = Pt.edgesL (Si.linked s) a := by
      have h1 := Si.edges_net s
      rw [← pairs_net, HE3.out] at h1
      exact h1
     rw [hED] at HSP
     have HSI := hid HSP
     have d0 := cell_of_heap HBB.out 0 (v := .int .i64 a) rfl
     have d1 := cell_of_heap HBB.out 1 (v := .slice ta (pairsTo s a).length tc) rfl
     have hbw : bb < wr.heap.size := heap_lt HBB.out
     clear hT hdd hEW HSP hED
     go_wp2_with fail
     go_at_call 16; refine HSI.out.mono ?_; rintro e w6 ⟨hb6, sv, ws, rfl, hpm, hpw, hrs⟩
     have HPM := hid hpm
     have HPW := hid hpw
     have HRS := hid hrs
     have HB6 := hid hb6
     obtain ⟨sl, hsl⟩ : ∃ sl, Pt.pick (Pt.edgesL (Si.linked s) a) [] ws = sl := ⟨_, rfl⟩
     rw [hsl] at HRS
     have HSL := hid hsl
     have HN6 : Hid (w6.heap[bb]? = some (.cells #[.int .i64 a, .slice ta (pairsTo s a).length tc, .slice ca a cc, .slice ka a kc, .int .i64 l6, .slice none 0 0] 38 (0, 0))) := hid (keep_heap HBB.out hb6)
     obtain ⟨sa, sc, hsv, hSM⟩ := HRS.out.form
     subst hsv
     obtain ⟨SL, hSL⟩ : ∃ n, sl.length = n := ⟨_, rfl⟩
     rw [hSL] at HRS hSM
     have HSLn := hid hSL
     rw [hSL]
     have z5 := cell_of_heap HN6.out 5 (v := .slice none 0 0) rfl
     have y5 := free_of_heap HN6.out 5
     clear hpm hpw hrs hb6 hsl hSL
     go_wp2_with fail
     obtain ⟨W7, hW7⟩ : ∃ W, W = w6.setCell ⟨bb, 5, none⟩ (.slice sa SL sc) := ⟨_, rfl⟩
     rw [← hW7]
     have HN7 : Hid (W7.heap[bb]? = some (.cells #[.int .i64 a, .slice ta (pairsTo s a).length tc, .slice ca a cc, .slice ka a kc, .int .i64 l6, .slice sa SL sc] 38 (0, 0))) := hid (by rw [hW7]; exact set_heap HN6.out 5 _)
     have HT7 : Hid (TrO W7 W0.heap.size (.slice ta (pairsTo s a).length tc) (pairsTo s a)) := hid (by rw [hW7]; exact (HTO.out.below HB6.out).set HN6.out (by decide) (by decide) 5)
     have HC7 : Hid (W7.ownsRow W0.heap.size 3 1 (.slice ca a cc) a (ints (Si.capsL s))) := hid (by rw [hW7]; exact own_set (own_below HOC.out HB6.out) HN6.out (by decide) 5 _)
     have HK7 : Hid (W7.ownsRow wc.heap.size 3 1 (.slice ka a kc) a (ints (s.zones.map (·.keep)))) := hid (by rw [hW7]; exact own_set (own_below HKF.out HB6.out) HN6.out (by decide) 5 _)
     have HS7 : Hid (Res W7 wr.heap.size (.slice sa SL sc) sl) := hid (by rw [hW7]; exact HRS.out.set HN6.out (by decide) (by decide) 5)
     have HB7 : Hid (Below W0.heap.size W0 W7) := hid (by rw [hW7]; exact (HBR.out.trans (HB6.out.mono HBR.out.size)).setCell hbb _)
     have HR7 : Hid (W7.heap[w.heap.size + 1]? = some (.cells certZero 38 (0, 0))) := hid (keep_heap R0.out HB7.out)
     have HXS : Hid (∀ x ∈ sl, x < 2 ^ a) := hid (by
      intro x hx
      obtain ⟨s', h1, h2⟩ := pick_sub (Pt.edgesL (Si.linked s) a) ws []
      rw [HSL.out, List.nil_append] at h2
      rw [h2] at hx
      have h3 := HPM.out.mem_iff.1 (h1.subset hx)
      rw [List.mem_range'_1] at h3
      have : 1 ≤ 2 ^ a := Nat.one_le_two_pow
      omega)
     have HIC : Hid (Is W7 (.slice ca a cc) (Si.capsL s)) := hid (Sl.of_own HC7.out (own_max HC7.out))
     have e1 := cell_of_heap HN7.out 2 (v := .slice ca a cc) rfl
     have e2 := cell_of_heap HN7.out 4 (v := .int .i64 l6) rfl
     have e3 := cell_of_heap HN7.out 5 (v := .slice sa SL sc) rfl
     have HW7 := hid hW7
     have BW7 : Hid (Below w.heap.size w W7) := hid (B0.out.trans (HB7.out.mono (by omega)))
     have r0 := cell_of_heap HR7.out 0 (v := .int .i64 0) rfl
     have r1 := cell_of_heap HR7.out 1 (v := .slice none 0 0) rfl
     have r2 := cell_of_heap HR7.out 2 (v := .slice none 0 0) rfl
     have r3 := cell_of_heap HR7.out 3 (v := .slice none 0 0) rfl
     have r4 := cell_of_heap HR7.out 4 (v := .int .i64 0) rfl
     have r5 := cell_of_heap HR7.out 5 (v := .slice none 0 0) rfl
     have x0 := free_of_heap HR7.out 0
     have x1 := free_of_heap HR7.out 1
     have x2 := free_of_heap HR7.out 2
     have x3 := free_of_heap HR7.out 3
     have x4 := free_of_heap HR7.out 4
     have x5 := free_of_heap HR7.out 5
     clear hW7 z5 y5 d0 d1 i5
     go_loop [50] (fun iv => ∃ j : Nat, j ≤ SL ∧ iv = .int .i64 j ∧ Hid (∀ x ∈ sl.take j, ¬ Si.sumCaps s x ≤ l6)) (fun iv => SL - (intOf iv).toNat)
     case atStart => exact ⟨0, by omega, rfl, hid (by simp)⟩
     case round =>
      obtain ⟨j, hj, rfl, HJ⟩ := hrel
      by_cases hjl : j < SL
      · have hjs : j < sl.length := by rw [HSLn.out]; exact hjl
        obtain ⟨sb, so, u, e4, hcu, hiu⟩ := HS7.out.ll.cell j (by rw [List.length_map]; exact hjs)
        subst e4
        rw [List.getElem_map] at hiu
        have hxm := HXS.out _ (List.getElem_mem hjs)
        have HTK : Hid (sl.take (j + 1) = sl.take j ++ [sl[j]]) := hid (List.take_succ_eq_append_getElem hjs)
        have HXM : Hid (sl[j] ∈ sl) := hid (List.getElem_mem hjs)
        obtain ⟨x, hx⟩ : ∃ x, sl[j] = x := ⟨_, rfl⟩
        rw [hx] at hiu hxm HTK HXM
        have hl64 := listW_len x
        have hsum := sumTo_all s x
        have hsb := sumTo_le HKK.out (Pt.listW x)
        have HLT : Hid (∀ i ∈ Pt.listW x, i < a) := hid (fun i hi => listW_lt hxm hi)
        obtain ⟨LW, hLW⟩ : ∃ l, Pt.listW x = l := ⟨_, rfl⟩
        rw [hLW] at hiu hl64 hsum hsb HLT
        obtain ⟨m, hm⟩ : ∃ m, LW.length = m := ⟨_, rfl⟩
        rw [hm] at hl64 hsum hsb
        obtain ⟨ua, uc, hus, -⟩ := hiu.form
        subst hus
        rw [nn_len, hm] at hcu hiu
        have HIU := hid hiu
        have HM := hid hm
        have HSB := hid hsb
        have HSUM := hid hsum
        have j0 : (0 : Int) ≤ (j : Int) := by omega
        have j1 : (j : Int) < (SL : Int) := by omega
        have S0 : Hid ((0 : Int) = sumTo s LW 0) := hid (by simp [sumTo])
        clear hiu hm hsb hx hxm hsum hLW
        go_wp2_with fail
        go_loop [56, 9] (fun iv sv => ∃ (k : Nat) (S : Int), k ≤ m ∧ iv = .int .i64 k ∧ sv = .int .i64 S ∧ Hid (S = sumTo s LW k)) (fun iv _ => m - (intOf iv).toNat)
        case atStart => exact ⟨0, 0, by omega, rfl, rfl, S0⟩
        case round =>
         obtain ⟨k, S, hk, rfl, rfl, HS⟩ := hrel
         by_cases hkm : k < m
         · have hkl : k < LW.length := by rw [HM.out]; exact hkm
           obtain ⟨ub, uo, e5, hcp⟩ := HIU.out.cell k (by rw [nn_len]; exact hkl)
           subst e5
           have hpa := HLT.out _ (List.getElem_mem hkl)
           have hsu := sumTo_succ s LW k hkl
           have hb1 := HSB.out k (by omega)
           rw [← HS.out] at hsu hb1
           obtain ⟨p, hp⟩ : ∃ p, LW[k] = p := ⟨_, rfl⟩
           rw [show (Si.nn LW)[k]'(by rw [nn_len]; exact hkl) = (p : Int) by simp [Si.nn, hp]] at hcp
           rw [hp] at hpa hsu
           have hcb := capOf_le HKK.out p
           obtain ⟨cb, co, e6, hcc⟩ := HIC.out.cell p (by rw [Si.capsL_len, HE3.out]; exact hpa)
           rw [show (Si.capsL s)[p]'(by rw [Si.capsL_len, HE3.out]; exact hpa) = Si.capOf s p by simp [Si.capsL]] at hcc
           subst e6
           obtain ⟨C, hC⟩ : ∃ C, Si.capOf s p = C := ⟨_, rfl⟩
           rw [hC] at hcc hsu hcb
           have HSU := hid hsu
           have hwr1 : IntKind.i64.wrap (S + C) = S + C := IntWalk.i64_in _ (by omega)
           have k0 : (0 : Int) ≤ (k : Int) := by omega
           have k1 : (k : Int) < (m : Int) := by omega
           have p0 : (0 : Int) ≤ (p : Int) := by omega
           have p1 : (p : Int) < (a : Int) := by omega
           clear hsu hC hp
           go_wp2_with fail
           go_round
           case rel => exact ⟨k + 1, S + C, by omega, by go_num, rfl, hid HSU.out.symm⟩
           case measure => simp [intOf]; omega
         · obtain rfl : k = m := by omega
           have HSF : Hid (S = Si.sumCaps s x) := hid (by rw [HS.out, HSUM.out])
           by_cases hle : S ≤ (l6 : Int)
           · have HWI : Hid (∃ y ∈ sl, Si.sumCaps s y ≤ s.robots.length) := hid ⟨x, HXM.out, by rw [← HSF.out, HE6.out]; exact hle⟩
             go_wp2_with fail
             refine bodyPost_ret (v := .tuple #[.agg certZero, .int .i64 19]) (results_rowtmp (p := 2) (ty := 38) (u := 3) (by kernel_rfl) _ _ (w.heap.size + 1) 38 certZero (0, 0) _ rfl (six_heap _ _ _ _ _ _ HR7.out) Tryz.underlying38 rfl (by kernel_rfl)) rfl ?_
             refine ⟨six_below _ _ _ _ _ _ (by omega) BW7.out, ws, by rw [HE3.out]; exact HPM.out, HPW.out, .inl ⟨?_, rfl⟩⟩
             rw [HE3.out, HSL.out]; exact HWI.out
           · have HNX : Hid (∀ y ∈ sl.take (j + 1), ¬ Si.sumCaps s y ≤ l6) := hid (by
              rw [HTK.out]
              intro y hy
              rcases List.mem_append.1 hy with h | h
              · have := HJ.out y h; omega
              · rw [List.mem_singleton] at h; subst h; rw [← HSF.out]; exact hle)
             go_wp2_with fail
             go_round
             case rel => exact ⟨j + 1, by omega, by go_num, HNX⟩
             case measure => simp [intOf]; omega
      · obtain rfl : j = SL := by omega
        have HFA : Hid (∀ y ∈ sl, ¬ Si.sumCaps s y ≤ s.robots.length) := hid (by have := HJ.out; rw [List.take_of_length_le (by rw [HSLn.out]; omega)] at this; rw [HE6.out]; exact this)
        have q0 := cell_of_heap HN7.out 0 (v := .int .i64 a) rfl
        have q1 := cell_of_heap HN7.out 1 (v := .slice ta (pairsTo s a).length tc) rfl
        have q3 := cell_of_heap HN7.out 3 (v := .slice ka a kc) rfl
        go_wp2_with fail
        refine bodyPost_ret (v := .tuple #[.agg #[.int .i64 a, .slice ta (pairsTo s a).length tc, .slice ca a cc, .slice ka a kc, .int .i64 l6, .slice sa j sc], .int .i64 0]) (results_rowtmp (p := 2) (ty := 38) (u := 3) (by kernel_rfl) _ _ (w.heap.size + 1) 38 #[.int .i64 a, .slice ta (pairsTo s a).length tc, .slice ca a cc, .slice ka a kc, .int .i64 l6, .slice sa j sc] (0, 0) _ rfl (six_heap _ _ _ _ _ _ HR7.out) Tryz.underlying38 rfl (by kernel_rfl)) rfl ?_
        refine ⟨six_below _ _ _ _ _ _ (by omega) BW7.out, ws, by rw [HE3.out]; exact HPM.out, HPW.out, .inr ⟨?_, ?_⟩⟩
        · rw [HE3.out, HSL.out]; exact fun x hx => Int.not_le.2 (HFA.out x hx)
        · refine ⟨.slice ta (pairsTo s a).length tc, .slice ca a cc, .slice ka a kc, .slice sa j sc, by rw [HE3.out, HE6.out], ?_, ?_, ?_, ?_, CapV.own (HT7.out.choose_spec.2.1), CapV.own HC7.out, CapV.own (HS7.out.choose_spec.2.1)⟩
          · have h1 := (six_tro (.int .i64 a) (.slice ta (pairsTo s a).length tc) (.slice ca a cc) (.slice ka a kc) (.int .i64 l6) (.slice sa j sc) HR7.out HT7.out).tr
            rw [← pairs_net, HE3.out]; exact h1
          · have h1 := six_own (.int .i64 a) (.slice ta (pairsTo s a).length tc) (.slice ca a cc) (.slice ka a kc) (.int .i64 l6) (.slice sa j sc) HR7.out (by decide) HC7.out
            exact Sl.of_own h1 (own_max h1)
          · have h1 := six_own (.int .i64 a) (.slice ta (pairsTo s a).length tc) (.slice ca a cc) (.slice ka a kc) (.int .i64 l6) (.slice sa j sc) HR7.out (by decide) HK7.out
            exact Sl.of_own h1 (own_max h1)
          · have h1 := (six_res (.int .i64 a) (.slice ta (pairsTo s a).length tc) (.slice ca a cc) (.slice ka a kc) (.int .i64 l6) (.slice sa j sc) HR7.out HS7.out).ll
            rw [HE3.out, HSL.out]; exact h1
end Go.Proofs.YtfcbcpfnaadpeaaGreatDoor
