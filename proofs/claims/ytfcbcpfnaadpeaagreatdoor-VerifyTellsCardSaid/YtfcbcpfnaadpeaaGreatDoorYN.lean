/- Parts Bf, Bg, Uc, Ud of this claim, laid one behind the other: walks and the plain laws behind them; each contract states its own conditions. -/
import Derived.Test.YtfcbcpfnaadpeaaGreatDoorZF
import Derived.Test.YtfcbcpfnaadpeaaGreatDoorZN
import Derived.Test.YtfcbcpfnaadpeaaGreatDoorZA
import Derived.Test.YtfcbcpfnaadpeaaGreatDoorYM
namespace Go.Proofs.YtfcbcpfnaadpeaaGreatDoor
set_option maxRecDepth 100000
set_option maxHeartbeats 64000000
set_option linter.unusedSimpArgs false
set_option linter.unusedVariables false
open Go.RowKit
structure FairP (s : Si.Site) (c m : Int) : Prop where
 few : FewP s c m
 right : Si.Right s
 keep : ∀ z ∈ s.zones, z.keep ≤ z.cells.length
theorem FairP.ok {s : Si.Site} {c m : Int} (h : FairP s c m) : Si.Ok s := h.right.ok h.keep
theorem is_of_heap {w : World} {g n c : Nat} {l : List Int} {fr : Nat × Nat} (h : w.heap[g]? = some (.cells (ints l).toArray 3 fr)) (hn : n = l.length) (hm : l.length ≤ maxLen) : Is w (.slice (some ⟨g, 0, none⟩) n c) l := by
 subst hn
 refine ⟨some ⟨g, 0, none⟩, c, by rw [ints_len], by rw [ints_len]; exact hm, (fun h => by cases h), fun i hi => ⟨g, 0, rfl, ?_⟩⟩
 rw [Nat.zero_add]
 exact cell_of_heap h i (by simp [hi])
theorem rw_of_heap {w : World} {g n c k : Nat} {rows : List (List Value)} {t : TypeId} {fr : Nat × Nat} (h : w.heap[g]? = some (.cells rows.flatten.toArray t fr)) (hn : n = rows.length) (hr : ∀ r ∈ rows, r.length = k) (hm : rows.length ≤ maxLen) : Rw w (.slice (some ⟨g, 0, none⟩) n c) k rows := by
 subst hn
 refine ⟨some ⟨g, 0, none⟩, c, rfl, hm, (fun h => by cases h), fun i hi => ⟨g, 0, rfl, heap_lt h, fun j hj => ?_⟩⟩
 rw [Nat.zero_add]
 have hrl := hr _ (List.getElem_mem hi)
 have e1 := get_flatten rows hr i hi j hj
 obtain ⟨y, hy⟩ : ∃ y, rows[i][j]? = some y := ⟨rows[i][j]'(by omega), List.getElem?_eq_getElem _⟩
 rw [hy] at e1 ⊢
 exact cell_of_heap h (i * k + j) (by simpa using e1)
def exRows (k : Nat) : List (List Value) := ((List.range k).map fun i : Nat => ((i : Int), (100 : Int))).map spanC
def ExPost (r : Nat) (w : World) (e : Ending) (w' : World) : Prop :=
 Below w.heap.size w w' ∧ ∃ kv ov zv rv, e = .returned (siV (Si.exS r) kv ov zv (.slice none 0 0) (.slice none 0 0) rv) ∧ SiV w' kv ov zv (.slice none 0 0) (.slice none 0 0) rv (Si.exS r)
abbrev exZero : Array Value := #[.int .i64 0, .int .i64 0, .int .i64 0, .slice none 0 0, .slice none 0 0, .slice none 0 0, .slice none 0 0, .slice none 0 0, .slice none 0 0]
abbrev exSite (h : Nat) (rv : Value) : Array Value := #[.int .i64 6, .int .i64 1, .int .i64 1, .slice (some ⟨h + 1, 0, none⟩) 6 6, .slice (some ⟨h + 1 + 1, 0, none⟩) 6 6, .slice (some ⟨h + 1 + 1 + 1 + 1 + 1 + 1, 0, none⟩) 2 2, .slice none 0 0, .slice none 0 0, rv]
abbrev exZones (h : Nat) : Array Value := #[.string { data := #[97] }, .slice (some ⟨h + 1 + 1 + 1 + 1, 0, none⟩) 2 2, .int .i64 1, .int .i64 0, .slice none 0 0, .string { data := #[98] }, .slice (some ⟨h + 1 + 1 + 1 + 1 + 1, 0, none⟩) 2 2, .int .i64 1, .int .i64 0, .slice none 0 0]
def exW (w : World) : World := ((((((w.alloc (.cells exZero 30)).alloc (.cells #[.int .i64 3, .int .i64 1, .int .i64 1, .int .i64 1, .int .i64 1, .int .i64 1] 3)).alloc (.cells #[.int .i64 1, .int .i64 5, .int .i64 5, .int .i64 5, .int .i64 5, .int .i64 4] 3)).alloc (.cells (exSite w.heap.size (.slice none 0 0)) 30)).alloc (.cells #[.int .i64 1, .int .i64 2] 3)).alloc (.cells #[.int .i64 4, .int .i64 5] 3)).alloc (.cells (exZones w.heap.size) 80)
theorem exW_heap (w : World) : (exW w).heap[w.heap.size]? = some (.cells exZero 30 (0, 0)) ∧ (exW w).heap[w.heap.size + 1]? = some (.cells #[.int .i64 3, .int .i64 1, .int .i64 1, .int .i64 1, .int .i64 1, .int .i64 1] 3 (0, 0)) ∧
 (exW w).heap[w.heap.size + 1 + 1]? = some (.cells #[.int .i64 1, .int .i64 5, .int .i64 5, .int .i64 5, .int .i64 5, .int .i64 4] 3 (0, 0)) ∧ (exW w).heap[w.heap.size + 1 + 1 + 1]? = some (.cells (exSite w.heap.size (.slice none 0 0)) 30 (0, 0)) ∧
 (exW w).heap[w.heap.size + 1 + 1 + 1 + 1]? = some (.cells #[.int .i64 1, .int .i64 2] 3 (0, 0)) ∧ (exW w).heap[w.heap.size + 1 + 1 + 1 + 1 + 1]? = some (.cells #[.int .i64 4, .int .i64 5] 3 (0, 0)) ∧
 (exW w).heap[w.heap.size + 1 + 1 + 1 + 1 + 1 + 1]? = some (.cells (exZones w.heap.size) 80 (0, 0)) := by
 have n1 : ∀ (W : World) (o : Obj) (k : Nat), k = W.heap.size → (W.alloc o).heap[k]? = some o := fun W o k h => by subst h; exact heap_alloc_new W o
 unfold exW
 refine ⟨?_, ?_, ?_, ?_, ?_, ?_, ?_⟩
 · exact heap_old (heap_old (heap_old (heap_old (heap_old (heap_old (heap_alloc_new _ _))))))
 · exact heap_old (heap_old (heap_old (heap_old (heap_old (n1 _ _ _ (by simp))))))
 · exact heap_old (heap_old (heap_old (heap_old (n1 _ _ _ (by simp)))))
 · exact heap_old (heap_old (heap_old (n1 _ _ _ (by simp))))
 · exact heap_old (heap_old (n1 _ _ _ (by simp)))
 · exact heap_old (n1 _ _ _ (by simp))
 · exact n1 _ _ _ (by simp)
theorem ex_siv {w W : World} {r : Nat} {rv : Value} (hW : ∀ k, w.heap.size < k → k ≠ w.heap.size + 1 + 1 + 1 → k < w.heap.size + 7 → W.heap[k]? = (exW w).heap[k]?) (hr : Rw W rv 2 (exRows r)) :
 SiV W (.slice (some ⟨w.heap.size + 1, 0, none⟩) 6 6) (.slice (some ⟨w.heap.size + 1 + 1, 0, none⟩) 6 6) (.slice (some ⟨w.heap.size + 1 + 1 + 1 + 1 + 1 + 1, 0, none⟩) 2 2) (.slice none 0 0) (.slice none 0 0) rv (Si.exS r) := by
 obtain ⟨-, h1, h2, -, h4, h5, h6⟩ := exW_heap w
 rw [← hW _ (by omega) (by omega) (by omega)] at h1 h2 h4 h5 h6
 refine ⟨⟨is_of_heap (l := [3, 1, 1, 1, 1, 1]) h1 rfl (by decide), is_of_heap (l := [1, 5, 5, 5, 5, 4]) h2 rfl (by decide)⟩, ?_, Rw.nil _ _, Rw.nil _ _, hr⟩
 refine ⟨[(⟨[97], [1, 2], 1, 0, []⟩, .slice (some ⟨w.heap.size + 1 + 1 + 1 + 1, 0, none⟩) 2 2, .slice none 0 0), (⟨[98], [4, 5], 1, 0, []⟩, .slice (some ⟨w.heap.size + 1 + 1 + 1 + 1 + 1, 0, none⟩) 2 2, .slice none 0 0)], rfl, ?_, fun x hx => ?_⟩
 · exact rw_of_heap h6 rfl (by simp [zoneC]) (by simp [maxLen])
 · simp at hx
   rcases hx with rfl | rfl
   · exact ⟨is_of_heap (l := [1, 2]) h4 rfl (by decide), Rw.nil _ _⟩
   · exact ⟨is_of_heap (l := [4, 5]) h5 rfl (by decide), Rw.nil _ _⟩
abbrev ex3R : Array Value := #[.int .i64 0, .int .i64 100, .int .i64 1, .int .i64 100, .int .i64 2, .int .i64 100]
abbrev ex3V (h : Nat) : Value := .slice (some ⟨h + 1 + 1 + 1 + 1 + 1 + 1 + 1, 0, none⟩) 3 3
def exV (w : World) : World := (((((((w.alloc (.cells exZero 30)).alloc (.cells #[.int .i64 3, .int .i64 1, .int .i64 1, .int .i64 1, .int .i64 1, .int .i64 1] 3)).alloc (.cells #[.int .i64 1, .int .i64 5, .int .i64 5, .int .i64 5, .int .i64 5, .int .i64 4] 3)).alloc (.cells (exSite w.heap.size (ex3V w.heap.size)) 30)).alloc (.cells #[.int .i64 1, .int .i64 2] 3)).alloc (.cells #[.int .i64 4, .int .i64 5] 3)).alloc (.cells (exZones w.heap.size) 80)).alloc (.cells ex3R 159)
theorem exV_below (w : World) : Below w.heap.size w (exV w) := by
 unfold exV
 exact ((((((((Below.refl _ w).alloc (Nat.le_refl _) _).alloc (by simp) _).alloc (by simp; omega) _).alloc (by simp; omega) _).alloc (by simp; omega) _).alloc (by simp; omega) _).alloc (by simp; omega) _).alloc (by simp; omega) _
theorem exV_heap (w : World) : (exV w).heap[w.heap.size]? = some (.cells exZero 30 (0, 0)) ∧ (exV w).heap[w.heap.size + 1 + 1 + 1]? = some (.cells (exSite w.heap.size (ex3V w.heap.size)) 30 (0, 0)) ∧
 (exV w).heap[w.heap.size + 1 + 1 + 1 + 1 + 1 + 1 + 1]? = some (.cells ex3R 159 (0, 0)) ∧ ∀ k, w.heap.size < k → k ≠ w.heap.size + 1 + 1 + 1 → k < w.heap.size + 7 → (exV w).heap[k]? = (exW w).heap[k]? := by
 have n1 : ∀ (W : World) (o : Obj) (k : Nat), k = W.heap.size → (W.alloc o).heap[k]? = some o := fun W o k h => by subst h; exact heap_alloc_new W o
 refine ⟨?_, ?_, ?_, ?_⟩
 · unfold exV
   exact heap_old (heap_old (heap_old (heap_old (heap_old (heap_old (heap_old (heap_alloc_new _ _)))))))
 · unfold exV
   exact heap_old (heap_old (heap_old (heap_old (n1 _ _ _ (by simp)))))
 · unfold exV
   exact n1 _ _ _ (by simp)
 · intro k h1 h2 h3
   obtain ⟨-, e1, e2, -, e4, e5, e6⟩ := exW_heap w
   rcases (by omega : k = w.heap.size + 1 ∨ k = w.heap.size + 1 + 1 ∨ k = w.heap.size + 1 + 1 + 1 + 1 ∨ k = w.heap.size + 1 + 1 + 1 + 1 + 1 ∨ k = w.heap.size + 1 + 1 + 1 + 1 + 1 + 1) with rfl | rfl | rfl | rfl | rfl
   · rw [e1]; unfold exV; exact heap_old (heap_old (heap_old (heap_old (heap_old (heap_old (n1 _ _ _ (by simp)))))))
   · rw [e2]; unfold exV; exact heap_old (heap_old (heap_old (heap_old (heap_old (n1 _ _ _ (by simp))))))
   · rw [e4]; unfold exV; exact heap_old (heap_old (heap_old (n1 _ _ _ (by simp))))
   · rw [e5]; unfold exV; exact heap_old (heap_old (n1 _ _ _ (by simp)))
   · rw [e6]; unfold exV; exact heap_old (n1 _ _ _ (by simp))
theorem example20_any (w : World) : Calls Tryz.prog 43 #[] w (ExPost 3 w) := by
 have HE := hid (exV_heap w)
 have HBE := hid (exV_below w)
 go_enter Tryz.func43, Tryz.ntmps43
 go_upto_region 4 with fail
 change Code.wp _ _ _ _ (exV w)
 obtain ⟨W0, hW0⟩ : ∃ W0, W0 = exV w := ⟨_, rfl⟩
 rw [← hW0] at HE HBE ⊢
 clear hW0
 have hz0 := HE.out.1
 have HN := hid HE.out.2.1
 have HZ0 := hid hz0
 have e0 : W0.cell? ⟨w.heap.size + 1 + 1 + 1, 0, none⟩ = some (.int .i64 6) := cell_of_heap HN.out 0 rfl
 have e1 : W0.cell? ⟨w.heap.size + 1 + 1 + 1, 1, none⟩ = some (.int .i64 1) := cell_of_heap HN.out 1 rfl
 have e2 : W0.cell? ⟨w.heap.size + 1 + 1 + 1, 2, none⟩ = some (.int .i64 1) := cell_of_heap HN.out 2 rfl
 have e3 : W0.cell? ⟨w.heap.size + 1 + 1 + 1, 3, none⟩ = some (.slice (some ⟨w.heap.size + 1, 0, none⟩) 6 6) := cell_of_heap HN.out 3 rfl
 have e4 : W0.cell? ⟨w.heap.size + 1 + 1 + 1, 4, none⟩ = some (.slice (some ⟨w.heap.size + 1 + 1, 0, none⟩) 6 6) := cell_of_heap HN.out 4 rfl
 have e5 : W0.cell? ⟨w.heap.size + 1 + 1 + 1, 5, none⟩ = some (.slice (some ⟨w.heap.size + 1 + 1 + 1 + 1 + 1 + 1, 0, none⟩) 2 2) := cell_of_heap HN.out 5 rfl
 have e6 : W0.cell? ⟨w.heap.size + 1 + 1 + 1, 6, none⟩ = some (.slice none 0 0) := cell_of_heap HN.out 6 rfl
 have e7 : W0.cell? ⟨w.heap.size + 1 + 1 + 1, 7, none⟩ = some (.slice none 0 0) := cell_of_heap HN.out 7 rfl
 have e8 : W0.cell? ⟨w.heap.size + 1 + 1 + 1, 8, none⟩ = some (ex3V w.heap.size) := cell_of_heap HN.out 8 rfl
 clear hz0
 go_wp2_with (refine wpList_store_row rfl 30 (.tmp 0) (.tmp 17) rfl w.heap.size (exSite w.heap.size (ex3V w.heap.size)) rfl rfl 30 _ HZ0.out (by kernel_rfl) rfl (by kernel_rfl) ?_)
 refine bodyPost_ret (v := .agg (exSite w.heap.size (ex3V w.heap.size))) (results_cell_row (p := 0) (ty := 30) (by kernel_rfl) _ _ w.heap.size 30 _ (0, 0) _ rfl (setRow_heap _ _ _ _ _ _ HZ0.out) Tryz.underlying30 rfl (by kernel_rfl)) rfl ?_
 refine ⟨HBE.out.trans ⟨rfl, rfl, rfl, by simp, fun k hk => setRow_other _ _ _ _ (by omega)⟩, _, _, _, _, rfl, ?_⟩
 refine ex_siv (r := 3) (fun k h1 h2 h3 => ?_) ?_
 · rw [setRow_other _ _ _ _ (by omega), HE.out.2.2.2 k h1 h2 h3]
 · refine rw_of_heap (rows := exRows 3) (t := 159) (fr := (0, 0)) ?_ rfl (fun x hx => by obtain ⟨y, -, rfl⟩ := List.mem_map.1 hx; rfl) (by simp [exRows, maxLen])
   rw [setRow_other _ _ _ _ (by omega), HE.out.2.2.1]
   rfl
theorem exS_right : Si.Right (Si.exS 3) where
 fl := Si.exS_fl 3
 zn := by show 2 ≤ 64; omega
 zc := fun z hz => by rcases Si.exS_zn 3 hz with rfl | rfl <;> exact ⟨by simp, by decide, by show (0 : Int) ≤ 0; omega, by show (1 : Int) ≤ 1; omega, by show (1 : Int) ≤ 100; omega⟩
 zk := fun z hz => by
  rcases Si.exS_zn 3 hz with rfl | rfl
  · show ∀ c ∈ ([1, 2] : List Int), Fl.isC ⟨6, 1, 1, [3, 1, 1, 1, 1, 1], [1, 5, 5, 5, 5, 4]⟩ c = true ∧ Si.kindAt ⟨6, 1, 1, [3, 1, 1, 1, 1, 1], [1, 5, 5, 5, 5, 4]⟩ c ≠ 0 ∧ Si.kindAt ⟨6, 1, 1, [3, 1, 1, 1, 1, 1], [1, 5, 5, 5, 5, 4]⟩ c ≠ 4 ∧ Si.kindAt ⟨6, 1, 1, [3, 1, 1, 1, 1, 1], [1, 5, 5, 5, 5, 4]⟩ c ≠ 5; decide
  · show ∀ c ∈ ([4, 5] : List Int), Fl.isC ⟨6, 1, 1, [3, 1, 1, 1, 1, 1], [1, 5, 5, 5, 5, 4]⟩ c = true ∧ Si.kindAt ⟨6, 1, 1, [3, 1, 1, 1, 1, 1], [1, 5, 5, 5, 5, 4]⟩ c ≠ 0 ∧ Si.kindAt ⟨6, 1, 1, [3, 1, 1, 1, 1, 1], [1, 5, 5, 5, 5, 4]⟩ c ≠ 4 ∧ Si.kindAt ⟨6, 1, 1, [3, 1, 1, 1, 1, 1], [1, 5, 5, 5, 5, 4]⟩ c ≠ 5; decide
 zd := by
  show ([⟨[97], [1, 2], 1, 0, []⟩, ⟨[98], [4, 5], 1, 0, []⟩] : List Si.Zone).Pairwise (fun y z => ∀ c ∈ y.cells, c ∉ z.cells)
  simp
 sn := by show 0 ≤ 3000; omega
 sc := fun x hx => by have : x ∈ ([] : List (Int × List UInt8)) := hx; cases this
 sd := by show (([] : List (Int × List UInt8)).map (·.1)).Nodup; simp
 rn := by show 3 ≤ 200; omega
 rc := fun x hx => by
  have h : x ∈ ([(0, 100), (1, 100), (2, 100)] : List (Int × Int)) := hx
  simp at h
  rcases h with rfl | rfl | rfl <;> decide
 rd := by show (([(0, 100), (1, 100), (2, 100)] : List (Int × Int)).map (·.1)).Nodup; decide
theorem build_cert {s : Si.Site} {w w' : World} {e : Ending} (hn : s.zones.length ≤ 64) (h : BuildPost s w e w') : Below w.heap.size w w' ∧ ∃ sl, Pt.Sips (Si.linked s) s.zones.length sl ∧
 ((Ve.safeB s sl = false ∧ e = .returned (.tuple #[.agg certZero, .int .i64 19])) ∨
  (Ve.safeB s sl = true ∧ ∃ tv cv kv sv, e = .returned (.tuple #[.agg (certA (Ve.right s sl) tv cv kv sv), .int .i64 0]) ∧ CertV w' tv cv kv sv (Ve.right s sl) ∧ CapV tv ∧ CapV cv ∧ CapV sv)) := by
 obtain ⟨hb, ws, hp, ho, h⟩ := h
 refine ⟨hb, _, sips_pick hn hp ho, ?_⟩
 rcases h with ⟨⟨x, hx, hle⟩, he⟩ | ⟨hall, tv, cv, kv, sv, he, h1, h2, h3, h4, h5⟩
 · refine .inl ⟨?_, he⟩
   unfold Ve.safeB
   rw [List.all_eq_false]
   exact ⟨x, hx, by simp; omega⟩
 · refine .inr ⟨?_, tv, cv, kv, sv, he, ⟨h1, h2, h3, h4⟩, h5⟩
   unfold Ve.safeB
   rw [List.all_eq_true]
   intro x hx
   have := hall x hx
   simp; omega
theorem ex_safe : Ve.safeB (Si.exS 3) [3] = true := by
 unfold Ve.safeB
 rw [List.all_cons, Si.exS_sum3]
 decide
theorem ex_sl {sl : List Nat} (h : Pt.Sips (Si.linked (Si.exS 3)) (Si.exS 3).zones.length sl) : sl = [3] := Si.two_sips Si.exS_edges3 h
theorem ex_part : Ve.part (Si.exS 3) [3] (Ve.right (Si.exS 3) [3]) = -1 := Ve.part_ok.2 ⟨rfl, ex_safe⟩
theorem ex_part2 : Ve.part (Si.exS 3) [3] { Ve.right (Si.exS 3) [3] with caps := [2, 3] } = 2 := Ve.refuse_caps rfl (by rw [Si.exS_caps3]; decide)
theorem ex_g01 : getsB (Si.exS 3) 0 1 = true := (getsB_nat (Si.exS 3) 0 1 (by show 0 < 2; omega) (by show 1 < 2; omega)).trans (by decide +kernel)
theorem ex_g10 : getsB (Si.exS 3) 1 0 = true := (getsB_nat (Si.exS 3) 1 0 (by show 1 < 2; omega) (by show 0 < 2; omega)).trans (by decide +kernel)
end Go.Proofs.YtfcbcpfnaadpeaaGreatDoor
