/- Parts Bf, Bg, Bh, Uc, Ud of this claim, laid one behind the other: walks and the plain laws behind them; each contract states its own conditions. -/
import Derived.Test.YtfcbcpfnaadpeaaGreatDoorMO
namespace Go.Proofs.YtfcbcpfnaadpeaaGreatDoor
set_option maxRecDepth 100000
set_option maxHeartbeats 64000000
set_option linter.unusedSimpArgs false
set_option linter.unusedVariables false
open Go.RowKit
structure FairP (s : Si.Site) (c m : Int) : Prop where
 few : FewP s c m
 right : Si.Right s
 keep : ∀ z ∈ s.zones, z.keep ≤ z.cells.length
theorem FairP.ok {s : Si.Site} {c m : Int} (h : FairP s c m) : Si.Ok s := h.right.ok h.keep
theorem FewP.names {s : Si.Site} {c m : Int} (h : FewP s c m) : Names s :=
 ⟨fun z hz => by have := (h.zn z hz).2; omega, fun p hp => by have := h.ap p hp; omega, fun p hp => by have := h.sf p hp; omega⟩
theorem fair_any (s : Si.Site) (kv ov zv av sv rv : Value) (w : World) (h : SiV w kv ov zv av sv rv s) (hcp : SiCap zv av sv rv) :
 Calls Tryz.prog 37 #[siV s kv ov zv av sv rv] w fun e w' => TruePost (FairP s 80 30) e ∧ Below w.heap.size w w' := by
 obtain ⟨a1, c1, a2, c2, a3, c3, a4, c4, a5, c5, a6, c6, rfl, rfl, rfl, rfl, rfl, rfl, m1, m2, m3, m4, m5, m6⟩ := h.open
 have HFW := hid (fun W hb => rFewS_any s (.slice a1 s.floor.kind.length c1) (.slice a2 s.floor.out.length c2) (.slice a3 s.zones.length c3) (.slice a4 s.aparts.length c4) (.slice a5 s.shelves.length c5) (.slice a6 s.robots.length c6) 80 30 W (h.keep hb) (by omega))
 have HRT := hid (fun W hb hn => rRight11_any s (.slice a1 s.floor.kind.length c1) (.slice a2 s.floor.out.length c2) (.slice a3 s.zones.length c3) (.slice a4 s.aparts.length c4) (.slice a5 s.shelves.length c5) (.slice a6 s.robots.length c6) W (h.keep hb) hcp hn)
 obtain ⟨l1, e1⟩ : ∃ n, s.floor.kind.length = n := ⟨_, rfl⟩
 obtain ⟨l2, e2⟩ : ∃ n, s.floor.out.length = n := ⟨_, rfl⟩
 obtain ⟨l3, e3⟩ : ∃ n, s.zones.length = n := ⟨_, rfl⟩
 obtain ⟨l4, e4⟩ : ∃ n, s.aparts.length = n := ⟨_, rfl⟩
 obtain ⟨l5, e5⟩ : ∃ n, s.shelves.length = n := ⟨_, rfl⟩
 obtain ⟨l6, e6⟩ : ∃ n, s.robots.length = n := ⟨_, rfl⟩
 unfold siV at HFW HRT ⊢
 rw [e1, e2, e3, e4, e5, e6] at HFW HRT
 rw [e1, e2, e3, e4, e5, e6]
 have B1 := hid ((Below.refl _ w).alloc (Nat.le_refl _) (.cells #[.int .i64 s.floor.w, .int .i64 s.floor.h, .int .i64 s.floor.d, .slice a1 l1 c1, .slice a2 l2 c2, .slice a3 l3 c3, .slice a4 l4 c4, .slice a5 l5 c5, .slice a6 l6 c6] 30))
 have I0 := hid (heap_alloc_new w (.cells #[.int .i64 s.floor.w, .int .i64 s.floor.h, .int .i64 s.floor.d, .slice a1 l1 c1, .slice a2 l2 c2, .slice a3 l3 c3, .slice a4 l4 c4, .slice a5 l5 c5, .slice a6 l6 c6] 30))
 clear h hcp e1 e2 e3 e4 e5 e6
 go_enter Tryz.func37, Tryz.ntmps37
 go_wp2_with fail
 go_at_call 44; refine (HFW.out _ B1.out).mono ?_; rintro e w1 ⟨⟨rb, rfl, hrb⟩, b1⟩
 have B2 := hid (B1.out.trans (b1.mono B1.out.size))
 have i1 := keep_heap I0.out b1
 have HRB := hid hrb
 obtain ⟨p0, p1, p2, p3, p4, p5, p6, p7, p8⟩ := cells9 i1
 clear b1 i1 hrb
 cases rb with
 | false =>
  go_wp2_with fail
  go_ret
  exact ⟨TruePost.no _, B2.out⟩
 | true =>
  have HF := hid (HRB.out rfl)
  clear HRB
  go_wp2_with fail
  go_at_call 99; refine (HRT.out _ B2.out HF.out.names).mono ?_; rintro e w2 ⟨⟨rb, rfl, hrb⟩, b2⟩
  have HRB := hid hrb
  have B3 := hid (B2.out.trans (b2.mono B2.out.size))
  clear b2 hrb
  cases rb with
  | false =>
   go_wp2_with fail
   go_ret
   exact ⟨TruePost.no _, B3.out⟩
  | true =>
   have HG := hid (HRB.out rfl)
   go_wp2_with fail
   go_ret
   exact ⟨⟨true, rfl, fun _ => ⟨HF.out, HG.out.1, HG.out.2⟩⟩, B3.out⟩
theorem is_of_heap {w : World} {g n c : Nat} {l : List Int} {fr : Nat × Nat} (h : w.heap[g]? = some (.cells (ints l).toArray 3 fr)) (hn : n = l.length) (hm : l.length ≤ maxLen) : Is w (.slice (some ⟨g, 0, none⟩) n c) l := by
 subst hn
 refine ⟨some ⟨g, 0, none⟩, c, by rw [ints_len], by rw [ints_len]; exact hm, (fun h => by cases h), fun i hi => ⟨g, 0, rfl, ?_⟩⟩
 rw [Nat.zero_add]
 exact cell_of_heap h i (by simp [hi])
theorem rw_of_heap {w : World} {g n c k : Nat} {rows : List (List Value)} {t : TypeId} {fr : Nat × Nat} (h : w.heap[g]? = some (.cells rows.flatten.toArray t fr)) (hn : n = rows.length) (hr : ∀ r ∈ rows, r.length = k) (hm : rows.length ≤ maxLen) : Rw w (.slice (some ⟨g, 0, none⟩) n c) k rows := by
 subst hn
 refine ⟨some ⟨g, 0, none⟩, c, rfl, hm, (fun h => by cases h), fun i hi => ⟨g, 0, rfl, heap_lt h, fun j hj => ?_⟩⟩
 rw [Nat.zero_add]
 have hrl := hr _ (List.getElem_mem hi)
 have e1 := get_flatten rows hr i hi j hj
 obtain ⟨y, hy⟩ : ∃ y, rows[i][j]? = some y := ⟨rows[i][j]'(by omega), List.getElem?_eq_getElem _⟩
 rw [hy] at e1 ⊢
 exact cell_of_heap h (i * k + j) (by simpa using e1)
def exRows (k : Nat) : List (List Value) := ((List.range k).map fun i : Nat => ((i : Int), (100 : Int))).map spanC
theorem exRows_succ (k : Nat) : (exRows (k + 1)).flatten = (exRows k).flatten ++ [.int .i64 (k : Int), .int .i64 100] := by
 unfold exRows
 rw [List.range_succ, List.map_append, List.map_append, List.flatten_append]
 rfl
theorem exRows_len (k : Nat) : (exRows k).length = k := by simp [exRows]
theorem Tryz.startInfoB : (Tryz.prog.info? 159).map (fun i => (i.zero, i.size, i.bytes)) = some (some (.agg #[.int .i64 0, .int .i64 0]), 2, 16) := by kernel_rfl
def ExPost (r : Nat) (w : World) (e : Ending) (w' : World) : Prop :=
 Below w.heap.size w w' ∧ ∃ kv ov zv rv, e = .returned (siV (Si.exS r) kv ov zv (.slice none 0 0) (.slice none 0 0) rv) ∧ SiV w' kv ov zv (.slice none 0 0) (.slice none 0 0) rv (Si.exS r)
abbrev exZero : Array Value := #[.int .i64 0, .int .i64 0, .int .i64 0, .slice none 0 0, .slice none 0 0, .slice none 0 0, .slice none 0 0, .slice none 0 0, .slice none 0 0]
abbrev exSite (h : Nat) (rv : Value) : Array Value := #[.int .i64 6, .int .i64 1, .int .i64 1, .slice (some ⟨h + 1, 0, none⟩) 6 6, .slice (some ⟨h + 1 + 1, 0, none⟩) 6 6, .slice (some ⟨h + 1 + 1 + 1 + 1 + 1 + 1, 0, none⟩) 2 2, .slice none 0 0, .slice none 0 0, rv]
abbrev exZones (h : Nat) : Array Value := #[.string { data := #[97] }, .slice (some ⟨h + 1 + 1 + 1 + 1, 0, none⟩) 2 2, .int .i64 1, .int .i64 0, .slice none 0 0, .string { data := #[98] }, .slice (some ⟨h + 1 + 1 + 1 + 1 + 1, 0, none⟩) 2 2, .int .i64 1, .int .i64 0, .slice none 0 0]
def exW (w : World) : World := ((((((w.alloc (.cells exZero 30)).alloc (.cells #[.int .i64 3, .int .i64 1, .int .i64 1, .int .i64 1, .int .i64 1, .int .i64 1] 3)).alloc (.cells #[.int .i64 1, .int .i64 5, .int .i64 5, .int .i64 5, .int .i64 5, .int .i64 4] 3)).alloc (.cells (exSite w.heap.size (.slice none 0 0)) 30)).alloc (.cells #[.int .i64 1, .int .i64 2] 3)).alloc (.cells #[.int .i64 4, .int .i64 5] 3)).alloc (.cells (exZones w.heap.size) 80)
theorem exW_size (w : World) : (exW w).heap.size = w.heap.size + 7 := by simp [exW]
theorem exW_below (w : World) : Below w.heap.size w (exW w) := by
 unfold exW
 exact (((((((Below.refl _ w).alloc (Nat.le_refl _) _).alloc (by simp) _).alloc (by simp; omega) _).alloc (by simp; omega) _).alloc (by simp; omega) _).alloc (by simp; omega) _).alloc (by simp; omega) _
theorem exW_heap (w : World) : (exW w).heap[w.heap.size]? = some (.cells exZero 30 (0, 0)) ∧ (exW w).heap[w.heap.size + 1]? = some (.cells #[.int .i64 3, .int .i64 1, .int .i64 1, .int .i64 1, .int .i64 1, .int .i64 1] 3 (0, 0)) ∧
 (exW w).heap[w.heap.size + 1 + 1]? = some (.cells #[.int .i64 1, .int .i64 5, .int .i64 5, .int .i64 5, .int .i64 5, .int .i64 4] 3 (0, 0)) ∧ (exW w).heap[w.heap.size + 1 + 1 + 1]? = some (.cells (exSite w.heap.size (.slice none 0 0)) 30 (0, 0)) ∧
 (exW w).heap[w.heap.size + 1 + 1 + 1 + 1]? = some (.cells #[.int .i64 1, .int .i64 2] 3 (0, 0)) ∧ (exW w).heap[w.heap.size + 1 + 1 + 1 + 1 + 1]? = some (.cells #[.int .i64 4, .int .i64 5] 3 (0, 0)) ∧
 (exW w).heap[w.heap.size + 1 + 1 + 1 + 1 + 1 + 1]? = some (.cells (exZones w.heap.size) 80 (0, 0)) := by
 have n1 : ∀ (W : World) (o : Obj) (k : Nat), k = W.heap.size → (W.alloc o).heap[k]? = some o := fun W o k h => by subst h; exact heap_alloc_new W o
 unfold exW
 refine ⟨?_, ?_, ?_, ?_, ?_, ?_, ?_⟩
 · exact heap_old (heap_old (heap_old (heap_old (heap_old (heap_old (heap_alloc_new _ _))))))
 · exact heap_old (heap_old (heap_old (heap_old (heap_old (n1 _ _ _ (by simp))))))
 · exact heap_old (heap_old (heap_old (heap_old (n1 _ _ _ (by simp)))))
 · exact heap_old (heap_old (heap_old (n1 _ _ _ (by simp))))
 · exact heap_old (heap_old (n1 _ _ _ (by simp)))
 · exact heap_old (n1 _ _ _ (by simp))
 · exact n1 _ _ _ (by simp)
theorem wpList_app_start {w : World} {ops : Array Oper} {rest : List Oper} {o : Oper} {a : Act} {Q : Exit → Act → World → Prop} (hgd : o.guard = none) (s x : Operand)
 (ho : o.op = .call { callee := .builtin .append, args := #[s, x], argTypes := #[28, 28] })
 (base : Nat) (v : Value) (n : Nat) (xs : List Value) (hs : a.eval s = v) (hown : w.ownsRow base 159 2 v n xs)
 (g c : Nat) (y z : Int) (hx : a.eval x = .slice (some ⟨g, 0, none⟩) 1 c) (hg : w.heap[g]? = some (.cells #[.int .i64 y, .int .i64 z] 159 (0, 0)))
 (hsz : n + 1 ≤ 1000000000) (hbase : base ≤ w.heap.size)
 (h : ∀ a' c' w', w'.ownsRow base 159 2 (.slice a' (n + 1) c') (n + 1) (xs ++ [.int .i64 y, .int .i64 z]) → w.grownBy w' v.ownBlock → wpList Tryz.prog ops Q rest (a.put o.dst (.slice a' (n + 1) c')) w') : wpList Tryz.prog ops Q (o :: rest) a w := by
 obtain ⟨i, hi, hz, hsize, hby⟩ := info_parts Tryz.startInfoB
 refine wpList_append_own w hgd s x _ ho base 159 i _ 2 16 Tryz.underlying28 hi hz hsize hby rfl (by decide) v n xs hs hown ⟨g, 0, none⟩ 1 c [.int .i64 y, .int .i64 z] hx rfl ?_ ?_ (by unfold maxLen; omega) (by omega) hbase ?_
 · intro j u hj
   rw [Addr.add_lit]
   have h1 := (List.getElem?_eq_some_iff.1 hj).1
   have h2 : j = 0 ∨ j = 1 := by simp at h1; omega
   rcases h2 with rfl | rfl
   · simp at hj; subst hj; exact cell_of_heap hg 0 rfl
   · simp at hj; subst hj; exact cell_of_heap hg 1 rfl
 · intro u hu
   simp at hu
   rcases hu with rfl | rfl <;> rfl
 · intro v' w' h2 h3 _
   obtain ⟨a', c', rfl, -⟩ := own_slice h2
   exact h a' c' w' h2 h3
theorem ex_siv {w W : World} {r : Nat} {rv : Value} (hW : ∀ k, w.heap.size < k → k ≠ w.heap.size + 1 + 1 + 1 → k < w.heap.size + 7 → W.heap[k]? = (exW w).heap[k]?) (hr : Rw W rv 2 (exRows r)) :
 SiV W (.slice (some ⟨w.heap.size + 1, 0, none⟩) 6 6) (.slice (some ⟨w.heap.size + 1 + 1, 0, none⟩) 6 6) (.slice (some ⟨w.heap.size + 1 + 1 + 1 + 1 + 1 + 1, 0, none⟩) 2 2) (.slice none 0 0) (.slice none 0 0) rv (Si.exS r) := by
 obtain ⟨-, h1, h2, -, h4, h5, h6⟩ := exW_heap w
 rw [← hW _ (by omega) (by omega) (by omega)] at h1 h2 h4 h5 h6
 refine ⟨⟨is_of_heap (l := [3, 1, 1, 1, 1, 1]) h1 rfl (by decide), is_of_heap (l := [1, 5, 5, 5, 5, 4]) h2 rfl (by decide)⟩, ?_, Rw.nil _ _, Rw.nil _ _, hr⟩
 refine ⟨[(⟨[97], [1, 2], 1, 0, []⟩, .slice (some ⟨w.heap.size + 1 + 1 + 1 + 1, 0, none⟩) 2 2, .slice none 0 0), (⟨[98], [4, 5], 1, 0, []⟩, .slice (some ⟨w.heap.size + 1 + 1 + 1 + 1 + 1, 0, none⟩) 2 2, .slice none 0 0)], rfl, ?_, fun x hx => ?_⟩
 · exact rw_of_heap h6 rfl (by simp [zoneC]) (by simp [maxLen])
 · simp at hx
   rcases hx with rfl | rfl
   · exact ⟨is_of_heap (l := [1, 2]) h4 rfl (by decide), Rw.nil _ _⟩
   · exact ⟨is_of_heap (l := [4, 5]) h5 rfl (by decide), Rw.nil _ _⟩
theorem example_any (r : Nat) (hr : r ≤ 100) (w : World) :
 Calls Tryz.prog 82 #[.int .i64 (r : Int)] w (ExPost r w) := by
 have HE := hid (exW_heap w)
 have HS := hid (exW_size w)
 have HBE := hid (exW_below w)
 go_enter Tryz.func82, Tryz.ntmps82
 go_wp2_with fail
 change Code.wp _ _ _ _ (exW w)
 obtain ⟨W0, hW0⟩ : ∃ W0, W0 = exW w := ⟨_, rfl⟩
 rw [← hW0] at HE HS HBE ⊢
 have HW0 := hid hW0
 have HS0 := hid HE.out.2.2.2.1
 have HR0 : Hid (W0.ownsRow W0.heap.size 159 2 (.slice none 0 0) 0 (exRows 0).flatten) := hid (World.ownsRow_nil ..)
 clear hW0
 go_loopw [4] (fun iv wr => ∃ (k : Nat) (rv : Value), k ≤ r ∧ iv = .int .i64 k ∧ Hid (wr.heap[w.heap.size + 1 + 1 + 1]? = some (.cells (exSite w.heap.size rv) 30 (0, 0))) ∧ Hid (wr.ownsRow W0.heap.size 159 2 rv k (exRows k).flatten) ∧ Hid (RelN (w.heap.size + 1 + 1 + 1) W0 wr) ∧ Hid (Below w.heap.size w wr)) (fun iv _ => r - (intOf iv).toNat)
 case atStart => exact ⟨0, _, by omega, rfl, HS0, HR0, hid (RelN.refl _ _), HBE⟩
 case round =>
  obtain ⟨k, rv, hk, rfl, HN, HO, HR, HB⟩ := hrel
  obtain ⟨ra, rc, hrs, hr1⟩ := own_slice HO.out
  subst hrs
  have hsz1 : W0.heap.size ≤ w.heap.size + 7 := by have := HS.out; omega
  have hsz2 : w.heap.size + 7 ≤ W0.heap.size := by have := HS.out; omega
  by_cases hkr : k < r
  · have k1 : (k : Int) < (r : Int) := by omega
    have hlt := heap_lt HN.out
    have hwz := HR.out.1
    have e8 : wr.cell? ⟨w.heap.size + 1 + 1 + 1, 8, none⟩ = some (.slice ra k rc) := cell_of_heap HN.out 8 rfl
    go_wp2_with (at_builtin; refine wpList_app_start rfl (.tmp 21) (.tmp 24) rfl W0.heap.size (.slice ra k rc) k _ rfl (World.ownsRow.alloc HO.out _) wr.heap.size 1 (k : Int) 100 rfl (heap_alloc_new _ _) ?c1 ?c2 ?_)
    case c1 => omega
    case c2 => simp; omega
    intro a' c' w4 ho4 hg4
    have hgb : w4.heap[w.heap.size + 1 + 1 + 1]? = _ := (hg4.block (w.heap.size + 1 + 1 + 1) (by simp; omega) (fun e => by have := (World.ownsRow.lt HO.out _ e.symm).1; omega)).trans (heap_old HN.out)
    have z0 : w4.cell? ⟨w.heap.size + 1 + 1 + 1, 8, none⟩ = some (.slice ra k rc) := cell_of_heap hgb 8 rfl
    have z1 : w4.frozen? ⟨w.heap.size + 1 + 1 + 1, 8, none⟩ = false := free_of_heap hgb 8
    have HO4 := hid ho4
    have HGB := hid hgb
    have B4 : Hid (Below wr.heap.size wr (wr.alloc (.cells #[.int .i64 (k : Int), .int .i64 100] 159))) := hid ((Below.refl _ _).alloc (Nat.le_refl _) _)
    have B5 : Hid (Below W0.heap.size wr w4) := hid (((Below.refl _ wr).alloc hwz _).trans (below_own (World.ownsRow.alloc HO.out _) hg4 (Nat.le_refl _) (by simp; omega)))
    have HXR : Hid ((exRows (k + 1)).flatten = (exRows k).flatten ++ [.int .i64 (k : Int), .int .i64 100]) := hid (exRows_succ k)
    clear ho4 hg4 hgb e8
    go_wp2_with fail
    go_roundw
    case rel =>
     refine ⟨k + 1, .slice a' (k + 1) c', by omega, by go_num, hid (set_heap HGB.out 8 _), hid ?_, hid ((HR.out.below B5.out).set 8 _), hid ((HB.out.trans (B5.out.mono (by omega))).setCell (by show w.heap.size ≤ w.heap.size + 1 + 1 + 1; omega) _)⟩
     rw [HXR.out]
     exact own_set HO4.out HGB.out (by decide) 8 _
    case measure => simp [intOf]; omega
  · obtain rfl : r = k := by omega
    have hz0 : wr.heap[w.heap.size]? = some (.cells exZero 30 (0, 0)) := (HR.out.2 w.heap.size (by omega) (by omega)).trans HE.out.1
    have e0 : wr.cell? ⟨w.heap.size + 1 + 1 + 1, 0, none⟩ = some (.int .i64 6) := cell_of_heap HN.out 0 rfl
    have e1 : wr.cell? ⟨w.heap.size + 1 + 1 + 1, 1, none⟩ = some (.int .i64 1) := cell_of_heap HN.out 1 rfl
    have e2 : wr.cell? ⟨w.heap.size + 1 + 1 + 1, 2, none⟩ = some (.int .i64 1) := cell_of_heap HN.out 2 rfl
    have e3 : wr.cell? ⟨w.heap.size + 1 + 1 + 1, 3, none⟩ = some (.slice (some ⟨w.heap.size + 1, 0, none⟩) 6 6) := cell_of_heap HN.out 3 rfl
    have e4 : wr.cell? ⟨w.heap.size + 1 + 1 + 1, 4, none⟩ = some (.slice (some ⟨w.heap.size + 1 + 1, 0, none⟩) 6 6) := cell_of_heap HN.out 4 rfl
    have e5 : wr.cell? ⟨w.heap.size + 1 + 1 + 1, 5, none⟩ = some (.slice (some ⟨w.heap.size + 1 + 1 + 1 + 1 + 1 + 1, 0, none⟩) 2 2) := cell_of_heap HN.out 5 rfl
    have e6 : wr.cell? ⟨w.heap.size + 1 + 1 + 1, 6, none⟩ = some (.slice none 0 0) := cell_of_heap HN.out 6 rfl
    have e7 : wr.cell? ⟨w.heap.size + 1 + 1 + 1, 7, none⟩ = some (.slice none 0 0) := cell_of_heap HN.out 7 rfl
    have e8 : wr.cell? ⟨w.heap.size + 1 + 1 + 1, 8, none⟩ = some (.slice ra r rc) := cell_of_heap HN.out 8 rfl
    have HZ0 := hid hz0
    clear hz0
    go_wp2_with (refine wpList_store_row rfl 30 (.tmp 2) (.tmp 27) rfl w.heap.size (exSite w.heap.size (.slice ra r rc)) rfl rfl 30 _ HZ0.out (by kernel_rfl) rfl (by kernel_rfl) ?_)
    refine bodyPost_ret (v := .agg (exSite w.heap.size (.slice ra r rc))) (results_cell_row (p := 2) (ty := 30) (by kernel_rfl) _ _ w.heap.size 30 _ (0, 0) _ rfl (setRow_heap _ _ _ _ _ _ HZ0.out) Tryz.underlying30 rfl (by kernel_rfl)) rfl ?_
    refine ⟨HB.out.trans ⟨rfl, rfl, rfl, by simp, fun k hk => setRow_other _ _ _ _ (by omega)⟩, _, _, _, _, rfl, ?_⟩
    refine ex_siv (r := r) (fun k h1 h2 h3 => ?_) ?_
    · rw [setRow_other _ _ _ _ (by omega), HR.out.2 k (by omega) h2, HW0.out]
    · have hO2 : (wr.setRow w.heap.size (exSite w.heap.size (.slice ra r rc))).ownsRow W0.heap.size 159 2 (.slice ra r rc) r (exRows r).flatten := by
       refine World.ownsRow.kept (row := some w.heap.size) HO.out ⟨rfl, rfl, rfl, by simp, fun k _ hk => setRow_other _ _ _ _ (fun e => hk (by rw [e]))⟩ ?_
       cases hv : (Value.slice ra r rc).ownBlock with
       | none => exact .inl rfl
       | some b => exact .inr (fun e => by injection e with e; have := (World.ownsRow.lt HO.out b hv).1; omega)
      exact Rw.of_own hO2 (exRows_len r) (fun x hx => by obtain ⟨y, -, rfl⟩ := List.mem_map.1 hx; rfl) (by omega)
theorem ex_pick {r : Nat} {ws : List Nat} (he : Pt.edgesL (Si.linked (Si.exS r)) 2 = [(1, 2), (2, 1)]) (hp : ws.Perm (List.range' 1 (2 ^ (Si.exS r).zones.length - 1))) (ho : ws.Pairwise (fun a b => Pt.cmpW a b < 0)) :
 Pt.pick (Pt.edgesL (Si.linked (Si.exS r)) (Si.exS r).zones.length) [] ws = [3] :=
 Si.two_sips he (sips_pick (n := 2) (by omega) hp ho)
theorem ex_build3 {w w' : World} {e : Ending} (h : BuildPost (Si.exS 3) w e w') : Below w.heap.size w w' ∧ ∃ tv cv kv sv, e = .returned (.tuple #[.agg #[.int .i64 2, tv, cv, kv, .int .i64 3, sv], .int .i64 0]) ∧
 (∃ n1 a1 c1, tv = .slice a1 n1 c1) ∧ Is w' cv [2, 2] ∧ (∃ n1 a1 c1, kv = .slice a1 n1 c1) ∧ Ll w' sv [[0, 1]] := by
 obtain ⟨hb, ws, hp, ho, h⟩ := h
 have hpk := ex_pick Si.exS_edges3 hp ho
 refine ⟨hb, ?_⟩
 rcases h with ⟨⟨x, hx, hle⟩, -⟩ | ⟨-, tv, cv, kv, sv, rfl, h1, h2, h3, h4, -⟩
 · exfalso
   rw [hpk, List.mem_singleton] at hx
   subst hx
   rw [Si.exS_sum3] at hle
   exact absurd hle (by decide)
 · rw [hpk] at h4
   rw [Si.exS_caps3] at h2
   obtain ⟨g1, q1, rfl, -⟩ := h1.form
   obtain ⟨g2, q2, rfl, -⟩ := h3.form
   refine ⟨_, cv, _, sv, rfl, ⟨_, _, _, rfl⟩, h2, ⟨_, _, _, rfl⟩, ?_⟩
   have e : ([3].map fun x => Si.nn (Pt.listW x)) = [[0, 1]] := by rw [List.map_singleton, Si.list_three]; rfl
   rw [e] at h4
   exact h4
theorem ex_build4 {w w' : World} {e : Ending} (h : BuildPost (Si.exS 4) w e w') : Below w.heap.size w w' ∧ e = .returned (.tuple #[.agg #[.int .i64 0, .slice none 0 0, .slice none 0 0, .slice none 0 0, .int .i64 0, .slice none 0 0], .int .i64 19]) := by
 obtain ⟨hb, ws, hp, ho, h⟩ := h
 have hpk := ex_pick Si.exS_edges4 hp ho
 refine ⟨hb, ?_⟩
 rcases h with ⟨-, h⟩ | ⟨h, -⟩
 · exact h
 · exfalso
   rw [hpk] at h
   refine h 3 (by simp) ?_
   rw [Si.exS_sum4]
   decide
theorem ex_links (w : World) (kv ov zv rv : Value) (h : SiV w kv ov zv (.slice none 0 0) (.slice none 0 0) rv (Si.exS 3)) :
 Calls Tryz.prog 21 #[siV (Si.exS 3) kv ov zv (.slice none 0 0) (.slice none 0 0) rv] w fun e w' => ∃ g, e = .returned (.slice (some ⟨g, 0, none⟩) 2 2) ∧ Ll w' (.slice (some ⟨g, 0, none⟩) 2 2) [[1], [0]] ∧ Below w.heap.size w w' := by
 refine (Links_any (Si.exS 3) kv ov zv _ _ rv w h (Si.exS_ok 3 (by omega))).mono ?_
 rintro e w' ⟨g, n, rfl, hn, hl, hb⟩
 have hn2 : n = 2 := hn
 subst hn2
 rw [Si.exS_links] at hl
 exact ⟨g, rfl, hl, hb⟩
theorem same_yes {va vb : Value} {l : List Int} {w : World} (ha : Is w va l) (hb : Is w vb l) :
 Calls Tryz.prog 28 #[va, vb] w fun e w' => e = .returned (.bool true) ∧ Below w.heap.size w w' :=
 (rSame_any va vb l l w ha hb).mono fun _ _ ⟨he, h⟩ => ⟨by rw [he, decide_eq_true rfl], h⟩
theorem small19_any (w : World) (hE : Env w) :
 Calls Tryz.prog 31 #[] w fun e w' => e = .returned (.bool true) ∧ Below w.heap.size w w' := by
 have HE := hid hE
 clear hE
 go_enter Tryz.func31, Tryz.ntmps31
 go_wp2_with fail
 go_at_call 82; refine (example_any 3 (by omega) _).mono ?_; rintro e w1 ⟨b1, kv1, ov1, zv1, rv1, rfl, hs1⟩
 have B1 := hid b1
 have HS1 := hid hs1
 clear b1 hs1
 go_wp2_with fail
 go_at_call 21; refine (ex_links _ kv1 ov1 zv1 rv1 HS1.out).mono ?_; rintro e w2 ⟨g, rfl, hl, b2⟩
 have HL2 := hid hl
 have B2 := hid (B1.out.trans (b2.mono B1.out.size))
 clear hl b2 B1 HS1
 go_wp2_with fail
 go_at_call 82; refine (example_any 3 (by omega) _).mono ?_; rintro e w3 ⟨b3, kv3, ov3, zv3, rv3, rfl, hs3⟩
 have B3 := hid (B2.out.trans (b3.mono B2.out.size))
 have HL3 := hid (HL2.out.keep b3)
 have HS3 := hid hs3
 clear b3 hs3 B2 HL2
 go_wp2_with fail
 go_at_call 12; refine (Build_any (Si.exS 3) kv3 ov3 zv3 _ _ rv3 w3 HS3.out (Si.exS_ok 3 (by omega)) (by show 2 ≤ 14; omega) (HE.out.below B3.out)).mono ?_; intro e w4 hbp
 obtain ⟨b4, tv, cv, kv, sv, rfl, ⟨tn, ta, tc, rfl⟩, hcv, ⟨kn, ka, kc, rfl⟩, hsv⟩ := ex_build3 hbp
 obtain ⟨ca, cc, rfl, -⟩ := hcv.form
 obtain ⟨sa, sc, rfl, -⟩ := hsv.form
 have B4 := hid (B3.out.trans (b4.mono B3.out.size))
 have HL4 := hid (HL3.out.keep b4)
 have HCV := hid hcv
 have HSV := hid hsv
 clear hbp hcv hsv b4 B3 HL3 HS3
 go_wp2_with fail
 go_at_call 82; refine (example_any 4 (by omega) _).mono ?_; rintro e w5 ⟨b5, kv5, ov5, zv5, rv5, rfl, hs5⟩
 obtain ⟨sb, so, v0, t0, hv0c, hv0⟩ := HSV.out.cell 0 (by simp)
 have ls4 := cell_block_lt hv0c
 subst t0
 obtain ⟨gb, go', u0, t1, hu0c, hu0⟩ := HL4.out.cell 0 (by simp)
 injection t1 with t1; injection t1 with t1 t2; subst t1 t2
 obtain ⟨gb, go', u1, t1, hu1c, hu1⟩ := HL4.out.cell 1 (by simp)
 injection t1 with t1; injection t1 with t1 t2; subst t1 t2
 have lg4 := cell_block_lt hu0c
 have BA : Hid (Below w4.heap.size w4 (w4.alloc (.cells #[.int .i64 2, .slice ta tn tc, .slice ca 2 cc, .slice ka kn kc, .int .i64 3, .slice (some ⟨sb, so, none⟩) 1 sc] 38))) := hid ((Below.refl _ _).alloc (Nat.le_refl _) _)
 have B45 : Hid (Below w4.heap.size w4 w5) := hid (BA.out.trans (b5.mono (by simp)))
 have X5 : Hid (w5.heap[w4.heap.size]? = some (.cells #[.int .i64 2, .slice ta tn tc, .slice ca 2 cc, .slice ka kn kc, .int .i64 3, .slice (some ⟨sb, so, none⟩) 1 sc] 38 (0, 0))) := hid (keep_heap (heap_alloc_new w4 _) b5)
 have B5 := hid (B4.out.trans (B45.out.mono B4.out.size))
 have HS5 := hid hs5
 have HU0 := hid hu0
 have HU1 := hid hu1
 have HV0 := hid hv0
 have C0 := hid hu0c
 have C1 := hid hu1c
 have S0 := hid hv0c
 have LL : Hid (g < w4.heap.size ∧ sb < w4.heap.size) := hid ⟨lg4, ls4⟩
 clear hs5 hu0 hu1 hv0 hu0c hu1c hv0c b5 ls4 lg4
 go_wp2_with fail
 go_at_call 12; refine (Build_any (Si.exS 4) kv5 ov5 zv5 _ _ rv5 w5 HS5.out (Si.exS_ok 4 (by omega)) (by show 2 ≤ 14; omega) (HE.out.below B5.out)).mono ?_; intro e w6 hbp
 obtain ⟨b6, rfl⟩ := ex_build4 hbp
 have B46 := hid (B45.out.trans (b6.mono B45.out.size))
 have B6 := hid (B5.out.trans (b6.mono B5.out.size))
 have X6 := hid (keep_heap X5.out b6)
 have lk : w4.heap.size < w6.heap.size := heap_lt X6.out
 have lg : g < w6.heap.size := by have := LL.out.1; omega
 have ls : sb < w6.heap.size := by have := LL.out.2; omega
 have c0 : w6.cell? ⟨g, 0, none⟩ = some u0 := (B46.out.cell (p := ⟨g, 0, none⟩) LL.out.1).trans C0.out
 have c1 : w6.cell? ⟨g, 1, none⟩ = some u1 := (B46.out.cell (p := ⟨g, 1, none⟩) LL.out.1).trans C1.out
 have s0 : w6.cell? ⟨sb, so, none⟩ = some v0 := (B46.out.cell (p := ⟨sb, so, none⟩) LL.out.2).trans S0.out
 have k2 : w6.cell? ⟨w4.heap.size, 2, none⟩ = some (.slice ca 2 cc) := cell_of_heap X6.out 2 rfl
 have k4 : w6.cell? ⟨w4.heap.size, 4, none⟩ = some (.int .i64 3) := cell_of_heap X6.out 4 rfl
 have k5 : w6.cell? ⟨w4.heap.size, 5, none⟩ = some (.slice (some ⟨sb, so, none⟩) 1 sc) := cell_of_heap X6.out 5 rfl
 obtain ⟨p0, q0, rfl, -⟩ := HU0.out.form
 obtain ⟨p1, q1, rfl, -⟩ := HU1.out.form
 obtain ⟨p2, q2, rfl, -⟩ := HV0.out.form
 clear hbp b6
 have Kc0 := hid (show w6.cell? ⟨g, 0, none⟩ = some (.slice p0 1 q0) from c0)
 have Kc1 := hid (show w6.cell? ⟨g, 1, none⟩ = some (.slice p1 1 q1) from c1)
 have Kk2 := hid (show w6.cell? ⟨w4.heap.size, 2, none⟩ = some (.slice ca 2 cc) from k2)
 have Kk4 := hid (show w6.cell? ⟨w4.heap.size, 4, none⟩ = some (.int .i64 3) from k4)
 have Kk5 := hid (show w6.cell? ⟨w4.heap.size, 5, none⟩ = some (.slice (some ⟨sb, so, none⟩) 1 sc) from k5)
 have Ks0 := hid (show w6.cell? ⟨sb, so, none⟩ = some (.slice p2 2 q2) from s0)
 have B47 : Hid (Below w4.heap.size w4 (w6.alloc (.cells #[.int .i64 0, .slice none 0 0, .slice none 0 0, .slice none 0 0, .int .i64 0, .slice none 0 0] 38))) := hid (B46.out.alloc (Nat.le_of_lt lk) _)
 have B67 : Hid (Below w6.heap.size w6 (w6.alloc (.cells #[.int .i64 0, .slice none 0 0, .slice none 0 0, .slice none 0 0, .int .i64 0, .slice none 0 0] 38))) := hid ((Below.refl _ _).alloc (Nat.le_refl _) _)
 go_wp2_with fail
 go_at_call 28
 refine (same_yes (l := [1]) (HU0.out.keep (B47.out.alloc (by simp; omega) _)) (is_of_heap (l := [1]) (heap_two3 w6 _ _) rfl (by decide))).mono ?_
 rintro e w8 ⟨rfl, b9⟩
 have B6w8 : Hid (Below w6.heap.size w6 w8) := hid ((B67.out.alloc (by simp) _).trans (b9.mono (by simp; omega)))
 have B4w8 : Hid (Below w4.heap.size w4 w8) := hid (B46.out.trans (B6w8.out.mono (Nat.le_of_lt lk)))
 clear b9
 have hc1 : w8.cell? ⟨g, 1, none⟩ = some (.slice p1 1 q1) := (B6w8.out.cell (p := ⟨g, 1, none⟩) lg).trans Kc1.out
 have hk2 : w8.cell? ⟨w4.heap.size, 2, none⟩ = some (.slice ca 2 cc) := (B6w8.out.cell (p := ⟨w4.heap.size, 2, none⟩) lk).trans Kk2.out
 have hk4 : w8.cell? ⟨w4.heap.size, 4, none⟩ = some (.int .i64 3) := (B6w8.out.cell (p := ⟨w4.heap.size, 4, none⟩) lk).trans Kk4.out
 have hk5 : w8.cell? ⟨w4.heap.size, 5, none⟩ = some (.slice (some ⟨sb, so, none⟩) 1 sc) := (B6w8.out.cell (p := ⟨w4.heap.size, 5, none⟩) lk).trans Kk5.out
 have hs0 : w8.cell? ⟨sb, so, none⟩ = some (.slice p2 2 q2) := (B6w8.out.cell (p := ⟨sb, so, none⟩) ls).trans Ks0.out
 clear c0 c1 k2 k4 k5 s0
 have c1 := hc1
 clear hc1
 have k2 := hk2
 clear hk2
 have k4 := hk4
 clear hk4
 have k5 := hk5
 clear hk5
 have s0 := hs0
 clear hs0
 have lw8a : w4.heap.size < w8.heap.size := by have := B6w8.out.size; omega
 have lw8b : g < w8.heap.size := by have := B6w8.out.size; omega
 have lw8c : sb < w8.heap.size := by have := B6w8.out.size; omega
 go_wp2_with fail
 go_at_call 28
 refine (same_yes (l := [0]) (HU1.out.keep (B4w8.out.alloc B4w8.out.size _)) (is_of_heap (l := [0]) (heap_alloc_new w8 _) rfl (by decide))).mono ?_
 rintro e w9 ⟨rfl, b9⟩
 have B6w9 : Hid (Below w6.heap.size w6 w9) := hid ((B6w8.out.alloc B6w8.out.size _).trans (b9.mono (by have := B6w8.out.size; simp; omega)))
 have B4w9 : Hid (Below w4.heap.size w4 w9) := hid (B46.out.trans (B6w9.out.mono (Nat.le_of_lt lk)))
 clear b9 c1 k2 k4 k5 s0
 have hk2 : w9.cell? ⟨w4.heap.size, 2, none⟩ = some (.slice ca 2 cc) := (B6w9.out.cell (p := ⟨w4.heap.size, 2, none⟩) lk).trans Kk2.out
 have hk4 : w9.cell? ⟨w4.heap.size, 4, none⟩ = some (.int .i64 3) := (B6w9.out.cell (p := ⟨w4.heap.size, 4, none⟩) lk).trans Kk4.out
 have hk5 : w9.cell? ⟨w4.heap.size, 5, none⟩ = some (.slice (some ⟨sb, so, none⟩) 1 sc) := (B6w9.out.cell (p := ⟨w4.heap.size, 5, none⟩) lk).trans Kk5.out
 have hs0 : w9.cell? ⟨sb, so, none⟩ = some (.slice p2 2 q2) := (B6w9.out.cell (p := ⟨sb, so, none⟩) ls).trans Ks0.out
 have k2 := hk2
 clear hk2
 have k4 := hk4
 clear hk4
 have k5 := hk5
 clear hk5
 have s0 := hs0
 clear hs0
 have lw9a : w4.heap.size < w9.heap.size := by have := B6w9.out.size; omega
 have lw9b : g < w9.heap.size := by have := B6w9.out.size; omega
 have lw9c : sb < w9.heap.size := by have := B6w9.out.size; omega
 go_wp2_with fail
 go_at_call 28
 refine (same_yes (l := [2, 2]) (HCV.out.keep (B4w9.out.alloc B4w9.out.size _)) (is_of_heap (l := [2, 2]) (heap_alloc_new w9 _) rfl (by decide))).mono ?_
 rintro e w10 ⟨rfl, b9⟩
 have B6w10 : Hid (Below w6.heap.size w6 w10) := hid ((B6w9.out.alloc B6w9.out.size _).trans (b9.mono (by have := B6w9.out.size; simp; omega)))
 have B4w10 : Hid (Below w4.heap.size w4 w10) := hid (B46.out.trans (B6w10.out.mono (Nat.le_of_lt lk)))
 clear b9 k2 k4 k5 s0
 have hk4 : w10.cell? ⟨w4.heap.size, 4, none⟩ = some (.int .i64 3) := (B6w10.out.cell (p := ⟨w4.heap.size, 4, none⟩) lk).trans Kk4.out
 have hk5 : w10.cell? ⟨w4.heap.size, 5, none⟩ = some (.slice (some ⟨sb, so, none⟩) 1 sc) := (B6w10.out.cell (p := ⟨w4.heap.size, 5, none⟩) lk).trans Kk5.out
 have hs0 : w10.cell? ⟨sb, so, none⟩ = some (.slice p2 2 q2) := (B6w10.out.cell (p := ⟨sb, so, none⟩) ls).trans Ks0.out
 have k4 := hk4
 clear hk4
 have k5 := hk5
 clear hk5
 have s0 := hs0
 clear hs0
 have lw10a : w4.heap.size < w10.heap.size := by have := B6w10.out.size; omega
 have lw10b : g < w10.heap.size := by have := B6w10.out.size; omega
 have lw10c : sb < w10.heap.size := by have := B6w10.out.size; omega
 go_wp2_with fail
 go_at_call 28
 refine (same_yes (l := [0, 1]) (HV0.out.keep (B4w10.out.alloc B4w10.out.size _)) (is_of_heap (l := [0, 1]) (heap_alloc_new w10 _) rfl (by decide))).mono ?_
 rintro e w11 ⟨rfl, b9⟩
 have B6w11 : Hid (Below w6.heap.size w6 w11) := hid ((B6w10.out.alloc B6w10.out.size _).trans (b9.mono (by have := B6w10.out.size; simp; omega)))
 have B4w11 : Hid (Below w4.heap.size w4 w11) := hid (B46.out.trans (B6w11.out.mono (Nat.le_of_lt lk)))
 clear b9 k4 k5 s0
 have hk4 : w11.cell? ⟨w4.heap.size, 4, none⟩ = some (.int .i64 3) := (B6w11.out.cell (p := ⟨w4.heap.size, 4, none⟩) lk).trans Kk4.out
 have k4 := hk4
 clear hk4
 have lw11a : w4.heap.size < w11.heap.size := by have := B6w11.out.size; omega
 have lw11b : g < w11.heap.size := by have := B6w11.out.size; omega
 have lw11c : sb < w11.heap.size := by have := B6w11.out.size; omega
 go_wp2_with fail
 go_ret
 exact ⟨rfl, B6.out.trans (B6w11.out.mono B6.out.size)⟩
theorem build_cert {s : Si.Site} {w w' : World} {e : Ending} (hn : s.zones.length ≤ 64) (h : BuildPost s w e w') : Below w.heap.size w w' ∧ ∃ sl, Pt.Sips (Si.linked s) s.zones.length sl ∧
 ((Ve.safeB s sl = false ∧ e = .returned (.tuple #[.agg certZero, .int .i64 19])) ∨
  (Ve.safeB s sl = true ∧ ∃ tv cv kv sv, e = .returned (.tuple #[.agg (certA (Ve.right s sl) tv cv kv sv), .int .i64 0]) ∧ CertV w' tv cv kv sv (Ve.right s sl) ∧ CapV tv ∧ CapV cv ∧ CapV sv)) := by
 obtain ⟨hb, ws, hp, ho, h⟩ := h
 refine ⟨hb, _, sips_pick hn hp ho, ?_⟩
 rcases h with ⟨⟨x, hx, hle⟩, he⟩ | ⟨hall, tv, cv, kv, sv, he, h1, h2, h3, h4, h5⟩
 · refine .inl ⟨?_, he⟩
   unfold Ve.safeB
   rw [List.all_eq_false]
   exact ⟨x, hx, by simp; omega⟩
 · refine .inr ⟨?_, tv, cv, kv, sv, he, ⟨h1, h2, h3, h4⟩, h5⟩
   unfold Ve.safeB
   rw [List.all_eq_true]
   intro x hx
   have := hall x hx
   simp; omega
end Go.Proofs.YtfcbcpfnaadpeaaGreatDoor
