/- Parts Bf, Bg, Uc, Ud of this claim, laid one behind the other: walks and the plain laws behind them; each contract states its own conditions. -/
import Derived.Test.YtfcbcpfnaadpeaaGreatDoorZG
import Derived.Test.YtfcbcpfnaadpeaaGreatDoorZN
import Derived.Test.YtfcbcpfnaadpeaaGreatDoorZA
import Derived.Test.YtfcbcpfnaadpeaaGreatDoorYM
/- Walks of package taquinlaw19: fair, example. -/
namespace Go.Proofs.YtfcbcpfnaadpeaaGreatDoor
set_option linter.unusedSimpArgs false
set_option linter.unusedVariables false
open Go.RowKit

/-- What the laws ask of a site. -/
structure FairP (s : Si.Site) (c m : Int) : Prop where
  few : FewP s c m
  right : Si.Right s
  keep : ∀ z ∈ s.zones, z.keep ≤ z.cells.length
theorem FairP.ok {s : Si.Site} {c m : Int} (h : FairP s c m) : Si.Ok s := h.right.ok h.keep
theorem FewP.names {s : Si.Site} {c m : Int} (h : FewP s c m) : Names s :=
  ⟨fun z hz => by have := (h.zn z hz).2; omega, fun p hp => by have := h.ap p hp; omega, fun p hp => by have := h.sf p hp; omega⟩
set_option maxRecDepth 100000 in
set_option maxHeartbeats 8000000 in
theorem fair_any (s : Si.Site) (kv ov zv av sv rv : Value) (w : World) (h : SiV w kv ov zv av sv rv s) (hcp : SiCap zv av sv rv) :
    Calls Tryz.prog 37 #[siV s kv ov zv av sv rv] w fun e w' => TruePost (FairP s 80 30) e ∧ Below w.heap.size w w' := by
  obtain ⟨a1, c1, a2, c2, a3, c3, a4, c4, a5, c5, a6, c6, rfl, rfl, rfl, rfl, rfl, rfl, m1, m2, m3, m4, m5, m6⟩ := h.open
  have HFW := Lib.hid (fun W hb => rFewS_any s (.slice a1 s.floor.kind.length c1) (.slice a2 s.floor.out.length c2) (.slice a3 s.zones.length c3) (.slice a4 s.aparts.length c4) (.slice a5 s.shelves.length c5) (.slice a6 s.robots.length c6) 80 30 W (h.keep hb) (by omega))
  have HRT := Lib.hid (fun W hb hn => rRight11_any s (.slice a1 s.floor.kind.length c1) (.slice a2 s.floor.out.length c2) (.slice a3 s.zones.length c3) (.slice a4 s.aparts.length c4) (.slice a5 s.shelves.length c5) (.slice a6 s.robots.length c6) W (h.keep hb) hcp hn)
  obtain ⟨l1, e1⟩ : ∃ n, s.floor.kind.length = n := ⟨_, rfl⟩
  obtain ⟨l2, e2⟩ : ∃ n, s.floor.out.length = n := ⟨_, rfl⟩
  obtain ⟨l3, e3⟩ : ∃ n, s.zones.length = n := ⟨_, rfl⟩
  obtain ⟨l4, e4⟩ : ∃ n, s.aparts.length = n := ⟨_, rfl⟩
  obtain ⟨l5, e5⟩ : ∃ n, s.shelves.length = n := ⟨_, rfl⟩
  obtain ⟨l6, e6⟩ : ∃ n, s.robots.length = n := ⟨_, rfl⟩
  unfold siV at HFW HRT ⊢
  rw [e1, e2, e3, e4, e5, e6] at HFW HRT
  rw [e1, e2, e3, e4, e5, e6]
  have B1 := Lib.hid ((Below.refl _ w).alloc (Nat.le_refl _) (.cells #[.int .i64 s.floor.w, .int .i64 s.floor.h, .int .i64 s.floor.d, .slice a1 l1 c1, .slice a2 l2 c2, .slice a3 l3 c3, .slice a4 l4 c4, .slice a5 l5 c5, .slice a6 l6 c6] 30))
  have I0 := Lib.hid (heap_alloc_new w (.cells #[.int .i64 s.floor.w, .int .i64 s.floor.h, .int .i64 s.floor.d, .slice a1 l1 c1, .slice a2 l2 c2, .slice a3 l3 c3, .slice a4 l4 c4, .slice a5 l5 c5, .slice a6 l6 c6] 30))
  clear h hcp e1 e2 e3 e4 e5 e6
  go_enter Tryz.func37, Tryz.ntmps37
  go_wp2_with fail
  go_at_call 44; refine (HFW.out _ B1.out).mono ?_; rintro e w1 ⟨⟨rb, rfl, hrb⟩, b1⟩
  have B2 := Lib.hid (B1.out.trans (b1.mono B1.out.size))
  have i1 := keep_heap I0.out b1
  have HRB := Lib.hid hrb
  have p0 : w1.cell? ⟨w.heap.size, 0, none⟩ = some (.int .i64 s.floor.w) := cell_of_heap i1 0 rfl
  have p1 : w1.cell? ⟨w.heap.size, 1, none⟩ = some (.int .i64 s.floor.h) := cell_of_heap i1 1 rfl
  have p2 : w1.cell? ⟨w.heap.size, 2, none⟩ = some (.int .i64 s.floor.d) := cell_of_heap i1 2 rfl
  have p3 : w1.cell? ⟨w.heap.size, 3, none⟩ = some (.slice a1 l1 c1) := cell_of_heap i1 3 rfl
  have p4 : w1.cell? ⟨w.heap.size, 4, none⟩ = some (.slice a2 l2 c2) := cell_of_heap i1 4 rfl
  have p5 : w1.cell? ⟨w.heap.size, 5, none⟩ = some (.slice a3 l3 c3) := cell_of_heap i1 5 rfl
  have p6 : w1.cell? ⟨w.heap.size, 6, none⟩ = some (.slice a4 l4 c4) := cell_of_heap i1 6 rfl
  have p7 : w1.cell? ⟨w.heap.size, 7, none⟩ = some (.slice a5 l5 c5) := cell_of_heap i1 7 rfl
  have p8 : w1.cell? ⟨w.heap.size, 8, none⟩ = some (.slice a6 l6 c6) := cell_of_heap i1 8 rfl
  clear b1 i1 hrb
  cases rb with
  | false =>
    go_wp2_with fail
    go_ret
    exact ⟨TruePost.no _, B2.out⟩
  | true =>
    have HF := Lib.hid (HRB.out rfl)
    clear HRB
    go_wp2_with fail
    go_at_call 99; refine (HRT.out _ B2.out HF.out.names).mono ?_; rintro e w2 ⟨⟨rb, rfl, hrb⟩, b2⟩
    have HRB := Lib.hid hrb
    have B3 := Lib.hid (B2.out.trans (b2.mono B2.out.size))
    clear b2 hrb
    cases rb with
    | false =>
      go_wp2_with fail
      go_ret
      exact ⟨TruePost.no _, B3.out⟩
    | true =>
      have HG := Lib.hid (HRB.out rfl)
      go_wp2_with fail
      go_ret
      exact ⟨⟨true, rfl, fun _ => ⟨HF.out, HG.out.1, HG.out.2⟩⟩, B3.out⟩
end Go.Proofs.YtfcbcpfnaadpeaaGreatDoor
/- Walks of package taquinlaw19: example. -/
namespace Go.Proofs.YtfcbcpfnaadpeaaGreatDoor
set_option linter.unusedSimpArgs false
set_option linter.unusedVariables false
open Go.RowKit

theorem is_of_heap {w : World} {g n c : Nat} {l : List Int} {fr : Nat × Nat} (h : w.heap[g]? = some (.cells (ints l).toArray 3 fr)) (hn : n = l.length) (hm : l.length ≤ maxLen) : Is w (.slice (some ⟨g, 0, none⟩) n c) l := by
  subst hn
  refine ⟨some ⟨g, 0, none⟩, c, by rw [ints_len], by rw [ints_len]; exact hm, (fun h => by cases h), fun i hi => ⟨g, 0, rfl, ?_⟩⟩
  rw [Nat.zero_add]
  exact cell_of_heap h i (by simp [hi])
theorem rw_of_heap {w : World} {g n c k : Nat} {rows : List (List Value)} {t : TypeId} {fr : Nat × Nat} (h : w.heap[g]? = some (.cells rows.flatten.toArray t fr)) (hn : n = rows.length) (hr : ∀ r ∈ rows, r.length = k) (hm : rows.length ≤ maxLen) : Rw w (.slice (some ⟨g, 0, none⟩) n c) k rows := by
  subst hn
  refine ⟨some ⟨g, 0, none⟩, c, rfl, hm, (fun h => by cases h), fun i hi => ⟨g, 0, rfl, heap_lt h, fun j hj => ?_⟩⟩
  rw [Nat.zero_add]
  have hrl := hr _ (List.getElem_mem hi)
  have e1 := get_flatten rows hr i hi j hj
  obtain ⟨y, hy⟩ : ∃ y, rows[i][j]? = some y := ⟨rows[i][j]'(by omega), List.getElem?_eq_getElem _⟩
  rw [hy] at e1 ⊢
  exact cell_of_heap h (i * k + j) (by simpa using e1)
def exRows (k : Nat) : List (List Value) := ((List.range k).map fun i : Nat => ((i : Int), (100 : Int))).map spanC
theorem exRows_succ (k : Nat) : (exRows (k + 1)).flatten = (exRows k).flatten ++ [.int .i64 (k : Int), .int .i64 100] := by
  unfold exRows
  rw [List.range_succ, List.map_append, List.map_append, List.flatten_append]
  rfl
theorem exRows_len (k : Nat) : (exRows k).length = k := by simp [exRows]
def exCells (h : Nat) (rv : Value) : Array Value := #[.int .i64 6, .int .i64 1, .int .i64 1, .slice (some ⟨h + 1, 0, none⟩) 6 6, .slice (some ⟨h + 2, 0, none⟩) 6 6, .slice (some ⟨h + 6, 0, none⟩) 2 2, .slice none 0 0, .slice none 0 0, rv]
theorem Tryz.startInfoB : (Tryz.prog.info? 159).map (fun i => (i.zero, i.size, i.bytes)) = some (some (.agg #[.int .i64 0, .int .i64 0]), 2, 16) := by kernel_rfl
/-- What example returns. -/
def ExPost (r : Nat) (w : World) (e : Ending) (w' : World) : Prop :=
  Below w.heap.size w w' ∧ ∃ kv ov zv rv, e = .returned (siV (Si.exS r) kv ov zv (.slice none 0 0) (.slice none 0 0) rv) ∧ SiV w' kv ov zv (.slice none 0 0) (.slice none 0 0) rv (Si.exS r)
abbrev exZero : Array Value := #[.int .i64 0, .int .i64 0, .int .i64 0, .slice none 0 0, .slice none 0 0, .slice none 0 0, .slice none 0 0, .slice none 0 0, .slice none 0 0]
abbrev exSite (h : Nat) (rv : Value) : Array Value := #[.int .i64 6, .int .i64 1, .int .i64 1, .slice (some ⟨h + 1, 0, none⟩) 6 6, .slice (some ⟨h + 1 + 1, 0, none⟩) 6 6, .slice (some ⟨h + 1 + 1 + 1 + 1 + 1 + 1, 0, none⟩) 2 2, .slice none 0 0, .slice none 0 0, rv]
abbrev exZones (h : Nat) : Array Value := #[.string { data := #[97] }, .slice (some ⟨h + 1 + 1 + 1 + 1, 0, none⟩) 2 2, .int .i64 1, .int .i64 0, .slice none 0 0, .string { data := #[98] }, .slice (some ⟨h + 1 + 1 + 1 + 1 + 1, 0, none⟩) 2 2, .int .i64 1, .int .i64 0, .slice none 0 0]
/-- The world behind the literals. -/
def exW (w : World) : World := ((((((w.alloc (.cells exZero 30)).alloc (.cells #[.int .i64 3, .int .i64 1, .int .i64 1, .int .i64 1, .int .i64 1, .int .i64 1] 3)).alloc (.cells #[.int .i64 1, .int .i64 5, .int .i64 5, .int .i64 5, .int .i64 5, .int .i64 4] 3)).alloc (.cells (exSite w.heap.size (.slice none 0 0)) 30)).alloc (.cells #[.int .i64 1, .int .i64 2] 3)).alloc (.cells #[.int .i64 4, .int .i64 5] 3)).alloc (.cells (exZones w.heap.size) 80)
theorem exW_size (w : World) : (exW w).heap.size = w.heap.size + 7 := by simp [exW]
theorem exW_below (w : World) : Below w.heap.size w (exW w) := by
  unfold exW
  exact (((((((Below.refl _ w).alloc (Nat.le_refl _) _).alloc (by simp) _).alloc (by simp; omega) _).alloc (by simp; omega) _).alloc (by simp; omega) _).alloc (by simp; omega) _).alloc (by simp; omega) _
theorem exW_heap (w : World) : (exW w).heap[w.heap.size]? = some (.cells exZero 30 (0, 0)) ∧ (exW w).heap[w.heap.size + 1]? = some (.cells #[.int .i64 3, .int .i64 1, .int .i64 1, .int .i64 1, .int .i64 1, .int .i64 1] 3 (0, 0)) ∧
    (exW w).heap[w.heap.size + 1 + 1]? = some (.cells #[.int .i64 1, .int .i64 5, .int .i64 5, .int .i64 5, .int .i64 5, .int .i64 4] 3 (0, 0)) ∧ (exW w).heap[w.heap.size + 1 + 1 + 1]? = some (.cells (exSite w.heap.size (.slice none 0 0)) 30 (0, 0)) ∧
    (exW w).heap[w.heap.size + 1 + 1 + 1 + 1]? = some (.cells #[.int .i64 1, .int .i64 2] 3 (0, 0)) ∧ (exW w).heap[w.heap.size + 1 + 1 + 1 + 1 + 1]? = some (.cells #[.int .i64 4, .int .i64 5] 3 (0, 0)) ∧
    (exW w).heap[w.heap.size + 1 + 1 + 1 + 1 + 1 + 1]? = some (.cells (exZones w.heap.size) 80 (0, 0)) := by
  have n1 : ∀ (W : World) (o : Obj) (k : Nat), k = W.heap.size → (W.alloc o).heap[k]? = some o := fun W o k h => by subst h; exact heap_alloc_new W o
  unfold exW
  refine ⟨?_, ?_, ?_, ?_, ?_, ?_, ?_⟩
  · exact heap_old (heap_old (heap_old (heap_old (heap_old (heap_old (heap_alloc_new _ _))))))
  · exact heap_old (heap_old (heap_old (heap_old (heap_old (n1 _ _ _ (by simp))))))
  · exact heap_old (heap_old (heap_old (heap_old (n1 _ _ _ (by simp)))))
  · exact heap_old (heap_old (heap_old (n1 _ _ _ (by simp))))
  · exact heap_old (heap_old (n1 _ _ _ (by simp)))
  · exact heap_old (n1 _ _ _ (by simp))
  · exact n1 _ _ _ (by simp)
theorem wpList_app_start {w : World} {ops : Array Oper} {rest : List Oper} {o : Oper} {a : Act} {Q : Exit → Act → World → Prop} (hgd : o.guard = none) (s x : Operand)
    (ho : o.op = .call { callee := .builtin .append, args := #[s, x], argTypes := #[28, 28] })
    (base : Nat) (v : Value) (n : Nat) (xs : List Value) (hs : a.eval s = v) (hown : w.ownsRow base 159 2 v n xs)
    (g c : Nat) (y z : Int) (hx : a.eval x = .slice (some ⟨g, 0, none⟩) 1 c) (hg : w.heap[g]? = some (.cells #[.int .i64 y, .int .i64 z] 159 (0, 0)))
    (hsz : n + 1 ≤ 1000000000) (hbase : base ≤ w.heap.size)
    (h : ∀ a' c' w', w'.ownsRow base 159 2 (.slice a' (n + 1) c') (n + 1) (xs ++ [.int .i64 y, .int .i64 z]) → w.grownBy w' v.ownBlock → wpList Tryz.prog ops Q rest (a.put o.dst (.slice a' (n + 1) c')) w') : wpList Tryz.prog ops Q (o :: rest) a w := by
  obtain ⟨i, hi, hz, hsize, hby⟩ := info_parts Tryz.startInfoB
  refine wpList_append_own w hgd s x _ ho base 159 i _ 2 16 Tryz.underlying28 hi hz hsize hby rfl (by decide) v n xs hs hown ⟨g, 0, none⟩ 1 c [.int .i64 y, .int .i64 z] hx rfl ?_ ?_ (by unfold maxLen; omega) (by omega) hbase ?_
  · intro j u hj
    rw [Addr.add_lit]
    have h1 := (List.getElem?_eq_some_iff.1 hj).1
    have h2 : j = 0 ∨ j = 1 := by simp at h1; omega
    rcases h2 with rfl | rfl
    · simp at hj; subst hj; exact cell_of_heap hg 0 rfl
    · simp at hj; subst hj; exact cell_of_heap hg 1 rfl
  · intro u hu
    simp at hu
    rcases hu with rfl | rfl <;> rfl
  · intro v' w' h2 h3 _
    obtain ⟨a', c', rfl, -⟩ := own_slice h2
    exact h a' c' w' h2 h3
/-- The site in the memory. -/
theorem ex_siv {w W : World} {r : Nat} {rv : Value} (hW : ∀ k, w.heap.size < k → k ≠ w.heap.size + 1 + 1 + 1 → k < w.heap.size + 7 → W.heap[k]? = (exW w).heap[k]?) (hr : Rw W rv 2 (exRows r)) :
    SiV W (.slice (some ⟨w.heap.size + 1, 0, none⟩) 6 6) (.slice (some ⟨w.heap.size + 1 + 1, 0, none⟩) 6 6) (.slice (some ⟨w.heap.size + 1 + 1 + 1 + 1 + 1 + 1, 0, none⟩) 2 2) (.slice none 0 0) (.slice none 0 0) rv (Si.exS r) := by
  obtain ⟨-, h1, h2, -, h4, h5, h6⟩ := exW_heap w
  rw [← hW _ (by omega) (by omega) (by omega)] at h1 h2 h4 h5 h6
  refine ⟨⟨is_of_heap (l := [3, 1, 1, 1, 1, 1]) h1 rfl (by decide), is_of_heap (l := [1, 5, 5, 5, 5, 4]) h2 rfl (by decide)⟩, ?_, Rw.nil _ _, Rw.nil _ _, hr⟩
  refine ⟨[(⟨[97], [1, 2], 1, 0, []⟩, .slice (some ⟨w.heap.size + 1 + 1 + 1 + 1, 0, none⟩) 2 2, .slice none 0 0), (⟨[98], [4, 5], 1, 0, []⟩, .slice (some ⟨w.heap.size + 1 + 1 + 1 + 1 + 1, 0, none⟩) 2 2, .slice none 0 0)], rfl, ?_, fun x hx => ?_⟩
  · exact rw_of_heap h6 rfl (by simp [zoneC]) (by simp [maxLen])
  · simp at hx
    rcases hx with rfl | rfl
    · exact ⟨is_of_heap (l := [1, 2]) h4 rfl (by decide), Rw.nil _ _⟩
    · exact ⟨is_of_heap (l := [4, 5]) h5 rfl (by decide), Rw.nil _ _⟩
set_option maxRecDepth 100000 in
set_option maxHeartbeats 8000000 in
theorem example_any (r : Nat) (hr : r ≤ 100) (w : World) :
    Calls Tryz.prog 82 #[.int .i64 (r : Int)] w (ExPost r w) := by
  have HE := Lib.hid (exW_heap w)
  have HS := Lib.hid (exW_size w)
  have HBE := Lib.hid (exW_below w)
  go_enter Tryz.func82, Tryz.ntmps82
  go_wp2_with fail
  change Code.wp _ _ _ _ (exW w)
  obtain ⟨W0, hW0⟩ : ∃ W0, W0 = exW w := ⟨_, rfl⟩
  rw [← hW0] at HE HS HBE ⊢
  have HW0 := Lib.hid hW0
  have HS0 := Lib.hid HE.out.2.2.2.1
  have HR0 : Hid (W0.ownsRow W0.heap.size 159 2 (.slice none 0 0) 0 (exRows 0).flatten) := Lib.hid (World.ownsRow_nil ..)
  clear hW0
  go_loopw [4] (fun iv wr => ∃ (k : Nat) (rv : Value), k ≤ r ∧ iv = .int .i64 k ∧ Hid (wr.heap[w.heap.size + 1 + 1 + 1]? = some (.cells (exSite w.heap.size rv) 30 (0, 0))) ∧ Hid (wr.ownsRow W0.heap.size 159 2 rv k (exRows k).flatten) ∧ Hid (RelN (w.heap.size + 1 + 1 + 1) W0 wr) ∧ Hid (Below w.heap.size w wr)) (fun iv _ => r - (intOf iv).toNat)
  case atStart => exact ⟨0, _, by omega, rfl, HS0, HR0, Lib.hid (RelN.refl _ _), HBE⟩
  case round =>
    obtain ⟨k, rv, hk, rfl, HN, HO, HR, HB⟩ := hrel
    obtain ⟨ra, rc, hrs, hr1⟩ := own_slice HO.out
    subst hrs
    have hsz1 : W0.heap.size ≤ w.heap.size + 7 := by have := HS.out; omega
    have hsz2 : w.heap.size + 7 ≤ W0.heap.size := by have := HS.out; omega
    by_cases hkr : k < r
    · have k1 : (k : Int) < (r : Int) := by omega
      have hlt := heap_lt HN.out
      have hwz := HR.out.1
      have e8 : wr.cell? ⟨w.heap.size + 1 + 1 + 1, 8, none⟩ = some (.slice ra k rc) := cell_of_heap HN.out 8 rfl
      go_wp2_with (at_builtin; refine wpList_app_start rfl (.tmp 21) (.tmp 24) rfl W0.heap.size (.slice ra k rc) k _ rfl (World.ownsRow.alloc HO.out _) wr.heap.size 1 (k : Int) 100 rfl (heap_alloc_new _ _) ?c1 ?c2 ?_)
      case c1 => omega
      case c2 => simp; omega
      intro a' c' w4 ho4 hg4
      have hgb : w4.heap[w.heap.size + 1 + 1 + 1]? = _ := (hg4.block (w.heap.size + 1 + 1 + 1) (by simp; omega) (fun e => by have := (World.ownsRow.lt HO.out _ e.symm).1; omega)).trans (heap_old HN.out)
      have z0 : w4.cell? ⟨w.heap.size + 1 + 1 + 1, 8, none⟩ = some (.slice ra k rc) := cell_of_heap hgb 8 rfl
      have z1 : w4.frozen? ⟨w.heap.size + 1 + 1 + 1, 8, none⟩ = false := free_of_heap hgb 8
      have HO4 := Lib.hid ho4
      have HGB := Lib.hid hgb
      have B4 : Hid (Below wr.heap.size wr (wr.alloc (.cells #[.int .i64 (k : Int), .int .i64 100] 159))) := Lib.hid ((Below.refl _ _).alloc (Nat.le_refl _) _)
      have B5 : Hid (Below W0.heap.size wr w4) := Lib.hid (((Below.refl _ wr).alloc hwz _).trans (below_own (World.ownsRow.alloc HO.out _) hg4 (Nat.le_refl _) (by simp; omega)))
      have HXR : Hid ((exRows (k + 1)).flatten = (exRows k).flatten ++ [.int .i64 (k : Int), .int .i64 100]) := Lib.hid (exRows_succ k)
      clear ho4 hg4 hgb e8
      go_wp2_with fail
      go_roundw
      case rel =>
        refine ⟨k + 1, .slice a' (k + 1) c', by omega, by go_num, Lib.hid (set_heap HGB.out 8 _), Lib.hid ?_, Lib.hid ((HR.out.below B5.out).set 8 _), Lib.hid ((HB.out.trans (B5.out.mono (by omega))).setCell (by show w.heap.size ≤ w.heap.size + 1 + 1 + 1; omega) _)⟩
        rw [HXR.out]
        exact own_set HO4.out HGB.out (by decide) 8 _
      case measure => simp [intOf]; omega
    · obtain rfl : r = k := by omega
      have hz0 : wr.heap[w.heap.size]? = some (.cells exZero 30 (0, 0)) := (HR.out.2 w.heap.size (by omega) (by omega)).trans HE.out.1
      have e0 : wr.cell? ⟨w.heap.size + 1 + 1 + 1, 0, none⟩ = some (.int .i64 6) := cell_of_heap HN.out 0 rfl
      have e1 : wr.cell? ⟨w.heap.size + 1 + 1 + 1, 1, none⟩ = some (.int .i64 1) := cell_of_heap HN.out 1 rfl
      have e2 : wr.cell? ⟨w.heap.size + 1 + 1 + 1, 2, none⟩ = some (.int .i64 1) := cell_of_heap HN.out 2 rfl
      have e3 : wr.cell? ⟨w.heap.size + 1 + 1 + 1, 3, none⟩ = some (.slice (some ⟨w.heap.size + 1, 0, none⟩) 6 6) := cell_of_heap HN.out 3 rfl
      have e4 : wr.cell? ⟨w.heap.size + 1 + 1 + 1, 4, none⟩ = some (.slice (some ⟨w.heap.size + 1 + 1, 0, none⟩) 6 6) := cell_of_heap HN.out 4 rfl
      have e5 : wr.cell? ⟨w.heap.size + 1 + 1 + 1, 5, none⟩ = some (.slice (some ⟨w.heap.size + 1 + 1 + 1 + 1 + 1 + 1, 0, none⟩) 2 2) := cell_of_heap HN.out 5 rfl
      have e6 : wr.cell? ⟨w.heap.size + 1 + 1 + 1, 6, none⟩ = some (.slice none 0 0) := cell_of_heap HN.out 6 rfl
      have e7 : wr.cell? ⟨w.heap.size + 1 + 1 + 1, 7, none⟩ = some (.slice none 0 0) := cell_of_heap HN.out 7 rfl
      have e8 : wr.cell? ⟨w.heap.size + 1 + 1 + 1, 8, none⟩ = some (.slice ra r rc) := cell_of_heap HN.out 8 rfl
      have HZ0 := Lib.hid hz0
      clear hz0
      go_wp2_with (refine wpList_store_row rfl 30 (.tmp 2) (.tmp 27) rfl w.heap.size (exSite w.heap.size (.slice ra r rc)) rfl rfl 30 _ HZ0.out (by kernel_rfl) rfl (by kernel_rfl) ?_)
      refine bodyPost_ret (v := .agg (exSite w.heap.size (.slice ra r rc))) (results_cell_row (p := 2) (ty := 30) (by kernel_rfl) _ _ w.heap.size 30 _ (0, 0) _ rfl (setRow_heap _ _ _ _ _ _ HZ0.out) Tryz.underlying30 rfl (by kernel_rfl)) rfl ?_
      refine ⟨HB.out.trans ⟨rfl, rfl, rfl, by simp, fun k hk => setRow_other _ _ _ _ (by omega)⟩, _, _, _, _, rfl, ?_⟩
      refine ex_siv (r := r) (fun k h1 h2 h3 => ?_) ?_
      · rw [setRow_other _ _ _ _ (by omega), HR.out.2 k (by omega) h2, HW0.out]
      · have hO2 : (wr.setRow w.heap.size (exSite w.heap.size (.slice ra r rc))).ownsRow W0.heap.size 159 2 (.slice ra r rc) r (exRows r).flatten := by
          refine World.ownsRow.kept (row := some w.heap.size) HO.out ⟨rfl, rfl, rfl, by simp, fun k _ hk => setRow_other _ _ _ _ (fun e => hk (by rw [e]))⟩ ?_
          cases hv : (Value.slice ra r rc).ownBlock with
          | none => exact .inl rfl
          | some b => exact .inr (fun e => by injection e with e; have := (World.ownsRow.lt HO.out b hv).1; omega)
        exact Rw.of_own hO2 (exRows_len r) (fun x hx => by obtain ⟨y, -, rfl⟩ := List.mem_map.1 hx; rfl) (by omega)
end Go.Proofs.YtfcbcpfnaadpeaaGreatDoor
/- Walks of package taquinlaw20: example. -/
namespace Go.Proofs.YtfcbcpfnaadpeaaGreatDoor
set_option linter.unusedSimpArgs false
set_option linter.unusedVariables false
open Go.RowKit

abbrev ex3R : Array Value := #[.int .i64 0, .int .i64 100, .int .i64 1, .int .i64 100, .int .i64 2, .int .i64 100]
abbrev ex3V (h : Nat) : Value := .slice (some ⟨h + 1 + 1 + 1 + 1 + 1 + 1 + 1, 0, none⟩) 3 3
/-- The world behind the literals. -/
def exV (w : World) : World := (((((((w.alloc (.cells exZero 30)).alloc (.cells #[.int .i64 3, .int .i64 1, .int .i64 1, .int .i64 1, .int .i64 1, .int .i64 1] 3)).alloc (.cells #[.int .i64 1, .int .i64 5, .int .i64 5, .int .i64 5, .int .i64 5, .int .i64 4] 3)).alloc (.cells (exSite w.heap.size (ex3V w.heap.size)) 30)).alloc (.cells #[.int .i64 1, .int .i64 2] 3)).alloc (.cells #[.int .i64 4, .int .i64 5] 3)).alloc (.cells (exZones w.heap.size) 80)).alloc (.cells ex3R 159)
theorem exV_below (w : World) : Below w.heap.size w (exV w) := by
  unfold exV
  exact ((((((((Below.refl _ w).alloc (Nat.le_refl _) _).alloc (by simp) _).alloc (by simp; omega) _).alloc (by simp; omega) _).alloc (by simp; omega) _).alloc (by simp; omega) _).alloc (by simp; omega) _).alloc (by simp; omega) _
theorem exV_heap (w : World) : (exV w).heap[w.heap.size]? = some (.cells exZero 30 (0, 0)) ∧ (exV w).heap[w.heap.size + 1 + 1 + 1]? = some (.cells (exSite w.heap.size (ex3V w.heap.size)) 30 (0, 0)) ∧
    (exV w).heap[w.heap.size + 1 + 1 + 1 + 1 + 1 + 1 + 1]? = some (.cells ex3R 159 (0, 0)) ∧ ∀ k, w.heap.size < k → k ≠ w.heap.size + 1 + 1 + 1 → k < w.heap.size + 7 → (exV w).heap[k]? = (exW w).heap[k]? := by
  have n1 : ∀ (W : World) (o : Obj) (k : Nat), k = W.heap.size → (W.alloc o).heap[k]? = some o := fun W o k h => by subst h; exact heap_alloc_new W o
  refine ⟨?_, ?_, ?_, ?_⟩
  · unfold exV
    exact heap_old (heap_old (heap_old (heap_old (heap_old (heap_old (heap_old (heap_alloc_new _ _)))))))
  · unfold exV
    exact heap_old (heap_old (heap_old (heap_old (n1 _ _ _ (by simp)))))
  · unfold exV
    exact n1 _ _ _ (by simp)
  · intro k h1 h2 h3
    obtain ⟨-, e1, e2, -, e4, e5, e6⟩ := exW_heap w
    rcases (by omega : k = w.heap.size + 1 ∨ k = w.heap.size + 1 + 1 ∨ k = w.heap.size + 1 + 1 + 1 + 1 ∨ k = w.heap.size + 1 + 1 + 1 + 1 + 1 ∨ k = w.heap.size + 1 + 1 + 1 + 1 + 1 + 1) with rfl | rfl | rfl | rfl | rfl
    · rw [e1]; unfold exV; exact heap_old (heap_old (heap_old (heap_old (heap_old (heap_old (n1 _ _ _ (by simp)))))))
    · rw [e2]; unfold exV; exact heap_old (heap_old (heap_old (heap_old (heap_old (n1 _ _ _ (by simp))))))
    · rw [e4]; unfold exV; exact heap_old (heap_old (heap_old (n1 _ _ _ (by simp))))
    · rw [e5]; unfold exV; exact heap_old (heap_old (n1 _ _ _ (by simp)))
    · rw [e6]; unfold exV; exact heap_old (n1 _ _ _ (by simp))
set_option maxRecDepth 100000 in
set_option maxHeartbeats 8000000 in
theorem example20_any (w : World) : Calls Tryz.prog 43 #[] w (ExPost 3 w) := by
  have HE := Lib.hid (exV_heap w)
  have HBE := Lib.hid (exV_below w)
  go_enter Tryz.func43, Tryz.ntmps43
  go_upto_region 4 with fail
  change Code.wp _ _ _ _ (exV w)
  obtain ⟨W0, hW0⟩ : ∃ W0, W0 = exV w := ⟨_, rfl⟩
  rw [← hW0] at HE HBE ⊢
  clear hW0
  have hz0 := HE.out.1
  have HN := Lib.hid HE.out.2.1
  have HZ0 := Lib.hid hz0
  have e0 : W0.cell? ⟨w.heap.size + 1 + 1 + 1, 0, none⟩ = some (.int .i64 6) := cell_of_heap HN.out 0 rfl
  have e1 : W0.cell? ⟨w.heap.size + 1 + 1 + 1, 1, none⟩ = some (.int .i64 1) := cell_of_heap HN.out 1 rfl
  have e2 : W0.cell? ⟨w.heap.size + 1 + 1 + 1, 2, none⟩ = some (.int .i64 1) := cell_of_heap HN.out 2 rfl
  have e3 : W0.cell? ⟨w.heap.size + 1 + 1 + 1, 3, none⟩ = some (.slice (some ⟨w.heap.size + 1, 0, none⟩) 6 6) := cell_of_heap HN.out 3 rfl
  have e4 : W0.cell? ⟨w.heap.size + 1 + 1 + 1, 4, none⟩ = some (.slice (some ⟨w.heap.size + 1 + 1, 0, none⟩) 6 6) := cell_of_heap HN.out 4 rfl
  have e5 : W0.cell? ⟨w.heap.size + 1 + 1 + 1, 5, none⟩ = some (.slice (some ⟨w.heap.size + 1 + 1 + 1 + 1 + 1 + 1, 0, none⟩) 2 2) := cell_of_heap HN.out 5 rfl
  have e6 : W0.cell? ⟨w.heap.size + 1 + 1 + 1, 6, none⟩ = some (.slice none 0 0) := cell_of_heap HN.out 6 rfl
  have e7 : W0.cell? ⟨w.heap.size + 1 + 1 + 1, 7, none⟩ = some (.slice none 0 0) := cell_of_heap HN.out 7 rfl
  have e8 : W0.cell? ⟨w.heap.size + 1 + 1 + 1, 8, none⟩ = some (ex3V w.heap.size) := cell_of_heap HN.out 8 rfl
  clear hz0
  go_wp2_with (refine wpList_store_row rfl 30 (.tmp 0) (.tmp 17) rfl w.heap.size (exSite w.heap.size (ex3V w.heap.size)) rfl rfl 30 _ HZ0.out (by kernel_rfl) rfl (by kernel_rfl) ?_)
  refine bodyPost_ret (v := .agg (exSite w.heap.size (ex3V w.heap.size))) (results_cell_row (p := 0) (ty := 30) (by kernel_rfl) _ _ w.heap.size 30 _ (0, 0) _ rfl (setRow_heap _ _ _ _ _ _ HZ0.out) Tryz.underlying30 rfl (by kernel_rfl)) rfl ?_
  refine ⟨HBE.out.trans ⟨rfl, rfl, rfl, by simp, fun k hk => setRow_other _ _ _ _ (by omega)⟩, _, _, _, _, rfl, ?_⟩
  refine ex_siv (r := 3) (fun k h1 h2 h3 => ?_) ?_
  · rw [setRow_other _ _ _ _ (by omega), HE.out.2.2.2 k h1 h2 h3]
  · refine rw_of_heap (rows := exRows 3) (t := 159) (fr := (0, 0)) ?_ rfl (fun x hx => by obtain ⟨y, -, rfl⟩ := List.mem_map.1 hx; rfl) (by simp [exRows, maxLen])
    rw [setRow_other _ _ _ _ (by omega), HE.out.2.2.1]
    rfl
end Go.Proofs.YtfcbcpfnaadpeaaGreatDoor
/- Walks of package taquinlaw20: what Build gives, as a certificate; the example's facts. -/
namespace Go.Proofs.YtfcbcpfnaadpeaaGreatDoor
set_option linter.unusedSimpArgs false
set_option linter.unusedVariables false
open Go.RowKit

theorem exS_right : Si.Right (Si.exS 3) where
  fl := Si.exS_fl 3
  zn := by show 2 ≤ 64; omega
  zc := fun z hz => by rcases Si.exS_zn 3 hz with rfl | rfl <;> exact ⟨by simp, by decide, by show (0 : Int) ≤ 0; omega, by show (1 : Int) ≤ 1; omega, by show (1 : Int) ≤ 100; omega⟩
  zk := fun z hz => by
    rcases Si.exS_zn 3 hz with rfl | rfl
    · show ∀ c ∈ ([1, 2] : List Int), Fl.isC ⟨6, 1, 1, [3, 1, 1, 1, 1, 1], [1, 5, 5, 5, 5, 4]⟩ c = true ∧ Si.kindAt ⟨6, 1, 1, [3, 1, 1, 1, 1, 1], [1, 5, 5, 5, 5, 4]⟩ c ≠ 0 ∧ Si.kindAt ⟨6, 1, 1, [3, 1, 1, 1, 1, 1], [1, 5, 5, 5, 5, 4]⟩ c ≠ 4 ∧ Si.kindAt ⟨6, 1, 1, [3, 1, 1, 1, 1, 1], [1, 5, 5, 5, 5, 4]⟩ c ≠ 5; decide
    · show ∀ c ∈ ([4, 5] : List Int), Fl.isC ⟨6, 1, 1, [3, 1, 1, 1, 1, 1], [1, 5, 5, 5, 5, 4]⟩ c = true ∧ Si.kindAt ⟨6, 1, 1, [3, 1, 1, 1, 1, 1], [1, 5, 5, 5, 5, 4]⟩ c ≠ 0 ∧ Si.kindAt ⟨6, 1, 1, [3, 1, 1, 1, 1, 1], [1, 5, 5, 5, 5, 4]⟩ c ≠ 4 ∧ Si.kindAt ⟨6, 1, 1, [3, 1, 1, 1, 1, 1], [1, 5, 5, 5, 5, 4]⟩ c ≠ 5; decide
  zd := by
    show ([⟨[97], [1, 2], 1, 0, []⟩, ⟨[98], [4, 5], 1, 0, []⟩] : List Si.Zone).Pairwise (fun y z => ∀ c ∈ y.cells, c ∉ z.cells)
    simp
  sn := by show 0 ≤ 3000; omega
  sc := fun x hx => by have : x ∈ ([] : List (Int × List UInt8)) := hx; cases this
  sd := by show (([] : List (Int × List UInt8)).map (·.1)).Nodup; simp
  rn := by show 3 ≤ 200; omega
  rc := fun x hx => by
    have h : x ∈ ([(0, 100), (1, 100), (2, 100)] : List (Int × Int)) := hx
    simp at h
    rcases h with rfl | rfl | rfl <;> decide
  rd := by show (([(0, 100), (1, 100), (2, 100)] : List (Int × Int)).map (·.1)).Nodup; decide
/-- What Build answers, as a certificate. -/
theorem build_cert {s : Si.Site} {w w' : World} {e : Ending} (hn : s.zones.length ≤ 64) (h : BuildPost s w e w') : Below w.heap.size w w' ∧ ∃ sl, Pt.Sips (Si.linked s) s.zones.length sl ∧
    ((Ve.safeB s sl = false ∧ e = .returned (.tuple #[.agg certZero, .int .i64 19])) ∨
     (Ve.safeB s sl = true ∧ ∃ tv cv kv sv, e = .returned (.tuple #[.agg (certA (Ve.right s sl) tv cv kv sv), .int .i64 0]) ∧ CertV w' tv cv kv sv (Ve.right s sl) ∧ CapV tv ∧ CapV cv ∧ CapV sv)) := by
  obtain ⟨hb, ws, hp, ho, h⟩ := h
  refine ⟨hb, _, sips_pick hn hp ho, ?_⟩
  rcases h with ⟨⟨x, hx, hle⟩, he⟩ | ⟨hall, tv, cv, kv, sv, he, h1, h2, h3, h4, h5⟩
  · refine .inl ⟨?_, he⟩
    unfold Ve.safeB
    rw [List.all_eq_false]
    exact ⟨x, hx, by simp; omega⟩
  · refine .inr ⟨?_, tv, cv, kv, sv, he, ⟨h1, h2, h3, h4⟩, h5⟩
    unfold Ve.safeB
    rw [List.all_eq_true]
    intro x hx
    have := hall x hx
    simp; omega
theorem ex_safe : Ve.safeB (Si.exS 3) [3] = true := by
  unfold Ve.safeB
  rw [List.all_cons, Si.exS_sum3]
  decide
theorem ex_sl {sl : List Nat} (h : Pt.Sips (Si.linked (Si.exS 3)) (Si.exS 3).zones.length sl) : sl = [3] := Si.two_sips Si.exS_edges3 h
theorem ex_part : Ve.part (Si.exS 3) [3] (Ve.right (Si.exS 3) [3]) = -1 := Ve.part_ok.2 ⟨rfl, ex_safe⟩
theorem ex_part2 : Ve.part (Si.exS 3) [3] { Ve.right (Si.exS 3) [3] with caps := [2, 3] } = 2 := Ve.refuse_caps rfl (by rw [Si.exS_caps3]; decide)
theorem ex_g01 : getsB (Si.exS 3) 0 1 = true := (getsB_nat (Si.exS 3) 0 1 (by show 0 < 2; omega) (by show 1 < 2; omega)).trans (by decide +kernel)
theorem ex_g10 : getsB (Si.exS 3) 1 0 = true := (getsB_nat (Si.exS 3) 1 0 (by show 1 < 2; omega) (by show 0 < 2; omega)).trans (by decide +kernel)
end Go.Proofs.YtfcbcpfnaadpeaaGreatDoor
