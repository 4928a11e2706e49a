/- Parts Zo, Mk, Ma, Eq of this claim, laid one behind the other: walks and the plain laws behind them; each contract states its own conditions. -/
import Derived.Shelf.Small.Bits
import Derived.Shelf.Small.Strs
import Derived.Shelf.Small.Wraps
import Derived.Shelf.Strconv.Atoi
import Derived.Shelf.Strconv.Itoa0
import Derived.Shelf.Strconv.Itoa1
import Derived.Shelf.LaysM
import Derived.Shelf.Strconv.Itoa2
import Derived.Shelf.Strconv.Itoa3
import Derived.Shelf.Strconv.AtoiErrFast
import Derived.Shelf.Strconv.ParseIntEmpty
import Derived.Shelf.Strconv.AtoiFail
import Derived.Shelf.Strconv.Clone
import Derived.Shelf.Strconv.SyntaxError
import Derived.Shelf.LaysC
import Derived.Shelf.Strconv.ToError
import Derived.Shelf.Strconv.Lower
import Derived.Shelf.Strconv.ParseUint10
import Derived.Shelf.Strconv.ParseUint10Empty
import Derived.Shelf.Strconv.ParseUint10Any
import Derived.Shelf.Strconv.ParseInt10
import Derived.Shelf.Strconv.AtoiLong
import Derived.Shelf.Strconv.AtoiInnerAll
import Derived.Shelf.Strconv.RangeError
import Derived.Shelf.Strconv.ToErrorRange
import Derived.Shelf.Strconv.AtoiAll
import Derived.Shelf.Strings.Search1
import Derived.Shelf.Slices.Turned
import Derived.Ground.Names2Prog
import Derived.Shelf.Slices.CompactI
import Derived.Shelf.Slices.SearchI
import Derived.Ground.SlgfProg
import Derived.Shelf.SlicesQ.IndexFunc
import Derived.Ground.SlsfProg
import Derived.Shelf.SlSortCmp.InsertionK
import Derived.Shelf.SlSortCmp.SiftDownK
import Derived.Shelf.SlSortCmp.HeapSortK
import Derived.Shelf.SlSortCmp.MedianK
import Derived.Shelf.SlSortCmp.PivotK
import Derived.Shelf.SlSortCmp.ReverseRangeK
import Derived.Shelf.SlSortCmp.PartialInsertionK
import Derived.Shelf.SlSortCmp.PartitionEqualK
import Derived.Shelf.SlSortCmp.PartitionK
import Derived.Shelf.SlSortCmp.PdqK
import Derived.Shelf.SlSortCmp.WholeK
import Derived.Shelf.SlSortCmp.NoneTotal
import Derived.Test.YtcdfmgobokjcnaaGreatDoorProg
import Derived.Carry
import Derived.Laws.StructEq
import Derived.ChangeKeysEq
import Derived.Test.YtcdfmgobokjcnaaGreatDoorZD
import Derived.Test.YtcdfmgobokjcnaaGreatDoorUJ
/- Walks of package rules: ZoneOf. -/
namespace Go.Proofs.YtcdfmgobokjcnaaGreatDoor
set_option linter.unusedSimpArgs false
set_option linter.unusedVariables false
open Go.RowKit

end Go.Proofs.YtcdfmgobokjcnaaGreatDoor
/- The maker of package survey among the values: its block, the rows and the maps of its own. -/
namespace Go.Proofs.YtcdfmgobokjcnaaGreatDoor
set_option linter.unusedSimpArgs false
set_option linter.unusedVariables false
open Go.RowKit Go.Maps

theorem ownM_below {w w' : World} {base : Nat} {e : TypeId} {sz : Nat} {v : Value} {n : Nat} {xs : List Value} (h : w.ownsRow base e sz v n xs) (hb : Below w.heap.size w w') : w'.ownsRow base e sz v n xs := by
  refine World.ownsRow.kept h (grown_of_below hb) ?_
  cases hv : v.ownBlock with
  | none => exact .inl rfl
  | some g => exact .inr (by simp)
theorem ownM_set {w : World} {base N : Nat} {e t : TypeId} {sz n : Nat} {v : Value} {xs : List Value} {cs : Array Value} {fr : Nat × Nat} (h : w.ownsRow base e sz v n xs) (hN : w.heap[N]? = some (.cells cs t fr)) (hne : t ≠ e) (i : Nat) (x : Value) : (w.setCell ⟨N, i, none⟩ x).ownsRow base e sz v n xs := by
  refine World.ownsRow.kept (row := some N) h ⟨rfl, rfl, rfl, by simp [World.setCell], fun j _ hj => heap_setCell_other w ⟨N, i, none⟩ j x (fun e => hj (by simp [e]))⟩ ?_
  rcases h.2 with ⟨rfl, -⟩ | ⟨g, cap, cur, rfl, hb, hh, -⟩
  · exact .inl rfl
  · refine .inr (fun e2 => ?_)
    simp only [Value.ownBlock, Option.some.injEq] at e2
    subst e2
    rw [hN] at hh
    injection hh with hh; injection hh with _ h4
    exact hne h4
theorem ownM_map {w w' : World} {base b : Nat} {e : TypeId} {sz : Nat} {v : Value} {n : Nat} {xs : List Value} (h : w.ownsRow base e sz v n xs) (hm : ∃ es c, w.heap[b]? = some (.map es c)) (hg : w.grownBy w' (some b)) : w'.ownsRow base e sz v n xs := by
  refine World.ownsRow.kept h hg ?_
  rcases h.2 with ⟨rfl, -⟩ | ⟨g, cap, cur, rfl, hb, hh, -⟩
  · exact .inl rfl
  · refine .inr (fun e2 => ?_)
    simp only [Value.ownBlock, Option.some.injEq] at e2
    subst e2
    obtain ⟨es, c, hm⟩ := hm
    rw [hm] at hh; cases hh
theorem MapB.isMap {w : World} {b : Nat} {l : List Int} (h : MapB w b l) : ∃ es c, w.heap[b]? = some (.map es c) := by obtain ⟨es, c, h, -⟩ := h; exact ⟨es, c, h⟩
theorem MapI.isMap {w : World} {b : Nat} {l : List (Int × Int)} (h : MapI w b l) : ∃ es c, w.heap[b]? = some (.map es c) := by obtain ⟨es, c, h, -⟩ := h; exact ⟨es, c, h⟩
theorem MapS.isMap {w : World} {b n : Nat} (h : MapS w b n) : ∃ es c, w.heap[b]? = some (.map es c) := by obtain ⟨D, es, c, h, -⟩ := h; exact ⟨es, c, h⟩
theorem heap_map {w w' : World} {b k : Nat} {cs : Array Value} {t : TypeId} {fr : Nat × Nat} (hk : w.heap[k]? = some (.cells cs t fr)) (hm : ∃ es c, w.heap[b]? = some (.map es c)) (hg : w.grownBy w' (some b)) : w'.heap[k]? = some (.cells cs t fr) := by
  refine (hg.block k (Array.getElem?_eq_some_iff.1 hk).1 (fun e => ?_)).trans hk
  injection e with e; subst e
  obtain ⟨es, c, hm⟩ := hm
  rw [hm] at hk; cases hk
theorem grown_set {w : World} {N i : Nat} {x : Value} : w.grownBy (w.setCell ⟨N, i, none⟩ x) (some N) := ⟨rfl, rfl, rfl, by simp [World.setCell], fun j _ hj => heap_setCell_other w ⟨N, i, none⟩ j x (fun e => hj (by simp [e]))⟩
theorem below_grown {base b : Nat} {w w' : World} (hb : base ≤ b) (hw : base ≤ w.heap.size) (hg : w.grownBy w' (some b)) : Below base w w' :=
  ⟨hg.os, hg.tape, hg.output, hg.size, fun k hk => hg.block k (by omega) (fun e => by injection e with e; omega)⟩

def zRows (zl : List (Si.Zone × Value × Value)) (k : Nat) : List Value := ((zl.take k).map fun x => zoneC x.1 x.2.1 x.2.2).flatten
def aRows (l : List (List UInt8 × List UInt8)) (k : Nat) : List Value := ((l.take k).map apartC).flatten
def sRows (l : List (Int × List UInt8)) (k : Nat) : List Value := ((l.take k).map shelfC).flatten
def rRows (l : List (Int × Int)) (k : Nat) : List Value := ((l.take k).map spanC).flatten
theorem zRows_succ {zl : List (Si.Zone × Value × Value)} {k : Nat} (h : k < zl.length) : zRows zl (k + 1) = zRows zl k ++ zoneC zl[k].1 zl[k].2.1 zl[k].2.2 := by unfold zRows; rw [List.take_succ_eq_append_getElem h, List.map_append, List.flatten_append, List.map_singleton, List.flatten_singleton]
theorem aRows_succ {l : List (List UInt8 × List UInt8)} {k : Nat} (h : k < l.length) : aRows l (k + 1) = aRows l k ++ apartC l[k] := by unfold aRows; rw [List.take_succ_eq_append_getElem h, List.map_append, List.flatten_append, List.map_singleton, List.flatten_singleton]
theorem sRows_succ {l : List (Int × List UInt8)} {k : Nat} (h : k < l.length) : sRows l (k + 1) = sRows l k ++ shelfC l[k] := by unfold sRows; rw [List.take_succ_eq_append_getElem h, List.map_append, List.flatten_append, List.map_singleton, List.flatten_singleton]
theorem rRows_succ {l : List (Int × Int)} {k : Nat} (h : k < l.length) : rRows l (k + 1) = rRows l k ++ spanC l[k] := by unfold rRows; rw [List.take_succ_eq_append_getElem h, List.map_append, List.flatten_append, List.map_singleton, List.flatten_singleton]
/-- The shelves' cells with their numbers. -/
def shP (l : List (Int × List UInt8)) (k : Nat) : List (Int × Int) := (List.range k).map fun i : Nat => ((l.map (·.1)).getD i 0, (i : Int))
theorem shP_succ {l : List (Int × List UInt8)} {k : Nat} (h : k < l.length) : shP l (k + 1) = shP l k ++ [(l[k].1, (k : Int))] := by
  unfold shP; rw [List.range_succ, List.map_append]; simp [h]
theorem shP_len (l : List (Int × List UInt8)) (k : Nat) : (shP l k).length = k := by simp [shP]
theorem shP_keys {l : List (Int × List UInt8)} {k : Nat} (h : k ≤ l.length) : (shP l k).map (·.1) = (l.take k).map (·.1) := by
  apply List.ext_getElem (by simp [shP]; omega)
  intro i h1 h2
  have hk : i < k := by simp [shP] at h1; exact h1
  have hl : i < l.length := by omega
  simp [shP, hl]
theorem shP_val {l : List (Int × List UInt8)} {k : Nat} {c v : Int} (h : (c, v) ∈ shP l k) : 0 ≤ v ∧ v < k := by
  unfold shP at h
  obtain ⟨i, hi, e⟩ := List.mem_map.1 h
  injection e with e1 e2
  have := List.mem_range.1 hi
  omega
def mkC (s : Si.Site) (kv ov zv av sv rv : Value) (b1 b2 b3 b4 b5 : Nat) : Array Value :=
  #[.int .i64 s.floor.w, .int .i64 s.floor.h, .int .i64 s.floor.d, kv, ov, zv, av, sv, rv, .map (some b1), .map (some b2), .map (some b3), .map (some b4), .map (some b5), .slice none 0 0, .slice none 0 0]
/-- A maker, with the first zones, rules, shelves and robots of a site; cz: the cells of zones so far; nn: at most so many names. -/
structure MkV (w : World) (base B : Nat) (s : Si.Site) (zl : List (Si.Zone × Value × Value)) (kz ka ks kr nn : Nat) (cz : List Int) (kv ov zv av sv rv : Value) (b1 b2 b3 b4 b5 : Nat) : Prop where
  hB : w.heap[B]? = some (.cells (mkC s kv ov zv av sv rv b1 b2 b3 b4 b5) 153 (0, 0))
  hz : w.ownsRow base 107 5 zv kz (zRows zl kz)
  ha : w.ownsRow base 109 2 av ka (aRows s.aparts ka)
  hs : w.ownsRow base 111 2 sv ks (sRows s.shelves ks)
  hr : w.ownsRow base 93 2 rv kr (rRows s.robots kr)
  m1 : MapI w b1 (shP s.shelves ks)
  m2 : MapB w b2 ((s.robots.take kr).map (·.1))
  m3 : MapB w b3 cz
  m4 : MapS w b4 nn
  lb : base ≤ B ∧ base ≤ b1 ∧ base ≤ b2 ∧ base ≤ b3 ∧ base ≤ b4
  ne : (b1 ≠ b2 ∧ b1 ≠ b3 ∧ b1 ≠ b4) ∧ (b2 ≠ b3 ∧ b2 ≠ b4) ∧ b3 ≠ b4
section
variable {w w' : World} {base B : Nat} {s : Si.Site} {zl : List (Si.Zone × Value × Value)} {kz ka ks kr nn : Nat} {cz : List Int} {kv ov zv av sv rv : Value} {b1 b2 b3 b4 b5 : Nat}
theorem MkV.lt (h : MkV w base B s zl kz ka ks kr nn cz kv ov zv av sv rv b1 b2 b3 b4 b5) : B < w.heap.size := heap_lt h.hB
theorem MkV.base_le (h : MkV w base B s zl kz ka ks kr nn cz kv ov zv av sv rv b1 b2 b3 b4 b5) : base ≤ w.heap.size := by have h1 := h.lt; have h2 := h.lb.1; omega
theorem MkV.below (h : MkV w base B s zl kz ka ks kr nn cz kv ov zv av sv rv b1 b2 b3 b4 b5) (hb : Below w.heap.size w w') : MkV w' base B s zl kz ka ks kr nn cz kv ov zv av sv rv b1 b2 b3 b4 b5 :=
  ⟨keep_heap h.hB hb, ownM_below h.hz hb, ownM_below h.ha hb, ownM_below h.hs hb, ownM_below h.hr hb, h.m1.below hb, h.m2.below hb, h.m3.below hb, h.m4.below hb, h.lb, h.ne⟩
theorem MkV.put3 (h : MkV w base B s zl kz ka ks kr nn cz kv ov zv av sv rv b1 b2 b3 b4 b5) {cz' : List Int} (hm : MapB w' b3 cz') (hg : w.grownBy w' (some b3)) : MkV w' base B s zl kz ka ks kr nn cz' kv ov zv av sv rv b1 b2 b3 b4 b5 :=
  have hi := h.m3.isMap
  ⟨heap_map h.hB hi hg, ownM_map h.hz hi hg, ownM_map h.ha hi hg, ownM_map h.hs hi hg, ownM_map h.hr hi hg, h.m1.kept hg (by have := h.ne.1.2.1; simpa using this), h.m2.kept hg (by have := h.ne.2.1.1; simpa using this), hm, h.m4.kept hg (by have := h.ne.2.2; simpa using fun e => this e.symm), h.lb, h.ne⟩
theorem MkV.put4 (h : MkV w base B s zl kz ka ks kr nn cz kv ov zv av sv rv b1 b2 b3 b4 b5) {n' : Nat} (hm : MapS w' b4 n') (hg : w.grownBy w' (some b4)) : MkV w' base B s zl kz ka ks kr n' cz kv ov zv av sv rv b1 b2 b3 b4 b5 :=
  have hi := h.m4.isMap
  ⟨heap_map h.hB hi hg, ownM_map h.hz hi hg, ownM_map h.ha hi hg, ownM_map h.hs hi hg, ownM_map h.hr hi hg, h.m1.kept hg (by have := h.ne.1.2.2; simpa using this), h.m2.kept hg (by have := h.ne.2.1.2; simpa using this), h.m3.kept hg (by have := h.ne.2.2; simpa using this), hm, h.lb, h.ne⟩
theorem gt_map {e : TypeId} (hg : GT e w w') {b : Nat} (hm : ∃ es c, w.heap[b]? = some (.map es c)) : ∃ row, w.grownBy w' row ∧ some b ≠ row := by
  obtain ⟨row, h1, h2⟩ := hg
  refine ⟨row, h1, fun e => ?_⟩
  obtain ⟨cs, fr, h3⟩ := h2 b e.symm
  obtain ⟨es, c, hm⟩ := hm
  rw [hm] at h3; cases h3
theorem MapB.gt {b : Nat} {l : List Int} {e : TypeId} (h : MapB w b l) (hg : GT e w w') : MapB w' b l := by obtain ⟨row, h1, h2⟩ := gt_map hg h.isMap; exact h.kept h1 h2
theorem MapI.gt {b : Nat} {l : List (Int × Int)} {e : TypeId} (h : MapI w b l) (hg : GT e w w') : MapI w' b l := by obtain ⟨row, h1, h2⟩ := gt_map hg h.isMap; exact h.kept h1 h2
theorem MapS.gt {b n : Nat} {e : TypeId} (h : MapS w b n) (hg : GT e w w') : MapS w' b n := by obtain ⟨row, h1, h2⟩ := gt_map hg h.isMap; exact h.kept h1 h2
theorem gt_set {e : TypeId} {k : Nat} {cs : Array Value} {fr : Nat × Nat} (hk : w.heap[k]? = some (.cells cs e fr)) (o : Nat) (v : Value) : GT e w (w.setCell ⟨k, o, none⟩ v) :=
  ⟨some k, grown_set, fun j hj => by injection hj with hj; subst hj; exact ⟨_, _, hk⟩⟩
/-- A zone is appended: the row's world, then the maker's cell. -/
theorem MkV.appZ (h : MkV w base B s zl kz ka ks kr nn cz kv ov zv av sv rv b1 b2 b3 b4 b5) {zv' : Value} {n' : Nat} (ho : w'.ownsRow base 107 5 zv' n' (zRows zl n')) (hg : w.grownBy w' zv.ownBlock) :
    MkV (w'.setCell ⟨B, 5, none⟩ zv') base B s zl n' ka ks kr nn cz kv ov zv' av sv rv b1 b2 b3 b4 b5 := by
  have hG : GT 107 w w' := GT.of_own h.hz hg
  have hB' := hG.heap h.hB (by decide)
  have hS := gt_set hB' 5 zv'
  exact ⟨set_heap hB' 5 zv', ownM_set ho hB' (by decide) 5 _, hS.row (hG.row h.ha (by decide)) (by decide), hS.row (hG.row h.hs (by decide)) (by decide), hS.row (hG.row h.hr (by decide)) (by decide),
    (h.m1.gt hG).gt hS, (h.m2.gt hG).gt hS, (h.m3.gt hG).gt hS, (h.m4.gt hG).gt hS, h.lb, h.ne⟩
theorem MkV.appA (h : MkV w base B s zl kz ka ks kr nn cz kv ov zv av sv rv b1 b2 b3 b4 b5) {av' : Value} {n' : Nat} (ho : w'.ownsRow base 109 2 av' n' (aRows s.aparts n')) (hg : w.grownBy w' av.ownBlock) :
    MkV (w'.setCell ⟨B, 6, none⟩ av') base B s zl kz n' ks kr nn cz kv ov zv av' sv rv b1 b2 b3 b4 b5 := by
  have hG : GT 109 w w' := GT.of_own h.ha hg
  have hB' := hG.heap h.hB (by decide)
  have hS := gt_set hB' 6 av'
  exact ⟨set_heap hB' 6 av', hS.row (hG.row h.hz (by decide)) (by decide), ownM_set ho hB' (by decide) 6 _, hS.row (hG.row h.hs (by decide)) (by decide), hS.row (hG.row h.hr (by decide)) (by decide),
    (h.m1.gt hG).gt hS, (h.m2.gt hG).gt hS, (h.m3.gt hG).gt hS, (h.m4.gt hG).gt hS, h.lb, h.ne⟩
/-- A shelf is put into the map, then appended. -/
theorem MkV.appS {w1 : World} (h : MkV w base B s zl kz ka ks kr nn cz kv ov zv av sv rv b1 b2 b3 b4 b5) {sv' : Value} (hm : MapI w1 b1 (shP s.shelves (ks + 1))) (hg1 : w.grownBy w1 (some b1)) {w2 : World} (hb2 : Below w1.heap.size w1 w2)
    (ho : w'.ownsRow base 111 2 sv' (ks + 1) (sRows s.shelves (ks + 1))) (hg : w2.grownBy w' sv.ownBlock) :
    MkV (w'.setCell ⟨B, 7, none⟩ sv') base B s zl kz ka (ks + 1) kr nn cz kv ov zv av sv' rv b1 b2 b3 b4 b5 := by
  have hi := h.m1.isMap
  have hsw := ownM_below (ownM_map h.hs hi hg1) hb2
  have hG : GT 111 w2 w' := GT.of_own hsw hg
  have hB' := hG.heap (keep_heap (heap_map h.hB hi hg1) hb2) (by decide)
  have hS := gt_set hB' 7 sv'
  have hne := h.ne
  exact ⟨set_heap hB' 7 sv', hS.row (hG.row (ownM_below (ownM_map h.hz hi hg1) hb2) (by decide)) (by decide), hS.row (hG.row (ownM_below (ownM_map h.ha hi hg1) hb2) (by decide)) (by decide), ownM_set ho hB' (by decide) 7 _,
    hS.row (hG.row (ownM_below (ownM_map h.hr hi hg1) hb2) (by decide)) (by decide),
    ((hm.below hb2).gt hG).gt hS, (((h.m2.kept hg1 (by simpa using fun e => hne.1.1 e.symm)).below hb2).gt hG).gt hS, (((h.m3.kept hg1 (by simpa using fun e => hne.1.2.1 e.symm)).below hb2).gt hG).gt hS,
    (((h.m4.kept hg1 (by simpa using fun e => hne.1.2.2 e.symm)).below hb2).gt hG).gt hS, h.lb, h.ne⟩
theorem MkV.appR {w1 : World} (h : MkV w base B s zl kz ka ks kr nn cz kv ov zv av sv rv b1 b2 b3 b4 b5) {rv' : Value} (hm : MapB w1 b2 ((s.robots.take (kr + 1)).map (·.1))) (hg1 : w.grownBy w1 (some b2)) {w2 : World} (hb2 : Below w1.heap.size w1 w2)
    (ho : w'.ownsRow base 93 2 rv' (kr + 1) (rRows s.robots (kr + 1))) (hg : w2.grownBy w' rv.ownBlock) :
    MkV (w'.setCell ⟨B, 8, none⟩ rv') base B s zl kz ka ks (kr + 1) nn cz kv ov zv av sv rv' b1 b2 b3 b4 b5 := by
  have hi := h.m2.isMap
  have hsw := ownM_below (ownM_map h.hr hi hg1) hb2
  have hG : GT 93 w2 w' := GT.of_own hsw hg
  have hB' := hG.heap (keep_heap (heap_map h.hB hi hg1) hb2) (by decide)
  have hS := gt_set hB' 8 rv'
  have hne := h.ne
  exact ⟨set_heap hB' 8 rv', hS.row (hG.row (ownM_below (ownM_map h.hz hi hg1) hb2) (by decide)) (by decide), hS.row (hG.row (ownM_below (ownM_map h.ha hi hg1) hb2) (by decide)) (by decide),
    hS.row (hG.row (ownM_below (ownM_map h.hs hi hg1) hb2) (by decide)) (by decide), ownM_set ho hB' (by decide) 8 _,
    (((h.m1.kept hg1 (by simpa using hne.1.1)).below hb2).gt hG).gt hS, ((hm.below hb2).gt hG).gt hS, (((h.m3.kept hg1 (by simpa using fun e => hne.2.1.1 e.symm)).below hb2).gt hG).gt hS,
    (((h.m4.kept hg1 (by simpa using fun e => hne.2.1.2 e.symm)).below hb2).gt hG).gt hS, h.lb, h.ne⟩
end
end Go.Proofs.YtcdfmgobokjcnaaGreatDoor
/- Walks of package survey: newMaker, within, stands, zoned, kindAt, cells. -/
namespace Go.Proofs.YtcdfmgobokjcnaaGreatDoor
set_option linter.unusedSimpArgs false
set_option linter.unusedVariables false
open Go.RowKit Go.Maps

theorem heap_le {w : World} {k : Nat} {o p : Obj} (h : w.heap[k]? = some o) : (w.alloc p).heap[k]? = some o := (heap_alloc_old _ _ (Array.getElem?_eq_some_iff.1 h).1).trans h
set_option maxRecDepth 100000 in
set_option maxHeartbeats 8000000 in
theorem newMaker_any (s : Si.Site) (zl : List (Si.Zone × Value × Value)) (kv ov : Value) (w : World) :
    Calls Tryz.prog 70 #[flV s.floor kv ov] w fun e w' => e = .returned (.pointer (some ⟨w.heap.size + 6, 0, none⟩)) ∧ Below w.heap.size w w' ∧
      MkV w' w.heap.size (w.heap.size + 6) s zl 0 0 0 0 0 [] kv ov (.slice none 0 0) (.slice none 0 0) (.slice none 0 0) (.slice none 0 0) (w.heap.size + 1) (w.heap.size + 2) (w.heap.size + 3) (w.heap.size + 4) (w.heap.size + 5) := by
  unfold flV
  have hmm := @run_makeMap Tryz.prog
  obtain ⟨w1, e1⟩ : ∃ x, x = w.alloc (.cells #[.int .i64 s.floor.w, .int .i64 s.floor.h, .int .i64 s.floor.d, kv, ov] 24) := ⟨_, rfl⟩
  obtain ⟨w2, e2⟩ : ∃ x, x = w1.alloc (.map #[] 0) := ⟨_, rfl⟩
  obtain ⟨w3, e3⟩ : ∃ x, x = w2.alloc (.map #[] 0) := ⟨_, rfl⟩
  obtain ⟨w4, e4⟩ : ∃ x, x = w3.alloc (.map #[] 0) := ⟨_, rfl⟩
  obtain ⟨w5, e5⟩ : ∃ x, x = w4.alloc (.map #[] 0) := ⟨_, rfl⟩
  obtain ⟨w6, e6⟩ : ∃ x, x = w5.alloc (.map #[] 0) := ⟨_, rfl⟩
  obtain ⟨w7, e7⟩ : ∃ x, x = w6.alloc (.cells (mkC s kv ov (.slice none 0 0) (.slice none 0 0) (.slice none 0 0) (.slice none 0 0) (w.heap.size + 1) (w.heap.size + 2) (w.heap.size + 3) (w.heap.size + 4) (w.heap.size + 5)) 153) := ⟨_, rfl⟩
  have s1 : w1.heap.size = w.heap.size + 1 := by rw [e1]; simp
  have s2 : w2.heap.size = w.heap.size + 2 := by rw [e2]; simp [s1]
  have s3 : w3.heap.size = w.heap.size + 3 := by rw [e3]; simp [s2]
  have s4 : w4.heap.size = w.heap.size + 4 := by rw [e4]; simp [s3]
  have s5 : w5.heap.size = w.heap.size + 5 := by rw [e5]; simp [s4]
  have s6 : w6.heap.size = w.heap.size + 6 := by rw [e6]; simp [s5]
  have HM : Hid (Below w.heap.size w w7 ∧ MkV w7 w.heap.size (w.heap.size + 6) s zl 0 0 0 0 0 [] kv ov (.slice none 0 0) (.slice none 0 0) (.slice none 0 0) (.slice none 0 0) (w.heap.size + 1) (w.heap.size + 2) (w.heap.size + 3) (w.heap.size + 4) (w.heap.size + 5)) := Lib.hid (by
    refine ⟨?_, ?_⟩
    · rw [e7, e6, e5, e4, e3, e2, e1]
      refine (((((((Below.refl _ w).alloc (Nat.le_refl _) _).alloc ?_ _).alloc ?_ _).alloc ?_ _).alloc ?_ _).alloc ?_ _).alloc ?_ _
      all_goals (simp; try omega)
    · have m1 : MapI w2 (w.heap.size + 1) [] := by rw [e2, ← s1]; exact MapI.made w1
      have m2 : MapB w3 (w.heap.size + 2) [] := by rw [e3, ← s2]; exact MapB.made w2
      have m3 : MapB w4 (w.heap.size + 3) [] := by rw [e4, ← s3]; exact MapB.made w3
      have m4 : MapS w5 (w.heap.size + 4) 0 := by rw [e5, ← s4]; exact MapS.made w4
      have ba : ∀ (x : World) (o : Obj), Below x.heap.size x (x.alloc o) := fun x o => (Below.refl _ x).alloc (Nat.le_refl _) o
      have b3 : Below w2.heap.size w2 w3 := by rw [e3]; exact ba _ _
      have b4 : Below w3.heap.size w3 w4 := by rw [e4]; exact ba _ _
      have b5 : Below w4.heap.size w4 w5 := by rw [e5]; exact ba _ _
      have b6 : Below w5.heap.size w5 w6 := by rw [e6]; exact ba _ _
      have b7 : Below w6.heap.size w6 w7 := by rw [e7]; exact ba _ _
      refine ⟨?_, World.ownsRow_nil .., World.ownsRow_nil .., World.ownsRow_nil .., World.ownsRow_nil .., ((((m1.below b3).below b4).below b5).below b6).below b7, (((m2.below b4).below b5).below b6).below b7, ((m3.below b5).below b6).below b7, (m4.below b6).below b7, by omega, by omega⟩
      rw [e7, ← s6]; exact heap_alloc_new _ _)
  go_enter Tryz.func70, Tryz.ntmps70
  go_wp2_with fail
  go_ret
  have e9 : w7 = ((((((w.alloc (.cells #[.int .i64 s.floor.w, .int .i64 s.floor.h, .int .i64 s.floor.d, kv, ov] 24)).alloc (.map #[] 0)).alloc (.map #[] 0)).alloc (.map #[] 0)).alloc (.map #[] 0)).alloc (.map #[] 0)).alloc (.cells (mkC s kv ov (.slice none 0 0) (.slice none 0 0) (.slice none 0 0) (.slice none 0 0) (w.heap.size + 1) (w.heap.size + 2) (w.heap.size + 3) (w.heap.size + 4) (w.heap.size + 5)) 153) := by
    rw [e7, e6, e5, e4, e3, e2, e1]
  refine ⟨rfl, ?_⟩
  have h9 := HM.out
  rw [e9] at h9
  exact h9
theorem within_any (n a b : Int) (w : World) : Calls Tryz.prog 72 #[.int .i64 n, .int .i64 a, .int .i64 b] w fun e w' => e = .returned (.bool (decide (a ≤ n) && decide (n ≤ b))) ∧ w = w' := by
  by_cases h1 : a ≤ n <;> by_cases h2 : n ≤ b
  all_goals
    rw [show decide (a ≤ n) = _ from by simp only [h1]; rfl, show decide (n ≤ b) = _ from by simp only [h2]; rfl]
    have g1 := h1
    have g2 := h2
    go_enter Tryz.func72, Tryz.ntmps72
    go_wp2_with fail
    go_ret
    exact ⟨rfl, rfl⟩
theorem stands_any2 (k : Int) (w : World) : Calls Tryz.prog 113 #[.int .i64 k] w fun e w' => e = .returned (.bool (decide (k = 1) || decide (k = 2))) ∧ w = w' := by
  by_cases h1 : k = 1
  · subst h1
    go_enter Tryz.func113, Tryz.ntmps113
    go_wp2_with fail
    go_ret
    exact ⟨rfl, rfl⟩
  · by_cases h2 : k = 2
    · subst h2
      go_enter Tryz.func113, Tryz.ntmps113
      go_wp2_with fail
      go_ret
      exact ⟨rfl, rfl⟩
    · have t1 : (k == 1) = false := by simp [h1]
      have t2 : (k == 2) = false := by simp [h2]
      rw [decide_eq_false h1, decide_eq_false h2]
      clear h1 h2
      go_enter Tryz.func113, Tryz.ntmps113
      go_wp2_with fail
      go_ret
      exact ⟨rfl, rfl⟩
theorem zoned_any2 (k : Int) (w : World) : Calls Tryz.prog 111 #[.int .i64 k] w fun e w' => e = .returned (.bool (decide (k ≠ 0) && (decide (k ≠ 4) && decide (k ≠ 5)))) ∧ w = w' := by
  by_cases h1 : k = 0
  · subst h1
    go_enter Tryz.func111, Tryz.ntmps111
    go_wp2_with fail
    go_ret
    exact ⟨rfl, rfl⟩
  · by_cases h2 : k = 4
    · subst h2
      go_enter Tryz.func111, Tryz.ntmps111
      go_wp2_with fail
      go_ret
      exact ⟨rfl, rfl⟩
    · by_cases h3 : k = 5
      · subst h3
        go_enter Tryz.func111, Tryz.ntmps111
        go_wp2_with fail
        go_ret
        exact ⟨rfl, rfl⟩
      · have t1 : (k != 0) = true := by simp [h1]
        have t2 : (k != 4) = true := by simp [h2]
        have t3 : (k != 5) = true := by simp [h3]
        rw [decide_eq_true h1, decide_eq_true h2, decide_eq_true h3]
        clear h1 h2 h3
        go_enter Tryz.func111, Tryz.ntmps111
        go_wp2_with fail
        go_ret
        exact ⟨rfl, rfl⟩
/-- Whether a number is that of a cell, by the list of kinds. -/
def inK (f : Fl.Floor) (c : Int) : Bool := decide (0 ≤ c) && decide (c < f.kind.length)
def kOf (f : Fl.Floor) (c : Int) : Int := if inK f c = true then Si.kindAt f c else 0
set_option maxRecDepth 100000 in
set_option maxHeartbeats 8000000 in
theorem kindAt_any (f : Fl.Floor) (B : Nat) (cs : Array Value) (kv : Value) (c : Int) (w : World) (hB : w.heap[B]? = some (.cells cs 153 (0, 0))) (h3 : cs[3]? = some kv) (hk : Is w kv f.kind) :
    Calls Tryz.prog 110 #[.pointer (some ⟨B, 0, none⟩), .int .i64 c] w fun e w' => e = .returned (.tuple #[.int .i64 (kOf f c), .bool (inK f c)]) ∧ w = w' := by
  obtain ⟨a, cap, rfl, hm⟩ := hk.form
  have c3 : w.cell? ⟨B, 3, none⟩ = some (.slice a f.kind.length cap) := cell_of_heap hB 3 h3
  by_cases h0 : c < 0
  · have e1 : inK f c = false := by unfold inK; rw [decide_eq_false (by omega)]; rfl
    have e2 : kOf f c = 0 := by unfold kOf; rw [e1]; simp
    rw [e1, e2]
    clear e1 e2 hB h3 hk
    go_enter Tryz.func110, Tryz.ntmps110
    go_wp2_with fail
    go_ret2
    exact ⟨rfl, rfl⟩
  · by_cases h1 : c ≥ (f.kind.length : Int)
    · have e1 : inK f c = false := by unfold inK; rw [decide_eq_false (p := c < (f.kind.length : Int)) (by omega)]; simp
      have e2 : kOf f c = 0 := by unfold kOf; rw [e1]; simp
      rw [e1, e2]
      clear e1 e2 hB h3 hk
      go_enter Tryz.func110, Tryz.ntmps110
      go_wp2_with fail
      go_ret2
      exact ⟨rfl, rfl⟩
    · obtain ⟨n, rfl⟩ : ∃ n : Nat, c = (n : Int) := ⟨c.toNat, by omega⟩
      have hn : n < f.kind.length := by omega
      obtain ⟨b, off, e, hc⟩ := hk.cell n hn
      subst e
      have e1 : inK f (n : Int) = true := by unfold inK; rw [decide_eq_true (by omega), decide_eq_true (by omega)]; rfl
      have e2 : kOf f (n : Int) = f.kind[n] := by unfold kOf; rw [e1]; simp [Si.kindAt, hn]
      rw [e1, e2]
      obtain ⟨K, hK⟩ : ∃ K, f.kind[n] = K := ⟨_, rfl⟩
      rw [hK] at hc ⊢
      obtain ⟨l1, hl⟩ : ∃ l, f.kind.length = l := ⟨_, rfl⟩
      rw [hl] at h1 hn c3 hm
      have n0 : (0 : Int) ≤ (n : Int) := by omega
      have n1 : (n : Int) < (l1 : Int) := by omega
      clear e1 e2 hB h3 hk hK hl
      go_enter Tryz.func110, Tryz.ntmps110
      go_wp2_with fail
      go_ret2
      exact ⟨rfl, rfl⟩
end Go.Proofs.YtcdfmgobokjcnaaGreatDoor
/- Two structs of two strings compared. -/
namespace Go.Proofs.YtcdfmgobokjcnaaGreatDoor
open Go.RowKit
theorem eq_two {P : Program} {d : Nat} {f g : Field} {s t y z : ByteArray} {w : World} {ts : TypeId} (hs : P.underlying ts = some .string) (hk : P.plainKey ts = true) (hf : f.name ≠ "_" ∧ f.type = ts ∧ f.offset = 0) (hg : g.name ≠ "_" ∧ g.type = ts ∧ g.offset = 1) :
    (Op.eqFields (d + 1) #[.string s, .string t] #[.string y, .string z] [f, g]).run P w = .ok ((s.toList == y.toList) && (t.toList == z.toList)) w := by
  obtain ⟨h1, h2, h3⟩ := hf
  obtain ⟨k1, k2, k3⟩ := hg
  have q1 : (part ts #[.string s, .string t] 0).run P w = .ok (.string s) w := run_part_plain w hk rfl
  have q2 : (part ts #[.string s, .string t] 1).run P w = .ok (.string t) w := run_part_plain w hk rfl
  have q3 : (part ts #[.string y, .string z] 0).run P w = .ok (.string y) w := run_part_plain w hk rfl
  have q4 : (part ts #[.string y, .string z] 1).run P w = .ok (.string z) w := run_part_plain w hk rfl
  have r1 := run_equalIn_string (P := P) w d ts s y hs
  have r2 := run_equalIn_string (P := P) w d ts t z hs
  simp only [Op.eqFields, h1, h2, h3, k1, k2, k3, ne_eq, not_false_eq_true, if_true, Sem.run_bind, q1, q3, r1, Result.andThen_ok]
  cases s.toList == y.toList
  · simp
  · simp only [Bool.not_true, Bool.false_eq_true, if_false, Sem.run_bind, q2, q4, r2, Result.andThen_ok, Bool.true_and]
    cases t.toList == z.toList <;> simp
set_option maxRecDepth 100000 in
theorem apart_eql (s t y z : ByteArray) (w : World) : (binOp .eql 109 (.agg #[.string s, .string t]) (.agg #[.string y, .string z])).run Tryz.prog w = .ok (.bool ((s.toList == y.toList) && (t.toList == z.toList))) w := by
  have hu : Tryz.prog.underlying 109 = some (.struct (Tryz.prog.fieldsOf 109)) := by kernel_rfl
  have hp : Tryz.prog.stoodInHeld 109 = false := by kernel_rfl
  have hk : Tryz.prog.plainKey 9 = true := by kernel_rfl
  obtain ⟨fs, hfs⟩ : ∃ fs, (Tryz.prog.fieldsOf 109).toList = fs := ⟨_, rfl⟩
  have hm : (Tryz.prog.fieldsOf 109).toList.map (fun f => (f.name == "_", f.type, f.offset)) = [(false, 9, 0), (false, 9, 1)] := by kernel_rfl
  rw [run_eql_struct, run_equalIn_agg _ _ _ _ _ hu hp, hfs]
  rw [hfs] at hm
  match fs, hm with
  | [f, g], hm =>
    simp at hm
    rw [eq_two Tryz.underlying9 hk hm.1 hm.2]
    rfl
end Go.Proofs.YtcdfmgobokjcnaaGreatDoor
