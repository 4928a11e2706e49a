/- Parts Mp, Mk, Ma, Eq, Mb of this claim, laid one behind the other: walks and the plain laws behind them; each contract states its own conditions. -/
import Derived.Test.YtfcbcpfnaadpeaaGreatDoorZB
import Derived.Maps.OwnSet
import Derived.Maps.Views
import Derived.Maps.Keyed
import Derived.Test.YtfcbcpfnaadpeaaGreatDoorZJ
import Derived.Test.YtfcbcpfnaadpeaaGreatDoorZE
import Derived.Carry
import Derived.Laws.StructEq
import Derived.ChangeKeysEq
import Derived.Test.YtfcbcpfnaadpeaaGreatDoorShelf
namespace Go.Proofs.YtfcbcpfnaadpeaaGreatDoor
set_option maxRecDepth 100000
set_option maxHeartbeats 64000000
set_option linter.unusedSimpArgs false
set_option linter.unusedVariables false
open Go.RowKit Go.Maps
theorem Tryz.zInt (w : World) : (zeroValue 3).run Tryz.prog w = .ok (.int .i64 0) w := by kernel_rfl
theorem Tryz.zBool (w : World) : (zeroValue 4).run Tryz.prog w = .ok (.bool false) w := by kernel_rfl
theorem wf64 {n : Int} (h : -9223372036854775808 ≤ n ∧ n ≤ 9223372036854775807) : (Lit.int .i64 n).wf = true := by
 simp only [Lit.wf, Bool.and_eq_true, decide_eq_true_eq]; exact h
theorem Tryz.keyI {c : Int} (h : -9223372036854775808 ≤ c ∧ c ≤ 9223372036854775807) : keyOf Tryz.prog 3 (.int .i64 c) = some (.int .i64 c) := keyOf_int_mk Tryz.underlying3 (wf64 h)
theorem plain_bool_inv {P : Program} {e : TypeId} (he : P.underlying e = some .bool) {v : Value} {z : DataW Unit × List MemPlace} (h : plainElem P e v = some z) : ∃ x, v = .bool x ∧ z = (.lit (.bool x), []) := by
 unfold plainElem at h
 rw [he] at h
 cases v <;> simp at h
 exact ⟨_, rfl, h.symm⟩
theorem lit_bool_inj {x y : Bool} (h : (DataW.lit (.bool x) : DataW Unit) = .lit (.bool y)) : x = y := by
 injection h with h; injection h
theorem lit_int_inj {x y : Int} (h : (DataW.lit (.int .i64 x) : DataW Unit) = .lit (.int .i64 y)) : x = y := by
 injection h with h; injection h
def dB (l : List Int) : DataW Unit := l.foldl (fun d c => d.put (.int .i64 c) (.lit (.bool true))) (.map [])
def dI (l : List (Int × Int)) : DataW Unit := l.foldl (fun d p => d.put (.int .i64 p.1) (.lit (.int .i64 p.2))) (.map [])
theorem dB_isMap (l : List Int) : IsMap (dB l) := by
 have : ∀ (l : List Int) (d : DataW Unit), IsMap d → IsMap (l.foldl (fun d c => d.put (.int .i64 c) (.lit (.bool true))) d) := by
  intro l
  induction l with
  | nil => intro d h; exact h
  | cons x l ih => intro d h; exact ih _ (h.put _ _)
 exact this l _ isMap_empty
theorem dI_isMap (l : List (Int × Int)) : IsMap (dI l) := by
 have : ∀ (l : List (Int × Int)) (d : DataW Unit), IsMap d → IsMap (l.foldl (fun d p => d.put (.int .i64 p.1) (.lit (.int .i64 p.2))) d) := by
  intro l
  induction l with
  | nil => intro d h; exact h
  | cons x l ih => intro d h; exact ih _ (h.put _ _)
 exact this l _ isMap_empty
theorem dB_snoc (l : List Int) (c : Int) : dB (l ++ [c]) = (dB l).put (.int .i64 c) (.lit (.bool true)) := by unfold dB; rw [List.foldl_append]; rfl
theorem dI_snoc (l : List (Int × Int)) (p : Int × Int) : dI (l ++ [p]) = (dI l).put (.int .i64 p.1) (.lit (.int .i64 p.2)) := by unfold dI; rw [List.foldl_append]; rfl
theorem snoc_ind {α : Type} {p : List α → Prop} (h0 : p []) (h1 : ∀ l x, p l → p (l ++ [x])) (l : List α) : p l := by
 have : ∀ m : List α, p m.reverse := by
  intro m
  induction m with
  | nil => exact h0
  | cons x m ih => rw [List.reverse_cons]; exact h1 _ _ ih
 rw [← List.reverse_reverse l]; exact this _
theorem dB_at (c : Int) (l : List Int) : (dB l).atKey (.int .i64 c) (.lit (.bool false)) = .lit (.bool (decide (c ∈ l))) := by
 induction l using snoc_ind with
 | h0 => rfl
 | h1 l x ih =>
  rw [dB_snoc]
  by_cases e : c = x
  · subst e
    rw [atKey_put_same (dB_isMap l) (by simp [WideAt.IsKeyLit])]; simp
  · rw [atKey_put_other (fun h => e (by injection h)), ih]
    congr 2
    simp [e]
theorem dI_has (c : Int) (l : List (Int × Int)) : has (dI l) (.int .i64 c) = decide (c ∈ l.map (·.1)) := by
 induction l using snoc_ind with
 | h0 => rfl
 | h1 l x ih =>
  rw [dI_snoc]
  by_cases e : c = x.1
  · subst e
    rw [has_put_same (dI_isMap l) (by simp [WideAt.IsKeyLit])]; simp
  · rw [has_put_other (fun h => e (by injection h)), ih]; simp [e]
theorem dI_at (c : Int) (l : List (Int × Int)) : ∃ v, (dI l).atKey (.int .i64 c) (.lit (.int .i64 0)) = .lit (.int .i64 v) ∧ (v = 0 ∨ (c, v) ∈ l) := by
 induction l using snoc_ind with
 | h0 => exact ⟨0, rfl, .inl rfl⟩
 | h1 l x ih =>
  rw [dI_snoc]
  by_cases e : c = x.1
  · subst e
    exact ⟨x.2, atKey_put_same (dI_isMap l) (by simp [WideAt.IsKeyLit]) _ _, .inr (by simp)⟩
  · obtain ⟨v, h1, h2⟩ := ih
    exact ⟨v, by rw [atKey_put_other (fun h => e (by injection h)), h1], h2.imp id (fun h => List.mem_append_left _ h)⟩
def MapB (w : World) (b : Nat) (l : List Int) : Prop := w.ownsMap Tryz.prog 3 (plainElem Tryz.prog 4) b l.length (dB l)
def MapI (w : World) (b : Nat) (l : List (Int × Int)) : Prop := w.ownsMap Tryz.prog 3 (plainElem Tryz.prog 3) b l.length (dI l)
def MapS (w : World) (b n : Nat) : Prop := ∃ D : DataW Unit, w.ownsMap Tryz.prog 9 (plainElem Tryz.prog 3) b n D
theorem MapB.lt {w : World} {b : Nat} {l : List Int} (h : MapB w b l) : b < w.heap.size := World.ownsMap.lt h
theorem MapI.lt {w : World} {b : Nat} {l : List (Int × Int)} (h : MapI w b l) : b < w.heap.size := World.ownsMap.lt h
theorem MapS.lt {w : World} {b n : Nat} (h : MapS w b n) : b < w.heap.size := by obtain ⟨D, h⟩ := h; exact World.ownsMap.lt h
theorem grown_of_below {w w' : World} (h : Below w.heap.size w w') : w.grownBy w' none := ⟨h.os, h.tape, h.output, h.size, fun k hk _ => h.block k hk⟩
theorem MapB.kept {w w' : World} {b : Nat} {l : List Int} {row : Option Nat} (h : MapB w b l) (hg : w.grownBy w' row) (hne : some b ≠ row) : MapB w' b l := World.ownsMap.kept h hg hne
theorem MapI.kept {w w' : World} {b : Nat} {l : List (Int × Int)} {row : Option Nat} (h : MapI w b l) (hg : w.grownBy w' row) (hne : some b ≠ row) : MapI w' b l := World.ownsMap.kept h hg hne
theorem MapS.kept {w w' : World} {b n : Nat} {row : Option Nat} (h : MapS w b n) (hg : w.grownBy w' row) (hne : some b ≠ row) : MapS w' b n := by obtain ⟨D, h⟩ := h; exact ⟨D, World.ownsMap.kept h hg hne⟩
theorem MapB.below {w w' : World} {b : Nat} {l : List Int} (h : MapB w b l) (hb : Below w.heap.size w w') : MapB w' b l := h.kept (grown_of_below hb) (by simp)
theorem MapI.below {w w' : World} {b : Nat} {l : List (Int × Int)} (h : MapI w b l) (hb : Below w.heap.size w w') : MapI w' b l := h.kept (grown_of_below hb) (by simp)
theorem MapS.below {w w' : World} {b n : Nat} (h : MapS w b n) (hb : Below w.heap.size w w') : MapS w' b n := h.kept (grown_of_below hb) (by simp)
theorem MapB.look {w : World} {b : Nat} {l : List Int} (h : MapB w b l) {c : Int} (hc : -9223372036854775808 ≤ c ∧ c ≤ 9223372036854775807) :
 (Instr.lookup 216 (.map (some b)) (.int .i64 c) false).run Tryz.prog w = .ok (.bool (decide (c ∈ l))) w := by
 obtain ⟨v, ps, hrun, hv⟩ := World.ownsMap.lookup h (int_keyed Tryz.underlying3) Tryz.underlying216 (Tryz.zBool w) (plainElem_bool Tryz.underlying4 false) (Tryz.keyI hc)
 rw [dB_at] at hv
 obtain ⟨x, rfl, hx⟩ := plain_bool_inv Tryz.underlying4 hv
 have h1 := lit_bool_inj (congrArg Prod.fst hx)
 rw [h1]
 exact hrun
theorem MapI.look {w : World} {b : Nat} {l : List (Int × Int)} (h : MapI w b l) {c : Int} (hc : -9223372036854775808 ≤ c ∧ c ≤ 9223372036854775807) :
 ∃ v, (Instr.lookup 213 (.map (some b)) (.int .i64 c) true).run Tryz.prog w = .ok (.tuple #[.int .i64 v, .bool (decide (c ∈ l.map (·.1)))]) w ∧ (v = 0 ∨ (c, v) ∈ l) := by
 obtain ⟨v, ps, hrun, hv⟩ := World.ownsMap.look_ok h (int_keyed Tryz.underlying3) Tryz.underlying213 (Tryz.zInt w) (plainElem_int Tryz.underlying3 (by decide)) (Tryz.keyI hc)
 obtain ⟨n, rfl, hn, -⟩ := plainElem_int_inv Tryz.underlying3 hv
 obtain ⟨v2, h1, h2⟩ := dI_at c l
 rw [dI_has] at hrun
 rw [h1] at hn
 injection hn with hn _
 injection hn with hn
 injection hn with _ hn
 subst hn
 exact ⟨v2, hrun, h2⟩
theorem MapS.look {w : World} {b n : Nat} (h : MapS w b n) {s : ByteArray} (hs : s.size ≤ maxLen) :
 ∃ (v : Int) (B : Bool), (Instr.lookup 223 (.map (some b)) (.string s) true).run Tryz.prog w = .ok (.tuple #[.int .i64 v, .bool B]) w := by
 obtain ⟨D, h⟩ := h
 have hk := WideMaps.keyOf_string_mk (P := Tryz.prog) (k := 9) Tryz.underlying9 (s := s) hs
 obtain ⟨v, ps, hrun, hv⟩ := World.ownsMap.look_ok h (string_keyed Tryz.underlying9) Tryz.underlying223 (Tryz.zInt w) (plainElem_int Tryz.underlying3 (by decide)) hk
 obtain ⟨n, rfl, -, -⟩ := plainElem_int_inv Tryz.underlying3 hv
 exact ⟨n, _, hrun⟩
theorem MapB.store {w : World} {b : Nat} {l : List Int} (h : MapB w b l) (hl : l.length < maxLen) {c : Int} (hc : -9223372036854775808 ≤ c ∧ c ≤ 9223372036854775807) :
 ∃ w', (Instr.mapUpdate 216 (.map (some b)) (.int .i64 c) (.bool true)).run Tryz.prog w = .ok () w' ∧ MapB w' b (l ++ [c]) ∧ w.grownBy w' (some b) := by
 obtain ⟨w', h1, h2, h3⟩ := World.ownsMap.update h (int_keyed Tryz.underlying3) Tryz.underlying216 hl (Tryz.keyI hc) (plainElem_bool Tryz.underlying4 true)
 refine ⟨w', h1, ?_, h3⟩
 unfold MapB
 rw [dB_snoc, List.length_append]; exact h2
theorem MapI.store {w : World} {b : Nat} {l : List (Int × Int)} (h : MapI w b l) (hl : l.length < maxLen) {c n : Int} (hc : -9223372036854775808 ≤ c ∧ c ≤ 9223372036854775807) (hn : -9223372036854775808 ≤ n ∧ n ≤ 9223372036854775807) :
 ∃ w', (Instr.mapUpdate 213 (.map (some b)) (.int .i64 c) (.int .i64 n)).run Tryz.prog w = .ok () w' ∧ MapI w' b (l ++ [(c, n)]) ∧ w.grownBy w' (some b) := by
 obtain ⟨w', h1, h2, h3⟩ := World.ownsMap.update h (int_keyed Tryz.underlying3) Tryz.underlying213 hl (Tryz.keyI hc) (plainElem_int Tryz.underlying3 (wf64 hn))
 refine ⟨w', h1, ?_, h3⟩
 unfold MapI
 rw [dI_snoc, List.length_append]; exact h2
theorem MapS.store {w : World} {b n : Nat} (h : MapS w b n) (hl : n < maxLen) {s : ByteArray} (hs : s.size ≤ maxLen) {m : Int} (hm : -9223372036854775808 ≤ m ∧ m ≤ 9223372036854775807) :
 ∃ w', (Instr.mapUpdate 223 (.map (some b)) (.string s) (.int .i64 m)).run Tryz.prog w = .ok () w' ∧ MapS w' b (n + 1) ∧ w.grownBy w' (some b) := by
 obtain ⟨D, h⟩ := h
 have hk := WideMaps.keyOf_string_mk (P := Tryz.prog) (k := 9) Tryz.underlying9 (s := s) hs
 obtain ⟨w', h1, h2, h3⟩ := World.ownsMap.update h (string_keyed Tryz.underlying9) Tryz.underlying223 hl hk (plainElem_int Tryz.underlying3 (wf64 hm))
 exact ⟨w', h1, ⟨_, h2⟩, h3⟩
theorem MapB.made (w : World) : MapB (w.alloc (.map #[] 0)) w.heap.size [] := World.ownsMap_made ..
theorem MapI.made (w : World) : MapI (w.alloc (.map #[] 0)) w.heap.size [] := World.ownsMap_made ..
theorem MapS.made (w : World) : MapS (w.alloc (.map #[] 0)) w.heap.size 0 := ⟨_, World.ownsMap_made ..⟩
open Go.RowKit Go.Maps
theorem ownM_below {w w' : World} {base : Nat} {e : TypeId} {sz : Nat} {v : Value} {n : Nat} {xs : List Value} (h : w.ownsRow base e sz v n xs) (hb : Below w.heap.size w w') : w'.ownsRow base e sz v n xs := by
 refine World.ownsRow.kept h (grown_of_below hb) ?_
 cases hv : v.ownBlock with
 | none => exact .inl rfl
 | some g => exact .inr (by simp)
theorem ownM_set {w : World} {base N : Nat} {e t : TypeId} {sz n : Nat} {v : Value} {xs : List Value} {cs : Array Value} {fr : Nat × Nat} (h : w.ownsRow base e sz v n xs) (hN : w.heap[N]? = some (.cells cs t fr)) (hne : t ≠ e) (i : Nat) (x : Value) : (w.setCell ⟨N, i, none⟩ x).ownsRow base e sz v n xs := by
 refine World.ownsRow.kept (row := some N) h ⟨rfl, rfl, rfl, by simp [World.setCell], fun j _ hj => heap_setCell_other w ⟨N, i, none⟩ j x (fun e => hj (by simp [e]))⟩ ?_
 rcases h.2 with ⟨rfl, -⟩ | ⟨g, cap, cur, rfl, hb, hh, -⟩
 · exact .inl rfl
 · refine .inr (fun e2 => ?_)
   simp only [Value.ownBlock, Option.some.injEq] at e2
   subst e2
   rw [hN] at hh
   injection hh with hh; injection hh with _ h4
   exact hne h4
theorem ownM_map {w w' : World} {base b : Nat} {e : TypeId} {sz : Nat} {v : Value} {n : Nat} {xs : List Value} (h : w.ownsRow base e sz v n xs) (hm : ∃ es c, w.heap[b]? = some (.map es c)) (hg : w.grownBy w' (some b)) : w'.ownsRow base e sz v n xs := by
 refine World.ownsRow.kept h hg ?_
 rcases h.2 with ⟨rfl, -⟩ | ⟨g, cap, cur, rfl, hb, hh, -⟩
 · exact .inl rfl
 · refine .inr (fun e2 => ?_)
   simp only [Value.ownBlock, Option.some.injEq] at e2
   subst e2
   obtain ⟨es, c, hm⟩ := hm
   rw [hm] at hh; cases hh
theorem MapB.isMap {w : World} {b : Nat} {l : List Int} (h : MapB w b l) : ∃ es c, w.heap[b]? = some (.map es c) := by obtain ⟨es, c, h, -⟩ := h; exact ⟨es, c, h⟩
theorem MapI.isMap {w : World} {b : Nat} {l : List (Int × Int)} (h : MapI w b l) : ∃ es c, w.heap[b]? = some (.map es c) := by obtain ⟨es, c, h, -⟩ := h; exact ⟨es, c, h⟩
theorem MapS.isMap {w : World} {b n : Nat} (h : MapS w b n) : ∃ es c, w.heap[b]? = some (.map es c) := by obtain ⟨D, es, c, h, -⟩ := h; exact ⟨es, c, h⟩
theorem heap_map {w w' : World} {b k : Nat} {cs : Array Value} {t : TypeId} {fr : Nat × Nat} (hk : w.heap[k]? = some (.cells cs t fr)) (hm : ∃ es c, w.heap[b]? = some (.map es c)) (hg : w.grownBy w' (some b)) : w'.heap[k]? = some (.cells cs t fr) := by
 refine (hg.block k (Array.getElem?_eq_some_iff.1 hk).1 (fun e => ?_)).trans hk
 injection e with e; subst e
 obtain ⟨es, c, hm⟩ := hm
 rw [hm] at hk; cases hk
theorem grown_set {w : World} {N i : Nat} {x : Value} : w.grownBy (w.setCell ⟨N, i, none⟩ x) (some N) := ⟨rfl, rfl, rfl, by simp [World.setCell], fun j _ hj => heap_setCell_other w ⟨N, i, none⟩ j x (fun e => hj (by simp [e]))⟩
theorem below_grown {base b : Nat} {w w' : World} (hb : base ≤ b) (hw : base ≤ w.heap.size) (hg : w.grownBy w' (some b)) : Below base w w' :=
 ⟨hg.os, hg.tape, hg.output, hg.size, fun k hk => hg.block k (by omega) (fun e => by injection e with e; omega)⟩
def zRows (zl : List (Si.Zone × Value × Value)) (k : Nat) : List Value := ((zl.take k).map fun x => zoneC x.1 x.2.1 x.2.2).flatten
def aRows (l : List (List UInt8 × List UInt8)) (k : Nat) : List Value := ((l.take k).map apartC).flatten
def sRows (l : List (Int × List UInt8)) (k : Nat) : List Value := ((l.take k).map shelfC).flatten
def rRows (l : List (Int × Int)) (k : Nat) : List Value := ((l.take k).map spanC).flatten
theorem zRows_succ {zl : List (Si.Zone × Value × Value)} {k : Nat} (h : k < zl.length) : zRows zl (k + 1) = zRows zl k ++ zoneC zl[k].1 zl[k].2.1 zl[k].2.2 := by unfold zRows; rw [List.take_succ_eq_append_getElem h, List.map_append, List.flatten_append, List.map_singleton, List.flatten_singleton]
theorem aRows_succ {l : List (List UInt8 × List UInt8)} {k : Nat} (h : k < l.length) : aRows l (k + 1) = aRows l k ++ apartC l[k] := by unfold aRows; rw [List.take_succ_eq_append_getElem h, List.map_append, List.flatten_append, List.map_singleton, List.flatten_singleton]
theorem sRows_succ {l : List (Int × List UInt8)} {k : Nat} (h : k < l.length) : sRows l (k + 1) = sRows l k ++ shelfC l[k] := by unfold sRows; rw [List.take_succ_eq_append_getElem h, List.map_append, List.flatten_append, List.map_singleton, List.flatten_singleton]
theorem rRows_succ {l : List (Int × Int)} {k : Nat} (h : k < l.length) : rRows l (k + 1) = rRows l k ++ spanC l[k] := by unfold rRows; rw [List.take_succ_eq_append_getElem h, List.map_append, List.flatten_append, List.map_singleton, List.flatten_singleton]
def shP (l : List (Int × List UInt8)) (k : Nat) : List (Int × Int) := (List.range k).map fun i : Nat => ((l.map (·.1)).getD i 0, (i : Int))
theorem shP_succ {l : List (Int × List UInt8)} {k : Nat} (h : k < l.length) : shP l (k + 1) = shP l k ++ [(l[k].1, (k : Int))] := by
 unfold shP; rw [List.range_succ, List.map_append]; simp [h]
theorem shP_len (l : List (Int × List UInt8)) (k : Nat) : (shP l k).length = k := by simp [shP]
theorem shP_keys {l : List (Int × List UInt8)} {k : Nat} (h : k ≤ l.length) : (shP l k).map (·.1) = (l.take k).map (·.1) := by
 apply List.ext_getElem (by simp [shP]; omega)
 intro i h1 h2
 have hk : i < k := by simp [shP] at h1; exact h1
 have hl : i < l.length := by omega
 simp [shP, hl]
theorem shP_val {l : List (Int × List UInt8)} {k : Nat} {c v : Int} (h : (c, v) ∈ shP l k) : 0 ≤ v ∧ v < k := by
 unfold shP at h
 obtain ⟨i, hi, e⟩ := List.mem_map.1 h
 injection e with e1 e2
 have := List.mem_range.1 hi
 omega
def mkC (s : Si.Site) (kv ov zv av sv rv : Value) (b1 b2 b3 b4 b5 : Nat) : Array Value :=
 #[.int .i64 s.floor.w, .int .i64 s.floor.h, .int .i64 s.floor.d, kv, ov, zv, av, sv, rv, .map (some b1), .map (some b2), .map (some b3), .map (some b4), .map (some b5), .slice none 0 0, .slice none 0 0]
structure MkV (w : World) (base B : Nat) (s : Si.Site) (zl : List (Si.Zone × Value × Value)) (kz ka ks kr nn : Nat) (cz : List Int) (kv ov zv av sv rv : Value) (b1 b2 b3 b4 b5 : Nat) : Prop where
 hB : w.heap[B]? = some (.cells (mkC s kv ov zv av sv rv b1 b2 b3 b4 b5) 225 (0, 0))
 hz : w.ownsRow base 80 5 zv kz (zRows zl kz)
 ha : w.ownsRow base 161 2 av ka (aRows s.aparts ka)
 hs : w.ownsRow base 163 2 sv ks (sRows s.shelves ks)
 hr : w.ownsRow base 159 2 rv kr (rRows s.robots kr)
 m1 : MapI w b1 (shP s.shelves ks)
 m2 : MapB w b2 ((s.robots.take kr).map (·.1))
 m3 : MapB w b3 cz
 m4 : MapS w b4 nn
 lb : base ≤ B ∧ base ≤ b1 ∧ base ≤ b2 ∧ base ≤ b3 ∧ base ≤ b4
 ne : (b1 ≠ b2 ∧ b1 ≠ b3 ∧ b1 ≠ b4) ∧ (b2 ≠ b3 ∧ b2 ≠ b4) ∧ b3 ≠ b4
section
variable {w w' : World} {base B : Nat} {s : Si.Site} {zl : List (Si.Zone × Value × Value)} {kz ka ks kr nn : Nat} {cz : List Int} {kv ov zv av sv rv : Value} {b1 b2 b3 b4 b5 : Nat}
theorem MkV.lt (h : MkV w base B s zl kz ka ks kr nn cz kv ov zv av sv rv b1 b2 b3 b4 b5) : B < w.heap.size := heap_lt h.hB
theorem MkV.base_le (h : MkV w base B s zl kz ka ks kr nn cz kv ov zv av sv rv b1 b2 b3 b4 b5) : base ≤ w.heap.size := by have h1 := h.lt; have h2 := h.lb.1; omega
theorem MkV.below (h : MkV w base B s zl kz ka ks kr nn cz kv ov zv av sv rv b1 b2 b3 b4 b5) (hb : Below w.heap.size w w') : MkV w' base B s zl kz ka ks kr nn cz kv ov zv av sv rv b1 b2 b3 b4 b5 :=
 ⟨keep_heap h.hB hb, ownM_below h.hz hb, ownM_below h.ha hb, ownM_below h.hs hb, ownM_below h.hr hb, h.m1.below hb, h.m2.below hb, h.m3.below hb, h.m4.below hb, h.lb, h.ne⟩
theorem MkV.put3 (h : MkV w base B s zl kz ka ks kr nn cz kv ov zv av sv rv b1 b2 b3 b4 b5) {cz' : List Int} (hm : MapB w' b3 cz') (hg : w.grownBy w' (some b3)) : MkV w' base B s zl kz ka ks kr nn cz' kv ov zv av sv rv b1 b2 b3 b4 b5 :=
 have hi := h.m3.isMap
 ⟨heap_map h.hB hi hg, ownM_map h.hz hi hg, ownM_map h.ha hi hg, ownM_map h.hs hi hg, ownM_map h.hr hi hg, h.m1.kept hg (by have := h.ne.1.2.1; simpa using this), h.m2.kept hg (by have := h.ne.2.1.1; simpa using this), hm, h.m4.kept hg (by have := h.ne.2.2; simpa using fun e => this e.symm), h.lb, h.ne⟩
theorem MkV.put4 (h : MkV w base B s zl kz ka ks kr nn cz kv ov zv av sv rv b1 b2 b3 b4 b5) {n' : Nat} (hm : MapS w' b4 n') (hg : w.grownBy w' (some b4)) : MkV w' base B s zl kz ka ks kr n' cz kv ov zv av sv rv b1 b2 b3 b4 b5 :=
 have hi := h.m4.isMap
 ⟨heap_map h.hB hi hg, ownM_map h.hz hi hg, ownM_map h.ha hi hg, ownM_map h.hs hi hg, ownM_map h.hr hi hg, h.m1.kept hg (by have := h.ne.1.2.2; simpa using this), h.m2.kept hg (by have := h.ne.2.1.2; simpa using this), h.m3.kept hg (by have := h.ne.2.2; simpa using this), hm, h.lb, h.ne⟩
theorem gt_map {e : TypeId} (hg : GT e w w') {b : Nat} (hm : ∃ es c, w.heap[b]? = some (.map es c)) : ∃ row, w.grownBy w' row ∧ some b ≠ row := by
 obtain ⟨row, h1, h2⟩ := hg
 refine ⟨row, h1, fun e => ?_⟩
 obtain ⟨cs, fr, h3⟩ := h2 b e.symm
 obtain ⟨es, c, hm⟩ := hm
 rw [hm] at h3; cases h3
theorem MapB.gt {b : Nat} {l : List Int} {e : TypeId} (h : MapB w b l) (hg : GT e w w') : MapB w' b l := by obtain ⟨row, h1, h2⟩ := gt_map hg h.isMap; exact h.kept h1 h2
theorem MapI.gt {b : Nat} {l : List (Int × Int)} {e : TypeId} (h : MapI w b l) (hg : GT e w w') : MapI w' b l := by obtain ⟨row, h1, h2⟩ := gt_map hg h.isMap; exact h.kept h1 h2
theorem MapS.gt {b n : Nat} {e : TypeId} (h : MapS w b n) (hg : GT e w w') : MapS w' b n := by obtain ⟨row, h1, h2⟩ := gt_map hg h.isMap; exact h.kept h1 h2
theorem gt_set {e : TypeId} {k : Nat} {cs : Array Value} {fr : Nat × Nat} (hk : w.heap[k]? = some (.cells cs e fr)) (o : Nat) (v : Value) : GT e w (w.setCell ⟨k, o, none⟩ v) :=
 ⟨some k, grown_set, fun j hj => by injection hj with hj; subst hj; exact ⟨_, _, hk⟩⟩
theorem MkV.appZ (h : MkV w base B s zl kz ka ks kr nn cz kv ov zv av sv rv b1 b2 b3 b4 b5) {zv' : Value} {n' : Nat} (ho : w'.ownsRow base 80 5 zv' n' (zRows zl n')) (hg : w.grownBy w' zv.ownBlock) :
 MkV (w'.setCell ⟨B, 5, none⟩ zv') base B s zl n' ka ks kr nn cz kv ov zv' av sv rv b1 b2 b3 b4 b5 := by
 have hG : GT 80 w w' := GT.of_own h.hz hg
 have hB' := hG.heap h.hB (by decide)
 have hS := gt_set hB' 5 zv'
 exact ⟨set_heap hB' 5 zv', ownM_set ho hB' (by decide) 5 _, hS.row (hG.row h.ha (by decide)) (by decide), hS.row (hG.row h.hs (by decide)) (by decide), hS.row (hG.row h.hr (by decide)) (by decide),
  (h.m1.gt hG).gt hS, (h.m2.gt hG).gt hS, (h.m3.gt hG).gt hS, (h.m4.gt hG).gt hS, h.lb, h.ne⟩
theorem MkV.appA (h : MkV w base B s zl kz ka ks kr nn cz kv ov zv av sv rv b1 b2 b3 b4 b5) {av' : Value} {n' : Nat} (ho : w'.ownsRow base 161 2 av' n' (aRows s.aparts n')) (hg : w.grownBy w' av.ownBlock) :
 MkV (w'.setCell ⟨B, 6, none⟩ av') base B s zl kz n' ks kr nn cz kv ov zv av' sv rv b1 b2 b3 b4 b5 := by
 have hG : GT 161 w w' := GT.of_own h.ha hg
 have hB' := hG.heap h.hB (by decide)
 have hS := gt_set hB' 6 av'
 exact ⟨set_heap hB' 6 av', hS.row (hG.row h.hz (by decide)) (by decide), ownM_set ho hB' (by decide) 6 _, hS.row (hG.row h.hs (by decide)) (by decide), hS.row (hG.row h.hr (by decide)) (by decide),
  (h.m1.gt hG).gt hS, (h.m2.gt hG).gt hS, (h.m3.gt hG).gt hS, (h.m4.gt hG).gt hS, h.lb, h.ne⟩
theorem MkV.appS {w1 : World} (h : MkV w base B s zl kz ka ks kr nn cz kv ov zv av sv rv b1 b2 b3 b4 b5) {sv' : Value} (hm : MapI w1 b1 (shP s.shelves (ks + 1))) (hg1 : w.grownBy w1 (some b1)) {w2 : World} (hb2 : Below w1.heap.size w1 w2)
 (ho : w'.ownsRow base 163 2 sv' (ks + 1) (sRows s.shelves (ks + 1))) (hg : w2.grownBy w' sv.ownBlock) :
 MkV (w'.setCell ⟨B, 7, none⟩ sv') base B s zl kz ka (ks + 1) kr nn cz kv ov zv av sv' rv b1 b2 b3 b4 b5 := by
 have hi := h.m1.isMap
 have hsw := ownM_below (ownM_map h.hs hi hg1) hb2
 have hG : GT 163 w2 w' := GT.of_own hsw hg
 have hB' := hG.heap (keep_heap (heap_map h.hB hi hg1) hb2) (by decide)
 have hS := gt_set hB' 7 sv'
 have hne := h.ne
 exact ⟨set_heap hB' 7 sv', hS.row (hG.row (ownM_below (ownM_map h.hz hi hg1) hb2) (by decide)) (by decide), hS.row (hG.row (ownM_below (ownM_map h.ha hi hg1) hb2) (by decide)) (by decide), ownM_set ho hB' (by decide) 7 _,
  hS.row (hG.row (ownM_below (ownM_map h.hr hi hg1) hb2) (by decide)) (by decide),
  ((hm.below hb2).gt hG).gt hS, (((h.m2.kept hg1 (by simpa using fun e => hne.1.1 e.symm)).below hb2).gt hG).gt hS, (((h.m3.kept hg1 (by simpa using fun e => hne.1.2.1 e.symm)).below hb2).gt hG).gt hS,
  (((h.m4.kept hg1 (by simpa using fun e => hne.1.2.2 e.symm)).below hb2).gt hG).gt hS, h.lb, h.ne⟩
theorem MkV.appR {w1 : World} (h : MkV w base B s zl kz ka ks kr nn cz kv ov zv av sv rv b1 b2 b3 b4 b5) {rv' : Value} (hm : MapB w1 b2 ((s.robots.take (kr + 1)).map (·.1))) (hg1 : w.grownBy w1 (some b2)) {w2 : World} (hb2 : Below w1.heap.size w1 w2)
 (ho : w'.ownsRow base 159 2 rv' (kr + 1) (rRows s.robots (kr + 1))) (hg : w2.grownBy w' rv.ownBlock) :
 MkV (w'.setCell ⟨B, 8, none⟩ rv') base B s zl kz ka ks (kr + 1) nn cz kv ov zv av sv rv' b1 b2 b3 b4 b5 := by
 have hi := h.m2.isMap
 have hsw := ownM_below (ownM_map h.hr hi hg1) hb2
 have hG : GT 159 w2 w' := GT.of_own hsw hg
 have hB' := hG.heap (keep_heap (heap_map h.hB hi hg1) hb2) (by decide)
 have hS := gt_set hB' 8 rv'
 have hne := h.ne
 exact ⟨set_heap hB' 8 rv', hS.row (hG.row (ownM_below (ownM_map h.hz hi hg1) hb2) (by decide)) (by decide), hS.row (hG.row (ownM_below (ownM_map h.ha hi hg1) hb2) (by decide)) (by decide),
  hS.row (hG.row (ownM_below (ownM_map h.hs hi hg1) hb2) (by decide)) (by decide), ownM_set ho hB' (by decide) 8 _,
  (((h.m1.kept hg1 (by simpa using hne.1.1)).below hb2).gt hG).gt hS, ((hm.below hb2).gt hG).gt hS, (((h.m3.kept hg1 (by simpa using fun e => hne.2.1.1 e.symm)).below hb2).gt hG).gt hS,
  (((h.m4.kept hg1 (by simpa using fun e => hne.2.1.2 e.symm)).below hb2).gt hG).gt hS, h.lb, h.ne⟩
end
open Go.RowKit Go.Maps
theorem heap_le {w : World} {k : Nat} {o p : Obj} (h : w.heap[k]? = some o) : (w.alloc p).heap[k]? = some o := (heap_alloc_old _ _ (Array.getElem?_eq_some_iff.1 h).1).trans h
theorem newMaker_any (s : Si.Site) (zl : List (Si.Zone × Value × Value)) (kv ov : Value) (w : World) :
 Calls Tryz.prog 117 #[flV s.floor kv ov] w fun e w' => e = .returned (.pointer (some ⟨w.heap.size + 6, 0, none⟩)) ∧ Below w.heap.size w w' ∧
  MkV w' w.heap.size (w.heap.size + 6) s zl 0 0 0 0 0 [] kv ov (.slice none 0 0) (.slice none 0 0) (.slice none 0 0) (.slice none 0 0) (w.heap.size + 1) (w.heap.size + 2) (w.heap.size + 3) (w.heap.size + 4) (w.heap.size + 5) := by
 unfold flV
 have hmm := @run_makeMap Tryz.prog
 obtain ⟨w1, e1⟩ : ∃ x, x = w.alloc (.cells #[.int .i64 s.floor.w, .int .i64 s.floor.h, .int .i64 s.floor.d, kv, ov] 24) := ⟨_, rfl⟩
 obtain ⟨w2, e2⟩ : ∃ x, x = w1.alloc (.map #[] 0) := ⟨_, rfl⟩
 obtain ⟨w3, e3⟩ : ∃ x, x = w2.alloc (.map #[] 0) := ⟨_, rfl⟩
 obtain ⟨w4, e4⟩ : ∃ x, x = w3.alloc (.map #[] 0) := ⟨_, rfl⟩
 obtain ⟨w5, e5⟩ : ∃ x, x = w4.alloc (.map #[] 0) := ⟨_, rfl⟩
 obtain ⟨w6, e6⟩ : ∃ x, x = w5.alloc (.map #[] 0) := ⟨_, rfl⟩
 obtain ⟨w7, e7⟩ : ∃ x, x = w6.alloc (.cells (mkC s kv ov (.slice none 0 0) (.slice none 0 0) (.slice none 0 0) (.slice none 0 0) (w.heap.size + 1) (w.heap.size + 2) (w.heap.size + 3) (w.heap.size + 4) (w.heap.size + 5)) 225) := ⟨_, rfl⟩
 have s1 : w1.heap.size = w.heap.size + 1 := by rw [e1]; simp
 have s2 : w2.heap.size = w.heap.size + 2 := by rw [e2]; simp [s1]
 have s3 : w3.heap.size = w.heap.size + 3 := by rw [e3]; simp [s2]
 have s4 : w4.heap.size = w.heap.size + 4 := by rw [e4]; simp [s3]
 have s5 : w5.heap.size = w.heap.size + 5 := by rw [e5]; simp [s4]
 have s6 : w6.heap.size = w.heap.size + 6 := by rw [e6]; simp [s5]
 have HM : Hid (Below w.heap.size w w7 ∧ MkV w7 w.heap.size (w.heap.size + 6) s zl 0 0 0 0 0 [] kv ov (.slice none 0 0) (.slice none 0 0) (.slice none 0 0) (.slice none 0 0) (w.heap.size + 1) (w.heap.size + 2) (w.heap.size + 3) (w.heap.size + 4) (w.heap.size + 5)) := hid (by
  refine ⟨?_, ?_⟩
  · rw [e7, e6, e5, e4, e3, e2, e1]
    refine (((((((Below.refl _ w).alloc (Nat.le_refl _) _).alloc ?_ _).alloc ?_ _).alloc ?_ _).alloc ?_ _).alloc ?_ _).alloc ?_ _
    all_goals (simp; try omega)
  · have m1 : MapI w2 (w.heap.size + 1) [] := by rw [e2, ← s1]; exact MapI.made w1
    have m2 : MapB w3 (w.heap.size + 2) [] := by rw [e3, ← s2]; exact MapB.made w2
    have m3 : MapB w4 (w.heap.size + 3) [] := by rw [e4, ← s3]; exact MapB.made w3
    have m4 : MapS w5 (w.heap.size + 4) 0 := by rw [e5, ← s4]; exact MapS.made w4
    have ba : ∀ (x : World) (o : Obj), Below x.heap.size x (x.alloc o) := fun x o => (Below.refl _ x).alloc (Nat.le_refl _) o
    have b3 : Below w2.heap.size w2 w3 := by rw [e3]; exact ba _ _
    have b4 : Below w3.heap.size w3 w4 := by rw [e4]; exact ba _ _
    have b5 : Below w4.heap.size w4 w5 := by rw [e5]; exact ba _ _
    have b6 : Below w5.heap.size w5 w6 := by rw [e6]; exact ba _ _
    have b7 : Below w6.heap.size w6 w7 := by rw [e7]; exact ba _ _
    refine ⟨?_, World.ownsRow_nil .., World.ownsRow_nil .., World.ownsRow_nil .., World.ownsRow_nil .., ((((m1.below b3).below b4).below b5).below b6).below b7, (((m2.below b4).below b5).below b6).below b7, ((m3.below b5).below b6).below b7, (m4.below b6).below b7, by omega, by omega⟩
    rw [e7, ← s6]; exact heap_alloc_new _ _)
 go_enter Tryz.func117, Tryz.ntmps117
 go_wp2_with fail
 go_ret
 have e9 : w7 = ((((((w.alloc (.cells #[.int .i64 s.floor.w, .int .i64 s.floor.h, .int .i64 s.floor.d, kv, ov] 24)).alloc (.map #[] 0)).alloc (.map #[] 0)).alloc (.map #[] 0)).alloc (.map #[] 0)).alloc (.map #[] 0)).alloc (.cells (mkC s kv ov (.slice none 0 0) (.slice none 0 0) (.slice none 0 0) (.slice none 0 0) (w.heap.size + 1) (w.heap.size + 2) (w.heap.size + 3) (w.heap.size + 4) (w.heap.size + 5)) 225) := by
  rw [e7, e6, e5, e4, e3, e2, e1]
 refine ⟨rfl, ?_⟩
 have h9 := HM.out
 rw [e9] at h9
 exact h9
theorem within_any (n a b : Int) (w : World) : Calls Tryz.prog 119 #[.int .i64 n, .int .i64 a, .int .i64 b] w fun e w' => e = .returned (.bool (decide (a ≤ n) && decide (n ≤ b))) ∧ w = w' := by
 by_cases h1 : a ≤ n <;> by_cases h2 : n ≤ b
 all_goals
  rw [show decide (a ≤ n) = _ from by simp only [h1]; rfl, show decide (n ≤ b) = _ from by simp only [h2]; rfl]
  have g1 := h1
  have g2 := h2
  go_enter Tryz.func119, Tryz.ntmps119
  go_wp2_with fail
  go_ret
  exact ⟨rfl, rfl⟩
theorem stands_any2 (k : Int) (w : World) : Calls Tryz.prog 202 #[.int .i64 k] w fun e w' => e = .returned (.bool (decide (k = 1) || decide (k = 2))) ∧ w = w' := by
 by_cases h1 : k = 1
 · subst h1
   go_enter Tryz.func202, Tryz.ntmps202
   go_wp2_with fail
   go_ret
   exact ⟨rfl, rfl⟩
 · by_cases h2 : k = 2
   · subst h2
     go_enter Tryz.func202, Tryz.ntmps202
     go_wp2_with fail
     go_ret
     exact ⟨rfl, rfl⟩
   · have t1 : (k == 1) = false := by simp [h1]
     have t2 : (k == 2) = false := by simp [h2]
     rw [decide_eq_false h1, decide_eq_false h2]
     clear h1 h2
     go_enter Tryz.func202, Tryz.ntmps202
     go_wp2_with fail
     go_ret
     exact ⟨rfl, rfl⟩
theorem zoned_any2 (k : Int) (w : World) : Calls Tryz.prog 200 #[.int .i64 k] w fun e w' => e = .returned (.bool (decide (k ≠ 0) && (decide (k ≠ 4) && decide (k ≠ 5)))) ∧ w = w' := by
 by_cases h1 : k = 0
 · subst h1
   go_enter Tryz.func200, Tryz.ntmps200
   go_wp2_with fail
   go_ret
   exact ⟨rfl, rfl⟩
 · by_cases h2 : k = 4
   · subst h2
     go_enter Tryz.func200, Tryz.ntmps200
     go_wp2_with fail
     go_ret
     exact ⟨rfl, rfl⟩
   · by_cases h3 : k = 5
     · subst h3
       go_enter Tryz.func200, Tryz.ntmps200
       go_wp2_with fail
       go_ret
       exact ⟨rfl, rfl⟩
     · have t1 : (k != 0) = true := by simp [h1]
       have t2 : (k != 4) = true := by simp [h2]
       have t3 : (k != 5) = true := by simp [h3]
       rw [decide_eq_true h1, decide_eq_true h2, decide_eq_true h3]
       clear h1 h2 h3
       go_enter Tryz.func200, Tryz.ntmps200
       go_wp2_with fail
       go_ret
       exact ⟨rfl, rfl⟩
def inK (f : Fl.Floor) (c : Int) : Bool := decide (0 ≤ c) && decide (c < f.kind.length)
def kOf (f : Fl.Floor) (c : Int) : Int := if inK f c = true then Si.kindAt f c else 0
theorem kindAt_any (f : Fl.Floor) (B : Nat) (cs : Array Value) (kv : Value) (c : Int) (w : World) (hB : w.heap[B]? = some (.cells cs 225 (0, 0))) (h3 : cs[3]? = some kv) (hk : Is w kv f.kind) :
 Calls Tryz.prog 199 #[.pointer (some ⟨B, 0, none⟩), .int .i64 c] w fun e w' => e = .returned (.tuple #[.int .i64 (kOf f c), .bool (inK f c)]) ∧ w = w' := by
 obtain ⟨a, cap, rfl, hm⟩ := hk.form
 have c3 : w.cell? ⟨B, 3, none⟩ = some (.slice a f.kind.length cap) := cell_of_heap hB 3 h3
 by_cases h0 : c < 0
 · have e1 : inK f c = false := by unfold inK; rw [decide_eq_false (by omega)]; rfl
   have e2 : kOf f c = 0 := by unfold kOf; rw [e1]; simp
   rw [e1, e2]
   clear e1 e2 hB h3 hk
   go_enter Tryz.func199, Tryz.ntmps199
   go_wp2_with fail
   go_ret2
   exact ⟨rfl, rfl⟩
 · by_cases h1 : c ≥ (f.kind.length : Int)
   · have e1 : inK f c = false := by unfold inK; rw [decide_eq_false (p := c < (f.kind.length : Int)) (by omega)]; simp
     have e2 : kOf f c = 0 := by unfold kOf; rw [e1]; simp
     rw [e1, e2]
     clear e1 e2 hB h3 hk
     go_enter Tryz.func199, Tryz.ntmps199
     go_wp2_with fail
     go_ret2
     exact ⟨rfl, rfl⟩
   · obtain ⟨n, rfl⟩ : ∃ n : Nat, c = (n : Int) := ⟨c.toNat, by omega⟩
     have hn : n < f.kind.length := by omega
     obtain ⟨b, off, e, hc⟩ := hk.cell n hn
     subst e
     have e1 : inK f (n : Int) = true := by unfold inK; rw [decide_eq_true (by omega), decide_eq_true (by omega)]; rfl
     have e2 : kOf f (n : Int) = f.kind[n] := by unfold kOf; rw [e1]; simp [Si.kindAt, hn]
     rw [e1, e2]
     obtain ⟨K, hK⟩ : ∃ K, f.kind[n] = K := ⟨_, rfl⟩
     rw [hK] at hc ⊢
     obtain ⟨l1, hl⟩ : ∃ l, f.kind.length = l := ⟨_, rfl⟩
     rw [hl] at h1 hn c3 hm
     have n0 : (0 : Int) ≤ (n : Int) := by omega
     have n1 : (n : Int) < (l1 : Int) := by omega
     clear e1 e2 hB h3 hk hK hl
     go_enter Tryz.func199, Tryz.ntmps199
     go_wp2_with fail
     go_ret2
     exact ⟨rfl, rfl⟩
open Go.RowKit
theorem eq_two {P : Program} {d : Nat} {f g : Field} {s t y z : ByteArray} {w : World} {ts : TypeId} (hs : P.underlying ts = some .string) (hk : P.plainKey ts = true) (hf : f.name ≠ "_" ∧ f.type = ts ∧ f.offset = 0) (hg : g.name ≠ "_" ∧ g.type = ts ∧ g.offset = 1) :
 (Op.eqFields (d + 1) #[.string s, .string t] #[.string y, .string z] [f, g]).run P w = .ok ((s.toList == y.toList) && (t.toList == z.toList)) w := by
 obtain ⟨h1, h2, h3⟩ := hf
 obtain ⟨k1, k2, k3⟩ := hg
 have q1 : (part ts #[.string s, .string t] 0).run P w = .ok (.string s) w := run_part_plain w hk rfl
 have q2 : (part ts #[.string s, .string t] 1).run P w = .ok (.string t) w := run_part_plain w hk rfl
 have q3 : (part ts #[.string y, .string z] 0).run P w = .ok (.string y) w := run_part_plain w hk rfl
 have q4 : (part ts #[.string y, .string z] 1).run P w = .ok (.string z) w := run_part_plain w hk rfl
 have r1 := run_equalIn_string (P := P) w d ts s y hs
 have r2 := run_equalIn_string (P := P) w d ts t z hs
 simp only [Op.eqFields, h1, h2, h3, k1, k2, k3, ne_eq, not_false_eq_true, if_true, Sem.run_bind, q1, q3, r1, Result.andThen_ok]
 cases s.toList == y.toList
 · simp
 · simp only [Bool.not_true, Bool.false_eq_true, if_false, Sem.run_bind, q2, q4, r2, Result.andThen_ok, Bool.true_and]
   cases t.toList == z.toList <;> simp
theorem apart_eql (s t y z : ByteArray) (w : World) : (binOp .eql 161 (.agg #[.string s, .string t]) (.agg #[.string y, .string z])).run Tryz.prog w = .ok (.bool ((s.toList == y.toList) && (t.toList == z.toList))) w := by
 have hu : Tryz.prog.underlying 161 = some (.struct (Tryz.prog.fieldsOf 161)) := by kernel_rfl
 have hp : Tryz.prog.stoodInHeld 161 = false := by kernel_rfl
 have hk : Tryz.prog.plainKey 9 = true := by kernel_rfl
 obtain ⟨fs, hfs⟩ : ∃ fs, (Tryz.prog.fieldsOf 161).toList = fs := ⟨_, rfl⟩
 have hm : (Tryz.prog.fieldsOf 161).toList.map (fun f => (f.name == "_", f.type, f.offset)) = [(false, 9, 0), (false, 9, 1)] := by kernel_rfl
 rw [run_eql_struct, run_equalIn_agg _ _ _ _ _ hu hp, hfs]
 rw [hfs] at hm
 match fs, hm with
 | [f, g], hm =>
  simp at hm
  rw [eq_two Tryz.underlying9 hk hm.1 hm.2]
  rfl
open Go.RowKit Go.Maps
structure AscK (f : Fl.Floor) (l : List Int) : Prop where
 cell : ∀ c ∈ l, inK f c = true
 asc : l.Pairwise (· < ·)
theorem AscK.nil (f : Fl.Floor) : AscK f [] := ⟨fun c h => (by cases h), List.Pairwise.nil⟩
theorem AscK.step {f : Fl.Floor} {l : List Int} {k : Nat} (h : AscK f (l.take k)) (hk : k < l.length) (h1 : inK f l[k] = true) (h2 : ∀ j, (hj : j + 1 = k) → l[j]'(by omega) < l[k]) : AscK f (l.take (k + 1)) := by
 rw [List.take_succ_eq_append_getElem hk]
 refine ⟨fun c hc => ?_, ?_⟩
 · rcases List.mem_append.1 hc with h3 | h3
   · exact h.cell c h3
   · rw [List.mem_singleton] at h3; subst h3; exact h1
 · rw [List.pairwise_append]
   refine ⟨h.asc, by simp, fun x hx y hy => ?_⟩
   rw [List.mem_singleton] at hy
   subst hy
   obtain ⟨i, hi, rfl⟩ := List.getElem_of_mem hx
   rw [List.length_take] at hi
   have hj := h2 (k - 1) (by omega)
   rw [List.getElem_take]
   rcases Nat.lt_or_eq_of_le (show i ≤ k - 1 by omega) with h4 | h4
   · have h5 := List.pairwise_iff_getElem.1 h.asc i (k - 1) (by rw [List.length_take]; omega) (by rw [List.length_take]; omega) h4
     rw [List.getElem_take, List.getElem_take] at h5
     omega
   · subst h4; exact hj
theorem cellsM_any (f : Fl.Floor) (B : Nat) (cs : Array Value) (kv v : Value) (l : List Int) (w : World) (hB : w.heap[B]? = some (.cells cs 225 (0, 0))) (h3 : cs[3]? = some kv) (hk : Is w kv f.kind) (h : Is w v l) :
 Calls Tryz.prog 121 #[.pointer (some ⟨B, 0, none⟩), v] w fun e w' => TruePost (AscK f l ∧ l ≠ []) e ∧ w = w' := by
 obtain ⟨a, cap, rfl, hm⟩ := h.form
 have HK := hid (fun c => kindAt_any f B cs kv c w hB h3 hk)
 have H := hid h
 obtain ⟨n, hn⟩ : ∃ n, l.length = n := ⟨_, rfl⟩
 rw [hn] at hm H ⊢
 have HN := hid hn
 have H0 : Hid (AscK f (l.take 0)) := hid (by rw [List.take_zero]; exact .nil f)
 clear h hn hB h3 hk
 go_enter Tryz.func121, Tryz.ntmps121
 go_wp2_with fail
 go_loop [11] (fun iv => ∃ k : Nat, k ≤ n ∧ iv = .int .i64 k ∧ Hid (AscK f (l.take k))) (fun iv => n - (intOf iv).toNat)
 case atStart => exact ⟨0, by omega, rfl, H0⟩
 case round =>
  obtain ⟨k, hk, rfl, HA⟩ := hrel
  by_cases hkn : k < n
  · have hkl : k < l.length := by rw [HN.out]; exact hkn
    obtain ⟨b, off, e, hc⟩ := H.out.cell k hkl
    subst e
    have HCK := hid (HK.out l[k])
    have HST := hid (fun h1 h2 => HA.out.step hkl h1 h2)
    have HPV : Hid (∀ j, (hj : j + 1 = k) → w.cell? ⟨b, off + j, none⟩ = some (.int .i64 (l[j]'(by omega)))) := hid (fun j hj => by
     obtain ⟨b2, off2, e2, hc2⟩ := H.out.cell j (by omega)
     injection e2 with e2; injection e2 with e2 e3; subst e2 e3
     exact hc2)
    have k0 : (0 : Int) ≤ (k : Int) := by omega
    have k1 : (k : Int) < (n : Int) := by omega
    obtain ⟨C, hC⟩ : ∃ C, l[k] = C := ⟨_, rfl⟩
    rw [hC] at hc HCK HST
    obtain ⟨T, hT⟩ : ∃ T, inK f C = T := ⟨_, rfl⟩
    rw [hT] at HCK HST
    obtain ⟨KO, hKO⟩ : ∃ T, kOf f C = T := ⟨_, rfl⟩
    rw [hKO] at HCK
    clear hC hT hKO
    cases T with
    | false =>
     go_wp2_with fail
     go_at_call 199; refine HCK.out.mono ?_; rintro e w1 ⟨rfl, rfl⟩
     go_wp2_with fail
     go_ret
     exact ⟨TruePost.no _, rfl⟩
    | true =>
     rcases Nat.eq_zero_or_pos k with hk0 | hk0
     · have HNX : Hid (AscK f (l.take (k + 1))) := hid (HST.out rfl (fun j hj => by omega))
       have t0 : ¬ (k : Int) > 0 := by omega
       clear hk0
       go_wp2_with fail
       go_at_call 199; refine HCK.out.mono ?_; rintro e w1 ⟨rfl, rfl⟩
       go_wp2_with fail
       go_round
       case rel => exact ⟨k + 1, by omega, by go_num, HNX⟩
       case measure => simp [intOf]; omega
     · obtain ⟨j, hj⟩ : ∃ j, j + 1 = k := ⟨k - 1, by omega⟩
       have hp := HPV.out j hj
       have j1 : IntKind.i64.wrap ((k : Int) - 1) = (j : Int) := by rw [show (k : Int) - 1 = (j : Int) by omega]; exact IntWalk.i64_in _ (by omega)
       have j2 : (0 : Int) ≤ (j : Int) := by omega
       have j3 : (j : Int) < (n : Int) := by omega
       have j4 : (k : Int) > 0 := by omega
       have hjl : j < l.length := by omega
       obtain ⟨D, hD⟩ : ∃ D, l[j]'hjl = D := ⟨_, rfl⟩
       rw [hD] at hp
       have HD := hid hD
       have HJ := hid hj
       clear hD hj hk0
       by_cases hlt : D ≥ C
       · go_wp2_with fail
         go_at_call 199; refine HCK.out.mono ?_; rintro e w1 ⟨rfl, rfl⟩
         go_wp2_with fail
         go_ret
         exact ⟨TruePost.no _, rfl⟩
       · have HNX : Hid (AscK f (l.take (k + 1))) := hid (HST.out rfl (fun i hi => by
          have e : i = j := by have := HJ.out; omega
          subst e; rw [HD.out]; omega))
         go_wp2_with fail
         go_at_call 199; refine HCK.out.mono ?_; rintro e w1 ⟨rfl, rfl⟩
         go_wp2_with fail
         go_round
         case rel => exact ⟨k + 1, by omega, by go_num, HNX⟩
         case measure => simp [intOf]; omega
  · obtain rfl : n = k := by omega
    have HAL : Hid (AscK f l) := hid (by have h9 := HA.out; rw [List.take_of_length_le (by rw [HN.out]; omega)] at h9; exact h9)
    rcases Nat.eq_zero_or_pos n with h0 | h0
    · subst h0
      have z0 : ((0 : Nat) : Int) = 0 := rfl
      go_wp2_with fail
      go_ret
      exact ⟨TruePost.no _, rfl⟩
    · have hne : Hid (l ≠ []) := hid (fun e => by have h9 := HN.out; rw [e] at h9; simp at h9; omega)
      go_wp2_with fail
      go_ret
      exact ⟨⟨_, rfl, fun _ => ⟨HAL.out, hne.out⟩⟩, rfl⟩
theorem shut_any (v : Value) (l : List (Int × Int)) (w : World) (h : ShV w v l) :
 Calls Tryz.prog 120 #[v] w fun e w' => ABool e ∧ Below w.heap.size w w' := by
 obtain ⟨a, cap, rfl, hm⟩ := two_form h
 have H := hid h
 obtain ⟨n, hn⟩ : ∃ n, l.length = n := ⟨_, rfl⟩
 rw [hn] at hm H ⊢
 have HN := hid hn
 clear h hn
 go_enter Tryz.func120, Tryz.ntmps120
 go_wp2_with fail
 go_loopw [3, 8] (fun lv iv wr => ∃ (k : Nat) (L : Int), k ≤ n ∧ iv = .int .i64 k ∧ lv = .int .i64 L ∧ Hid (Below w.heap.size w wr)) (fun _ iv _ => n - (intOf iv).toNat)
 case atStart => exact ⟨0, 0, by omega, rfl, rfl, hid (Below.refl _ _)⟩
 case round =>
  obtain ⟨k, L, hk, rfl, rfl, HB⟩ := hrel
  by_cases hkn : k < n
  · have hkl : k < l.length := by rw [HN.out]; exact hkn
    obtain ⟨b, off, e1, -, c0, c1⟩ := ShV.cell (Rw.keep H.out HB.out) k hkl
    subst e1
    obtain ⟨F, hF⟩ : ∃ y, l[k].1 = y := ⟨_, rfl⟩
    obtain ⟨T, hT⟩ : ∃ y, l[k].2 = y := ⟨_, rfl⟩
    rw [hF] at c0
    rw [hT] at c1
    have k1 : (k : Int) < (n : Int) := by omega
    have k0 : (0 : Int) ≤ (k : Int) := by omega
    have HB2 := hid (HB.out.alloc HB.out.size (.cells #[.int .i64 F, .int .i64 T] 228))
    clear hF hT
    go_wp2_with fail
    all_goals first
     | (go_ret; exact ⟨⟨_, rfl⟩, HB2.out⟩)
     | (go_roundw
        case rel => exact ⟨k + 1, T, by omega, by go_num, rfl, HB2⟩
        case measure => simp [intOf]; omega)
  · go_wp2_with fail
    all_goals
     go_ret
     exact ⟨⟨_, rfl⟩, HB.out⟩
theorem SName_any (s : ByteArray) (w : World) (hs : s.size ≤ 9223372036854775807) :
 Calls Tryz.prog 118 #[.string s] w fun e w' => ABool e ∧ w = w' := by
 obtain ⟨n, hn⟩ : ∃ n, s.size = n := ⟨_, rfl⟩
 have HN := hid hn
 rw [hn] at hs
 have hIB := fun (t : ByteArray) (c : Int) => Tryz.strings_IndexByte t c w
 have HIB := hid hIB
 clear hIB
 go_enter Tryz.func118, Tryz.ntmps118
 go_upto_region 1 with fail
 go_cut [21] (fun v wx => ∃ b : Bool, v = .bool b ∧ Hid (b = false → 1 ≤ n) ∧ wx = w)
 case first =>
  by_cases h0 : n < 1
  · go_wp2_with fail
    all_goals
     go_meet
     exact ⟨_, rfl, hid (fun h => by simp at h), rfl⟩
  · have h1 : ¬ (n : Int) < 1 := by omega
    have h2 : 0 < s.size := by omega
    go_wp2_with fail
    all_goals
     go_meet
     exact ⟨_, rfl, hid (fun h => by omega), rfl⟩
 case rest =>
  obtain ⟨b, rfl, H1, rfl⟩ := hcut
  cases b with
  | true =>
   go_wp2_with fail
   go_ret
   exact ⟨⟨_, rfl⟩, rfl⟩
  | false =>
   go_wp2_with fail
   go_loop [24] (fun iv => ∃ k : Nat, k ≤ n ∧ iv = .int .i64 k) (fun iv => n - (intOf iv).toNat)
   case atStart => exact ⟨0, by omega, rfl⟩
   case round =>
    obtain ⟨k, hk, rfl⟩ := hrel
    by_cases hkn : k < n
    · have k1 : (k : Int) < (n : Int) := by omega
      have k0 : (0 : Int) ≤ (k : Int) := by omega
      have k2 : k < s.size := by omega
      go_wp2_with fail
      go_at_call 198; refine (HIB.out _ _).mono ?_; rintro e w1 ⟨rfl, rfl⟩
      go_wp2_with fail
      all_goals first
       | (go_ret; exact ⟨⟨_, rfl⟩, rfl⟩)
       | (go_round
          case rel => exact ⟨k + 1, by omega, by go_num⟩
          case measure => simp [intOf]; omega)
    · go_wp2_with fail
      all_goals
       go_ret
       exact ⟨⟨_, rfl⟩, rfl⟩
theorem IndexA_any (v : Value) (l : List (List UInt8 × List UInt8)) (s t : ByteArray) (w : World) (h : ApV w v l) :
 Calls Tryz.prog 292 #[v, .agg #[.string s, .string t]] w fun e w' => (∃ n : Int, e = .returned (.int .i64 n)) ∧ Below w.heap.size w w' := by
 obtain ⟨a, cap, rfl, hm⟩ := two_form h
 have H := hid h
 obtain ⟨n, hn⟩ : ∃ n, l.length = n := ⟨_, rfl⟩
 rw [hn] at hm H ⊢
 have HN := hid hn
 have B1 := hid ((Below.refl _ w).alloc (Nat.le_refl _) (.cells #[.string s, .string t] 161))
 have I1 := hid (heap_alloc_new w (.cells #[.string s, .string t] 161))
 clear h hn
 go_enter Tryz.func292, Tryz.ntmps292
 go_wp2_with fail
 go_loopw [8] (fun iv wr => ∃ k : Nat, k ≤ n ∧ iv = .int .i64 k ∧ Hid (Below w.heap.size w wr) ∧ Hid (wr.heap[w.heap.size]? = some (.cells #[.string s, .string t] 161 (0, 0)))) (fun iv _ => n - (intOf iv).toNat)
 case atStart => exact ⟨0, by omega, rfl, B1, I1⟩
 case round =>
  obtain ⟨k, hk, rfl, HB, HI⟩ := hrel
  by_cases hkn : k < n
  · have hkl : k < l.length := by rw [HN.out]; exact hkn
    obtain ⟨b, off, e1, hb, c0, c1⟩ := ApV.cell (Rw.keep H.out HB.out) k hkl
    subst e1
    have p0 := cell_of_heap HI.out 0 (v := .string s) rfl
    have p1 := cell_of_heap HI.out 1 (v := .string t) rfl
    have hw : w.heap.size < wr.heap.size := heap_lt HI.out
    obtain ⟨y, hy⟩ : ∃ y : ByteArray, ⟨l[k].1.toArray⟩ = y := ⟨_, rfl⟩
    obtain ⟨z, hz⟩ : ∃ y : ByteArray, ⟨l[k].2.toArray⟩ = y := ⟨_, rfl⟩
    rw [hy] at c0
    rw [hz] at c1
    have k1 : (k : Int) < (n : Int) := by omega
    have k0 : (0 : Int) ≤ (k : Int) := by omega
    have BQ : Hid (∀ q, Below w.heap.size w (wr.drewN q)) := hid (fun q => HB.out.trans (below_drewN _ _ _))
    have IQ : Hid (∀ q, (wr.drewN q).heap[w.heap.size]? = some (.cells #[.string s, .string t] 161 (0, 0))) := hid (fun q => keep_heap HI.out (below_drewN _ _ q))
    have heq := fun (W : World) => apart_eql s t y z W
    clear hy hz
    go_wp2_with fail
    go_quiet (fail)
    go_wp2_with fail
    all_goals first
     | (go_ret; exact ⟨⟨_, rfl⟩, BQ.out _⟩)
     | (go_roundw
        case rel => exact ⟨k + 1, by omega, by go_num, hid (BQ.out _), hid (IQ.out _)⟩
        case measure => simp [intOf]; omega)
  · go_wp2_with fail
    all_goals
     go_ret
     exact ⟨⟨_, rfl⟩, HB.out⟩
theorem ContainsA_any (v : Value) (l : List (List UInt8 × List UInt8)) (s t : ByteArray) (w : World) (h : ApV w v l) :
 Calls Tryz.prog 258 #[v, .agg #[.string s, .string t]] w fun e w' => ABool e ∧ Below w.heap.size w w' := by
 have HX := hid (fun W hb => IndexA_any v l s t W (Rw.keep h hb))
 have B1 := hid ((Below.refl _ w).alloc (Nat.le_refl _) (.cells #[.string s, .string t] 161))
 clear h
 go_enter Tryz.func258, Tryz.ntmps258
 go_wp2_with fail
 go_at_call 292; refine (HX.out _ B1.out).mono ?_; rintro e w1 ⟨⟨n, rfl⟩, b1⟩
 have B2 := hid (B1.out.trans (b1.mono B1.out.size))
 clear b1
 go_wp2_with fail
 go_ret
 exact ⟨⟨_, rfl⟩, B2.out⟩
theorem SApart_any (v : Value) (l : List (List UInt8 × List UInt8)) (s t : ByteArray) (w : World) (h : ApV w v l) :
 Calls Tryz.prog 201 #[v, .string s, .string t] w fun e w' => ABool e ∧ Below w.heap.size w w' := by
 have HX := hid (fun s t W hb => ContainsA_any v l s t W (Rw.keep h hb))
 have B0 := hid (Below.refl w.heap.size w)
 clear h
 go_enter Tryz.func201, Tryz.ntmps201
 go_upto_region 1 with fail
 go_cut [12] (fun v wx => IsB v ∧ wx = w)
 case first =>
  go_wp2_with fail
  all_goals
   go_meet
   exact ⟨⟨_, rfl⟩, rfl⟩
 case rest =>
  obtain ⟨⟨b, rfl⟩, rfl⟩ := hcut
  cases b with
  | true =>
   go_wp2_with fail
   go_ret
   exact ⟨⟨_, rfl⟩, B0.out⟩
  | false =>
   go_wp2_with fail
   go_at_call 258; refine (HX.out _ _ _ B0.out).mono ?_; rintro e w1 ⟨⟨b, rfl⟩, b1⟩
   have B1 := hid b1
   clear b1
   cases b with
   | true =>
    go_wp2_with fail
    go_ret
    exact ⟨⟨_, rfl⟩, B1.out⟩
   | false =>
    go_wp2_with fail
    go_at_call 258; refine (HX.out _ _ _ B1.out).mono ?_; rintro e w2 ⟨⟨b, rfl⟩, b2⟩
    have B2 := hid (B1.out.trans (b2.mono B1.out.size))
    clear b2
    go_wp2_with fail
    go_ret
    exact ⟨⟨_, rfl⟩, B2.out⟩
end Go.Proofs.YtfcbcpfnaadpeaaGreatDoor
