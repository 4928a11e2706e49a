/- Parts Mp, Mk, Ma, Eq, Mb, Mc, Md, Me, Mf, Mg, Mh, Mi, Mj, Ml of this claim, laid one behind the other: walks and the plain laws behind them; each contract states its own conditions. -/
import Derived.Maps.OwnSet
import Derived.Maps.Views
import Derived.Maps.Keyed
import Derived.Carry
import Derived.Laws.StructEq
import Derived.ChangeKeysEq
import Derived.Test.YtfcbcpfnaadpeaaGreatDoorMH
namespace Go.Proofs.YtfcbcpfnaadpeaaGreatDoor
set_option maxRecDepth 100000
set_option maxHeartbeats 64000000
set_option linter.unusedSimpArgs false
set_option linter.unusedVariables false
open Go.RowKit Go.Maps
theorem Tryz.zInt (w : World) : (zeroValue 3).run Tryz.prog w = .ok (.int .i64 0) w := by kernel_rfl
theorem Tryz.zBool (w : World) : (zeroValue 4).run Tryz.prog w = .ok (.bool false) w := by kernel_rfl
theorem wf64 {n : Int} (h : -9223372036854775808 ≤ n ∧ n ≤ 9223372036854775807) : (Lit.int .i64 n).wf = true := by
 simp only [Lit.wf, Bool.and_eq_true, decide_eq_true_eq]; exact h
theorem Tryz.keyI {c : Int} (h : -9223372036854775808 ≤ c ∧ c ≤ 9223372036854775807) : keyOf Tryz.prog 3 (.int .i64 c) = some (.int .i64 c) := keyOf_int_mk Tryz.underlying3 (wf64 h)
theorem plain_bool_inv {P : Program} {e : TypeId} (he : P.underlying e = some .bool) {v : Value} {z : DataW Unit × List MemPlace} (h : plainElem P e v = some z) : ∃ x, v = .bool x ∧ z = (.lit (.bool x), []) := by
 unfold plainElem at h
 rw [he] at h
 cases v <;> simp at h
 exact ⟨_, rfl, h.symm⟩
theorem lit_bool_inj {x y : Bool} (h : (DataW.lit (.bool x) : DataW Unit) = .lit (.bool y)) : x = y := by
 injection h with h; injection h
def dB (l : List Int) : DataW Unit := l.foldl (fun d c => d.put (.int .i64 c) (.lit (.bool true))) (.map [])
def dI (l : List (Int × Int)) : DataW Unit := l.foldl (fun d p => d.put (.int .i64 p.1) (.lit (.int .i64 p.2))) (.map [])
theorem dB_isMap (l : List Int) : IsMap (dB l) := by
 have : ∀ (l : List Int) (d : DataW Unit), IsMap d → IsMap (l.foldl (fun d c => d.put (.int .i64 c) (.lit (.bool true))) d) := by
  intro l
  induction l with
  | nil => intro d h; exact h
  | cons x l ih => intro d h; exact ih _ (h.put _ _)
 exact this l _ isMap_empty
theorem dI_isMap (l : List (Int × Int)) : IsMap (dI l) := by
 have : ∀ (l : List (Int × Int)) (d : DataW Unit), IsMap d → IsMap (l.foldl (fun d p => d.put (.int .i64 p.1) (.lit (.int .i64 p.2))) d) := by
  intro l
  induction l with
  | nil => intro d h; exact h
  | cons x l ih => intro d h; exact ih _ (h.put _ _)
 exact this l _ isMap_empty
theorem dB_snoc (l : List Int) (c : Int) : dB (l ++ [c]) = (dB l).put (.int .i64 c) (.lit (.bool true)) := by unfold dB; rw [List.foldl_append]; rfl
theorem dI_snoc (l : List (Int × Int)) (p : Int × Int) : dI (l ++ [p]) = (dI l).put (.int .i64 p.1) (.lit (.int .i64 p.2)) := by unfold dI; rw [List.foldl_append]; rfl
theorem snoc_ind {α : Type} {p : List α → Prop} (h0 : p []) (h1 : ∀ l x, p l → p (l ++ [x])) (l : List α) : p l := by
 have : ∀ m : List α, p m.reverse := by
  intro m
  induction m with
  | nil => exact h0
  | cons x m ih => rw [List.reverse_cons]; exact h1 _ _ ih
 rw [← List.reverse_reverse l]; exact this _
theorem dB_at (c : Int) (l : List Int) : (dB l).atKey (.int .i64 c) (.lit (.bool false)) = .lit (.bool (decide (c ∈ l))) := by
 induction l using snoc_ind with
 | h0 => rfl
 | h1 l x ih =>
  rw [dB_snoc]
  by_cases e : c = x
  · subst e
    rw [atKey_put_same (dB_isMap l) (by simp [WideAt.IsKeyLit])]; simp
  · rw [atKey_put_other (fun h => e (by injection h)), ih]
    congr 2
    simp [e]
theorem dI_has (c : Int) (l : List (Int × Int)) : has (dI l) (.int .i64 c) = decide (c ∈ l.map (·.1)) := by
 induction l using snoc_ind with
 | h0 => rfl
 | h1 l x ih =>
  rw [dI_snoc]
  by_cases e : c = x.1
  · subst e
    rw [has_put_same (dI_isMap l) (by simp [WideAt.IsKeyLit])]; simp
  · rw [has_put_other (fun h => e (by injection h)), ih]; simp [e]
theorem dI_at (c : Int) (l : List (Int × Int)) : ∃ v, (dI l).atKey (.int .i64 c) (.lit (.int .i64 0)) = .lit (.int .i64 v) ∧ (v = 0 ∨ (c, v) ∈ l) := by
 induction l using snoc_ind with
 | h0 => exact ⟨0, rfl, .inl rfl⟩
 | h1 l x ih =>
  rw [dI_snoc]
  by_cases e : c = x.1
  · subst e
    exact ⟨x.2, atKey_put_same (dI_isMap l) (by simp [WideAt.IsKeyLit]) _ _, .inr (by simp)⟩
  · obtain ⟨v, h1, h2⟩ := ih
    exact ⟨v, by rw [atKey_put_other (fun h => e (by injection h)), h1], h2.imp id (fun h => List.mem_append_left _ h)⟩
def MapB (w : World) (b : Nat) (l : List Int) : Prop := w.ownsMap Tryz.prog 3 (plainElem Tryz.prog 4) b l.length (dB l)
def MapI (w : World) (b : Nat) (l : List (Int × Int)) : Prop := w.ownsMap Tryz.prog 3 (plainElem Tryz.prog 3) b l.length (dI l)
def MapS (w : World) (b n : Nat) : Prop := ∃ D : DataW Unit, w.ownsMap Tryz.prog 9 (plainElem Tryz.prog 3) b n D
theorem MapB.lt {w : World} {b : Nat} {l : List Int} (h : MapB w b l) : b < w.heap.size := World.ownsMap.lt h
theorem MapI.lt {w : World} {b : Nat} {l : List (Int × Int)} (h : MapI w b l) : b < w.heap.size := World.ownsMap.lt h
theorem MapS.lt {w : World} {b n : Nat} (h : MapS w b n) : b < w.heap.size := by obtain ⟨D, h⟩ := h; exact World.ownsMap.lt h
theorem grown_of_below {w w' : World} (h : Below w.heap.size w w') : w.grownBy w' none := ⟨h.os, h.tape, h.output, h.size, fun k hk _ => h.block k hk⟩
theorem MapB.kept {w w' : World} {b : Nat} {l : List Int} {row : Option Nat} (h : MapB w b l) (hg : w.grownBy w' row) (hne : some b ≠ row) : MapB w' b l := World.ownsMap.kept h hg hne
theorem MapI.kept {w w' : World} {b : Nat} {l : List (Int × Int)} {row : Option Nat} (h : MapI w b l) (hg : w.grownBy w' row) (hne : some b ≠ row) : MapI w' b l := World.ownsMap.kept h hg hne
theorem MapS.kept {w w' : World} {b n : Nat} {row : Option Nat} (h : MapS w b n) (hg : w.grownBy w' row) (hne : some b ≠ row) : MapS w' b n := by obtain ⟨D, h⟩ := h; exact ⟨D, World.ownsMap.kept h hg hne⟩
theorem MapB.below {w w' : World} {b : Nat} {l : List Int} (h : MapB w b l) (hb : Below w.heap.size w w') : MapB w' b l := h.kept (grown_of_below hb) (by simp)
theorem MapI.below {w w' : World} {b : Nat} {l : List (Int × Int)} (h : MapI w b l) (hb : Below w.heap.size w w') : MapI w' b l := h.kept (grown_of_below hb) (by simp)
theorem MapS.below {w w' : World} {b n : Nat} (h : MapS w b n) (hb : Below w.heap.size w w') : MapS w' b n := h.kept (grown_of_below hb) (by simp)
theorem MapB.look {w : World} {b : Nat} {l : List Int} (h : MapB w b l) {c : Int} (hc : -9223372036854775808 ≤ c ∧ c ≤ 9223372036854775807) :
 (Instr.lookup 216 (.map (some b)) (.int .i64 c) false).run Tryz.prog w = .ok (.bool (decide (c ∈ l))) w := by
 obtain ⟨v, ps, hrun, hv⟩ := World.ownsMap.lookup h (int_keyed Tryz.underlying3) Tryz.underlying216 (Tryz.zBool w) (plainElem_bool Tryz.underlying4 false) (Tryz.keyI hc)
 rw [dB_at] at hv
 obtain ⟨x, rfl, hx⟩ := plain_bool_inv Tryz.underlying4 hv
 have h1 := lit_bool_inj (congrArg Prod.fst hx)
 rw [h1]
 exact hrun
theorem MapI.look {w : World} {b : Nat} {l : List (Int × Int)} (h : MapI w b l) {c : Int} (hc : -9223372036854775808 ≤ c ∧ c ≤ 9223372036854775807) :
 ∃ v, (Instr.lookup 213 (.map (some b)) (.int .i64 c) true).run Tryz.prog w = .ok (.tuple #[.int .i64 v, .bool (decide (c ∈ l.map (·.1)))]) w ∧ (v = 0 ∨ (c, v) ∈ l) := by
 obtain ⟨v, ps, hrun, hv⟩ := World.ownsMap.look_ok h (int_keyed Tryz.underlying3) Tryz.underlying213 (Tryz.zInt w) (plainElem_int Tryz.underlying3 (by decide)) (Tryz.keyI hc)
 obtain ⟨n, rfl, hn, -⟩ := plainElem_int_inv Tryz.underlying3 hv
 obtain ⟨v2, h1, h2⟩ := dI_at c l
 rw [dI_has] at hrun
 rw [h1] at hn
 injection hn with hn _
 injection hn with hn
 injection hn with _ hn
 subst hn
 exact ⟨v2, hrun, h2⟩
theorem MapS.look {w : World} {b n : Nat} (h : MapS w b n) {s : ByteArray} (hs : s.size ≤ maxLen) :
 ∃ (v : Int) (B : Bool), (Instr.lookup 223 (.map (some b)) (.string s) true).run Tryz.prog w = .ok (.tuple #[.int .i64 v, .bool B]) w := by
 obtain ⟨D, h⟩ := h
 have hk := WideMaps.keyOf_string_mk (P := Tryz.prog) (k := 9) Tryz.underlying9 (s := s) hs
 obtain ⟨v, ps, hrun, hv⟩ := World.ownsMap.look_ok h (string_keyed Tryz.underlying9) Tryz.underlying223 (Tryz.zInt w) (plainElem_int Tryz.underlying3 (by decide)) hk
 obtain ⟨n, rfl, -, -⟩ := plainElem_int_inv Tryz.underlying3 hv
 exact ⟨n, _, hrun⟩
theorem MapB.store {w : World} {b : Nat} {l : List Int} (h : MapB w b l) (hl : l.length < maxLen) {c : Int} (hc : -9223372036854775808 ≤ c ∧ c ≤ 9223372036854775807) :
 ∃ w', (Instr.mapUpdate 216 (.map (some b)) (.int .i64 c) (.bool true)).run Tryz.prog w = .ok () w' ∧ MapB w' b (l ++ [c]) ∧ w.grownBy w' (some b) := by
 obtain ⟨w', h1, h2, h3⟩ := World.ownsMap.update h (int_keyed Tryz.underlying3) Tryz.underlying216 hl (Tryz.keyI hc) (plainElem_bool Tryz.underlying4 true)
 refine ⟨w', h1, ?_, h3⟩
 unfold MapB
 rw [dB_snoc, List.length_append]; exact h2
theorem MapI.store {w : World} {b : Nat} {l : List (Int × Int)} (h : MapI w b l) (hl : l.length < maxLen) {c n : Int} (hc : -9223372036854775808 ≤ c ∧ c ≤ 9223372036854775807) (hn : -9223372036854775808 ≤ n ∧ n ≤ 9223372036854775807) :
 ∃ w', (Instr.mapUpdate 213 (.map (some b)) (.int .i64 c) (.int .i64 n)).run Tryz.prog w = .ok () w' ∧ MapI w' b (l ++ [(c, n)]) ∧ w.grownBy w' (some b) := by
 obtain ⟨w', h1, h2, h3⟩ := World.ownsMap.update h (int_keyed Tryz.underlying3) Tryz.underlying213 hl (Tryz.keyI hc) (plainElem_int Tryz.underlying3 (wf64 hn))
 refine ⟨w', h1, ?_, h3⟩
 unfold MapI
 rw [dI_snoc, List.length_append]; exact h2
theorem MapS.store {w : World} {b n : Nat} (h : MapS w b n) (hl : n < maxLen) {s : ByteArray} (hs : s.size ≤ maxLen) {m : Int} (hm : -9223372036854775808 ≤ m ∧ m ≤ 9223372036854775807) :
 ∃ w', (Instr.mapUpdate 223 (.map (some b)) (.string s) (.int .i64 m)).run Tryz.prog w = .ok () w' ∧ MapS w' b (n + 1) ∧ w.grownBy w' (some b) := by
 obtain ⟨D, h⟩ := h
 have hk := WideMaps.keyOf_string_mk (P := Tryz.prog) (k := 9) Tryz.underlying9 (s := s) hs
 obtain ⟨w', h1, h2, h3⟩ := World.ownsMap.update h (string_keyed Tryz.underlying9) Tryz.underlying223 hl hk (plainElem_int Tryz.underlying3 (wf64 hm))
 exact ⟨w', h1, ⟨_, h2⟩, h3⟩
theorem MapB.made (w : World) : MapB (w.alloc (.map #[] 0)) w.heap.size [] := World.ownsMap_made ..
theorem MapI.made (w : World) : MapI (w.alloc (.map #[] 0)) w.heap.size [] := World.ownsMap_made ..
theorem MapS.made (w : World) : MapS (w.alloc (.map #[] 0)) w.heap.size 0 := ⟨_, World.ownsMap_made ..⟩
open Go.RowKit Go.Maps
theorem ownM_below {w w' : World} {base : Nat} {e : TypeId} {sz : Nat} {v : Value} {n : Nat} {xs : List Value} (h : w.ownsRow base e sz v n xs) (hb : Below w.heap.size w w') : w'.ownsRow base e sz v n xs := by
 refine World.ownsRow.kept h (grown_of_below hb) ?_
 cases hv : v.ownBlock with
 | none => exact .inl rfl
 | some g => exact .inr (by simp)
theorem ownM_set {w : World} {base N : Nat} {e t : TypeId} {sz n : Nat} {v : Value} {xs : List Value} {cs : Array Value} {fr : Nat × Nat} (h : w.ownsRow base e sz v n xs) (hN : w.heap[N]? = some (.cells cs t fr)) (hne : t ≠ e) (i : Nat) (x : Value) : (w.setCell ⟨N, i, none⟩ x).ownsRow base e sz v n xs := by
 refine World.ownsRow.kept (row := some N) h ⟨rfl, rfl, rfl, by simp [World.setCell], fun j _ hj => heap_setCell_other w ⟨N, i, none⟩ j x (fun e => hj (by simp [e]))⟩ ?_
 rcases h.2 with ⟨rfl, -⟩ | ⟨g, cap, cur, rfl, hb, hh, -⟩
 · exact .inl rfl
 · refine .inr (fun e2 => ?_)
   simp only [Value.ownBlock, Option.some.injEq] at e2
   subst e2
   rw [hN] at hh
   injection hh with hh; injection hh with _ h4
   exact hne h4
theorem ownM_map {w w' : World} {base b : Nat} {e : TypeId} {sz : Nat} {v : Value} {n : Nat} {xs : List Value} (h : w.ownsRow base e sz v n xs) (hm : ∃ es c, w.heap[b]? = some (.map es c)) (hg : w.grownBy w' (some b)) : w'.ownsRow base e sz v n xs := by
 refine World.ownsRow.kept h hg ?_
 rcases h.2 with ⟨rfl, -⟩ | ⟨g, cap, cur, rfl, hb, hh, -⟩
 · exact .inl rfl
 · refine .inr (fun e2 => ?_)
   simp only [Value.ownBlock, Option.some.injEq] at e2
   subst e2
   obtain ⟨es, c, hm⟩ := hm
   rw [hm] at hh; cases hh
theorem MapB.isMap {w : World} {b : Nat} {l : List Int} (h : MapB w b l) : ∃ es c, w.heap[b]? = some (.map es c) := by obtain ⟨es, c, h, -⟩ := h; exact ⟨es, c, h⟩
theorem MapI.isMap {w : World} {b : Nat} {l : List (Int × Int)} (h : MapI w b l) : ∃ es c, w.heap[b]? = some (.map es c) := by obtain ⟨es, c, h, -⟩ := h; exact ⟨es, c, h⟩
theorem MapS.isMap {w : World} {b n : Nat} (h : MapS w b n) : ∃ es c, w.heap[b]? = some (.map es c) := by obtain ⟨D, es, c, h, -⟩ := h; exact ⟨es, c, h⟩
theorem heap_map {w w' : World} {b k : Nat} {cs : Array Value} {t : TypeId} {fr : Nat × Nat} (hk : w.heap[k]? = some (.cells cs t fr)) (hm : ∃ es c, w.heap[b]? = some (.map es c)) (hg : w.grownBy w' (some b)) : w'.heap[k]? = some (.cells cs t fr) := by
 refine (hg.block k (Array.getElem?_eq_some_iff.1 hk).1 (fun e => ?_)).trans hk
 injection e with e; subst e
 obtain ⟨es, c, hm⟩ := hm
 rw [hm] at hk; cases hk
theorem grown_set {w : World} {N i : Nat} {x : Value} : w.grownBy (w.setCell ⟨N, i, none⟩ x) (some N) := ⟨rfl, rfl, rfl, by simp [World.setCell], fun j _ hj => heap_setCell_other w ⟨N, i, none⟩ j x (fun e => hj (by simp [e]))⟩
def zRows (zl : List (Si.Zone × Value × Value)) (k : Nat) : List Value := ((zl.take k).map fun x => zoneC x.1 x.2.1 x.2.2).flatten
def aRows (l : List (List UInt8 × List UInt8)) (k : Nat) : List Value := ((l.take k).map apartC).flatten
def sRows (l : List (Int × List UInt8)) (k : Nat) : List Value := ((l.take k).map shelfC).flatten
def rRows (l : List (Int × Int)) (k : Nat) : List Value := ((l.take k).map spanC).flatten
def shP (l : List (Int × List UInt8)) (k : Nat) : List (Int × Int) := (List.range k).map fun i : Nat => ((l.map (·.1)).getD i 0, (i : Int))
def mkC (s : Si.Site) (kv ov zv av sv rv : Value) (b1 b2 b3 b4 b5 : Nat) : Array Value :=
 #[.int .i64 s.floor.w, .int .i64 s.floor.h, .int .i64 s.floor.d, kv, ov, zv, av, sv, rv, .map (some b1), .map (some b2), .map (some b3), .map (some b4), .map (some b5), .slice none 0 0, .slice none 0 0]
structure MkV (w : World) (base B : Nat) (s : Si.Site) (zl : List (Si.Zone × Value × Value)) (kz ka ks kr nn : Nat) (cz : List Int) (kv ov zv av sv rv : Value) (b1 b2 b3 b4 b5 : Nat) : Prop where
 hB : w.heap[B]? = some (.cells (mkC s kv ov zv av sv rv b1 b2 b3 b4 b5) 225 (0, 0))
 hz : w.ownsRow base 80 5 zv kz (zRows zl kz)
 ha : w.ownsRow base 161 2 av ka (aRows s.aparts ka)
 hs : w.ownsRow base 163 2 sv ks (sRows s.shelves ks)
 hr : w.ownsRow base 159 2 rv kr (rRows s.robots kr)
 m1 : MapI w b1 (shP s.shelves ks)
 m2 : MapB w b2 ((s.robots.take kr).map (·.1))
 m3 : MapB w b3 cz
 m4 : MapS w b4 nn
 lb : base ≤ B ∧ base ≤ b1 ∧ base ≤ b2 ∧ base ≤ b3 ∧ base ≤ b4
 ne : (b1 ≠ b2 ∧ b1 ≠ b3 ∧ b1 ≠ b4) ∧ (b2 ≠ b3 ∧ b2 ≠ b4) ∧ b3 ≠ b4
section
variable {w w' : World} {base B : Nat} {s : Si.Site} {zl : List (Si.Zone × Value × Value)} {kz ka ks kr nn : Nat} {cz : List Int} {kv ov zv av sv rv : Value} {b1 b2 b3 b4 b5 : Nat}
theorem MkV.lt (h : MkV w base B s zl kz ka ks kr nn cz kv ov zv av sv rv b1 b2 b3 b4 b5) : B < w.heap.size := heap_lt h.hB
theorem MkV.below (h : MkV w base B s zl kz ka ks kr nn cz kv ov zv av sv rv b1 b2 b3 b4 b5) (hb : Below w.heap.size w w') : MkV w' base B s zl kz ka ks kr nn cz kv ov zv av sv rv b1 b2 b3 b4 b5 :=
 ⟨keep_heap h.hB hb, ownM_below h.hz hb, ownM_below h.ha hb, ownM_below h.hs hb, ownM_below h.hr hb, h.m1.below hb, h.m2.below hb, h.m3.below hb, h.m4.below hb, h.lb, h.ne⟩
theorem gt_map {e : TypeId} (hg : GT e w w') {b : Nat} (hm : ∃ es c, w.heap[b]? = some (.map es c)) : ∃ row, w.grownBy w' row ∧ some b ≠ row := by
 obtain ⟨row, h1, h2⟩ := hg
 refine ⟨row, h1, fun e => ?_⟩
 obtain ⟨cs, fr, h3⟩ := h2 b e.symm
 obtain ⟨es, c, hm⟩ := hm
 rw [hm] at h3; cases h3
theorem MapB.gt {b : Nat} {l : List Int} {e : TypeId} (h : MapB w b l) (hg : GT e w w') : MapB w' b l := by obtain ⟨row, h1, h2⟩ := gt_map hg h.isMap; exact h.kept h1 h2
theorem MapI.gt {b : Nat} {l : List (Int × Int)} {e : TypeId} (h : MapI w b l) (hg : GT e w w') : MapI w' b l := by obtain ⟨row, h1, h2⟩ := gt_map hg h.isMap; exact h.kept h1 h2
theorem MapS.gt {b n : Nat} {e : TypeId} (h : MapS w b n) (hg : GT e w w') : MapS w' b n := by obtain ⟨row, h1, h2⟩ := gt_map hg h.isMap; exact h.kept h1 h2
theorem gt_set {e : TypeId} {k : Nat} {cs : Array Value} {fr : Nat × Nat} (hk : w.heap[k]? = some (.cells cs e fr)) (o : Nat) (v : Value) : GT e w (w.setCell ⟨k, o, none⟩ v) :=
 ⟨some k, grown_set, fun j hj => by injection hj with hj; subst hj; exact ⟨_, _, hk⟩⟩
theorem MkV.appR {w1 : World} (h : MkV w base B s zl kz ka ks kr nn cz kv ov zv av sv rv b1 b2 b3 b4 b5) {rv' : Value} (hm : MapB w1 b2 ((s.robots.take (kr + 1)).map (·.1))) (hg1 : w.grownBy w1 (some b2)) {w2 : World} (hb2 : Below w1.heap.size w1 w2)
 (ho : w'.ownsRow base 159 2 rv' (kr + 1) (rRows s.robots (kr + 1))) (hg : w2.grownBy w' rv.ownBlock) :
 MkV (w'.setCell ⟨B, 8, none⟩ rv') base B s zl kz ka ks (kr + 1) nn cz kv ov zv av sv rv' b1 b2 b3 b4 b5 := by
 have hi := h.m2.isMap
 have hsw := ownM_below (ownM_map h.hr hi hg1) hb2
 have hG : GT 159 w2 w' := GT.of_own hsw hg
 have hB' := hG.heap (keep_heap (heap_map h.hB hi hg1) hb2) (by decide)
 have hS := gt_set hB' 8 rv'
 have hne := h.ne
 exact ⟨set_heap hB' 8 rv', hS.row (hG.row (ownM_below (ownM_map h.hz hi hg1) hb2) (by decide)) (by decide), hS.row (hG.row (ownM_below (ownM_map h.ha hi hg1) hb2) (by decide)) (by decide),
  hS.row (hG.row (ownM_below (ownM_map h.hs hi hg1) hb2) (by decide)) (by decide), ownM_set ho hB' (by decide) 8 _,
  (((h.m1.kept hg1 (by simpa using hne.1.1)).below hb2).gt hG).gt hS, ((hm.below hb2).gt hG).gt hS, (((h.m3.kept hg1 (by simpa using fun e => hne.2.1.1 e.symm)).below hb2).gt hG).gt hS,
  (((h.m4.kept hg1 (by simpa using fun e => hne.2.1.2 e.symm)).below hb2).gt hG).gt hS, h.lb, h.ne⟩
end
open Go.RowKit Go.Maps
def inK (f : Fl.Floor) (c : Int) : Bool := decide (0 ≤ c) && decide (c < f.kind.length)
def kOf (f : Fl.Floor) (c : Int) : Int := if inK f c = true then Si.kindAt f c else 0
open Go.RowKit
open Go.RowKit Go.Maps
structure AscK (f : Fl.Floor) (l : List Int) : Prop where
 cell : ∀ c ∈ l, inK f c = true
 asc : l.Pairwise (· < ·)
theorem AscK.nil (f : Fl.Floor) : AscK f [] := ⟨fun c h => (by cases h), List.Pairwise.nil⟩
theorem AscK.step {f : Fl.Floor} {l : List Int} {k : Nat} (h : AscK f (l.take k)) (hk : k < l.length) (h1 : inK f l[k] = true) (h2 : ∀ j, (hj : j + 1 = k) → l[j]'(by omega) < l[k]) : AscK f (l.take (k + 1)) := by
 rw [List.take_succ_eq_append_getElem hk]
 refine ⟨fun c hc => ?_, ?_⟩
 · rcases List.mem_append.1 hc with h3 | h3
   · exact h.cell c h3
   · rw [List.mem_singleton] at h3; subst h3; exact h1
 · rw [List.pairwise_append]
   refine ⟨h.asc, by simp, fun x hx y hy => ?_⟩
   rw [List.mem_singleton] at hy
   subst hy
   obtain ⟨i, hi, rfl⟩ := List.getElem_of_mem hx
   rw [List.length_take] at hi
   have hj := h2 (k - 1) (by omega)
   rw [List.getElem_take]
   rcases Nat.lt_or_eq_of_le (show i ≤ k - 1 by omega) with h4 | h4
   · have h5 := List.pairwise_iff_getElem.1 h.asc i (k - 1) (by rw [List.length_take]; omega) (by rw [List.length_take]; omega) h4
     rw [List.getElem_take, List.getElem_take] at h5
     omega
   · subst h4; exact hj
open Go.RowKit Go.Maps
def ZnC (f : Fl.Floor) (c : Int) : Prop := inK f c = true ∧ kOf f c ≠ 0 ∧ kOf f c ≠ 4 ∧ kOf f c ≠ 5
def AddZ (w : World) (base B : Nat) (s : Si.Site) (zl : List (Si.Zone × Value × Value)) (kz ka ks kr : Nat) (cz cl : List Int) (kv ov av sv rv : Value) (b1 b2 b3 b4 b5 : Nat) (e : Ending) (w' : World) : Prop :=
 ∃ E : Int, e = .returned (.int .i64 E) ∧ Below base w w' ∧ (E = 0 → kz < 64 ∧ (∀ c ∈ cl, ZnC s.floor c ∧ c ∉ cz) ∧ ∃ zv', MkV w' base B s zl (kz + 1) ka ks kr (kz + 1) (cz ++ cl) kv ov zv' av sv rv b1 b2 b3 b4 b5)
theorem AddZ.no {w w' : World} {base B : Nat} {s : Si.Site} {zl : List (Si.Zone × Value × Value)} {kz ka ks kr : Nat} {cz cl : List Int} {kv ov av sv rv : Value} {b1 b2 b3 b4 b5 : Nat} {E : Int} (hE : E ≠ 0) (hb : Below base w w') :
 AddZ w base B s zl kz ka ks kr cz cl kv ov av sv rv b1 b2 b3 b4 b5 (.returned (.int .i64 E)) w' := ⟨E, rfl, hb, fun h => absurd h hE⟩
open Go.RowKit Go.Maps
section
variable {w w' : World} {base B : Nat} {s : Si.Site} {zl : List (Si.Zone × Value × Value)} {kz ka ks kr nn : Nat} {cz : List Int} {kv ov zv av sv rv : Value} {b1 b2 b3 b4 b5 : Nat}
end
def AddA (w : World) (base B : Nat) (s : Si.Site) (zl : List (Si.Zone × Value × Value)) (kz ka ks kr nn : Nat) (cz : List Int) (kv ov zv sv rv : Value) (b1 b2 b3 b4 b5 : Nat) (e : Ending) (w' : World) : Prop :=
 ∃ E : Int, e = .returned (.int .i64 E) ∧ Below base w w' ∧ (E = 0 → ∃ av', MkV w' base B s zl kz (ka + 1) ks kr nn cz kv ov zv av' sv rv b1 b2 b3 b4 b5)
theorem AddA.no {w w' : World} {base B : Nat} {s : Si.Site} {zl : List (Si.Zone × Value × Value)} {kz ka ks kr nn : Nat} {cz : List Int} {kv ov zv sv rv : Value} {b1 b2 b3 b4 b5 : Nat} {E : Int} (hE : E ≠ 0) (hb : Below base w w') :
 AddA w base B s zl kz ka ks kr nn cz kv ov zv sv rv b1 b2 b3 b4 b5 (.returned (.int .i64 E)) w' := ⟨E, rfl, hb, fun h => absurd h hE⟩
open Go.RowKit Go.Maps
section
variable {w w1 w' : World} {base B : Nat} {s : Si.Site} {zl : List (Si.Zone × Value × Value)} {kz ka ks kr nn : Nat} {cz : List Int} {kv ov zv av sv rv : Value} {b1 b2 b3 b4 b5 : Nat}
theorem MkV.own2 (h : MkV w base B s zl kz ka ks kr nn cz kv ov zv av sv rv b1 b2 b3 b4 b5) (hg1 : w.grownBy w1 (some b2)) : w1.ownsRow base 159 2 rv kr (rRows s.robots kr) := ownM_map h.hr h.m2.isMap hg1
end
def ShC (s : Si.Site) (ks : Nat) (c : Int) : Prop := inK s.floor c = true ∧ (kOf s.floor c = 1 ∨ kOf s.floor c = 2) ∧ c ∉ (s.shelves.take ks).map (·.1)
def RbC (s : Si.Site) (kr : Nat) (p : Int × Int) : Prop := inK s.floor p.1 = true ∧ kOf s.floor p.1 ≠ 0 ∧ 0 ≤ p.2 ∧ p.2 ≤ 1000000 ∧ p.1 ∉ (s.robots.take kr).map (·.1)
def AddS (w : World) (base B : Nat) (s : Si.Site) (zl : List (Si.Zone × Value × Value)) (kz ka ks kr nn : Nat) (cz : List Int) (c : Int) (kv ov zv av rv : Value) (b1 b2 b3 b4 b5 : Nat) (e : Ending) (w' : World) : Prop :=
 ∃ E : Int, e = .returned (.int .i64 E) ∧ Below base w w' ∧ (E = 0 → ks < 3000 ∧ ShC s ks c ∧ ∃ sv', MkV w' base B s zl kz ka (ks + 1) kr nn cz kv ov zv av sv' rv b1 b2 b3 b4 b5)
theorem AddS.no {w w' : World} {base B : Nat} {s : Si.Site} {zl : List (Si.Zone × Value × Value)} {kz ka ks kr nn : Nat} {cz : List Int} {c : Int} {kv ov zv av rv : Value} {b1 b2 b3 b4 b5 : Nat} {E : Int} (hE : E ≠ 0) (hb : Below base w w') :
 AddS w base B s zl kz ka ks kr nn cz c kv ov zv av rv b1 b2 b3 b4 b5 (.returned (.int .i64 E)) w' := ⟨E, rfl, hb, fun h => absurd h hE⟩
def AddR (w : World) (base B : Nat) (s : Si.Site) (zl : List (Si.Zone × Value × Value)) (kz ka ks kr nn : Nat) (cz : List Int) (p : Int × Int) (kv ov zv av sv : Value) (b1 b2 b3 b4 b5 : Nat) (e : Ending) (w' : World) : Prop :=
 ∃ E : Int, e = .returned (.int .i64 E) ∧ Below base w w' ∧ (E = 0 → kr < 200 ∧ RbC s kr p ∧ ∃ rv', MkV w' base B s zl kz ka ks (kr + 1) nn cz kv ov zv av sv rv' b1 b2 b3 b4 b5)
theorem AddR.no {w w' : World} {base B : Nat} {s : Si.Site} {zl : List (Si.Zone × Value × Value)} {kz ka ks kr nn : Nat} {cz : List Int} {p : Int × Int} {kv ov zv av sv : Value} {b1 b2 b3 b4 b5 : Nat} {E : Int} (hE : E ≠ 0) (hb : Below base w w') :
 AddR w base B s zl kz ka ks kr nn cz p kv ov zv av sv b1 b2 b3 b4 b5 (.returned (.int .i64 E)) w' := ⟨E, rfl, hb, fun h => absurd h hE⟩
open Go.RowKit Go.Maps
open Go.RowKit Go.Maps
theorem IndexI_any (v : Value) (l : List Int) (x : Int) (w : World) (h : Is w v l) :
 Calls Tryz.prog 252 #[v, .int .i64 x] w fun e w' => (∃ n : Int, e = .returned (.int .i64 n)) ∧ w = w' := by
 obtain ⟨a, cap, rfl, hm⟩ := h.form
 have H := hid h
 obtain ⟨n, hn⟩ : ∃ n, l.length = n := ⟨_, rfl⟩
 rw [hn] at hm H ⊢
 have HN := hid hn
 clear h hn
 go_enter Tryz.func252, Tryz.ntmps252
 go_wp2_with fail
 go_loop [8] (fun iv => ∃ k : Nat, k ≤ n ∧ iv = .int .i64 k) (fun iv => n - (intOf iv).toNat)
 case atStart => exact ⟨0, by omega, rfl⟩
 case round =>
  obtain ⟨k, hk, rfl⟩ := hrel
  by_cases hkn : k < n
  · have hkl : k < l.length := by rw [HN.out]; exact hkn
    obtain ⟨b, off, e1, c0⟩ := H.out.cell k hkl
    subst e1
    obtain ⟨y, hy⟩ : ∃ y, l[k] = y := ⟨_, rfl⟩
    rw [hy] at c0
    have k1 : (k : Int) < (n : Int) := by omega
    have k0 : (0 : Int) ≤ (k : Int) := by omega
    clear hy
    go_wp2_with fail
    all_goals first
     | (go_ret; exact ⟨⟨_, rfl⟩, rfl⟩)
     | (go_round
        case rel => exact ⟨k + 1, by omega, by go_num⟩
        case measure => simp [intOf]; omega)
  · go_wp2_with fail
    all_goals
     go_ret
     exact ⟨⟨_, rfl⟩, rfl⟩
theorem ContainsI_any (v : Value) (l : List Int) (x : Int) (w : World) (h : Is w v l) :
 Calls Tryz.prog 192 #[v, .int .i64 x] w fun e w' => ABool e ∧ w = w' := by
 have HX := hid (IndexI_any v l x w h)
 clear h
 go_enter Tryz.func192, Tryz.ntmps192
 go_wp2_with fail
 go_at_call 252; refine HX.out.mono ?_; rintro e w1 ⟨⟨n, rfl⟩, rfl⟩
 go_wp2_with fail
 go_ret
 exact ⟨⟨_, rfl⟩, rfl⟩
open Go.RowKit Go.Maps
open Go.RowKit Go.Maps
structure ZK (s : Si.Site) (k : Nat) : Prop where
 a : ∀ z ∈ s.zones.take k, z.cells ≠ [] ∧ z.cells.Pairwise (· < ·) ∧ 0 ≤ z.keep ∧ 1 ≤ z.speed ∧ z.speed ≤ 100
 b : ∀ z ∈ s.zones.take k, ∀ c ∈ z.cells, ZnC s.floor c
 d : (s.zones.take k).Pairwise (fun y z => ∀ c ∈ y.cells, c ∉ z.cells)
 n : k ≤ 64
def czK (s : Si.Site) (k : Nat) : List Int := (s.zones.take k).flatMap (·.cells)
theorem no_take {α : Type} {l : List α} {x : α} {p : Prop} (h : x ∈ l.take 0) : p := by rw [List.take_zero] at h; cases h
theorem ZK.zero (s : Si.Site) : ZK s 0 := ⟨fun z h => no_take h, fun z h => no_take h, by rw [List.take_zero]; exact List.Pairwise.nil, Nat.zero_le _⟩
theorem ZK.step {s : Si.Site} {k : Nat} (h : ZK s k) (hk : k < s.zones.length) (h1 : s.zones[k].cells ≠ []) (h2 : s.zones[k].cells.Pairwise (· < ·)) (h3 : 0 ≤ s.zones[k].keep) (h4 : 1 ≤ s.zones[k].speed ∧ s.zones[k].speed ≤ 100) (h5 : ∀ c ∈ s.zones[k].cells, ZnC s.floor c ∧ c ∉ czK s k) (h6 : k < 64) : ZK s (k + 1) where
 a := all_take h.a hk ⟨h1, h2, h3, h4.1, h4.2⟩
 b := all_take h.b hk (fun c hc => (h5 c hc).1)
 d := by
  rw [List.take_succ_eq_append_getElem hk, List.pairwise_append]
  refine ⟨h.d, by simp, fun y hy z hz => ?_⟩
  rw [List.mem_singleton] at hz
  subst hz
  intro c hc hc2
  exact (h5 c hc2).2 (List.mem_flatMap.2 ⟨y, hy, hc⟩)
 n := by omega
structure SK (s : Si.Site) (k : Nat) : Prop where
 a : ∀ x ∈ s.shelves.take k, inK s.floor x.1 = true ∧ (kOf s.floor x.1 = 1 ∨ kOf s.floor x.1 = 2)
 d : ((s.shelves.take k).map (·.1)).Nodup
 n : k ≤ 3000
structure RK (s : Si.Site) (k : Nat) : Prop where
 a : ∀ x ∈ s.robots.take k, inK s.floor x.1 = true ∧ kOf s.floor x.1 ≠ 0 ∧ 0 ≤ x.2 ∧ x.2 ≤ 1000000
 d : ((s.robots.take k).map (·.1)).Nodup
 n : k ≤ 200
theorem nodup_snoc {α : Type} {l : List (Int × α)} {k : Nat} (h : ((l.take k).map (·.1)).Nodup) (hk : k < l.length) (hn : l[k].1 ∉ (l.take k).map (·.1)) : ((l.take (k + 1)).map (·.1)).Nodup := by
 rw [List.take_succ_eq_append_getElem hk, List.map_append, List.nodup_append]
 refine ⟨h, by simp, fun x hx y hy => ?_⟩
 rw [List.map_singleton, List.mem_singleton] at hy
 subst hy
 intro e; subst e; exact hn hx
theorem SK.zero (s : Si.Site) : SK s 0 := ⟨fun z h => no_take h, by rw [List.take_zero]; exact List.Pairwise.nil, Nat.zero_le _⟩
theorem RK.zero (s : Si.Site) : RK s 0 := ⟨fun z h => no_take h, by rw [List.take_zero]; exact List.Pairwise.nil, Nat.zero_le _⟩
theorem SK.step {s : Si.Site} {k : Nat} (h : SK s k) (hk : k < s.shelves.length) (h1 : ShC s k s.shelves[k].1) (h6 : k < 3000) : SK s (k + 1) :=
 ⟨all_take h.a hk ⟨h1.1, h1.2.1⟩, nodup_snoc h.d hk h1.2.2, by omega⟩
theorem RK.step {s : Si.Site} {k : Nat} (h : RK s k) (hk : k < s.robots.length) (h1 : RbC s k s.robots[k]) (h6 : k < 200) : RK s (k + 1) :=
 ⟨all_take h.a hk ⟨h1.1, h1.2.1, h1.2.2.1, h1.2.2.2.1⟩, nodup_snoc h.d hk h1.2.2.2.2, by omega⟩
open Go.RowKit Go.Maps
end Go.Proofs.YtfcbcpfnaadpeaaGreatDoor
