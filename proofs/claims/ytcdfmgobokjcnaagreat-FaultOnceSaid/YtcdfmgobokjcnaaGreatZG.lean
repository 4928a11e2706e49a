/- Parts ShelfB, Fl, Rf, ShelfC, Ge of this claim, laid one behind the other: walks and the plain laws behind them; each contract states its own conditions. -/
import Derived.Test.YtcdfmgobokjcnaaGreatShelf
import Derived.Shelf.Small.Bits
import Derived.Shelf.Small.Strs
import Derived.Shelf.Small.Wraps
import Derived.Shelf.Strconv.Itoa0
import Derived.Shelf.Strings.Search1
import Derived.Shelf.Sort.Plain
import Derived.Shelf.Slices.Turned
import Derived.Ground.Names2Prog
import Derived.Shelf.Slices.CompactI
import Derived.Shelf.Slices.SearchI
import Derived.Shelf.Slices.In.SortNone
import Derived.Ground.SlgfProg
import Derived.Shelf.SlicesQ.IndexFunc
import Derived.Ground.SlgnProg
import Derived.Shelf.SlicesQ.Reverse
import Derived.Ground.SlsfProg
import Derived.Shelf.SlSortCmp.InsertionK
import Derived.Shelf.SlSortCmp.SiftDownK
import Derived.Shelf.SlSortCmp.HeapSortK
import Derived.Shelf.SlSortCmp.MedianK
import Derived.Shelf.SlSortCmp.PivotK
import Derived.Shelf.SlSortCmp.ReverseRangeK
import Derived.Shelf.SlSortCmp.PartialInsertionK
import Derived.Shelf.SlSortCmp.PartitionEqualK
import Derived.Shelf.SlSortCmp.PartitionK
import Derived.Shelf.SlSortCmp.PdqK
import Derived.Shelf.SlSortCmp.WholeK
import Derived.Shelf.SlSortCmp.NoneTotal
import Derived.Test.YtcdfmgobokjcnaaGreatProg
import Derived.Test.YtcdfmgobokjcnaaGreatZE
import Derived.Sort.OwnSortedInts
import Derived.RangeFuncNested
import Derived.RangeFuncCalls
import Derived.WalkKit
import Derived.Shelf.SlGeneric
import Derived.Shelf.SlLaysZI
import Derived.Ground.GgzProg
import Derived.Shelf.SlIterI.Collect
import Derived.Shelf.Abstract
import Derived.Shelf.RegionOpen
import Derived.OwnWalkIn
import Derived.TacticsInMore
import Derived.LoopNIn
import Derived.LoopIn
/-
  DERIVED: THE SHELF's CONTRACTS AT THIS DUMP, IN PLAIN WORDS (tools/lay-plain.mjs out of 'TryzShelf.lean', which tools/lay-shelf.mjs wrote): THE SAME DECLARATIONS UNDER THE SAME NAMES: 'import', 'namespace', 'open', 'def', 'theorem' AND NOTHING ELSE: no command of the shelf's: FOR A HAND-IN. Each laying: the table of numbers ('.._ren') and one theorem, a field a fact of the dump's own or the kernel's comparison; each contract: ONE APPLICATION.
-/
namespace Go.Proofs
open Go.Shelf
end Go.Proofs
/- Walks of package body: All (the slots sorted). -/
namespace Go.Proofs.YtcdfmgobokjcnaaGreat
set_option linter.unusedSimpArgs false
set_option linter.unusedVariables false
open Go.RowKit Go.Sort

/-- What sorting leaves of a row of a call's own. -/
def SortedPost (base : Nat) (v : Value) (l : List Int) (w : World) (e : Ending) (w' : World) : Prop :=
  e = .returned (.tuple #[]) ∧ ∃ m : List Int, m.Perm l ∧ m.Pairwise (· ≤ ·) ∧ m.length = l.length ∧ w'.ownsRow base 3 1 v m.length (ints m) ∧ Below base w w'
theorem sortI_any (base : Nat) (v : Value) (l : List Int) (w : World) (ho : w.ownsRow base 3 1 v l.length (ints l)) (hlen : l.length < 4611686018427387904) (hbw : base ≤ w.heap.size) :
    Calls Tryz.prog 44 #[v] w (SortedPost base v l w) := by
  rcases ho.2 with ⟨rfl, h0⟩ | ⟨g, cap, cur, rfl, hbg, hg, hnc, hcm, hcs, htake⟩
  · have h1 : l = [] := List.eq_nil_of_length_eq_zero h0
    subst h1
    refine (Tryz.slices_Sort_int_none none 0 w).mono ?_
    rintro e w' ⟨rfl, rfl⟩
    exact ⟨rfl, [], by simp, List.Pairwise.nil, rfl, ho, Below.refl _ _⟩
  · have hg2 : g < w.heap.size := heap_lt hg
    rw [Nat.mul_one] at htake
    have hH := Go.holds_of_blockI hg htake
    refine (Tryz.slices_Sort_int g 0 cap l w hH hg2 hlen).mono ?_
    rintro e w' ⟨rfl, n, os, rfl⟩
    obtain ⟨m, hm⟩ : ∃ m, l.mergeSort (fun x y => decide (x ≤ y)) = m := ⟨_, rfl⟩
    have hperm := List.mergeSort_perm l (fun x y => decide (x ≤ y))
    have hpair := List.pairwise_mergeSort (le := fun x y : Int => decide (x ≤ y)) (fun a b c h k => by simp at h k ⊢; omega) (fun a b => by simp; omega) l
    rw [hm] at hperm hpair ⊢
    have hl := hperm.length_eq
    have hown := Go.ownsRow_sortedI (w := w) (n := n) (os := os) (ss := l) (ts := m) hl hbg hg hnc hcm hcs
    have hgr := Go.grownBy_sortedI (w := w) (g := g) (n := n) (os := os) m.toArray
    refine ⟨rfl, m, hperm, hpair.imp (fun h => by simpa using h), hl, ?_, ?_⟩
    · rw [hl]; exact hown
    · exact ⟨hgr.os, hgr.tape, hgr.output, hgr.size, fun k hk => hgr.block k (by omega) (fun e => by injection e with e; omega)⟩
/-- A new list of numbers is handed back, in some order. -/
def PmPost (L : List Int) (w : World) (e : Ending) (w' : World) : Prop := ∃ v m, e = .returned v ∧ m.Perm L ∧ Is w' v m ∧ Below w.heap.size w w'
set_option maxRecDepth 100000 in
set_option maxHeartbeats 8000000 in
theorem AllB_any (s : Bd.State) (sv rv pv dv kv : Value) (w : World) (h : StV w sv rv pv dv kv s) (hs : StS s) :
    Calls Tryz.prog 74 #[stV s sv rv pv dv kv] w (PmPost (Bd.allL s) w) := by
  have HA := Lib.hid (fun W (hW : Below w.heap.size w W) => allB_any s sv rv pv dv kv W (h.keep hW) hs)
  have HLn : Hid ((Bd.allL s).length ≤ 24000) := Lib.hid (by
    have q1 := Bd.robotsL_len s
    have q2 := Bd.shelvesL_len s
    have q3 := Bd.peopleL_len s
    have n1 := hs.nr
    have n2 := hs.ns
    have n3 := hs.np
    unfold Bd.allL
    rw [List.length_append, List.length_append]
    omega)
  obtain ⟨L, hL⟩ : ∃ L, Bd.allL s = L := ⟨_, rfl⟩
  rw [hL] at HA HLn ⊢
  unfold RwPost at HA
  unfold stV PmPost at *
  have HB := Lib.hid (al1 w (.cells #[.int .i64 s.tick, sv, rv, pv, dv, kv] 34))
  clear h hs hL
  go_enter Tryz.func74, Tryz.ntmps74
  go_wp2_with fail
  go_at_call 52; refine (HA.out _ HB.out.2.1).mono ?_; rintro e w2 ⟨v2, rfl, ho2, b2⟩
  have HO := Lib.hid ho2
  have hsz := b2.size
  have B2 := Lib.hid (HB.out.2.1.trans (b2.mono HB.out.2.1.size))
  have HS := Lib.hid (sortI_any _ v2 L w2 ho2 (by have := HLn.out; omega) hsz)
  have HB1 := Lib.hid HB.out.2.1.size
  clear ho2 b2
  unfold SortedPost at HS
  obtain ⟨a, cap, rfl, -⟩ := own_slice HO.out
  go_wp2_with fail
  go_at_call 44; refine HS.out.mono ?_; rintro e w3 ⟨rfl, m, hm1, hm2, hm3, hm4, b3⟩
  have HM := Lib.hid hm1
  have HO3 := Lib.hid hm4
  have B3 := Lib.hid (B2.out.trans (b3.mono HB1.out))
  clear hm1 hm2 hm3 hm4 b3
  go_wp2_with fail
  go_ret
  exact ⟨_, m, rfl, HM.out, Sl.of_own (by have := HO3.out; exact this) (by have := HLn.out; have := HM.out.length_eq; unfold maxLen; omega), B3.out⟩
end Go.Proofs.YtcdfmgobokjcnaaGreat
/- A range over a function in the wide fence: the statement and one round, with the loop's record in hand. -/
namespace Go.Proofs.YtcdfmgobokjcnaaGreat
open Go.RowKit
variable {P : Program}

/-- The record of an outermost loop. -/
def rfRec (fn : FuncId) (tmps : Array Value) (ps : Array Tmp) (assign body : Code) (d : Nat) (st : LoopState) (j : Option Code) : Obj :=
  .loop { state := st, pending := j, fn, tmps, params := ps, assign, body, defers := d }

theorem range_wide {n : Nat} {g : Operand} {ps : Array Tmp} {assign body : Code} {Q : Exit → Act → World → Prop} {a : Act} {w : World} {gf : Nat} {lb : Array Value}
    (hg : a.eval g = .func (.func gf) #[] lb) (eg : ∀ args w, (callFunc gf args).run P w = .ok (.enter gf args) w) (N : Nat) (hN : w.heap.size = N)
    (h : ∀ fn (R : LoopState → Option Code → Obj), Hid (R = rfRec fn a.tmps ps assign body N) →
      CallsIn Fence.wide (n - 1) P gf (#[.func (.yield (N + 1)) #[] #[]] ++ lb) ((w.alloc (.deferred (some []))).alloc (R .ready none))
      (rangePost Fence.wide n P (N + 1) Q { a with defers := { target := .collected N, args := #[] } :: a.defers })) :
    (Code.rangeFunc g ps assign body).wpIn Fence.wide n P Q a w := by
  subst hN
  refine wpIn_rangeFunc fun fn _ => ?_
  obtain ⟨W1, hW1⟩ : ∃ W1, W1 = (w.alloc (.deferred (some []))).alloc (rfRec fn a.tmps ps assign body w.heap.size .ready none) := ⟨_, rfl⟩
  have h := h fn _ rfl
  rw [← hW1] at h
  refine ⟨w.heap.size + 1, [{ target := .collected w.heap.size, args := #[] }], W1, { target := .fn (.func gf) lb, args := #[.func (.yield (w.heap.size + 1)) #[] #[]] }, W1, gf, _, W1, (run_enterLoop_outer _ _ _ _ _).trans (by rw [hW1]; rfl), ?_, ?_, ?_, (fun e => (by cases e)), h⟩
  · simp only [resolve, hg]; simp [go_sem]
  · intro f' _; trivial
  · simp [invoke, go_sem, eg]

/-- One round: the assignment, beginRound, the body, endRound. -/
def rfPost (l : Nat) (rec : LoopState → Option Code → Obj) (R : Option Code → World → Prop) : Exit → Act → World → Prop
  | .normal, _, W => W.heap[l]? = some (rec .busy none) ∧ R none (W.putObj l (rec .ready none))
  | .ret, _, W => W.heap[l]? = some (rec .busy none) ∧ R (some .ret) (W.putObj l (rec .done (some .ret)))
  | .exit id, _, W => W.heap[l]? = some (rec .busy none) ∧ R (some (.exit id)) (W.putObj l (rec .done (some (.exit id))))
  | _, _, _ => False

theorem yield_wide {m l : Nat} {fn : FuncId} {tmps : Array Value} {ps : Array Tmp} {assign body : Code} {d : Nat} {rec : LoopState → Option Code → Obj} {W : World} {args : Array Value} {R : Option Code → World → Prop}
    (hrec : rec = rfRec fn tmps ps assign body d) (hl : W.heap[l]? = some (rec .ready none)) (hs : args.size = ps.size)
    (h : assign.wpIn (Fence.wide.inRound l) m P (Exit.then (fun a₁ w₁ => w₁.heap[l]? = some (rec .ready none) ∧
      body.wpIn (Fence.wide.inRound l) m P (rfPost l rec R) a₁ (w₁.putObj l (rec .busy none))) (fun _ _ _ => False))
      { tmps := (ps.zip args).foldl (fun tmps (t, a) => tmps.setIfInBounds t a) tmps, defers := [] } W) :
    YieldAt Fence.wide m P l args W fun e W' => (e = .returned (.bool true) ∧ R none W') ∨ (e = .returned (.bool false) ∧ ∃ c, R (some c) W') := by
  subst hrec
  refine ⟨fn, _, assign, body, run_yield hl hs, roundIn_of_wpIn trivial (wpIn_mono h ?_)⟩
  rintro e a w₁ hp
  cases e <;> first | exact hp.elim | skip
  obtain ⟨h1, h2⟩ := hp
  refine ⟨_, run_beginRound h1 rfl, wpIn_mono h2 ?_⟩
  rintro e a w₂ hq
  cases e with
  | normal => exact ⟨_, _, run_endRound none hq.1, .inl ⟨rfl, hq.2⟩⟩
  | ret => exact ⟨_, _, run_endRound (some .ret) hq.1, .inr ⟨rfl, _, hq.2⟩⟩
  | exit id => exact ⟨_, _, run_endRound (some (.exit id)) hq.1, .inr ⟨rfl, _, hq.2⟩⟩
  | goto t => exact hq.elim
  | panic c => exact hq.elim
  | outgrown => exact hq.elim

theorem yieldAt_mono {m l : Nat} {args : Array Value} {W : World} {R R' : Ending → World → Prop} (h : YieldAt Fence.wide m P l args W R) (hr : ∀ e w, R e w → R' e w) : YieldAt Fence.wide m P l args W R' := by
  obtain ⟨fn, tmps, assign, body, h1, h2⟩ := h
  exact ⟨fn, tmps, assign, body, h1, h2.mono hr⟩

/-- Behind the loop. -/
theorem rangePost_none {n l : Nat} {fn : FuncId} {tmps : Array Value} {ps : Array Tmp} {assign body : Code} {d : Nat} {rec : LoopState → Option Code → Obj} {st : LoopState} {Q : Exit → Act → World → Prop} {a : Act} {W : World} {v : Value}
    (hrec : rec = rfRec fn tmps ps assign body d) (hl : W.heap[l]? = some (rec st none)) (hs : st ≠ .busy)
    (h : Q .normal a (W.putObj l (rec .exhausted none))) : rangePost Fence.wide n P l Q a (.returned v) W := by
  subst hrec; exact ⟨none, _, run_endLoop hl hs, h⟩
theorem rangePost_some {n l : Nat} {fn : FuncId} {tmps : Array Value} {ps : Array Tmp} {assign body : Code} {d : Nat} {rec : LoopState → Option Code → Obj} {st : LoopState} {c : Code} {Q : Exit → Act → World → Prop} {a : Act} {W : World} {v : Value}
    (hrec : rec = rfRec fn tmps ps assign body d) (hl : W.heap[l]? = some (rec st (some c))) (hs : st ≠ .busy)
    (h : c.wpIn Fence.wide n P Q a (W.putObj l (rec .exhausted (some c)))) : rangePost Fence.wide n P l Q a (.returned v) W := by
  subst hrec; exact ⟨some c, _, run_endLoop hl hs, h⟩

/-! ### boxes -/
/-- Block B is one cell of type t that holds v. -/
def Box (W : World) (B : Nat) (t : TypeId) (v : Value) : Prop := W.heap[B]? = some (.cells #[v] t (0, 0))
theorem Box.lt {W : World} {B : Nat} {t : TypeId} {v : Value} (h : Box W B t v) : B < W.heap.size := (Array.getElem?_eq_some_iff.1 h).1
theorem Box.cell {W : World} {B : Nat} {t : TypeId} {v : Value} (h : Box W B t v) : W.cell? ⟨B, 0, none⟩ = some v := by simp [World.cell?, show W.heap[B]? = _ from h]
theorem Box.frozen {W : World} {B : Nat} {t : TypeId} {v : Value} (h : Box W B t v) : W.frozen? ⟨B, 0, none⟩ = false := by simp [World.frozen?, show W.heap[B]? = _ from h]
theorem Box.new (W : World) (t : TypeId) (v : Value) : Box (W.alloc (.cells #[v] t)) W.heap.size t v := World.alloc_heap_new W _
theorem Box.of_block {W W' : World} {B : Nat} {t : TypeId} {v : Value} (h : Box W B t v) (e : W'.heap[B]? = W.heap[B]?) : Box W' B t v := e.trans h
theorem Box.alloc {W : World} {B : Nat} {t : TypeId} {v : Value} (h : Box W B t v) (o : Obj) : Box (W.alloc o) B t v := h.of_block (Below.heap_alloc W o B h.lt)
theorem Box.putObj {W : World} {B l : Nat} {t : TypeId} {v : Value} (h : Box W B t v) (o : Obj) (hne : B ≠ l) : Box (W.putObj l o) B t v := h.of_block (World.putObj_heap_other hne)
theorem Box.drew {W : World} {B : Nat} {t : TypeId} {v : Value} (h : Box W B t v) : Box W.drew B t v := h
theorem Box.other {W : World} {B : Nat} {t : TypeId} {v : Value} (h : Box W B t v) (a : Addr) (u : Value) (hne : B ≠ a.block) : Box (W.setCell a u) B t v := h.of_block (Below.heap_setCell W a u B hne)
theorem Box.set {W : World} {B : Nat} {t : TypeId} {v : Value} (v' : Value) (h : Box W B t v) : Box (W.setCell ⟨B, 0, none⟩ v') B t v' := by
  obtain ⟨hlt, hk⟩ := Array.getElem?_eq_some_iff.1 h
  show (W.heap.modify B _)[B]? = _
  rw [Array.getElem?_eq_getElem (by rw [Array.size_modify]; exact hlt), Array.getElem_modify_self, hk]
  rfl
theorem Below.putObj {B : Nat} {a w : World} (h : Below B a w) {l : Nat} (hl : B ≤ l) (o : Obj) : Below B a (w.putObj l o) :=
  h.trans ⟨rfl, rfl, rfl, by simp, fun k hk => World.putObj_heap_other (by omega)⟩
theorem size_setCell (W : World) (a : Addr) (v : Value) : (W.setCell a v).heap.size = W.heap.size := by simp [World.setCell]
end Go.Proofs.YtcdfmgobokjcnaaGreat
/-
  DERIVED: THE SHELF's CONTRACTS AT THIS DUMP, IN PLAIN WORDS (tools/lay-plain.mjs out of 'TryzShelf.lean', which tools/lay-shelf.mjs wrote): THE SAME DECLARATIONS UNDER THE SAME NAMES: 'import', 'namespace', 'open', 'def', 'theorem' AND NOTHING ELSE: no command of the shelf's: FOR A HAND-IN. Each laying: the table of numbers ('.._ren') and one theorem, a field a fact of the dump's own or the kernel's comparison; each contract: ONE APPLICATION.
-/
namespace Go.Proofs
open Go.Shelf
def Tryz.laysAp_ren : Go.Shelf.Ren := ⟨fun | 11 => 105 | n => n, fun | 24 => 22 | 26 => 3 | 28 => 70 | 0 => 0 | 33 => 118 | 4 => 4 | n => n, fun | n => n⟩
theorem Tryz.laysAp : Go.Proofs.SlLaysZI.n11 Tryz.prog Tryz.laysAp_ren := {
  mixed := by kernel_rfl
  f11 := ⟨Tryz.f105.name, by decide, Tryz.func105.trans (congrArg some (by kernel_rfl))⟩
  t0 := Tryz.underlying0
  a0 := Tryz.isAgg0
  z0 := Tryz.sizeOf0
  v0 := Tryz.zeroValue0
  t24 := Tryz.underlying22
  a24 := Tryz.isAgg22
  z24 := Tryz.sizeOf22
  v24 := Tryz.zeroValue22
  t26 := Tryz.underlying3
  a26 := Tryz.isAgg3
  z26 := Tryz.sizeOf3
  v26 := Tryz.zeroValue3
  t28 := Tryz.underlying70
  a28 := Tryz.isAgg70
  z28 := Tryz.sizeOf70
  v28 := Tryz.zeroValue70
  i26 := by kernel_rfl }
end Go.Proofs
/- Walks: slices.Values, AppendSeq, Collect, Sorted, Compact: the places that are looked at. -/
namespace Go.Proofs.YtcdfmgobokjcnaaGreat
set_option linter.unusedSimpArgs false
set_option linter.unusedVariables false
open Go.RowKit Go.Shelf
attribute [local go_sem] Oper.semAt_some

set_option maxHeartbeats 400000 in
theorem Values_any (a : Option Addr) (n cap : Nat) (w : World) :
    Calls Tryz.prog 30 #[.slice a n cap] w fun e w' => e = .returned (.func (.func 68) #[] #[.pointer (some ⟨w.heap.size, 0, none⟩)]) ∧ w' = w.alloc (.cells #[.slice a n cap] 22) := by
  go_enter Tryz.func30, Tryz.ntmps30
  go_wp2
  go_ret
  exact ⟨rfl, rfl⟩
set_option maxRecDepth 100000 in
set_option maxHeartbeats 1000000 in
theorem vals_in (n lp bA : Nat) (v : Value) (l : List Int) (I : Nat → World → Prop)
    (hst : ∀ i W, I i W → Box W bA 22 v ∧ Is W v l)
    (hY : ∀ i W e, i < l.length → l[i]? = some e → I i W → YieldAt Fence.wide (n - 1) Tryz.prog lp #[.int .i64 e] W fun r W' => r = .returned (.bool true) ∧ I (i + 1) W')
    (W : World) (h0 : I 0 W) :
    CallsIn Fence.wide n Tryz.prog 68 #[.func (.yield lp) #[] #[], .pointer (some ⟨bA, 0, none⟩)] W fun r W' => (∃ v, r = .returned v) ∧ I l.length W' := by
  have HST := Lib.hid hst
  have HY := Lib.hid hY
  obtain ⟨sA, hv0⟩ := hst _ _ h0
  obtain ⟨a, cap, rfl, hm⟩ := hv0.form
  obtain ⟨N, hN⟩ : ∃ N, l.length = N := ⟨_, rfl⟩
  rw [hN] at hm HST sA ⊢
  have HN := Lib.hid hN
  clear hst hY hv0 hN
  have cA := sA.cell
  refine callsIn_of_wp Tryz.func68 rfl trivial ?_ rfl
  simp only [Tryz.ntmps68, List.size_toArray, List.length_cons, List.length_nil, Nat.reduceAdd, Nat.reduceSub, Array.replicate_succ, Array.replicate_zero, List.push_toArray, List.append_toArray, List.nil_append, List.cons_append]
  gi_wp2
  clear cA
  gi_loopw [7] (fun i wr => ∃ (k : Nat), k ≤ N ∧ i = .int .i64 k ∧ I k wr) (fun i _ => N - (intOf i).toNat)
  case atStart => exact ⟨0, by omega, rfl, h0⟩
  case round =>
    obtain ⟨k, hk, rfl, hI⟩ := hrel
    have HI := Lib.hid hI
    obtain ⟨rA, hc⟩ := HST.out _ _ hI
    clear hI
    by_cases hlt : k < N
    · have hkl : k < l.length := by rw [HN.out]; exact hlt
      obtain ⟨bk, off, rfl, hcell⟩ := hc.cell k hkl
      obtain ⟨X, hX⟩ : ∃ X, l[k] = X := ⟨_, rfl⟩
      rw [hX] at hcell
      obtain ⟨fn, tmps, assign, body, hy, hR⟩ := HY.out k wr X hkl (by rw [List.getElem?_eq_getElem hkl, hX]) HI.out
      have hi0 : (0 : Int) ≤ (k : Int) := by omega
      have hi1 : (k : Int) < (N : Int) := by omega
      clear hc hX hkl
      gi_wp2
      refine ⟨fun e => (by cases e), hR.mono ?_⟩
      rintro r W' ⟨rfl, hI'⟩
      have HI' := Lib.hid hI'
      clear hI' hcell hy hR
      gi_wp2
      go_roundw
      case rel => exact ⟨k + 1, by omega, by go_num, HI'.out⟩
      case measure => simp [intOf]; omega
    · obtain rfl : k = N := by omega
      clear hc
      gi_wp2
      go_end0
      exact ⟨⟨_, rfl⟩, HI.out⟩
theorem encZ_ints (l : List Int) : l.map encZ = ints l := rfl
set_option maxRecDepth 100000 in
set_option maxHeartbeats 2000000 in
theorem appendSeq_any (v : Value) (l : List Int) (bA : Nat) (w : World) (hA : Box w bA 22 v) (hv : Is w v l) (hlen : l.length ≤ 1000000) :
    Calls Tryz.prog 105 #[.slice none 0 0, .func (.func 68) #[] #[.pointer (some ⟨bA, 0, none⟩)]] w (RwPost l w) := by
  unfold RwPost
  refine (callsIn_wide (n := 20)).1 ?_
  refine callsIn_of_wp_marks Tryz.func105 rfl trivial ?_ rfl
  simp only [Tryz.ntmps105, List.size_toArray, List.length_cons, List.length_nil, Nat.reduceAdd, Nat.reduceSub, Array.replicate_succ, Array.replicate_zero, List.push_toArray, List.append_toArray, List.nil_append, List.cons_append]
  gi_wp2
  obtain ⟨w3, hw3⟩ : ∃ W, W = w.alloc (.cells #[.slice none 0 0] 22) := ⟨_, rfl⟩
  have hA1 := al1 w (.cells #[.slice none 0 0] 22)
  rw [← hw3] at hA1
  obtain ⟨hb0, hb1, hz⟩ := hA1
  rw [← hw3]
  clear hw3
  refine range_wide (gf := 68) rfl (enters_of Tryz.func68 (by kernel_rfl) rfl) _ hz fun fn R hR => ?_
  have hRec : R .ready none = .loop (AnyZI.apRec Tryz.laysAp_ren fn (.func (.func 68) #[] #[.pointer (some ⟨bA, 0, none⟩)]) w.heap.size (w.heap.size + 1) .ready none) := by rw [hR.out]; rfl
  refine (vals_in 19 (w.heap.size + 1 + 1) bA v l (fun k W => AnyZI.ApAt Tryz.laysAp_ren w fn (.func (.func 68) #[] #[.pointer (some ⟨bA, 0, none⟩)]) w.heap.size (w.heap.size + 1 + 1) (w.heap.size + 1) (l.take k) W) ?st ?yield _ ?start).mono ?done
  case st => exact fun i W h => ⟨hA.of_block (h.below.block _ hA.lt), hv.keep h.below⟩
  case yield =>
    intro i W e hi he h
    refine yieldAt_mono (AnyZI.apYield Tryz.laysAp Fence.wide _ w fn trivial _ w.heap.size (w.heap.size + 1 + 1) (w.heap.size + 1) (by omega) (by omega) (by omega) (Nat.le_refl _) (by omega) 1000001 (by unfold maxLen; omega) (by omega) (l.take i) e W h (by rw [List.length_take]; omega)) ?_
    rintro r W' ⟨rfl, h2, -⟩
    refine ⟨rfl, ?_⟩
    obtain ⟨hi2, he2⟩ := List.getElem?_eq_some_iff.1 he
    rw [List.take_succ_eq_append_getElem hi2, he2]
    exact h2
  case start =>
    refine ⟨⟨.slice none 0 0, ?_, ⟨rfl, .inl ⟨rfl, rfl⟩⟩, by simp⟩, ?_, ?_, ?_⟩
    · exact (Below.heap_alloc _ _ _ (by simp; omega)).trans ((Below.heap_alloc _ _ _ (by omega)).trans hb0)
    · rw [← hRec]; have := World.alloc_heap_new (w3.alloc (.deferred (some []))) (R .ready none); rw [World.size_alloc, hz] at this; exact this
    · rw [Below.heap_alloc _ _ _ (by simp; omega)]; have := World.alloc_heap_new w3 (.deferred (some [])); rw [hz] at this; exact this
    · exact (hb1.alloc (by omega) _).alloc (by simp; omega) _
  case done =>
    rintro r W' ⟨⟨u, rfl⟩, h⟩
    rw [List.take_length] at h
    obtain ⟨vv, hbx, hrow, -⟩ := h.box
    have hL := h.L
    rw [← hRec] at hL
    refine rangePost_none hR.out hL (by decide) ?_
    have hltL : w.heap.size + 1 + 1 < W'.heap.size := (Array.getElem?_eq_some_iff.1 hL).1
    obtain ⟨W2, hW2⟩ : ∃ W2, W2 = W'.putObj (w.heap.size + 1 + 1) (R .exhausted none) := ⟨_, rfl⟩
    have hg2 : W'.grownBy W2 (some (w.heap.size + 1 + 1)) := by rw [hW2]; exact grownBy_putObj_a _ _ _
    have hbx2 : Box W2 w.heap.size 22 vv := by rw [hW2]; exact (show Box W' w.heap.size 22 vv from hbx).putObj _ (by omega)
    have hd2 : W2.heap[w.heap.size + 1]? = some (.deferred (some [])) := by rw [hW2]; exact (World.putObj_heap_other (by omega)).trans h.K
    have hb2 : Below w.heap.size w W2 := by rw [hW2]; exact Below.putObj h.below (by omega) _
    have hrow2 := hrow.kept hg2 (ownsRow_ne_a hrow h.L (fun cur e => by cases e))
    have cn := hbx2.cell
    rw [← hW2]
    clear hW2 hg2 hbx hrow hv hA
    obtain ⟨aa, cc, rfl, -⟩ := own_slice hrow2
    gi_wp2
    refine ⟨by simp, .inl ⟨_, _, rfl, run_takeDeferred hd2, ?_⟩⟩
    refine ⟨_, (results_tmp (t := 4) rfl _ _ _), _, rfl, ?_, Below.putObj hb2 (by omega) _⟩
    exact hrow2.kept (grownBy_putObj_a _ _ _) (ownsRow_ne_a hrow2 hd2 (fun cur e => by cases e))
end Go.Proofs.YtcdfmgobokjcnaaGreat
