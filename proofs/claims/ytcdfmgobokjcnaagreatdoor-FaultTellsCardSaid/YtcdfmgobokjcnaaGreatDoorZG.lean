/- Parts Fl, Rf, ShelfC, Ge of this claim, laid one behind the other: walks and the plain laws behind them; each contract states its own conditions. -/
import Derived.Sort.OwnSortedInts
import Derived.RangeFuncNested
import Derived.RangeFuncCalls
import Derived.Shelf.SlGeneric
import Derived.Shelf.SlLaysZI
import Derived.Ground.GgzProg
import Derived.Shelf.SlIterI.Collect
import Derived.Shelf.Abstract
import Derived.Shelf.RegionOpen
import Derived.OwnWalkIn
import Derived.TacticsInMore
import Derived.LoopNIn
import Derived.LoopIn
import Derived.Test.YtcdfmgobokjcnaaGreatDoorZE
import Derived.Shelf.Sort.Plain
import Derived.Shelf.Slices.In.SortNone
namespace Go.Proofs
open Go.Shelf
def Tryz.lays189_ren : Go.Shelf.Ren := ⟨fun | 189 => 90 | 125 => 97 | 257 => 124 | 128 => 137 | 129 => 138 | 294 => 153 | 295 => 154 | 296 => 155 | 297 => 156 | 298 => 157 | 299 => 158 | 216 => 159 | 300 => 160 | 301 => 161 | 328 => 185 | 329 => 164 | 330 => 165 | 331 => 186 | 332 => 187 | 215 => 139 | 343 => 197 | n => n, fun | 28 => 22 | 3 => 3 | 46 => 137 | 0 => 0 | 51 => 179 | 53 => 181 | 4 => 4 | 183 => 173 | 182 => 172 | 131 => 126 | 5 => 5 | 9 => 9 | 218 => 193 | 222 => 67 | 228 => 216 | 229 => 217 | n => n, fun | n => n⟩
theorem Tryz.lays189 : Go.Proofs.Lays.n189 Tryz.prog Tryz.lays189_ren := {
  mixed := by kernel_rfl
  f125 := Tryz.func97.trans (congrArg some (by kernel_rfl))
  f128 := Tryz.func137.trans (congrArg some (by kernel_rfl))
  f129 := Tryz.func138.trans (congrArg some (by kernel_rfl))
  f189 := Tryz.func90.trans (congrArg some (by kernel_rfl))
  f215 := Tryz.func139.trans (congrArg some (by kernel_rfl))
  f216 := Tryz.func159.trans (congrArg some (by kernel_rfl))
  f257 := Tryz.func124.trans (congrArg some (by kernel_rfl))
  f294 := Tryz.func153.trans (congrArg some (by kernel_rfl))
  f295 := Tryz.func154.trans (congrArg some (by kernel_rfl))
  f296 := Tryz.func155.trans (congrArg some (by kernel_rfl))
  f297 := Tryz.func156.trans (congrArg some (by kernel_rfl))
  f298 := Tryz.func157.trans (congrArg some (by kernel_rfl))
  f299 := Tryz.func158.trans (congrArg some (by kernel_rfl))
  f300 := Tryz.func160.trans (congrArg some (by kernel_rfl))
  f301 := Tryz.func161.trans (congrArg some (by kernel_rfl))
  f328 := Tryz.func185.trans (congrArg some (by kernel_rfl))
  f329 := Tryz.func164.trans (congrArg some (by kernel_rfl))
  f330 := Tryz.func165.trans (congrArg some (by kernel_rfl))
  f331 := Tryz.func186.trans (congrArg some (by kernel_rfl))
  f332 := Tryz.func187.trans (congrArg some (by kernel_rfl))
  f343 := Tryz.func197.trans (congrArg some (by kernel_rfl))
  t0 := Tryz.underlying0
  a0 := Tryz.isAgg0
  z0 := Tryz.sizeOf0
  v0 := Tryz.zeroValue0
  t3 := Tryz.underlying3
  a3 := Tryz.isAgg3
  z3 := Tryz.sizeOf3
  v3 := Tryz.zeroValue3
  t4 := Tryz.underlying4
  a4 := Tryz.isAgg4
  z4 := Tryz.sizeOf4
  v4 := Tryz.zeroValue4
  t5 := Tryz.underlying5
  a5 := Tryz.isAgg5
  z5 := Tryz.sizeOf5
  v5 := Tryz.zeroValue5
  t9 := Tryz.underlying9
  a9 := Tryz.isAgg9
  z9 := Tryz.sizeOf9
  v9 := Tryz.zeroValue9
  t28 := Tryz.underlying22
  a28 := Tryz.isAgg22
  z28 := Tryz.sizeOf22
  v28 := Tryz.zeroValue22
  t46 := Tryz.underlying137
  a46 := Tryz.isAgg137
  z46 := Tryz.sizeOf137
  v46 := Tryz.zeroValue137
  t51 := Tryz.underlying179
  a51 := Tryz.isAgg179
  z51 := Tryz.sizeOf179
  v51 := Tryz.zeroValue179
  t53 := Tryz.underlying181
  a53 := Tryz.isAgg181
  z53 := Tryz.sizeOf181
  v53 := Tryz.zeroValue181
  t131 := Tryz.underlying126
  a131 := Tryz.isAgg126
  z131 := Tryz.sizeOf126
  v131 := Tryz.zeroValue126
  t182 := Tryz.underlying172
  a182 := Tryz.isAgg172
  z182 := Tryz.sizeOf172
  v182 := Tryz.zeroValue172
  t183 := Tryz.underlying173
  a183 := Tryz.isAgg173
  z183 := Tryz.sizeOf173
  v183 := Tryz.zeroValue173
  t218 := Tryz.underlying193
  a218 := Tryz.isAgg193
  z218 := Tryz.sizeOf193
  v218 := Tryz.zeroValue193
  t222 := Tryz.underlying67
  a222 := Tryz.isAgg67
  z222 := Tryz.sizeOf67
  v222 := Tryz.zeroValue67
  t228 := Tryz.underlying216
  a228 := Tryz.isAgg216
  z228 := Tryz.sizeOf216
  v228 := Tryz.zeroValue216
  t229 := Tryz.underlying217
  a229 := Tryz.isAgg217
  z229 := Tryz.sizeOf217
  v229 := Tryz.zeroValue217 }
open Go.Sort Go.RowKit in
theorem Tryz.slices_Sort_int (blk off cap : Nat) (zs : List Int) (w : World) (hH : Holds (Value.int .i64) w blk off zs.toArray) (hblk : blk < w.heap.size) (hsz : zs.length < 4611686018427387904) :
    Calls Tryz.prog 90 #[.slice (some ⟨blk, off, none⟩) zs.length cap] w fun e w' =>
      e = .returned (.tuple #[]) ∧ ∃ n os, w' = grow (putRow (Value.int .i64) (Sort.ahead w n) blk off (zs.mergeSort fun x y => decide (x ≤ y)).toArray) os := Any.slices_Sort_int Tryz.lays189 blk off cap zs w hH hblk hsz
open Go.RowKit Go.Sort in
/-- .. and plain. (LAID: no walk: one application.) -/
theorem Tryz.slices_Sort_int_none (p : Option Addr) (cap : Nat) (w : World) :
    Calls Tryz.prog 90 #[.slice p 0 cap] w fun e w' => e = .returned (.tuple #[]) ∧ w' = w := Any.slices_Sort_int_none Tryz.lays189 p cap w
end Go.Proofs
/- Walks of package body: All (the slots sorted). -/
namespace Go.Proofs.YtcdfmgobokjcnaaGreatDoor
set_option linter.unusedSimpArgs false
set_option linter.unusedVariables false
open Go.RowKit Go.Sort

/-- What sorting leaves of a row of a call's own. -/
def SortedPost (base : Nat) (v : Value) (l : List Int) (w : World) (e : Ending) (w' : World) : Prop :=
  e = .returned (.tuple #[]) ∧ ∃ m : List Int, m.Perm l ∧ m.Pairwise (· ≤ ·) ∧ m.length = l.length ∧ w'.ownsRow base 3 1 v m.length (ints m) ∧ Below base w w'
theorem sortI_any (base : Nat) (v : Value) (l : List Int) (w : World) (ho : w.ownsRow base 3 1 v l.length (ints l)) (hlen : l.length < 4611686018427387904) (hbw : base ≤ w.heap.size) :
    Calls Tryz.prog 90 #[v] w (SortedPost base v l w) := by
  rcases ho.2 with ⟨rfl, h0⟩ | ⟨g, cap, cur, rfl, hbg, hg, hnc, hcm, hcs, htake⟩
  · have h1 : l = [] := List.eq_nil_of_length_eq_zero h0
    subst h1
    refine (Tryz.slices_Sort_int_none none 0 w).mono ?_
    rintro e w' ⟨rfl, rfl⟩
    exact ⟨rfl, [], by simp, List.Pairwise.nil, rfl, ho, Below.refl _ _⟩
  · have hg2 : g < w.heap.size := heap_lt hg
    rw [Nat.mul_one] at htake
    have hH := Go.holds_of_blockI hg htake
    refine (Tryz.slices_Sort_int g 0 cap l w hH hg2 hlen).mono ?_
    rintro e w' ⟨rfl, n, os, rfl⟩
    obtain ⟨m, hm⟩ : ∃ m, l.mergeSort (fun x y => decide (x ≤ y)) = m := ⟨_, rfl⟩
    have hperm := List.mergeSort_perm l (fun x y => decide (x ≤ y))
    have hpair := List.pairwise_mergeSort (le := fun x y : Int => decide (x ≤ y)) (fun a b c h k => by simp at h k ⊢; omega) (fun a b => by simp; omega) l
    rw [hm] at hperm hpair ⊢
    have hl := hperm.length_eq
    have hown := Go.ownsRow_sortedI (w := w) (n := n) (os := os) (ss := l) (ts := m) hl hbg hg hnc hcm hcs
    have hgr := Go.grownBy_sortedI (w := w) (g := g) (n := n) (os := os) m.toArray
    refine ⟨rfl, m, hperm, hpair.imp (fun h => by simpa using h), hl, ?_, ?_⟩
    · rw [hl]; exact hown
    · exact ⟨hgr.os, hgr.tape, hgr.output, hgr.size, fun k hk => hgr.block k (by omega) (fun e => by injection e with e; omega)⟩
/-- A new list of numbers is handed back, in some order. -/
def PmPost (L : List Int) (w : World) (e : Ending) (w' : World) : Prop := ∃ v m, e = .returned v ∧ m.Perm L ∧ Is w' v m ∧ Below w.heap.size w w'
set_option maxRecDepth 100000 in
set_option maxHeartbeats 8000000 in
theorem AllB_any (s : Bd.State) (sv rv pv dv kv : Value) (w : World) (h : StV w sv rv pv dv kv s) (hs : StS s) :
    Calls Tryz.prog 125 #[stV s sv rv pv dv kv] w (PmPost (Bd.allL s) w) := by
  have HA := Lib.hid (fun W (hW : Below w.heap.size w W) => allB_any s sv rv pv dv kv W (h.keep hW) hs)
  have HLn : Hid ((Bd.allL s).length ≤ 24000) := Lib.hid (by
    have q1 := Bd.robotsL_len s
    have q2 := Bd.shelvesL_len s
    have q3 := Bd.peopleL_len s
    have n1 := hs.nr
    have n2 := hs.ns
    have n3 := hs.np
    unfold Bd.allL
    rw [List.length_append, List.length_append]
    omega)
  obtain ⟨L, hL⟩ : ∃ L, Bd.allL s = L := ⟨_, rfl⟩
  rw [hL] at HA HLn ⊢
  unfold RwPost at HA
  unfold stV PmPost at *
  have HB := Lib.hid (al1 w (.cells #[.int .i64 s.tick, sv, rv, pv, dv, kv] 34))
  clear h hs hL
  go_enter Tryz.func125, Tryz.ntmps125
  go_wp2_with fail
  go_at_call 88; refine (HA.out _ HB.out.2.1).mono ?_; rintro e w2 ⟨v2, rfl, ho2, b2⟩
  have HO := Lib.hid ho2
  have hsz := b2.size
  have B2 := Lib.hid (HB.out.2.1.trans (b2.mono HB.out.2.1.size))
  have HS := Lib.hid (sortI_any _ v2 L w2 ho2 (by have := HLn.out; omega) hsz)
  have HB1 := Lib.hid HB.out.2.1.size
  clear ho2 b2
  unfold SortedPost at HS
  obtain ⟨a, cap, rfl, -⟩ := own_slice HO.out
  go_wp2_with fail
  go_at_call 90; refine HS.out.mono ?_; rintro e w3 ⟨rfl, m, hm1, hm2, hm3, hm4, b3⟩
  have HM := Lib.hid hm1
  have HO3 := Lib.hid hm4
  have B3 := Lib.hid (B2.out.trans (b3.mono HB1.out))
  clear hm1 hm2 hm3 hm4 b3
  go_wp2_with fail
  go_ret
  exact ⟨_, m, rfl, HM.out, Sl.of_own (by have := HO3.out; exact this) (by have := HLn.out; have := HM.out.length_eq; unfold maxLen; omega), B3.out⟩
end Go.Proofs.YtcdfmgobokjcnaaGreatDoor
/- A range over a function in the wide fence: the statement and one round, with the loop's record in hand. -/
namespace Go.Proofs.YtcdfmgobokjcnaaGreatDoor
open Go.RowKit
variable {P : Program}

/-- The record of an outermost loop. -/
def rfRec (fn : FuncId) (tmps : Array Value) (ps : Array Tmp) (assign body : Code) (d : Nat) (st : LoopState) (j : Option Code) : Obj :=
  .loop { state := st, pending := j, fn, tmps, params := ps, assign, body, defers := d }

theorem range_wide {n : Nat} {g : Operand} {ps : Array Tmp} {assign body : Code} {Q : Exit → Act → World → Prop} {a : Act} {w : World} {gf : Nat} {lb : Array Value}
    (hg : a.eval g = .func (.func gf) #[] lb) (eg : ∀ args w, (callFunc gf args).run P w = .ok (.enter gf args) w) (N : Nat) (hN : w.heap.size = N)
    (h : ∀ fn (R : LoopState → Option Code → Obj), Hid (R = rfRec fn a.tmps ps assign body N) →
      CallsIn Fence.wide (n - 1) P gf (#[.func (.yield (N + 1)) #[] #[]] ++ lb) ((w.alloc (.deferred (some []))).alloc (R .ready none))
      (rangePost Fence.wide n P (N + 1) Q { a with defers := { target := .collected N, args := #[] } :: a.defers })) :
    (Code.rangeFunc g ps assign body).wpIn Fence.wide n P Q a w := by
  subst hN
  refine wpIn_rangeFunc fun fn _ => ?_
  obtain ⟨W1, hW1⟩ : ∃ W1, W1 = (w.alloc (.deferred (some []))).alloc (rfRec fn a.tmps ps assign body w.heap.size .ready none) := ⟨_, rfl⟩
  have h := h fn _ rfl
  rw [← hW1] at h
  refine ⟨w.heap.size + 1, [{ target := .collected w.heap.size, args := #[] }], W1, { target := .fn (.func gf) lb, args := #[.func (.yield (w.heap.size + 1)) #[] #[]] }, W1, gf, _, W1, (run_enterLoop_outer _ _ _ _ _).trans (by rw [hW1]; rfl), ?_, ?_, ?_, (fun e => (by cases e)), h⟩
  · simp only [resolve, hg]; simp [go_sem]
  · intro f' _; trivial
  · simp [invoke, go_sem, eg]

theorem yieldAt_mono {m l : Nat} {args : Array Value} {W : World} {R R' : Ending → World → Prop} (h : YieldAt Fence.wide m P l args W R) (hr : ∀ e w, R e w → R' e w) : YieldAt Fence.wide m P l args W R' := by
  obtain ⟨fn, tmps, assign, body, h1, h2⟩ := h
  exact ⟨fn, tmps, assign, body, h1, h2.mono hr⟩

/-- Behind the loop. -/
theorem rangePost_none {n l : Nat} {fn : FuncId} {tmps : Array Value} {ps : Array Tmp} {assign body : Code} {d : Nat} {rec : LoopState → Option Code → Obj} {st : LoopState} {Q : Exit → Act → World → Prop} {a : Act} {W : World} {v : Value}
    (hrec : rec = rfRec fn tmps ps assign body d) (hl : W.heap[l]? = some (rec st none)) (hs : st ≠ .busy)
    (h : Q .normal a (W.putObj l (rec .exhausted none))) : rangePost Fence.wide n P l Q a (.returned v) W := by
  subst hrec; exact ⟨none, _, run_endLoop hl hs, h⟩
/-! ### boxes -/
/-- Block B is one cell of type t that holds v. -/
def Box (W : World) (B : Nat) (t : TypeId) (v : Value) : Prop := W.heap[B]? = some (.cells #[v] t (0, 0))
theorem Box.lt {W : World} {B : Nat} {t : TypeId} {v : Value} (h : Box W B t v) : B < W.heap.size := (Array.getElem?_eq_some_iff.1 h).1
theorem Box.cell {W : World} {B : Nat} {t : TypeId} {v : Value} (h : Box W B t v) : W.cell? ⟨B, 0, none⟩ = some v := by simp [World.cell?, show W.heap[B]? = _ from h]
theorem Box.of_block {W W' : World} {B : Nat} {t : TypeId} {v : Value} (h : Box W B t v) (e : W'.heap[B]? = W.heap[B]?) : Box W' B t v := e.trans h
theorem Box.alloc {W : World} {B : Nat} {t : TypeId} {v : Value} (h : Box W B t v) (o : Obj) : Box (W.alloc o) B t v := h.of_block (Below.heap_alloc W o B h.lt)
theorem Box.putObj {W : World} {B l : Nat} {t : TypeId} {v : Value} (h : Box W B t v) (o : Obj) (hne : B ≠ l) : Box (W.putObj l o) B t v := h.of_block (World.putObj_heap_other hne)
theorem Box.drew {W : World} {B : Nat} {t : TypeId} {v : Value} (h : Box W B t v) : Box W.drew B t v := h
theorem Box.set {W : World} {B : Nat} {t : TypeId} {v : Value} (v' : Value) (h : Box W B t v) : Box (W.setCell ⟨B, 0, none⟩ v') B t v' := by
  obtain ⟨hlt, hk⟩ := Array.getElem?_eq_some_iff.1 h
  show (W.heap.modify B _)[B]? = _
  rw [Array.getElem?_eq_getElem (by rw [Array.size_modify]; exact hlt), Array.getElem_modify_self, hk]
  rfl
theorem Below.putObj {B : Nat} {a w : World} (h : Below B a w) {l : Nat} (hl : B ≤ l) (o : Obj) : Below B a (w.putObj l o) :=
  h.trans ⟨rfl, rfl, rfl, by simp, fun k hk => World.putObj_heap_other (by omega)⟩
end Go.Proofs.YtcdfmgobokjcnaaGreatDoor
/-
  DERIVED: THE SHELF's CONTRACTS AT THIS DUMP, IN PLAIN WORDS (tools/lay-plain.mjs out of 'TryzShelf.lean', which tools/lay-shelf.mjs wrote): THE SAME DECLARATIONS UNDER THE SAME NAMES: 'import', 'namespace', 'open', 'def', 'theorem' AND NOTHING ELSE: no command of the shelf's: FOR A HAND-IN. Each laying: the table of numbers ('.._ren') and one theorem, a field a fact of the dump's own or the kernel's comparison; each contract: ONE APPLICATION.
-/
namespace Go.Proofs
open Go.Shelf
def Tryz.laysAp_ren : Go.Shelf.Ren := ⟨fun | 11 => 123 | n => n, fun | 24 => 22 | 26 => 3 | 28 => 84 | 0 => 0 | 33 => 130 | 4 => 4 | n => n, fun | n => n⟩
theorem Tryz.laysAp : Go.Proofs.SlLaysZI.n11 Tryz.prog Tryz.laysAp_ren := {
  mixed := by kernel_rfl
  f11 := ⟨Tryz.f123.name, by decide, Tryz.func123.trans (congrArg some (by kernel_rfl))⟩
  t0 := Tryz.underlying0
  a0 := Tryz.isAgg0
  z0 := Tryz.sizeOf0
  v0 := Tryz.zeroValue0
  t24 := Tryz.underlying22
  a24 := Tryz.isAgg22
  z24 := Tryz.sizeOf22
  v24 := Tryz.zeroValue22
  t26 := Tryz.underlying3
  a26 := Tryz.isAgg3
  z26 := Tryz.sizeOf3
  v26 := Tryz.zeroValue3
  t28 := Tryz.underlying84
  a28 := Tryz.isAgg84
  z28 := Tryz.sizeOf84
  v28 := Tryz.zeroValue84
  i26 := by kernel_rfl }
end Go.Proofs
/- Walks: slices.Values, AppendSeq, Collect, Sorted, Compact: the places that are looked at. -/
namespace Go.Proofs.YtcdfmgobokjcnaaGreatDoor
set_option linter.unusedSimpArgs false
set_option linter.unusedVariables false
open Go.RowKit Go.Shelf
attribute [local go_sem] Oper.semAt_some

set_option maxHeartbeats 400000 in
theorem Values_any (a : Option Addr) (n cap : Nat) (w : World) :
    Calls Tryz.prog 50 #[.slice a n cap] w fun e w' => e = .returned (.func (.func 91) #[] #[.pointer (some ⟨w.heap.size, 0, none⟩)]) ∧ w' = w.alloc (.cells #[.slice a n cap] 22) := by
  go_enter Tryz.func50, Tryz.ntmps50
  go_wp2
  go_ret
  exact ⟨rfl, rfl⟩
set_option maxRecDepth 100000 in
set_option maxHeartbeats 1000000 in
theorem vals_in (n lp bA : Nat) (v : Value) (l : List Int) (I : Nat → World → Prop)
    (hst : ∀ i W, I i W → Box W bA 22 v ∧ Is W v l)
    (hY : ∀ i W e, i < l.length → l[i]? = some e → I i W → YieldAt Fence.wide (n - 1) Tryz.prog lp #[.int .i64 e] W fun r W' => r = .returned (.bool true) ∧ I (i + 1) W')
    (W : World) (h0 : I 0 W) :
    CallsIn Fence.wide n Tryz.prog 91 #[.func (.yield lp) #[] #[], .pointer (some ⟨bA, 0, none⟩)] W fun r W' => (∃ v, r = .returned v) ∧ I l.length W' := by
  have HST := Lib.hid hst
  have HY := Lib.hid hY
  obtain ⟨sA, hv0⟩ := hst _ _ h0
  obtain ⟨a, cap, rfl, hm⟩ := hv0.form
  obtain ⟨N, hN⟩ : ∃ N, l.length = N := ⟨_, rfl⟩
  rw [hN] at hm HST sA ⊢
  have HN := Lib.hid hN
  clear hst hY hv0 hN
  have cA := sA.cell
  refine callsIn_of_wp Tryz.func91 rfl trivial ?_ rfl
  simp only [Tryz.ntmps91, List.size_toArray, List.length_cons, List.length_nil, Nat.reduceAdd, Nat.reduceSub, Array.replicate_succ, Array.replicate_zero, List.push_toArray, List.append_toArray, List.nil_append, List.cons_append]
  gi_wp2
  clear cA
  gi_loopw [7] (fun i wr => ∃ (k : Nat), k ≤ N ∧ i = .int .i64 k ∧ I k wr) (fun i _ => N - (intOf i).toNat)
  case atStart => exact ⟨0, by omega, rfl, h0⟩
  case round =>
    obtain ⟨k, hk, rfl, hI⟩ := hrel
    have HI := Lib.hid hI
    obtain ⟨rA, hc⟩ := HST.out _ _ hI
    clear hI
    by_cases hlt : k < N
    · have hkl : k < l.length := by rw [HN.out]; exact hlt
      obtain ⟨bk, off, rfl, hcell⟩ := hc.cell k hkl
      obtain ⟨X, hX⟩ : ∃ X, l[k] = X := ⟨_, rfl⟩
      rw [hX] at hcell
      obtain ⟨fn, tmps, assign, body, hy, hR⟩ := HY.out k wr X hkl (by rw [List.getElem?_eq_getElem hkl, hX]) HI.out
      have hi0 : (0 : Int) ≤ (k : Int) := by omega
      have hi1 : (k : Int) < (N : Int) := by omega
      clear hc hX hkl
      gi_wp2
      refine ⟨fun e => (by cases e), hR.mono ?_⟩
      rintro r W' ⟨rfl, hI'⟩
      have HI' := Lib.hid hI'
      clear hI' hcell hy hR
      gi_wp2
      go_roundw
      case rel => exact ⟨k + 1, by omega, by go_num, HI'.out⟩
      case measure => simp [intOf]; omega
    · obtain rfl : k = N := by omega
      clear hc
      gi_wp2
      go_end0
      exact ⟨⟨_, rfl⟩, HI.out⟩
set_option maxRecDepth 100000 in
set_option maxHeartbeats 2000000 in
theorem appendSeq_any (v : Value) (l : List Int) (bA : Nat) (w : World) (hA : Box w bA 22 v) (hv : Is w v l) (hlen : l.length ≤ 1000000) :
    Calls Tryz.prog 123 #[.slice none 0 0, .func (.func 91) #[] #[.pointer (some ⟨bA, 0, none⟩)]] w (RwPost l w) := by
  unfold RwPost
  refine (callsIn_wide (n := 20)).1 ?_
  refine callsIn_of_wp_marks Tryz.func123 rfl trivial ?_ rfl
  simp only [Tryz.ntmps123, List.size_toArray, List.length_cons, List.length_nil, Nat.reduceAdd, Nat.reduceSub, Array.replicate_succ, Array.replicate_zero, List.push_toArray, List.append_toArray, List.nil_append, List.cons_append]
  gi_wp2
  obtain ⟨w3, hw3⟩ : ∃ W, W = w.alloc (.cells #[.slice none 0 0] 22) := ⟨_, rfl⟩
  have hA1 := al1 w (.cells #[.slice none 0 0] 22)
  rw [← hw3] at hA1
  obtain ⟨hb0, hb1, hz⟩ := hA1
  rw [← hw3]
  clear hw3
  refine range_wide (gf := 91) rfl (enters_of Tryz.func91 (by kernel_rfl) rfl) _ hz fun fn R hR => ?_
  have hRec : R .ready none = .loop (AnyZI.apRec Tryz.laysAp_ren fn (.func (.func 91) #[] #[.pointer (some ⟨bA, 0, none⟩)]) w.heap.size (w.heap.size + 1) .ready none) := by rw [hR.out]; rfl
  refine (vals_in 19 (w.heap.size + 1 + 1) bA v l (fun k W => AnyZI.ApAt Tryz.laysAp_ren w fn (.func (.func 91) #[] #[.pointer (some ⟨bA, 0, none⟩)]) w.heap.size (w.heap.size + 1 + 1) (w.heap.size + 1) (l.take k) W) ?st ?yield _ ?start).mono ?done
  case st => exact fun i W h => ⟨hA.of_block (h.below.block _ hA.lt), hv.keep h.below⟩
  case yield =>
    intro i W e hi he h
    refine yieldAt_mono (AnyZI.apYield Tryz.laysAp Fence.wide _ w fn trivial _ w.heap.size (w.heap.size + 1 + 1) (w.heap.size + 1) (by omega) (by omega) (by omega) (Nat.le_refl _) (by omega) 1000001 (by unfold maxLen; omega) (by omega) (l.take i) e W h (by rw [List.length_take]; omega)) ?_
    rintro r W' ⟨rfl, h2, -⟩
    refine ⟨rfl, ?_⟩
    obtain ⟨hi2, he2⟩ := List.getElem?_eq_some_iff.1 he
    rw [List.take_succ_eq_append_getElem hi2, he2]
    exact h2
  case start =>
    refine ⟨⟨.slice none 0 0, ?_, ⟨rfl, .inl ⟨rfl, rfl⟩⟩, by simp⟩, ?_, ?_, ?_⟩
    · exact (Below.heap_alloc _ _ _ (by simp; omega)).trans ((Below.heap_alloc _ _ _ (by omega)).trans hb0)
    · rw [← hRec]; have := World.alloc_heap_new (w3.alloc (.deferred (some []))) (R .ready none); rw [World.size_alloc, hz] at this; exact this
    · rw [Below.heap_alloc _ _ _ (by simp; omega)]; have := World.alloc_heap_new w3 (.deferred (some [])); rw [hz] at this; exact this
    · exact (hb1.alloc (by omega) _).alloc (by simp; omega) _
  case done =>
    rintro r W' ⟨⟨u, rfl⟩, h⟩
    rw [List.take_length] at h
    obtain ⟨vv, hbx, hrow, -⟩ := h.box
    have hL := h.L
    rw [← hRec] at hL
    refine rangePost_none hR.out hL (by decide) ?_
    have hltL : w.heap.size + 1 + 1 < W'.heap.size := (Array.getElem?_eq_some_iff.1 hL).1
    obtain ⟨W2, hW2⟩ : ∃ W2, W2 = W'.putObj (w.heap.size + 1 + 1) (R .exhausted none) := ⟨_, rfl⟩
    have hg2 : W'.grownBy W2 (some (w.heap.size + 1 + 1)) := by rw [hW2]; exact grownBy_putObj_a _ _ _
    have hbx2 : Box W2 w.heap.size 22 vv := by rw [hW2]; exact (show Box W' w.heap.size 22 vv from hbx).putObj _ (by omega)
    have hd2 : W2.heap[w.heap.size + 1]? = some (.deferred (some [])) := by rw [hW2]; exact (World.putObj_heap_other (by omega)).trans h.K
    have hb2 : Below w.heap.size w W2 := by rw [hW2]; exact Below.putObj h.below (by omega) _
    have hrow2 := hrow.kept hg2 (ownsRow_ne_a hrow h.L (fun cur e => by cases e))
    have cn := hbx2.cell
    rw [← hW2]
    clear hW2 hg2 hbx hrow hv hA
    obtain ⟨aa, cc, rfl, -⟩ := own_slice hrow2
    gi_wp2
    refine ⟨by simp, .inl ⟨_, _, rfl, run_takeDeferred hd2, ?_⟩⟩
    refine ⟨_, (results_tmp (t := 4) rfl _ _ _), _, rfl, ?_, Below.putObj hb2 (by omega) _⟩
    exact hrow2.kept (grownBy_putObj_a _ _ _) (ownsRow_ne_a hrow2 hd2 (fun cur e => by cases e))
end Go.Proofs.YtcdfmgobokjcnaaGreatDoor
