/- Parts Rf, AcE of this claim, laid one behind the other: walks and the plain laws behind them; each contract states its own conditions. -/
import Derived.RangeFuncNested
import Derived.RangeFuncCalls
import Derived.Shelf.RegionOpen
import Derived.OwnWalkIn
import Derived.TacticsInMore
import Derived.LoopNIn
import Derived.LoopIn
import Derived.Sort.CutIn
import Derived.Test.YtfcbcpfnaadpeaaGreatDoorMN
namespace Go.Proofs.YtfcbcpfnaadpeaaGreatDoor
set_option maxRecDepth 100000
set_option maxHeartbeats 64000000
open Go.RowKit
variable {P : Program}
def rfRec (fn : FuncId) (tmps : Array Value) (ps : Array Tmp) (assign body : Code) (d : Nat) (st : LoopState) (j : Option Code) : Obj :=
 .loop { state := st, pending := j, fn, tmps, params := ps, assign, body, defers := d }
theorem range_wide {n : Nat} {g : Operand} {ps : Array Tmp} {assign body : Code} {Q : Exit → Act → World → Prop} {a : Act} {w : World} {gf : Nat} {lb : Array Value}
 (hg : a.eval g = .func (.func gf) #[] lb) (eg : ∀ args w, (callFunc gf args).run P w = .ok (.enter gf args) w) (N : Nat) (hN : w.heap.size = N)
 (h : ∀ fn (R : LoopState → Option Code → Obj), Hid (R = rfRec fn a.tmps ps assign body N) →
  CallsIn Fence.wide (n - 1) P gf (#[.func (.yield (N + 1)) #[] #[]] ++ lb) ((w.alloc (.deferred (some []))).alloc (R .ready none))
  (rangePost Fence.wide n P (N + 1) Q { a with defers := { target := .collected N, args := #[] } :: a.defers })) :
 (Code.rangeFunc g ps assign body).wpIn Fence.wide n P Q a w := by
 subst hN
 refine wpIn_rangeFunc fun fn _ => ?_
 obtain ⟨W1, hW1⟩ : ∃ W1, W1 = (w.alloc (.deferred (some []))).alloc (rfRec fn a.tmps ps assign body w.heap.size .ready none) := ⟨_, rfl⟩
 have h := h fn _ rfl
 rw [← hW1] at h
 refine ⟨w.heap.size + 1, [{ target := .collected w.heap.size, args := #[] }], W1, { target := .fn (.func gf) lb, args := #[.func (.yield (w.heap.size + 1)) #[] #[]] }, W1, gf, _, W1, (run_enterLoop_outer _ _ _ _ _).trans (by rw [hW1]; rfl), ?_, ?_, ?_, (fun e => (by cases e)), h⟩
 · simp only [resolve, hg]; simp [go_sem]
 · intro f' _; trivial
 · simp [invoke, go_sem, eg]
def rfPost (l : Nat) (rec : LoopState → Option Code → Obj) (R : Option Code → World → Prop) : Exit → Act → World → Prop
 | .normal, _, W => W.heap[l]? = some (rec .busy none) ∧ R none (W.putObj l (rec .ready none))
 | .ret, _, W => W.heap[l]? = some (rec .busy none) ∧ R (some .ret) (W.putObj l (rec .done (some .ret)))
 | .exit id, _, W => W.heap[l]? = some (rec .busy none) ∧ R (some (.exit id)) (W.putObj l (rec .done (some (.exit id))))
 | _, _, _ => False
theorem yield_wide {m l : Nat} {fn : FuncId} {tmps : Array Value} {ps : Array Tmp} {assign body : Code} {d : Nat} {rec : LoopState → Option Code → Obj} {W : World} {args : Array Value} {R : Option Code → World → Prop}
 (hrec : rec = rfRec fn tmps ps assign body d) (hl : W.heap[l]? = some (rec .ready none)) (hs : args.size = ps.size)
 (h : assign.wpIn (Fence.wide.inRound l) m P (Exit.then (fun a₁ w₁ => w₁.heap[l]? = some (rec .ready none) ∧
  body.wpIn (Fence.wide.inRound l) m P (rfPost l rec R) a₁ (w₁.putObj l (rec .busy none))) (fun _ _ _ => False))
  { tmps := (ps.zip args).foldl (fun tmps (t, a) => tmps.setIfInBounds t a) tmps, defers := [] } W) :
 YieldAt Fence.wide m P l args W fun e W' => (e = .returned (.bool true) ∧ R none W') ∨ (e = .returned (.bool false) ∧ ∃ c, R (some c) W') := by
 subst hrec
 refine ⟨fn, _, assign, body, run_yield hl hs, roundIn_of_wpIn trivial (wpIn_mono h ?_)⟩
 rintro e a w₁ hp
 cases e <;> first | exact hp.elim | skip
 obtain ⟨h1, h2⟩ := hp
 refine ⟨_, run_beginRound h1 rfl, wpIn_mono h2 ?_⟩
 rintro e a w₂ hq
 cases e with
 | normal => exact ⟨_, _, run_endRound none hq.1, .inl ⟨rfl, hq.2⟩⟩
 | ret => exact ⟨_, _, run_endRound (some .ret) hq.1, .inr ⟨rfl, _, hq.2⟩⟩
 | exit id => exact ⟨_, _, run_endRound (some (.exit id)) hq.1, .inr ⟨rfl, _, hq.2⟩⟩
 | goto t => exact hq.elim
 | panic c => exact hq.elim
 | outgrown => exact hq.elim
theorem yieldAt_mono {m l : Nat} {args : Array Value} {W : World} {R R' : Ending → World → Prop} (h : YieldAt Fence.wide m P l args W R) (hr : ∀ e w, R e w → R' e w) : YieldAt Fence.wide m P l args W R' := by
 obtain ⟨fn, tmps, assign, body, h1, h2⟩ := h
 exact ⟨fn, tmps, assign, body, h1, h2.mono hr⟩
theorem rangePost_none {n l : Nat} {fn : FuncId} {tmps : Array Value} {ps : Array Tmp} {assign body : Code} {d : Nat} {rec : LoopState → Option Code → Obj} {st : LoopState} {Q : Exit → Act → World → Prop} {a : Act} {W : World} {v : Value}
 (hrec : rec = rfRec fn tmps ps assign body d) (hl : W.heap[l]? = some (rec st none)) (hs : st ≠ .busy)
 (h : Q .normal a (W.putObj l (rec .exhausted none))) : rangePost Fence.wide n P l Q a (.returned v) W := by
 subst hrec; exact ⟨none, _, run_endLoop hl hs, h⟩
def Box (W : World) (B : Nat) (t : TypeId) (v : Value) : Prop := W.heap[B]? = some (.cells #[v] t (0, 0))
theorem Box.lt {W : World} {B : Nat} {t : TypeId} {v : Value} (h : Box W B t v) : B < W.heap.size := (Array.getElem?_eq_some_iff.1 h).1
theorem Box.cell {W : World} {B : Nat} {t : TypeId} {v : Value} (h : Box W B t v) : W.cell? ⟨B, 0, none⟩ = some v := by simp [World.cell?, show W.heap[B]? = _ from h]
theorem Box.new (W : World) (t : TypeId) (v : Value) : Box (W.alloc (.cells #[v] t)) W.heap.size t v := World.alloc_heap_new W _
theorem Box.of_block {W W' : World} {B : Nat} {t : TypeId} {v : Value} (h : Box W B t v) (e : W'.heap[B]? = W.heap[B]?) : Box W' B t v := e.trans h
theorem Box.alloc {W : World} {B : Nat} {t : TypeId} {v : Value} (h : Box W B t v) (o : Obj) : Box (W.alloc o) B t v := h.of_block (Below.heap_alloc W o B h.lt)
theorem Box.putObj {W : World} {B l : Nat} {t : TypeId} {v : Value} (h : Box W B t v) (o : Obj) (hne : B ≠ l) : Box (W.putObj l o) B t v := h.of_block (World.putObj_heap_other hne)
theorem Box.drew {W : World} {B : Nat} {t : TypeId} {v : Value} (h : Box W B t v) : Box W.drew B t v := h
theorem Box.other {W : World} {B : Nat} {t : TypeId} {v : Value} (h : Box W B t v) (a : Addr) (u : Value) (hne : B ≠ a.block) : Box (W.setCell a u) B t v := h.of_block (Below.heap_setCell W a u B hne)
theorem Box.set {W : World} {B : Nat} {t : TypeId} {v : Value} (v' : Value) (h : Box W B t v) : Box (W.setCell ⟨B, 0, none⟩ v') B t v' := by
 obtain ⟨hlt, hk⟩ := Array.getElem?_eq_some_iff.1 h
 show (W.heap.modify B _)[B]? = _
 rw [Array.getElem?_eq_getElem (by rw [Array.size_modify]; exact hlt), Array.getElem_modify_self, hk]
 rfl
theorem Below.putObj {B : Nat} {a w : World} (h : Below B a w) {l : Nat} (hl : B ≤ l) (o : Obj) : Below B a (w.putObj l o) :=
 h.trans ⟨rfl, rfl, rfl, by simp, fun k hk => World.putObj_heap_other (by omega)⟩
set_option linter.unusedSimpArgs false
set_option linter.unusedVariables false
open Go.RowKit Go.Shelf
attribute [local go_sem] Oper.semAt_some
theorem Backward_any (a : Option Addr) (n cap : Nat) (w : World) :
 Calls Tryz.prog 249 #[.slice a n cap] w fun e w' => e = .returned (.func (.func 288) #[] #[.pointer (some ⟨w.heap.size, 0, none⟩)]) ∧ w' = w.alloc (.cells #[.slice a n cap] 22) := by
 go_enter Tryz.func249, Tryz.ntmps249
 go_wp2
 go_ret
 exact ⟨rfl, rfl⟩
theorem backs_in (n lp bA : Nat) (v : Value) (l : List Int) (I : Nat → World → Prop)
 (hst : ∀ i W, I i W → Box W bA 22 v ∧ Is W v l)
 (hY : ∀ i W e, i < l.length → l[i]? = some e → I (i + 1) W → YieldAt Fence.wide (n - 1) Tryz.prog lp #[.int .i64 i, .int .i64 e] W fun r W' => r = .returned (.bool true) ∧ I i W')
 (W : World) (h0 : I l.length W) :
 CallsIn Fence.wide n Tryz.prog 288 #[.func (.yield lp) #[] #[], .pointer (some ⟨bA, 0, none⟩)] W fun r W' => (∃ v, r = .returned v) ∧ I 0 W' := by
 have HST := hid hst
 have HY := hid hY
 obtain ⟨sA, hv0⟩ := hst _ _ h0
 obtain ⟨a, cap, rfl, hm⟩ := hv0.form
 obtain ⟨N, hN⟩ : ∃ N, l.length = N := ⟨_, rfl⟩
 rw [hN] at hm HST sA h0
 have HN := hid hN
 clear hst hY hv0 hN
 have cA := sA.cell
 refine callsIn_of_wp Tryz.func288 rfl trivial ?_ rfl
 simp only [Tryz.ntmps288, List.size_toArray, List.length_cons, List.length_nil, Nat.reduceAdd, Nat.reduceSub, Array.replicate_succ, Array.replicate_zero, List.push_toArray, List.append_toArray, List.nil_append, List.cons_append]
 gi_wp2
 clear cA
 gi_loopw [3] (fun i wr => ∃ (k : Nat), k ≤ N ∧ i = .int .i64 ((k : Int) - 1) ∧ I k wr) (fun i _ => (intOf i + 1).toNat)
 case atStart => exact ⟨N, by omega, by first | rfl | (go_num), h0⟩
 case round =>
  obtain ⟨k, hk, rfl, hI⟩ := hrel
  have HI := hid hI
  obtain ⟨rA, hc⟩ := HST.out _ _ hI
  clear hI
  by_cases hlt : 0 < k
  · obtain ⟨j, rfl⟩ : ∃ j, k = j + 1 := ⟨k - 1, by omega⟩
    have ej : (((j + 1 : Nat) : Int) - 1) = (j : Int) := by omega
    rw [ej]
    have hkl : j < l.length := by rw [HN.out]; omega
    obtain ⟨bk, off, rfl, hcell⟩ := hc.cell j hkl
    obtain ⟨X, hX⟩ : ∃ X, l[j] = X := ⟨_, rfl⟩
    rw [hX] at hcell
    have rAc := rA.cell
    obtain ⟨fn, tmps, assign, body, hy, hR⟩ := HY.out j wr X hkl (by rw [List.getElem?_eq_getElem hkl, hX]) HI.out
    have hi0 : (0 : Int) ≤ (j : Int) := by omega
    have hi1 : (j : Int) < (N : Int) := by omega
    clear hc hX hkl ej hlt
    gi_wp2
    refine ⟨fun e => (by cases e), hR.mono ?_⟩
    rintro r W' ⟨rfl, hI'⟩
    have HI' := hid hI'
    clear hI' hcell hy hR
    gi_wp2
    go_roundw
    case rel => exact ⟨j, by omega, by first | rfl | go_num, HI'.out⟩
    case measure => simp [intOf] <;> omega
  · obtain rfl : k = 0 := by omega
    clear hc
    gi_wp2
    go_end0
    exact ⟨⟨_, rfl⟩, HI.out⟩
theorem neS {a b : Nat} (h : a ≠ b) : some a ≠ some b := fun e => h (Option.some.inj e)
theorem below_grownE {base b : Nat} {w w' : World} (hb : base ≤ b) (hw : base ≤ w.heap.size) (hg : w.grownBy w' (some b)) : Below base w w' := ⟨hg.os, hg.tape, hg.output, hg.size, fun k hk => hg.block k (by omega) (neS (by omega))⟩
theorem grownBy_putObjE (W : World) (l : Nat) (o : Obj) : W.grownBy (W.putObj l o) (some l) := ⟨rfl, rfl, rfl, by simp, fun k _ hk => World.putObj_heap_other (fun e => hk (by rw [e]))⟩
theorem MapB.put {W : World} {b : Nat} {l : List Int} (h : MapB W b l) (k : Nat) (o : Obj) (hne : b ≠ k) : MapB (W.putObj k o) b l := h.kept (grownBy_putObjE W k o) (by simpa using hne)
theorem MapI.put {W : World} {b : Nat} {l : List (Int × Int)} (h : MapI W b l) (k : Nat) (o : Obj) (hne : b ≠ k) : MapI (W.putObj k o) b l := h.kept (grownBy_putObjE W k o) (by simpa using hne)
structure StdAt (w1 : World) (M O N n : Nat) (r : Obj) (v : Value) (k : Nat) (W : World) : Prop where
 below : Below M w1 W
 carr : ∃ l, MapB W M l
 cbox : Box W (M + 1) 216 (.map (some M))
 outm : ∃ m : List (Int × Int), m.length + k ≤ n ∧ MapI W O m ∧ ∀ q ∈ m, 0 ≤ q.2 ∧ q.2 < (n : Int)
 obox : Box W (O + 1) 213 (.map (some O))
 sbox : Box W (O + 2) 22 v
 defd : W.heap[N]? = some (.deferred (some []))
 rcd : W.heap[N + 1]? = some r
def StandM (n : Nat) (w : World) (e : Ending) (w' : World) : Prop := (∃ b, e = .returned (.map (some b)) ∧ ∃ m : List (Int × Int), MapI w' b m ∧ ∀ q ∈ m, 0 ≤ q.2 ∧ q.2 < (n : Int)) ∧ Below w.heap.size w w'
theorem standing_any (st : Bd.State) (shv rov pev dev skv : Value) (w : World) (ht : StV w shv rov pev dev skv st) (hro : ∀ r ∈ st.robots, -9223372036854775808 ≤ r.load ∧ r.load ≤ 9223372036854775807) (hsh : ∀ c ∈ st.shelves, -9223372036854775808 ≤ c ∧ c ≤ 9223372036854775807)
 (l1 : st.shelves.length ≤ 1000000) (l2 : st.robots.length ≤ 1000000) :
 Calls Tryz.prog 188 #[stV st shv rov pev dev skv] w (StandM st.shelves.length w) := by
 have HSH := hid (fun W (hb : Below w.heap.size w W) => (ht.keep hb).sh)
 have HRO := hid (fun W (hb : Below w.heap.size w W) => (ht.keep hb).ro)
 have HLR := hid hro
 have HLS := hid hsh
 obtain ⟨b1, d1, b2, d2, b3, d3, b4, d4, b5, d5, rfl, rfl, rfl, rfl, rfl, k1, k2, k3, k4, k5⟩ := ht.open
 unfold stV at *
 obtain ⟨n1, g1⟩ : ∃ n, st.shelves.length = n := ⟨_, rfl⟩
 obtain ⟨n2, g2⟩ : ∃ n, st.robots.length = n := ⟨_, rfl⟩
 obtain ⟨n3, g3⟩ : ∃ n, st.people.length = n := ⟨_, rfl⟩
 obtain ⟨n4, g4⟩ : ∃ n, st.dead.length = n := ⟨_, rfl⟩
 obtain ⟨n5, g5⟩ : ∃ n, st.stuck.length = n := ⟨_, rfl⟩
 try simp only [g1, g2, g3, g4, g5] at HSH
 try simp only [g1, g2, g3, g4, g5] at HRO
 rw [g1, g2, g3, g4, g5]
 have HN1 := hid g1
 have HN2 := hid g2
 have hn1 : n1 ≤ 1000000 := by rw [← g1]; exact l1
 have hn2 : n2 ≤ 1000000 := by rw [← g2]; exact l2
 have hmm := @run_makeMap Tryz.prog
 obtain ⟨w1, hw1⟩ : ∃ W, W = w.alloc (.cells #[.int .i64 st.tick, .slice b1 n1 d1, .slice b2 n2 d2, .slice b3 n3 d3, .slice b4 n4 d4, .slice b5 n5 d5] 58) := ⟨_, rfl⟩
 have B1 : Hid (Below w.heap.size w w1) := hid (by rw [hw1]; exact (Below.refl _ _).alloc (Nat.le_refl _) _)
 have I1 : Hid (w1.heap[w.heap.size]? = some (.cells #[.int .i64 st.tick, .slice b1 n1 d1, .slice b2 n2 d2, .slice b3 n3 d3, .slice b4 n4 d4, .slice b5 n5 d5] 58 (0, 0))) := hid (by rw [hw1]; exact heap_alloc_new _ _)
 have HW1 := hid hw1
 have hs1 := heap_lt I1.out
 have hz1 : w1.heap.size = w.heap.size + 1 := by rw [HW1.out]; simp
 obtain ⟨M, hMw⟩ : ∃ M, w.heap.size + 1 = M := ⟨_, rfl⟩
 have hM : w1.heap.size = M := hz1.trans hMw
 clear ht g1 g2 g3 g4 g5 k1 k2 k3 k4 k5 hro hsh l1 l2 hw1
 refine (callsIn_wide (n := 20)).1 ?_
 refine callsIn_of_wp_marks Tryz.func188 rfl trivial ?_ rfl
 simp only [Tryz.ntmps188, List.size_toArray, List.length_cons, List.length_nil, Nat.reduceAdd, Nat.reduceSub, Array.replicate_succ, Array.replicate_zero, List.push_toArray, List.append_toArray, List.nil_append, List.cons_append]
 gi_upto_region 1 with fail
 rw [← HW1.out]
 obtain ⟨w3, hw3⟩ : ∃ W, W = (w1.alloc (.map #[] 0)).alloc (.cells #[.map (some M)] 216) := ⟨_, rfl⟩
 have MB3 : MapB w3 M [] := by
  have h1 := MapB.made w1
  rw [hM] at h1
  rw [hw3]
  exact h1.below ((Below.refl _ _).alloc (Nat.le_refl _) _)
 have BX3 : Box w3 (M + 1) 216 (.map (some M)) := by
  have h1 := Box.new (w1.alloc (.map #[] 0)) 216 (.map (some M))
  rw [World.size_alloc, hM] at h1
  rw [hw3]; exact h1
 have b3 : Below M w1 w3 := by rw [hw3, ← hM]; exact ((Below.refl _ _).alloc (Nat.le_refl _) _).alloc (by simp) _
 have z3 : w3.heap.size = M + 2 := by rw [hw3]; simp; omega
 have BB : Hid (∀ W, Below M w1 W → Below w.heap.size w W) := hid (fun W hW => B1.out.trans (hW.mono (by omega)))
 have I3 := hid (keep_heap (w' := w3) I1.out (by rw [hM]; exact b3))
 have q2 : w3.cell? ⟨w.heap.size, 2, none⟩ = some (.slice b2 n2 d2) := cell_of_heap I3.out 2 rfl
 have HMB3 := hid MB3
 have HBX3 := hid BX3
 have HB3 := hid b3
 have HW3 := hid hw3
 clear MB3 BX3 b3 hw3
 gi_upto_region 2 with fail
 try rw [hMw]
 rw [← HW3.out]
 gi_wp2
 clear q2
 gi_loopw [13] (fun iv wr => ∃ k : Nat, k ≤ n2 ∧ iv = .int .i64 k ∧ Hid (∃ l, l.length ≤ k ∧ MapB wr M l) ∧ Hid (Box wr (M + 1) 216 (.map (some M))) ∧ Hid (Below M w1 wr) ∧ M + 2 ≤ wr.heap.size) (fun iv _ => n2 - (intOf iv).toNat)
 case atStart => exact ⟨0, by omega, rfl, hid ⟨[], by simp, HMB3.out⟩, HBX3, HB3, by omega⟩
 case round =>
  clear HMB3 HBX3 HB3 z3 I3
  obtain ⟨k, hk, rfl, HM, HBX, HU, hsz⟩ := hrel
  by_cases hkn : k < n2
  · have hkl : k < st.robots.length := by rw [HN2.out]; exact hkn
    obtain ⟨rb, ro, rfl, hrb, x0, x1, x2, x3, x4, x5⟩ := (HRO.out wr (BB.out _ HU.out)).cell k hkl
    have HXN := hid (HLR.out _ (List.getElem_mem hkl))
    obtain ⟨X, hX⟩ : ∃ X, st.robots[k] = X := ⟨_, rfl⟩
    rw [hX] at x0 x1 x2 x3 x4 x5 HXN
    have i0 : (0 : Int) ≤ (k : Int) := by omega
    have i1 : (k : Int) < (n2 : Int) := by omega
    obtain ⟨wa, hwa⟩ : ∃ W, W = wr.alloc (.cells #[.int .i64 X.cell, .int .i64 X.load, .int .i64 X.charge, .int .i64 X.rest, .int .i64 X.mute, .bool X.dead] 105) := ⟨_, rfl⟩
    have ga := al1 wr (.cells #[.int .i64 X.cell, .int .i64 X.load, .int .i64 X.charge, .int .i64 X.rest, .int .i64 X.mute, .bool X.dead] 105)
    rw [← hwa] at ga
    have y1 : wa.cell? ⟨wr.heap.size, 1, none⟩ = some (.int .i64 X.load) := cell_of_heap ga.1 1 rfl
    have bX : Box wa (M + 1) 216 (.map (some M)) := by rw [hwa]; exact HBX.out.alloc _
    have cX := bX.cell
    obtain ⟨l, hll, ml⟩ := HM.out
    have ml := ml.below ga.2.1
    have bU : Below M w1 wa := HU.out.trans (ga.2.1.mono (by omega))
    obtain ⟨w9, hst, M9, G9⟩ := ml.store (c := X.load) (by unfold maxLen; omega) HXN.out
    have hM9 : Hid (∃ l, l.length ≤ k + 1 ∧ MapB w9 M l) := hid ⟨_, by simp; omega, M9⟩
    have hX9 : Hid (Box w9 (M + 1) 216 (.map (some M))) := hid (bX.of_block (G9.block _ bX.lt (neS (by omega))))
    have hB9 : Hid (Below M w1 w9) := hid (bU.trans (below_grownE (Nat.le_refl _) (by have := ml.lt; omega) G9))
    have hz9 : M + 2 ≤ w9.heap.size := by have := G9.size; have := ga.2.1.size; omega
    have HWA := hid hwa
    clear hX hkl ga hwa bX ml bU M9 G9 hll
    gi_upto_region 5 with fail
    rw [← HWA.out]
    clear x0 x1 x2 x3 x4 x5
    gi_wp2
    go_roundw
    case rel => exact ⟨k + 1, by omega, by go_num, hM9, hX9, hB9, hz9⟩
    case measure => simp [intOf]; omega
  · have hkn2 : ¬ (k : Int) < (n2 : Int) := by omega
    obtain ⟨O, hO⟩ : ∃ O, wr.heap.size = O := ⟨_, rfl⟩
    gi_upto_region 7 with fail
    obtain ⟨w4, hw4⟩ : ∃ W, W = (wr.alloc (.map #[] 0)).alloc (.cells #[.map (some O)] 213) := ⟨_, rfl⟩
    have b4 : Below O wr w4 := by rw [hw4, ← hO]; exact ((Below.refl _ _).alloc (Nat.le_refl _) _).alloc (by simp) _
    have z4 : w4.heap.size = O + 2 := by rw [hw4]; simp; omega
    have MI4 : MapI w4 O [] := by
     have h1 := MapI.made wr
     rw [hO] at h1
     rw [hw4]
     exact h1.below ((Below.refl _ _).alloc (Nat.le_refl _) _)
    have BX4 : Box w4 (O + 1) 213 (.map (some O)) := by
     have h1 := Box.new (wr.alloc (.map #[] 0)) 213 (.map (some O))
     rw [World.size_alloc, hO] at h1
     rw [hw4]; exact h1
    have hMO : M + 2 ≤ O := by omega
    have HU4 : Hid (Below M w1 w4) := hid (HU.out.trans (b4.mono (by omega)))
    have CB4 : Box w4 (M + 1) 216 (.map (some M)) := HBX.out.of_block (b4.block _ (by omega))
    have MB4 : ∃ l, MapB w4 M l := by obtain ⟨l, -, h⟩ := HM.out; exact ⟨l, h.below (by rw [hO]; exact b4)⟩
    have I4 := hid (keep_heap (w' := w4) I1.out (by rw [hM]; exact HU4.out))
    have q1 : w4.cell? ⟨w.heap.size, 1, none⟩ = some (.slice b1 n1 d1) := cell_of_heap I4.out 1 rfl
    have HV := hid (HSH.out w4 (BB.out _ HU4.out))
    have HW4 := hid hw4
    clear hw4 b4 HM HBX HU I4
    gi_upto_region 8 with fail
    try rw [hO]
    rw [← HW4.out]
    gi_wp2_with (refine ⟨trivial, ?_⟩; gi_at_call 249; refine (callsIn_wide.2 (Backward_any _ _ _ _)).mono ?_; rintro e w' ⟨rfl, rfl⟩)
    obtain ⟨w5, hw5⟩ : ∃ W, W = w4.alloc (.cells #[.slice b1 n1 d1] 22) := ⟨_, rfl⟩
    have A5 := al1 w4 (.cells #[.slice b1 n1 d1] 22)
    rw [← hw5] at A5
    rw [← hw5]
    try rw [z4]
    obtain ⟨C5, B5, z5⟩ := A5
    rw [z4] at C5
    have z5' : w5.heap.size = O + 3 := by omega
    have M5 : MapI w5 O [] := MI4.below B5
    have X5 : Box w5 (O + 1) 213 (.map (some O)) := BX4.of_block (B5.block _ (by omega))
    have CB5 : Box w5 (M + 1) 216 (.map (some M)) := CB4.of_block (B5.block _ (by omega))
    have MB5 : ∃ l, MapB w5 M l := by obtain ⟨l, h⟩ := MB4; exact ⟨l, h.below B5⟩
    have U5 : Below M w1 w5 := HU4.out.trans (B5.mono (by omega))
    have V5 : Is w5 (.slice b1 n1 d1) st.shelves := HV.out.keep B5
    clear hw5 q1 MI4 BX4 CB4 MB4 B5 HW4
    refine range_wide (gf := 288) rfl (enters_of Tryz.func288 (by kernel_rfl) rfl) (O + 3) z5' fun fn R hR => ?_
    refine (backs_in 19 (O + 3 + 1) (O + 2) (.slice b1 n1 d1) st.shelves (fun k W => StdAt w1 M O (O + 3) n1 (R .ready none) (.slice b1 n1 d1) k W) ?st ?yield _ ?start).mono ?done
    case st => exact fun i W h => ⟨h.sbox, HSH.out W (BB.out _ h.below)⟩
    case start =>
     obtain ⟨l5, hl5⟩ := MB5
     have a1 : Below w5.heap.size w5 ((w5.alloc (.deferred (some []))).alloc (R .ready none)) := ((Below.refl _ _).alloc (Nat.le_refl _) _).alloc (by simp) _
     refine ⟨U5.trans (a1.mono (by omega)), ⟨l5, hl5.below a1⟩, (CB5.alloc _).alloc _, ⟨[], by rw [HN1.out]; simp, M5.below a1, by simp⟩, (X5.alloc _).alloc _, ?_, ?_, ?_⟩
     · exact (Box.alloc (show Box w5 (O + 2) _ _ from C5) _).alloc _
     · rw [Below.heap_alloc _ _ _ (by simp; omega)]; have := World.alloc_heap_new w5 (.deferred (some [])); rw [z5'] at this; exact this
     · have := World.alloc_heap_new (w5.alloc (.deferred (some []))) (R .ready none); rw [World.size_alloc, z5'] at this; exact this
    case yield =>
     clear M5 X5 CB5 MB5 U5 V5 C5 z5 z5' hmm HW1 HW3
     rintro i W e hi he hr
     refine yieldAt_mono (yield_wide (R := fun j W' => j = none ∧ StdAt w1 M O (O + 3) n1 (R .ready none) (.slice b1 n1 d1) i W') hR.out hr.rcd rfl ?_) ?_
     · obtain ⟨hi2, he2⟩ := List.getElem?_eq_some_iff.1 he
       have HE := HLS.out e (by rw [← he2]; exact List.getElem_mem _)
       have hi3 : i < n1 := by have := HN1.out; omega
       have hlw : O + 3 + 1 < W.heap.size := (Array.getElem?_eq_some_iff.1 hr.rcd).1
       have HRC := hid hr.rcd
       obtain ⟨W2, hW2⟩ : ∃ W2, W2 = W.putObj (O + 3 + 1) (R .busy none) := ⟨_, rfl⟩
       have r1 : Below M w1 W2 := by rw [hW2]; exact Below.putObj hr.below (by omega) _
       obtain ⟨lc, hlc⟩ := hr.carr
       have r2 : MapB W2 M lc := by rw [hW2]; exact hlc.put _ _ (by omega)
       have r3 : Box W2 (M + 1) 216 (.map (some M)) := by rw [hW2]; exact hr.cbox.putObj _ (by omega)
       obtain ⟨m, hm1, hm2, hm3⟩ := hr.outm
       have r4 : MapI W2 O m := by rw [hW2]; exact hm2.put _ _ (by omega)
       have r5 : Box W2 (O + 1) 213 (.map (some O)) := by rw [hW2]; exact hr.obox.putObj _ (by omega)
       have r6 : Box W2 (O + 2) 22 (.slice b1 n1 d1) := by rw [hW2]; exact hr.sbox.putObj _ (by omega)
       have r7 : W2.heap[O + 3]? = some (.deferred (some [])) := by rw [hW2]; exact (World.putObj_heap_other (by omega)).trans hr.defd
       have r8 : W2.heap[O + 3 + 1]? = some (R .busy none) := by rw [hW2]; exact World.putObj_heap_same (by omega)
       have hz2 : W2.heap.size = W.heap.size := by rw [hW2]; simp
       have c3 := r3.cell
       have c5 := r5.cell
       have hlk := r2.look (c := (i : Int)) (by omega)
       obtain ⟨B, hB⟩ : ∃ B, decide ((i : Int) ∈ lc) = B := ⟨_, rfl⟩
       rw [hB] at hlk
       have HW2 := hid hW2
       clear hW2 hr he hi he2 hi2 hlc hm2 hB
       gi_wp2
       refine ⟨by first | exact HRC.out | (have h9 := HRC.out; rw [Array.getElem?_eq_getElem hlw] at h9; exact Option.some.inj h9), ?_⟩
       rw [← HW2.out]
       cases B with
       | true =>
        gi_wp2
        refine ⟨r8, rfl, ?_⟩
        exact ⟨Below.putObj r1 (by omega) _, ⟨lc, r2.put _ _ (by omega)⟩, r3.putObj _ (by omega), ⟨m, by omega, r4.put _ _ (by omega), hm3⟩, r5.putObj _ (by omega), r6.putObj _ (by omega), (World.putObj_heap_other (by omega)).trans r7, World.putObj_heap_same (by omega)⟩
       | false =>
        obtain ⟨w9, hst, M9, G9⟩ := r4.store (c := e) (n := (i : Int)) (by unfold maxLen; omega) HE (by omega)
        have s9 := G9.size
        have g1 : Below M W2 w9 := below_grownE (by omega) (by omega) G9
        have g2 : MapB w9 M lc := r2.kept G9 (neS (by omega))
        have g3 := r3.of_block (G9.block _ r3.lt (neS (by omega)))
        have g5 := r5.of_block (G9.block _ r5.lt (neS (by omega)))
        have g6 := r6.of_block (G9.block _ r6.lt (neS (by omega)))
        have g7 := (G9.block (O + 3) (by omega) (neS (by omega))).trans r7
        have g8 := (G9.block (O + 3 + 1) (by omega) (neS (by omega))).trans r8
        have hm4 : ∀ q ∈ m ++ [(e, (i : Int))], 0 ≤ q.2 ∧ q.2 < (n1 : Int) := by
         intro q hq
         rcases List.mem_append.1 hq with h | h
         · exact hm3 q h
         · rw [List.mem_singleton] at h; subst h; dsimp only; omega
        have R1 := hid (r1.trans g1)
        clear G9 r1 r2 r4 r6 r7 r8
        gi_wp2
        refine ⟨g8, rfl, ?_⟩
        exact ⟨Below.putObj R1.out (by omega) _, ⟨lc, g2.put _ _ (by omega)⟩, g3.putObj _ (by omega), ⟨_, by simp; omega, M9.put _ _ (by omega), hm4⟩, g5.putObj _ (by omega), g6.putObj _ (by omega), (World.putObj_heap_other (by omega)).trans g7, World.putObj_heap_same (by omega)⟩
     · rintro r W' (⟨rfl, -, h⟩ | ⟨-, c', h, -⟩)
       · exact ⟨rfl, h⟩
       · cases h
    case done =>
     clear M5 X5 CB5 MB5 U5 V5 C5 z5 z5' hmm HW1 HW3
     rintro r W' ⟨⟨u, rfl⟩, h⟩
     refine rangePost_none hR.out h.rcd (by decide) ?_
     have hlt : O + 3 + 1 < W'.heap.size := (Array.getElem?_eq_some_iff.1 h.rcd).1
     obtain ⟨W2, hW2⟩ : ∃ W2, W2 = W'.putObj (O + 3 + 1) (R .exhausted none) := ⟨_, rfl⟩
     have hz2 : W2.heap.size = W'.heap.size := by rw [hW2]; simp
     have r1 : Below M w1 W2 := by rw [hW2]; exact Below.putObj h.below (by omega) _
     obtain ⟨m, hm1, hm2, hm3⟩ := h.outm
     have r4 : MapI W2 O m := by rw [hW2]; exact hm2.put _ _ (by omega)
     have r5 : Box W2 (O + 1) 213 (.map (some O)) := by rw [hW2]; exact h.obox.putObj _ (by omega)
     have r7 : W2.heap[O + 3]? = some (.deferred (some [])) := by rw [hW2]; exact (World.putObj_heap_other (by omega)).trans h.defd
     have c5 := r5.cell
     rw [← hW2]
     have R1 := hid (BB.out _ r1)
     clear hW2 h r1 hm2
     gi_wp2
     refine ⟨by simp, .inl ⟨_, _, rfl, run_takeDeferred r7, ?_⟩⟩
     refine ⟨_, (results_tmp (t := 2) rfl _ _ _), ⟨O, rfl, m, r4.put _ _ (by omega), hm3⟩, Below.putObj R1.out (by omega) _⟩
theorem at12_any (s : Si.Site) (kv ov zv av sv rv : Value) (st : Bd.State) (shv rov pev dev skv : Value) (c : Int) (w : World) (h : SiV w kv ov zv av sv rv s) (ht : StV w shv rov pev dev skv st) (hro : ∀ r ∈ st.robots, -9223372036854775808 ≤ r.load ∧ r.load ≤ 9223372036854775807) (hsh : ∀ c ∈ st.shelves, -9223372036854775808 ≤ c ∧ c ≤ 9223372036854775807)
 (hl1 : st.shelves.length ≤ 1000000) (hl2 : st.robots.length ≤ 1000000) (hc : -9223372036854775808 ≤ c ∧ c ≤ 9223372036854775807) :
 Calls Tryz.prog 104 #[siV s kv ov zv av sv rv, stV st shv rov pev dev skv, .int .i64 c] w fun e w' => (∃ k : Int, e = .returned (.int .i64 k) ∧ -1 ≤ k ∧ k < (st.shelves.length : Int)) ∧ Below w.heap.size w w' := by
 have HS := hid (fun W (hb : Below w.heap.size w W) => standing_any st shv rov pev dev skv W (ht.keep hb) hro hsh hl1 hl2)
 unfold StandM at HS
 obtain ⟨a1, c1, a2, c2, a3, c3, a4, c4, a5, c5, a6, c6, rfl, rfl, rfl, rfl, rfl, rfl, m1, m2, m3, m4, m5, m6⟩ := h.open
 unfold siV at *
 obtain ⟨l1, e1⟩ : ∃ n, s.floor.kind.length = n := ⟨_, rfl⟩
 obtain ⟨l2, e2⟩ : ∃ n, s.floor.out.length = n := ⟨_, rfl⟩
 obtain ⟨l3, e3⟩ : ∃ n, s.zones.length = n := ⟨_, rfl⟩
 obtain ⟨l4, e4⟩ : ∃ n, s.aparts.length = n := ⟨_, rfl⟩
 obtain ⟨l5, e5⟩ : ∃ n, s.shelves.length = n := ⟨_, rfl⟩
 obtain ⟨l6, e6⟩ : ∃ n, s.robots.length = n := ⟨_, rfl⟩
 rw [e1, e2, e3, e4, e5, e6]
 obtain ⟨b1, d1, b2, d2, b3, d3, b4, d4, b5, d5, rfl, rfl, rfl, rfl, rfl, k1, k2, k3, k4, k5⟩ := ht.open
 unfold stV at *
 obtain ⟨n1, g1⟩ : ∃ n, st.shelves.length = n := ⟨_, rfl⟩
 obtain ⟨n2, g2⟩ : ∃ n, st.robots.length = n := ⟨_, rfl⟩
 obtain ⟨n3, g3⟩ : ∃ n, st.people.length = n := ⟨_, rfl⟩
 obtain ⟨n4, g4⟩ : ∃ n, st.dead.length = n := ⟨_, rfl⟩
 obtain ⟨n5, g5⟩ : ∃ n, st.stuck.length = n := ⟨_, rfl⟩
 try simp only [g1, g2, g3, g4, g5] at HS
 rw [g1, g2, g3, g4, g5]
 obtain ⟨w1, hw1⟩ : ∃ W, W = (w.alloc (.cells #[.int .i64 s.floor.w, .int .i64 s.floor.h, .int .i64 s.floor.d, .slice a1 l1 c1, .slice a2 l2 c2, .slice a3 l3 c3, .slice a4 l4 c4, .slice a5 l5 c5, .slice a6 l6 c6] 30)).alloc (.cells #[.int .i64 st.tick, .slice b1 n1 d1, .slice b2 n2 d2, .slice b3 n3 d3, .slice b4 n4 d4, .slice b5 n5 d5] 58) := ⟨_, rfl⟩
 have B1 : Hid (Below w.heap.size w w1) := hid (by rw [hw1]; exact ((Below.refl _ _).alloc (Nat.le_refl _) _).alloc (by simp) _)
 have I1 : Hid (w1.heap[w.heap.size]? = some (.cells #[.int .i64 s.floor.w, .int .i64 s.floor.h, .int .i64 s.floor.d, .slice a1 l1 c1, .slice a2 l2 c2, .slice a3 l3 c3, .slice a4 l4 c4, .slice a5 l5 c5, .slice a6 l6 c6] 30 (0, 0))) := hid (by rw [hw1]; exact heap_two0 _ _ _)
 have I2 : Hid (w1.heap[w.heap.size + 1]? = some (.cells #[.int .i64 st.tick, .slice b1 n1 d1, .slice b2 n2 d2, .slice b3 n3 d3, .slice b4 n4 d4, .slice b5 n5 d5] 58 (0, 0))) := hid (by rw [hw1]; exact heap_two3 _ _ _)
 have HW1 := hid hw1
 have hs1 := heap_lt I2.out
 obtain ⟨q0, q1, q2, q3, q4, q5⟩ := cells6 I2.out
 clear h e1 e2 e3 e4 e5 e6 m1 m2 m3 m4 m5 m6 hw1 ht g1 g2 g3 g4 g5 k1 k2 k3 k4 k5 hro hsh hl1 hl2
 go_enter Tryz.func104, Tryz.ntmps104
 go_upto_region 1 with fail
 rw [← HW1.out]
 go_wp2_with fail
 go_at_call 188; refine (HS.out w1 B1.out).mono ?_; rintro e w2 ⟨⟨b, rfl, m, hm, hv⟩, b2⟩
 have B2 := hid (B1.out.trans (b2.mono B1.out.size))
 obtain ⟨v, hlk, hv2⟩ := hm.look hc
 have HV : Hid (decide (c ∈ m.map (·.1)) = true → -1 ≤ v ∧ v < (n1 : Int)) := hid (fun h => by
  have h := of_decide_eq_true h
  rcases hv2 with rfl | h2
  · obtain ⟨q, hq, -⟩ := List.mem_map.1 h
    have := hv q hq
    omega
  · have := hv _ h2
    dsimp only at this
    omega)
 obtain ⟨B, hB⟩ : ∃ B, decide (c ∈ m.map (·.1)) = B := ⟨_, rfl⟩
 rw [hB] at hlk HV
 clear b2 hm hv hv2 hB q0 q1 q2 q3 q4 q5
 cases B with
 | true =>
  go_wp2_with fail
  go_ret
  exact ⟨⟨_, rfl, HV.out (by simp)⟩, B2.out⟩
 | false =>
  go_wp2_with fail
  go_ret
  exact ⟨⟨_, rfl, by omega, by omega⟩, B2.out⟩
end Go.Proofs.YtfcbcpfnaadpeaaGreatDoor
