/- battery.Sum: the caller of the iterator. -/
import Derived.Test.YtmfgdocbmgmopaaBatI
import Derived.Test.YtmfgdocbmgmopaaRs
namespace Go.Proofs.Ytmfgdocbmgmopaa
open Go.RowKit Go.Shelf
attribute [local go_sem] Oper.semAt_some

theorem Cost_in (n : Nat) (tick act : Int) (laden : Bool) (w : World) (ht : I64 tick) (ha : I64 act) :
    CallsIn Fence.wide n Try.prog 9 #[.int .i64 tick, .int .i64 act, .bool laden] w fun e w' => e = .returned (.int .i64 (Bat.cost tick act laden)) ∧ w = w' := callsIn_wide.2 (Cost_any tick act laden w ht ha)

theorem cell_lt {w : World} {a : Addr} {v : Value} (h : w.cell? a = some v) : a.block < w.heap.size := by
  unfold World.cell? at h
  split at h
  · rename_i h'; exact (Array.getElem?_eq_some_iff.1 h').1
  · cases h
theorem SliceI.below {w W : World} {v : Value} {l : List Int} (h : SliceI w v l) (hb : Below w.heap.size w W) : SliceI W v l := by
  obtain ⟨a, cap, rfl, hm, hl, hc⟩ := h
  refine ⟨a, cap, rfl, hm, hl, fun i hi => ?_⟩
  obtain ⟨b, off, h1, h2⟩ := hc i hi
  exact ⟨b, off, h1, by rw [hb.cell (cell_lt h2)]; exact h2⟩

set_option maxHeartbeats 400000 in
theorem steps_any (t : Int) (a : Option Addr) (n cap : Nat) (b : Bool) (w : World) :
    Calls Try.prog 29 #[.int .i64 t, .slice a n cap, .bool b] w fun e w' => e = .returned (.func (.func 32) #[] #[.pointer (some ⟨w.heap.size + 1, 0, none⟩), .pointer (some ⟨w.heap.size, 0, none⟩), .pointer (some ⟨w.heap.size + 2, 0, none⟩)]) ∧
      w' = ((w.alloc (.cells #[.int .i64 t] 3)).alloc (.cells #[.slice a n cap] 26)).alloc (.cells #[.bool b] 4) := by
  go_enter Try.func29, Try.ntmps29
  go_wp2
  go_ret
  exact ⟨rfl, rfl⟩

/-- What holds between two rounds: the caller's variables from w on, the iterator's three boxes, the deferred calls, the loop's record. -/
structure RoundAt (w : World) (N : Nat) (r : Obj) (t : Int) (v : Value) (c : Bool) (W : World) : Prop where
  below : Below w.heap.size w W
  tick : Box W N 3 (.int .i64 t)
  acts : Box W (N + 1) 26 v
  laden : Box W (N + 2) 4 (.bool c)
  defd : W.heap[N + 3]? = some (.deferred (some []))
  rcd : W.heap[N + 4]? = some r

set_option maxRecDepth 100000 in
set_option maxHeartbeats 1000000 in
theorem Sum_any (t : Int) (v : Value) (l : List Int) (b : Bool) (w : World) (hv : SliceI w v l) (ht : 0 ≤ t ∧ t ≤ 20000) (hlen : l.length ≤ 1000) :
    Calls Try.prog 13 #[.int .i64 t, v, .bool b] w fun e w' => e = .returned (.int .i64 (Bat.sum t l b)) ∧ Below w.heap.size w w' := by
  have hv0 := hv
  obtain ⟨a, cap, rfl, hm, hl, hc⟩ := hv
  refine (callsIn_wide (n := 20)).1 ?_
  obtain ⟨S, hS0⟩ : ∃ S, S = Bat.sum t l b := ⟨_, rfl⟩
  rw [← hS0]
  have HS0 := Lib.hid hS0
  clear hS0
  refine callsIn_of_wp_marks Try.func13 rfl trivial ?_ rfl
  simp only [Try.ntmps13, List.size_toArray, List.length_cons, List.length_nil, Nat.reduceAdd, Nat.reduceSub, Array.replicate_succ, Array.replicate_zero, List.push_toArray, List.append_toArray, List.nil_append, List.cons_append]
  gi_wp2_with (refine ⟨trivial, ?_⟩; gi_at_call 29; refine (callsIn_wide.2 (steps_any _ _ _ _ _ _)).mono ?_; rintro e w' ⟨rfl, rfl⟩)
  obtain ⟨w3, hw3⟩ : ∃ w3, w3 = (((w.alloc (.cells #[.int .i64 0] 3)).alloc (.cells #[.int .i64 t] 3)).alloc (.cells #[.slice a l.length cap] 26)).alloc (.cells #[.bool b] 4) := ⟨_, rfl⟩
  have hz : w3.heap.size = w.heap.size + 4 := by rw [hw3]; simp
  have hb3 : Below w.heap.size w w3 := by
    rw [hw3]; exact ((((Below.refl _ _).alloc (Nat.le_refl _) _).alloc (by simp) _).alloc (by simp; omega) _).alloc (by simp; omega) _
  have hn3 : Box w3 w.heap.size 3 (.int .i64 0) := by rw [hw3]; exact (((Box.new w _ _).alloc _).alloc _).alloc _
  have ht3 : Box w3 (w.heap.size + 1) 3 (.int .i64 t) := by rw [hw3]; have := Box.new (w.alloc (.cells #[.int .i64 0] 3)) 3 (.int .i64 t); rw [World.size_alloc] at this; exact (this.alloc _).alloc _
  have ha3 : Box w3 (w.heap.size + 1 + 1) 26 (.slice a l.length cap) := by rw [hw3]; have := Box.new ((w.alloc (.cells #[.int .i64 0] 3)).alloc (.cells #[.int .i64 t] 3)) 26 (.slice a l.length cap); rw [World.size_alloc, World.size_alloc] at this; exact this.alloc _
  have hl3 : Box w3 (w.heap.size + 1 + 2) 4 (.bool b) := by rw [hw3]; have := Box.new (((w.alloc (.cells #[.int .i64 0] 3)).alloc (.cells #[.int .i64 t] 3)).alloc (.cells #[.slice a l.length cap] 26)) 4 (.bool b); rw [World.size_alloc, World.size_alloc, World.size_alloc] at this; exact this
  rw [← hw3]
  clear hw3
  refine range_wide (gf := 32) rfl (enters_of Try.func32 (by kernel_rfl) rfl) _ hz fun fn R hR => ?_
  refine (steps1_in 19 (w.heap.size + 1 + 4) (w.heap.size + 1 + 1) (w.heap.size + 1) (w.heap.size + 1 + 2) (.slice a l.length cap) t l b
    (fun k c W => ∃ x : Int, (0 ≤ x ∧ x ≤ 21 * k ∧ S = x + Bat.sum (t + k) (l.drop k) c) ∧ Box W w.heap.size 3 (.int .i64 x) ∧ RoundAt w (w.heap.size + 1) (R .ready none) t (.slice a l.length cap) c W) (fun _ => False) ht hlen ?st ?yield _ ?start).mono ?done
  case st => exact fun i c W ⟨x, _, _, h⟩ => ⟨h.acts, h.tick, h.laden, hv0.below h.below⟩
  case start =>
    refine ⟨0, ⟨by omega, by omega, by rw [HS0.out]; simp⟩, (hn3.alloc _).alloc _, (hb3.alloc (by omega) _).alloc (by simp; omega) _, (ht3.alloc _).alloc _, (ha3.alloc _).alloc _, (hl3.alloc _).alloc _, ?_, ?_⟩
    · rw [Below.heap_alloc _ _ _ (by simp; omega)]; have := World.alloc_heap_new w3 (.deferred (some [])); rw [hz] at this; exact this
    · have := World.alloc_heap_new (w3.alloc (.deferred (some []))) (R .ready none); rw [World.size_alloc, hz] at this; exact this
  case yield =>
    rintro k c W e hk he Hd ⟨x, ⟨hx1, hx2, hS⟩, hn, hr⟩
    have hsz := hr.below.size
    refine yieldAt_mono (yield_wide (R := fun j W' => j = none ∧ ∃ x' : Int, (0 ≤ x' ∧ x' ≤ 21 * (k + 1 : Nat) ∧ S = x' + Bat.sum (t + (k + 1 : Nat)) (l.drop (k + 1)) (Bat.laden e c)) ∧ Box W' w.heap.size 3 (.int .i64 x') ∧ RoundAt w (w.heap.size + 1) (R .ready none) t (.slice a l.length cap) c W') hR.out hr.rcd rfl ?_) ?_
    · have hlw : w.heap.size + 1 + 4 < W.heap.size := (Array.getElem?_eq_some_iff.1 hr.rcd).1
      have HS := Lib.hid hS
      clear hS hc hl hm hv0 ht3 ha3 hl3 hn3 hb3
      obtain ⟨W2, hW2⟩ : ∃ W2, W2 = (W.alloc (.cells #[.int .i64 (t + k), .int .i64 e, .bool c] 47)).putObj (w.heap.size + 1 + 4) (R .busy none) := ⟨_, rfl⟩
      have hstep : W2.heap[W.heap.size]? = some (.cells #[.int .i64 (t + k), .int .i64 e, .bool c] 47 (0, 0)) := by
        rw [hW2, World.putObj_heap_other (by omega)]; exact World.alloc_heap_new W _
      have c0 : W2.cell? ⟨W.heap.size, 0, none⟩ = some (.int .i64 (t + k)) := by simp [World.cell?, hstep]
      have c1 : W2.cell? ⟨W.heap.size, 1, none⟩ = some (.int .i64 e) := by simp [World.cell?, hstep]
      have c2 : W2.cell? ⟨W.heap.size, 2, none⟩ = some (.bool c) := by simp [World.cell?, hstep]
      have hn2 : Box W2 w.heap.size 3 (.int .i64 x) := by rw [hW2]; exact (hn.alloc _).putObj _ (by omega)
      have cn := hn2.cell
      have fn2 := hn2.frozen
      have hr2 : RoundAt w (w.heap.size + 1) (R .busy none) t (.slice a l.length cap) c W2 := by
        rw [hW2]
        exact ⟨Below.putObj (hr.below.alloc hsz _) (by omega) _, (hr.tick.alloc _).putObj _ (by omega), (hr.acts.alloc _).putObj _ (by omega), (hr.laden.alloc _).putObj _ (by omega),
          (World.putObj_heap_other (by omega)).trans ((Below.heap_alloc _ _ _ (by omega)).trans hr.defd), World.putObj_heap_same (by simp; omega)⟩
      have HR := Lib.hid ((Below.heap_alloc W (.cells #[.int .i64 (t + k), .int .i64 e, .bool c] 47) _ hlw).trans hr.rcd)
      clear hstep
      have HW2 := Lib.hid hW2
      clear hlw hsz hW2
      gi_wp2
      refine ⟨HR.out, ?_⟩
      rw [← HW2.out]
      clear HW2 HR
      have hT : I64 (t + k) := by unfold I64; omega
      refine wpIn_block ?_
      refine wpIn_still_tail 9 (by kernel_rfl) (by kernel_rfl) (by kernel_rfl) (fun ⟨_, _, h⟩ => h) ?_
      simp only [List.take_succ_cons, List.take_zero, List.drop_succ_cons, List.drop_zero]
      have hCost := fun w => (Cost_any (t + k) e c w hT he).mono (R' := fun r w' => r = .returned (.int .i64 (Bat.cost (t + k) e c)) ∧ w' = w) (fun _ _ h => ⟨h.1, h.2.symm⟩)
      have hcb := Bat.cost_bd (t + k) e c
      have HC := Lib.hid hCost
      clear hCost
      repeat still_step
      still_call (HC.out _)
      repeat still_step
      refine wpStill_nil ?_
      go_wp2
      have hlt2 : w.heap.size + 1 + 4 < W2.heap.size := (Array.getElem?_eq_some_iff.1 hr2.rcd).1
      have hs : Bat.sum (t + k) (l.drop k) c = Bat.cost (t + k) e c + Bat.sum (t + (k + 1 : Nat)) (l.drop (k + 1)) (Bat.laden e c) := by
        rw [Hd.out, Bat.sum, show t + (k : Int) + 1 = t + (k + 1 : Nat) by omega]
      have hS := HS.out
      have hs2 : Bat.sum (t + (k + 1 : Nat)) (l.drop (k + 1)) (Bat.laden e c) = Bat.sum (t + ((k : Int) + 1)) (l.drop (k + 1)) (Bat.laden e c) := by rw [show t + ((k + 1 : Nat) : Int) = t + ((k : Int) + 1) by omega]
      refine ⟨(Below.heap_setCell _ _ _ _ (by dsimp only; omega)).trans hr2.rcd, rfl, x + Bat.cost (t + k) e c, ⟨by omega, by omega, by omega⟩, ((hn2.set _).drew).putObj _ (by omega), ?_⟩
      exact ⟨Below.putObj ((hr2.below.setCell (Nat.le_refl _) _).drew) (by omega) _, ((hr2.tick.other _ _ (by dsimp only; omega)).drew).putObj _ (by omega), ((hr2.acts.other _ _ (by dsimp only; omega)).drew).putObj _ (by omega), ((hr2.laden.other _ _ (by dsimp only; omega)).drew).putObj _ (by omega),
        (World.putObj_heap_other (by omega)).trans ((Below.heap_setCell _ _ _ _ (by dsimp only; omega)).trans hr2.defd), World.putObj_heap_same (by simp; omega)⟩
    · rintro r W' (⟨rfl, -, x', hx', hn', hr'⟩ | ⟨-, c', h, -⟩)
      · refine .inl ⟨rfl, hr'.laden, x', hx', hn'.other _ _ (by dsimp only; omega), ?_⟩
        exact ⟨hr'.below.setCell (by dsimp only; omega) _, hr'.tick.other _ _ (by dsimp only; omega), hr'.acts.other _ _ (by dsimp only; omega), hr'.laden.set _, (Below.heap_setCell _ _ _ _ (by dsimp only; omega)).trans hr'.defd, (Below.heap_setCell _ _ _ _ (by dsimp only; omega)).trans hr'.rcd⟩
      · cases h
  case done =>
    rintro r W' ⟨⟨u, rfl⟩, (⟨c, x, ⟨hx1, hx2, hS⟩, hn, hr⟩ | hf)⟩
    · refine rangePost_none hR.out hr.rcd (by decide) ?_
      have hlt : w.heap.size + 1 + 4 < W'.heap.size := (Array.getElem?_eq_some_iff.1 hr.rcd).1
      obtain ⟨W2, hW2⟩ : ∃ W2, W2 = W'.putObj (w.heap.size + 1 + 4) (R .exhausted none) := ⟨_, rfl⟩
      have hn2 : Box W2 w.heap.size 3 (.int .i64 x) := by rw [hW2]; exact hn.putObj _ (by omega)
      have hd2 : W2.heap[w.heap.size + 1 + 3]? = some (.deferred (some [])) := by rw [hW2]; exact (World.putObj_heap_other (by omega)).trans hr.defd
      have hb2 : Below w.heap.size w W2 := by rw [hW2]; exact Below.putObj hr.below (by omega) _
      have cn := hn2.cell
      have hxS : x = S := by rw [hS]; simp [Bat.sum]
      have HX := Lib.hid hxS
      clear hxS hS
      rw [← hW2]
      clear hW2 hc hm hl hv0
      gi_wp2
      refine ⟨by simp, .inl ⟨_, _, rfl, run_takeDeferred hd2, ?_⟩⟩
      exact ⟨.int .i64 x, (results_tmp (t := 6) rfl _ _ _), ret_int HX.out, Below.putObj hb2 (by omega) _⟩
    · exact hf.elim
end Go.Proofs.Ytmfgdocbmgmopaa
