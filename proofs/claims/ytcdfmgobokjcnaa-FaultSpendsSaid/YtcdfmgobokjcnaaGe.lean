/- Walks: slices.Values, AppendSeq, Collect, Sorted, Compact: the places that are looked at. -/
import Derived.Test.YtcdfmgobokjcnaaFl
import Derived.Test.YtcdfmgobokjcnaaRf
import Derived.Test.YtcdfmgobokjcnaaShelfC
import Derived.Shelf.SlIterI.Collect
import Derived.Shelf.Abstract
import Derived.Shelf.RegionOpen
import Derived.OwnWalkIn
import Derived.TacticsInMore
import Derived.LoopNIn
import Derived.LoopIn
namespace Go.Proofs.Ytcdfmgobokjcnaa
set_option linter.unusedSimpArgs false
set_option linter.unusedVariables false
open Go.RowKit Go.Shelf
attribute [local go_sem] Oper.semAt_some

set_option maxHeartbeats 400000 in
theorem Values_any (a : Option Addr) (n cap : Nat) (w : World) :
    Calls Try.prog 19 #[.slice a n cap] w fun e w' => e = .returned (.func (.func 36) #[] #[.pointer (some ⟨w.heap.size, 0, none⟩)]) ∧ w' = w.alloc (.cells #[.slice a n cap] 29) := by
  go_enter Try.func19, Try.ntmps19
  go_wp2
  go_ret
  exact ⟨rfl, rfl⟩
set_option maxRecDepth 100000 in
set_option maxHeartbeats 1000000 in
theorem vals_in (n lp bA : Nat) (v : Value) (l : List Int) (I : Nat → World → Prop)
    (hst : ∀ i W, I i W → Box W bA 29 v ∧ Is W v l)
    (hY : ∀ i W e, i < l.length → l[i]? = some e → I i W → YieldAt Fence.wide (n - 1) Try.prog lp #[.int .i64 e] W fun r W' => r = .returned (.bool true) ∧ I (i + 1) W')
    (W : World) (h0 : I 0 W) :
    CallsIn Fence.wide n Try.prog 36 #[.func (.yield lp) #[] #[], .pointer (some ⟨bA, 0, none⟩)] W fun r W' => (∃ v, r = .returned v) ∧ I l.length W' := by
  have HST := Lib.hid hst
  have HY := Lib.hid hY
  obtain ⟨sA, hv0⟩ := hst _ _ h0
  obtain ⟨a, cap, rfl, hm⟩ := hv0.form
  obtain ⟨N, hN⟩ : ∃ N, l.length = N := ⟨_, rfl⟩
  rw [hN] at hm HST sA ⊢
  have HN := Lib.hid hN
  clear hst hY hv0 hN
  have cA := sA.cell
  refine callsIn_of_wp Try.func36 rfl trivial ?_ rfl
  simp only [Try.ntmps36, List.size_toArray, List.length_cons, List.length_nil, Nat.reduceAdd, Nat.reduceSub, Array.replicate_succ, Array.replicate_zero, List.push_toArray, List.append_toArray, List.nil_append, List.cons_append]
  gi_wp2
  clear cA
  gi_loopw [7] (fun i wr => ∃ (k : Nat), k ≤ N ∧ i = .int .i64 k ∧ I k wr) (fun i _ => N - (intOf i).toNat)
  case atStart => exact ⟨0, by omega, rfl, h0⟩
  case round =>
    obtain ⟨k, hk, rfl, hI⟩ := hrel
    have HI := Lib.hid hI
    obtain ⟨rA, hc⟩ := HST.out _ _ hI
    clear hI
    by_cases hlt : k < N
    · have hkl : k < l.length := by rw [HN.out]; exact hlt
      obtain ⟨bk, off, rfl, hcell⟩ := hc.cell k hkl
      obtain ⟨X, hX⟩ : ∃ X, l[k] = X := ⟨_, rfl⟩
      rw [hX] at hcell
      obtain ⟨fn, tmps, assign, body, hy, hR⟩ := HY.out k wr X hkl (by rw [List.getElem?_eq_getElem hkl, hX]) HI.out
      have hi0 : (0 : Int) ≤ (k : Int) := by omega
      have hi1 : (k : Int) < (N : Int) := by omega
      clear hc hX hkl
      gi_wp2
      refine ⟨fun e => (by cases e), hR.mono ?_⟩
      rintro r W' ⟨rfl, hI'⟩
      have HI' := Lib.hid hI'
      clear hI' hcell hy hR
      gi_wp2
      go_roundw
      case rel => exact ⟨k + 1, by omega, by go_num, HI'.out⟩
      case measure => simp [intOf]; omega
    · obtain rfl : k = N := by omega
      clear hc
      gi_wp2
      go_end0
      exact ⟨⟨_, rfl⟩, HI.out⟩
theorem encZ_ints (l : List Int) : l.map encZ = ints l := rfl
set_option maxRecDepth 100000 in
set_option maxHeartbeats 2000000 in
theorem appendSeq_any (v : Value) (l : List Int) (bA : Nat) (w : World) (hA : Box w bA 29 v) (hv : Is w v l) (hlen : l.length ≤ 1000000) :
    Calls Try.prog 45 #[.slice none 0 0, .func (.func 36) #[] #[.pointer (some ⟨bA, 0, none⟩)]] w (RwPost l w) := by
  unfold RwPost
  refine (callsIn_wide (n := 20)).1 ?_
  refine callsIn_of_wp_marks Try.func45 rfl trivial ?_ rfl
  simp only [Try.ntmps45, List.size_toArray, List.length_cons, List.length_nil, Nat.reduceAdd, Nat.reduceSub, Array.replicate_succ, Array.replicate_zero, List.push_toArray, List.append_toArray, List.nil_append, List.cons_append]
  gi_wp2
  obtain ⟨w3, hw3⟩ : ∃ W, W = w.alloc (.cells #[.slice none 0 0] 29) := ⟨_, rfl⟩
  have hA1 := al1 w (.cells #[.slice none 0 0] 29)
  rw [← hw3] at hA1
  obtain ⟨hb0, hb1, hz⟩ := hA1
  rw [← hw3]
  clear hw3
  refine range_wide (gf := 36) rfl (enters_of Try.func36 (by kernel_rfl) rfl) _ hz fun fn R hR => ?_
  have hRec : R .ready none = .loop (AnyZI.apRec Try.laysAp_ren fn (.func (.func 36) #[] #[.pointer (some ⟨bA, 0, none⟩)]) w.heap.size (w.heap.size + 1) .ready none) := by rw [hR.out]; rfl
  refine (vals_in 19 (w.heap.size + 1 + 1) bA v l (fun k W => AnyZI.ApAt Try.laysAp_ren w fn (.func (.func 36) #[] #[.pointer (some ⟨bA, 0, none⟩)]) w.heap.size (w.heap.size + 1 + 1) (w.heap.size + 1) (l.take k) W) ?st ?yield _ ?start).mono ?done
  case st => exact fun i W h => ⟨hA.of_block (h.below.block _ hA.lt), hv.keep h.below⟩
  case yield =>
    intro i W e hi he h
    refine yieldAt_mono (AnyZI.apYield Try.laysAp Fence.wide _ w fn trivial _ w.heap.size (w.heap.size + 1 + 1) (w.heap.size + 1) (by omega) (by omega) (by omega) (Nat.le_refl _) (by omega) 1000001 (by unfold maxLen; omega) (by omega) (l.take i) e W h (by rw [List.length_take]; omega)) ?_
    rintro r W' ⟨rfl, h2, -⟩
    refine ⟨rfl, ?_⟩
    obtain ⟨hi2, he2⟩ := List.getElem?_eq_some_iff.1 he
    rw [List.take_succ_eq_append_getElem hi2, he2]
    exact h2
  case start =>
    refine ⟨⟨.slice none 0 0, ?_, ⟨rfl, .inl ⟨rfl, rfl⟩⟩, by simp⟩, ?_, ?_, ?_⟩
    · exact (Below.heap_alloc _ _ _ (by simp; omega)).trans ((Below.heap_alloc _ _ _ (by omega)).trans hb0)
    · rw [← hRec]; have := World.alloc_heap_new (w3.alloc (.deferred (some []))) (R .ready none); rw [World.size_alloc, hz] at this; exact this
    · rw [Below.heap_alloc _ _ _ (by simp; omega)]; have := World.alloc_heap_new w3 (.deferred (some [])); rw [hz] at this; exact this
    · exact (hb1.alloc (by omega) _).alloc (by simp; omega) _
  case done =>
    rintro r W' ⟨⟨u, rfl⟩, h⟩
    rw [List.take_length] at h
    obtain ⟨vv, hbx, hrow, -⟩ := h.box
    have hL := h.L
    rw [← hRec] at hL
    refine rangePost_none hR.out hL (by decide) ?_
    have hltL : w.heap.size + 1 + 1 < W'.heap.size := (Array.getElem?_eq_some_iff.1 hL).1
    obtain ⟨W2, hW2⟩ : ∃ W2, W2 = W'.putObj (w.heap.size + 1 + 1) (R .exhausted none) := ⟨_, rfl⟩
    have hg2 : W'.grownBy W2 (some (w.heap.size + 1 + 1)) := by rw [hW2]; exact grownBy_putObj_a _ _ _
    have hbx2 : Box W2 w.heap.size 29 vv := by rw [hW2]; exact (show Box W' w.heap.size 29 vv from hbx).putObj _ (by omega)
    have hd2 : W2.heap[w.heap.size + 1]? = some (.deferred (some [])) := by rw [hW2]; exact (World.putObj_heap_other (by omega)).trans h.K
    have hb2 : Below w.heap.size w W2 := by rw [hW2]; exact Below.putObj h.below (by omega) _
    have hrow2 := hrow.kept hg2 (ownsRow_ne_a hrow h.L (fun cur e => by cases e))
    have cn := hbx2.cell
    rw [← hW2]
    clear hW2 hg2 hbx hrow hv hA
    obtain ⟨aa, cc, rfl, -⟩ := own_slice hrow2
    gi_wp2
    refine ⟨by simp, .inl ⟨_, _, rfl, run_takeDeferred hd2, ?_⟩⟩
    refine ⟨_, (results_tmp (t := 4) rfl _ _ _), _, rfl, ?_, Below.putObj hb2 (by omega) _⟩
    exact hrow2.kept (grownBy_putObj_a _ _ _) (ownsRow_ne_a hrow2 hd2 (fun cur e => by cases e))
end Go.Proofs.Ytcdfmgobokjcnaa
