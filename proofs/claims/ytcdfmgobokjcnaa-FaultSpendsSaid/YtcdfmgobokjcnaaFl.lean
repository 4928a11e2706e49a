/- Walks of package body: All (the slots sorted). -/
import Derived.Test.YtcdfmgobokjcnaaFi
import Derived.Test.YtcdfmgobokjcnaaShelfB
import Derived.Sort.OwnSortedInts
namespace Go.Proofs.Ytcdfmgobokjcnaa
set_option linter.unusedSimpArgs false
set_option linter.unusedVariables false
open Go.RowKit Go.Sort

/-- What sorting leaves of a row of a call's own. -/
def SortedPost (base : Nat) (v : Value) (l : List Int) (w : World) (e : Ending) (w' : World) : Prop :=
  e = .returned (.tuple #[]) ∧ ∃ m : List Int, m.Perm l ∧ m.Pairwise (· ≤ ·) ∧ m.length = l.length ∧ w'.ownsRow base 3 1 v m.length (ints m) ∧ Below base w w'
theorem sortI_any (base : Nat) (v : Value) (l : List Int) (w : World) (ho : w.ownsRow base 3 1 v l.length (ints l)) (hlen : l.length < 4611686018427387904) (hbw : base ≤ w.heap.size) :
    Calls Try.prog 35 #[v] w (SortedPost base v l w) := by
  rcases ho.2 with ⟨rfl, h0⟩ | ⟨g, cap, cur, rfl, hbg, hg, hnc, hcm, hcs, htake⟩
  · have h1 : l = [] := List.eq_nil_of_length_eq_zero h0
    subst h1
    refine (Try.slices_Sort_int_none none 0 w).mono ?_
    rintro e w' ⟨rfl, rfl⟩
    exact ⟨rfl, [], by simp, List.Pairwise.nil, rfl, ho, Below.refl _ _⟩
  · have hg2 : g < w.heap.size := heap_lt hg
    rw [Nat.mul_one] at htake
    have hH := Go.holds_of_blockI hg htake
    refine (Try.slices_Sort_int g 0 cap l w hH hg2 hlen).mono ?_
    rintro e w' ⟨rfl, n, os, rfl⟩
    obtain ⟨m, hm⟩ : ∃ m, l.mergeSort (fun x y => decide (x ≤ y)) = m := ⟨_, rfl⟩
    have hperm := List.mergeSort_perm l (fun x y => decide (x ≤ y))
    have hpair := List.pairwise_mergeSort (le := fun x y : Int => decide (x ≤ y)) (fun a b c h k => by simp at h k ⊢; omega) (fun a b => by simp; omega) l
    rw [hm] at hperm hpair ⊢
    have hl := hperm.length_eq
    have hown := Go.ownsRow_sortedI (w := w) (n := n) (os := os) (ss := l) (ts := m) hl hbg hg hnc hcm hcs
    have hgr := Go.grownBy_sortedI (w := w) (g := g) (n := n) (os := os) m.toArray
    refine ⟨rfl, m, hperm, hpair.imp (fun h => by simpa using h), hl, ?_, ?_⟩
    · rw [hl]; exact hown
    · exact ⟨hgr.os, hgr.tape, hgr.output, hgr.size, fun k hk => hgr.block k (by omega) (fun e => by injection e with e; omega)⟩
/-- A new list of numbers is handed back, in some order. -/
def PmPost (L : List Int) (w : World) (e : Ending) (w' : World) : Prop := ∃ v m, e = .returned v ∧ m.Perm L ∧ Is w' v m ∧ Below w.heap.size w w'
set_option maxRecDepth 100000 in
set_option maxHeartbeats 8000000 in
theorem AllB_any (s : Bd.State) (sv rv pv dv kv : Value) (w : World) (h : StV w sv rv pv dv kv s) (hs : StS s) :
    Calls Try.prog 48 #[stV s sv rv pv dv kv] w (PmPost (Bd.allL s) w) := by
  have HA := Lib.hid (fun W (hW : Below w.heap.size w W) => allB_any s sv rv pv dv kv W (h.keep hW) hs)
  have HLn : Hid ((Bd.allL s).length ≤ 24000) := Lib.hid (by
    have q1 := Bd.robotsL_len s
    have q2 := Bd.shelvesL_len s
    have q3 := Bd.peopleL_len s
    have n1 := hs.nr
    have n2 := hs.ns
    have n3 := hs.np
    unfold Bd.allL
    rw [List.length_append, List.length_append]
    omega)
  obtain ⟨L, hL⟩ : ∃ L, Bd.allL s = L := ⟨_, rfl⟩
  rw [hL] at HA HLn ⊢
  unfold RwPost at HA
  unfold stV PmPost at *
  have HB := Lib.hid (al1 w (.cells #[.int .i64 s.tick, sv, rv, pv, dv, kv] 47))
  clear h hs hL
  go_enter Try.func48, Try.ntmps48
  go_wp2_with fail
  go_at_call 72; refine (HA.out _ HB.out.2.1).mono ?_; rintro e w2 ⟨v2, rfl, ho2, b2⟩
  have HO := Lib.hid ho2
  have hsz := b2.size
  have B2 := Lib.hid (HB.out.2.1.trans (b2.mono HB.out.2.1.size))
  have HS := Lib.hid (sortI_any _ v2 L w2 ho2 (by have := HLn.out; omega) hsz)
  have HB1 := Lib.hid HB.out.2.1.size
  clear ho2 b2
  unfold SortedPost at HS
  obtain ⟨a, cap, rfl, -⟩ := own_slice HO.out
  go_wp2_with fail
  go_at_call 35; refine HS.out.mono ?_; rintro e w3 ⟨rfl, m, hm1, hm2, hm3, hm4, b3⟩
  have HM := Lib.hid hm1
  have HO3 := Lib.hid hm4
  have B3 := Lib.hid (B2.out.trans (b3.mono HB1.out))
  clear hm1 hm2 hm3 hm4 b3
  go_wp2_with fail
  go_ret
  exact ⟨_, m, rfl, HM.out, Sl.of_own (by have := HO3.out; exact this) (by have := HLn.out; have := HM.out.length_eq; unfold maxLen; omega), B3.out⟩
end Go.Proofs.Ytcdfmgobokjcnaa
