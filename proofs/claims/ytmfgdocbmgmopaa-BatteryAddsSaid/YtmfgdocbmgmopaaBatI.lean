/- battery.steps: the iterator with a captured variable that it writes. -/
import Derived.Test.YtmfgdocbmgmopaaBatT
import Derived.Test.YtmfgdocbmgmopaaRf
import Derived.Shelf.Abstract
import Derived.Shelf.RegionOpen
import Derived.OwnWalkIn
import Derived.TacticsInMore
import Derived.LoopNIn
import Derived.LoopIn
namespace Go.Proofs.Ytmfgdocbmgmopaa
open Go.RowKit Go.Shelf
attribute [local go_sem] Oper.semAt_some

theorem Laden_in (n : Nat) (act : Int) (laden : Bool) (w : World) :
    CallsIn Fence.wide n Try.prog 14 #[.int .i64 act, .bool laden] w fun e w' => e = .returned (.bool (Bat.laden act laden)) ∧ w = w' := callsIn_wide.2 (Laden_any act laden w)

set_option maxRecDepth 100000 in
set_option maxHeartbeats 1000000 in
theorem steps1_in (n lp bA bT bL : Nat) (v : Value) (t : Int) (l : List Int) (b0 : Bool) (I : Nat → Bool → World → Prop) (Ix : World → Prop)
    (ht : 0 ≤ t ∧ t ≤ 20000) (hlen : l.length ≤ 1000)
    (hst : ∀ i b W, I i b W → Box W bA 26 v ∧ Box W bT 3 (.int .i64 t) ∧ Box W bL 4 (.bool b) ∧ SliceI W v l)
    (hY : ∀ i b W e, i < l.length → I64 e → Hid (l.drop i = e :: l.drop (i + 1)) → I i b W → YieldAt Fence.wide (n - 1) Try.prog lp #[.agg #[.int .i64 (t + i), .int .i64 e, .bool b]] W fun r W' =>
      (r = .returned (.bool true) ∧ Box W' bL 4 (.bool b) ∧ I (i + 1) (Bat.laden e b) (W'.setCell ⟨bL, 0, none⟩ (.bool (Bat.laden e b)))) ∨ (r = .returned (.bool false) ∧ Ix W'))
    (W : World) (h0 : I 0 b0 W) :
    CallsIn Fence.wide n Try.prog 32 #[.func (.yield lp) #[] #[], .pointer (some ⟨bA, 0, none⟩), .pointer (some ⟨bT, 0, none⟩), .pointer (some ⟨bL, 0, none⟩)] W fun r W' =>
      (∃ v, r = .returned v) ∧ ((∃ b, I l.length b W') ∨ Ix W') := by
  obtain ⟨t1, t2⟩ := ht
  have HST := Lib.hid hst
  have HY := Lib.hid hY
  obtain ⟨sA, sT, sL, a, cap, rfl, hm, -, -⟩ := hst _ _ _ h0
  clear hst hY
  unfold maxLen at hm
  have cA := sA.cell
  refine callsIn_of_wp Try.func32 rfl trivial ?_ rfl
  simp only [Try.ntmps32, List.size_toArray, List.length_cons, List.length_nil, Nat.reduceAdd, Nat.reduceSub, Array.replicate_succ, Array.replicate_zero, List.push_toArray, List.append_toArray, List.nil_append, List.cons_append]
  gi_wp2
  clear cA
  gi_loopw [9] (fun i wr => ∃ (k : Nat) (b : Bool), k ≤ l.length ∧ i = .int .i64 k ∧ I k b wr) (fun i _ => l.length - (intOf i).toNat)
  case atStart => exact ⟨0, b0, by omega, rfl, h0⟩
  case round =>
    obtain ⟨k, b, hk, rfl, hI⟩ := hrel
    have HI := Lib.hid hI
    obtain ⟨rA, rT, rL, a', cap', e', -, hl, hc⟩ := HST.out _ _ _ hI
    clear hI
    cases e'
    by_cases hlt : k < l.length
    · obtain ⟨e, bk, off, rfl, hcell, hi, Hd, -⟩ := elem_at hl hc k hlt
      clear hc
      have cT := rT.cell
      have cL := rL.cell
      obtain ⟨fn, tmps, assign, body, hy, hR⟩ := HY.out k b wr e hlt hi Hd HI.out
      go_show
      gi_wp2
      refine ⟨fun e => (by cases e), hR.mono ?_⟩
      rintro r W' (⟨rfl, hB, hI'⟩ | ⟨rfl, hx⟩)
      · have cL' := hB.cell
        have fL' := hB.frozen
        have HI' := Lib.hid hI'
        clear hI' hB cL cT hcell hy hR
        gi_wp2_with (refine ⟨trivial, ⟨fun e => (by cases e), ?_⟩⟩; gi_at_call 14; refine (Laden_in _ _ _ _).mono ?_; rintro r W2 ⟨rfl, rfl⟩)
        go_roundw
        case rel => exact ⟨k + 1, _, by omega, by go_num, HI'.out⟩
        case measure => simp [intOf]; omega
      · clear cL cT hcell hy hR
        gi_wp2
        refine bodyPost_ret (results_none rfl _ _ _) rfl ?_
        exact ⟨⟨_, rfl⟩, .inr hx⟩
    · obtain rfl : k = l.length := by omega
      clear hc
      gi_wp2
      go_end0
      exact ⟨⟨_, rfl⟩, .inl ⟨_, HI.out⟩⟩
end Go.Proofs.Ytmfgdocbmgmopaa
