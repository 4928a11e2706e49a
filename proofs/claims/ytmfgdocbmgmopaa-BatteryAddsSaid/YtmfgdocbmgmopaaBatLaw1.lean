/- The walk of BatteryTells. -/
import Derived.Test.YtmfgdocbmgmopaaBatSm
import Derived.OpenShut
namespace Go.Proofs.Ytmfgdocbmgmopaa
open Go.RowKit

/-- What the shell of a proof tells of a slice of integers, in this text's own words. -/
theorem SliceI.of_row {w : World} {a : Option Addr} {len cap : Nat} {zs : List Int}
    (h : (a = none ∧ len = 0 ∧ cap = 0 ∧ zs = []) ∨ ∃ x, a = some x ∧ len ≤ cap ∧ cap ≤ maxLen ∧ zs.length = cap ∧ (∀ i, i < zs.length → w.cell? (x.add i) = some (.int .i64 (zs.getD i 0))) ∧ ∀ n ∈ zs, (Lit.int .i64 n).wf = true) :
    ∃ l, SliceI w (.slice a len cap) l := by
  rcases h with ⟨rfl, rfl, rfl, rfl⟩ | ⟨x, rfl, hlc, hcm, hz, hcell, hwf⟩
  · exact ⟨[], none, 0, rfl, by simp, by simp [AllI64], fun i hi => by simp at hi⟩
  · have hl : (zs.take len).length = len := by simp; omega
    refine ⟨zs.take len, some x, cap, by rw [hl], by omega, fun n hn => ?_, fun i hi => ?_⟩
    · have := hwf n (List.mem_of_mem_take hn); unfold I64; exact bounds_i64 this
    · rw [hl] at hi
      have h0 := hcell 0 (by omega)
      have hx : x = ⟨x.block, x.off, none⟩ := by
        rcases x with ⟨b, o, s⟩
        cases s with
        | none => rfl
        | some s =>
          simp only [Addr.add, if_true] at h0
          unfold World.cell? at h0
          split at h0 <;> simp at h0
      refine ⟨x.block, x.off, by rw [← hx], ?_⟩
      have hi' := hcell i (by omega)
      have e : x.add i = ⟨x.block, x.off + i, none⟩ := by
        rw [hx]; unfold Addr.add; split
        · rename_i h; subst h; rfl
        · rfl
      rw [e] at hi'
      rw [hi']
      simp [hi, List.getD_eq_getElem?_getD]

theorem wf64 {n : Int} (h : (Lit.int .i64 n).wf = true) : I64 n := by unfold I64; exact bounds_i64 h

set_option maxRecDepth 100000 in
set_option maxHeartbeats 4000000 in
theorem tells_walk (t c n a : Int) (b : Bool) (v : Value) (l : List Int) (w : World) (ht : I64 t) (hc : I64 c) (hn : I64 n) (ha : I64 a) (hv : SliceI w v l) :
    Calls Try.prog 7 #[.int .i64 t, .int .i64 c, .int .i64 n, .int .i64 a, .bool b, v] w fun e w' => e = .returned (.bool true) ∧ Below w.heap.size w w' := by
  have hv0 := hv
  obtain ⟨aa, cap, rfl, hm, -, -⟩ := hv
  unfold maxLen at hm
  have HV := Lib.hid hv0
  clear hv0
  have HT := Lib.hid ht
  have HC := Lib.hid hc
  have HN := Lib.hid hn
  have HA := Lib.hid ha
  obtain ⟨t1, t2⟩ := ht
  clear hc hn ha
  by_cases h100 : 100 < l.length
  · go_enter Try.func7, Try.ntmps7
    go_wp2_with (go_at_call 8; refine (small_any _).mono ?_; rintro e w1 ⟨rfl, hb⟩)
    go_ret
    exact ⟨rfl, hb⟩
  by_cases hr : 0 ≤ t ∧ t ≤ 20000
  · obtain ⟨r1, r2⟩ := hr
    go_enter Try.func7, Try.ntmps7
    go_wp2_with (first
      | (go_at_call 8; refine (small_any _).mono ?_; rintro e w1 ⟨rfl, hb⟩; have HV1 := Lib.hid (HV.out.below hb))
      | (go_at_call 17; refine (Base_any _ _ _ HA.out).mono ?_; rintro e w' ⟨rfl, rfl⟩)
      | (go_at_call 18; refine (rBase_any _ _ _ HA.out).mono ?_; rintro e w' ⟨rfl, rfl⟩)
      | (go_at_call 9; refine (Cost_any _ _ _ _ HT.out HA.out).mono ?_; rintro e w' ⟨rfl, rfl⟩)
      | (go_at_call 19; refine (rCost_any _ _ _ _ HT.out HA.out).mono ?_; rintro e w' ⟨rfl, rfl⟩)
      | (go_at_call 10; refine (Worst_any _ _ HT.out).mono ?_; rintro e w' ⟨rfl, rfl⟩)
      | (go_at_call 20; refine (rWorst_any _ _ HT.out).mono ?_; rintro e w' ⟨rfl, rfl⟩)
      | (go_at_call 14; refine (Laden_any _ _ _).mono ?_; rintro e w' ⟨rfl, rfl⟩)
      | (go_at_call 21; refine (rLaden_any _ _ _).mono ?_; rintro e w' ⟨rfl, rfl⟩)
      | (go_at_call 22; refine (Spend_any _ _ _ HC.out HN.out).mono ?_; rintro e w' ⟨rfl, rfl⟩)
      | (go_at_call 23; refine (rSpend_any _ _ _ HC.out HN.out).mono ?_; rintro e w' ⟨rfl, rfl⟩)
      | (go_at_call 16; refine (After_any _ _ _ _ _ HT.out HC.out HA.out).mono ?_; rintro e w' ⟨rfl, rfl⟩)
      | (go_at_call 24; refine (rAfter_any _ _ _ _ _ HT.out HC.out HA.out).mono ?_; rintro e w' ⟨rfl, rfl⟩)
      | (go_at_call 12; refine (Run_any _ _ _ l _ _ HV1.out ⟨r1, r2⟩ (by omega) HC.out).mono ?_; rintro e w2 ⟨rfl, hb2⟩; have HV2 := Lib.hid (HV1.out.below hb2))
      | (go_at_call 25; refine (rRun_any _ _ _ l _ _ HV2.out ⟨r1, r2⟩ (by omega) HC.out).mono ?_; rintro e w' ⟨rfl, rfl⟩)
      | (go_at_call 13; refine (Sum_any _ _ l _ _ HV2.out ⟨r1, r2⟩ (by omega)).mono ?_; rintro e w3 ⟨rfl, hb3⟩; have HV3 := Lib.hid (HV2.out.below hb3))
      | (go_at_call 26; refine (rSum_any _ _ l _ _ HV3.out ⟨r1, r2⟩ (by omega)).mono ?_; rintro e w' ⟨rfl, rfl⟩)
      | (go_at_call 15; refine (Ticks_any _ _ _ ⟨r1, r2⟩ HC.out).mono ?_; rintro e w' ⟨rfl, rfl⟩)
      | (go_at_call 27; refine (rTicks_any _ _ _ ⟨r1, r2⟩ HC.out).mono ?_; rintro e w' ⟨rfl, rfl⟩))
    go_ret
    exact ⟨rfl, (hb.trans (hb2.mono hb.size)).trans (hb3.mono (Nat.le_trans hb.size hb2.size))⟩
  · by_cases hneg : t < 0
    all_goals
     go_enter Try.func7, Try.ntmps7
     go_wp2_with (first
      | (go_at_call 8; refine (small_any _).mono ?_; rintro e w1 ⟨rfl, hb⟩)
      | (go_at_call 17; refine (Base_any _ _ _ HA.out).mono ?_; rintro e w' ⟨rfl, rfl⟩)
      | (go_at_call 18; refine (rBase_any _ _ _ HA.out).mono ?_; rintro e w' ⟨rfl, rfl⟩)
      | (go_at_call 9; refine (Cost_any _ _ _ _ HT.out HA.out).mono ?_; rintro e w' ⟨rfl, rfl⟩)
      | (go_at_call 19; refine (rCost_any _ _ _ _ HT.out HA.out).mono ?_; rintro e w' ⟨rfl, rfl⟩)
      | (go_at_call 10; refine (Worst_any _ _ HT.out).mono ?_; rintro e w' ⟨rfl, rfl⟩)
      | (go_at_call 20; refine (rWorst_any _ _ HT.out).mono ?_; rintro e w' ⟨rfl, rfl⟩)
      | (go_at_call 14; refine (Laden_any _ _ _).mono ?_; rintro e w' ⟨rfl, rfl⟩)
      | (go_at_call 21; refine (rLaden_any _ _ _).mono ?_; rintro e w' ⟨rfl, rfl⟩)
      | (go_at_call 22; refine (Spend_any _ _ _ HC.out HN.out).mono ?_; rintro e w' ⟨rfl, rfl⟩)
      | (go_at_call 23; refine (rSpend_any _ _ _ HC.out HN.out).mono ?_; rintro e w' ⟨rfl, rfl⟩)
      | (go_at_call 16; refine (After_any _ _ _ _ _ HT.out HC.out HA.out).mono ?_; rintro e w' ⟨rfl, rfl⟩)
      | (go_at_call 24; refine (rAfter_any _ _ _ _ _ HT.out HC.out HA.out).mono ?_; rintro e w' ⟨rfl, rfl⟩))
     go_ret
     exact ⟨rfl, hb⟩
end Go.Proofs.Ytmfgdocbmgmopaa
