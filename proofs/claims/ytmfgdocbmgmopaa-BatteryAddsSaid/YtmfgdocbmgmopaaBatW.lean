/- Contracts of package battery's plain functions, and of the reference's. -/
import Derived.Test.YtmfgdocbmgmopaaRows
import Derived.Test.YtmfgdocbmgmopaaBatS
import Derived.WalkSpells
import Derived.WalkLawsBesides
namespace Go.Proofs.Ytmfgdocbmgmopaa
open Go.RowKit

set_option maxHeartbeats 400000 in
theorem Base_any (act : Int) (laden : Bool) (w : World) (h : I64 act) :
    Calls Try.prog 17 #[.int .i64 act, .bool laden] w fun e w' => e = .returned (.int .i64 (Bat.base act laden)) ∧ w = w' := by
  obtain ⟨h1, h2⟩ := h
  cases laden
  all_goals
   go_enter Try.func17, Try.ntmps17
   go_wp2
   all_goals
    go_ret
    refine ⟨ret_int ?_, rfl⟩
    simp only [beq_iff_eq, beq_eq_false_iff_ne, ne_eq, wrap64] at *
    unfold Bat.base
    simp only [Bool.false_eq_true, if_true, if_false]
    (repeat' split) <;> first | rfl | omega

set_option maxHeartbeats 400000 in
theorem Cost_any (tick act : Int) (laden : Bool) (w : World) (ht : I64 tick) (ha : I64 act) :
    Calls Try.prog 9 #[.int .i64 tick, .int .i64 act, .bool laden] w fun e w' => e = .returned (.int .i64 (Bat.cost tick act laden)) ∧ w = w' := by
  have hb := Bat.base_bd act laden
  obtain ⟨t1, t2⟩ := ht
  go_enter Try.func9, Try.ntmps9
  go_wp2_with (go_at_call 17; refine (Base_any _ _ _ ha).mono ?_; rintro e w' ⟨rfl, rfl⟩)
  · go_ret
    refine ⟨ret_int ((Bat.cost_wrap _ 20 hb (by omega)).trans ?_), rfl⟩
    have : Bat.age tick = 20 := by unfold Bat.age; (repeat' split) <;> first | omega | (split at *; omega)
    unfold Bat.cost; rw [this]
  · go_ret
    refine ⟨ret_int ((Bat.cost_wrap _ 0 hb (by omega)).trans ?_), rfl⟩
    have : Bat.age tick = 0 := by unfold Bat.age; (repeat' split) <;> omega
    unfold Bat.cost; rw [this]
  · have h20 : tick ≤ 20000 := by split at * <;> omega
    go_ret
    refine ⟨ret_int ((Bat.cost_wrap _ (tick / 1000) hb (by omega)).trans ?_), rfl⟩
    have : Bat.age tick = tick / 1000 := by unfold Bat.age; (repeat' split) <;> omega
    unfold Bat.cost; rw [this]

set_option maxHeartbeats 400000 in
theorem Laden_any (act : Int) (laden : Bool) (w : World) :
    Calls Try.prog 14 #[.int .i64 act, .bool laden] w fun e w' => e = .returned (.bool (Bat.laden act laden)) ∧ w = w' := by
  go_enter Try.func14, Try.ntmps14
  go_wp2
  all_goals
    go_ret
    refine ⟨ret_bool ?_, rfl⟩
    simp_all [Bat.laden]

set_option maxHeartbeats 400000 in
theorem isCharge_any (n : Int) (w : World) :
    Calls Try.prog 30 #[.int .i64 n] w fun e w' => e = .returned (.bool (decide (0 ≤ n ∧ n ≤ 1000000))) ∧ w = w' := by
  go_enter Try.func30, Try.ntmps30
  go_wp2
  all_goals
    go_ret
    refine ⟨ret_bool ?_, rfl⟩
    simp <;> omega

set_option maxHeartbeats 400000 in
theorem Spend_any (c n : Int) (w : World) (hc : I64 c) (hn : I64 n) :
    Calls Try.prog 22 #[.int .i64 c, .int .i64 n] w fun e w' => e = .returned (.tuple #[.int .i64 (Bat.spend c n).1, .int .i64 (Bat.spend c n).2]) ∧ w = w' := by
  obtain ⟨c1, c2⟩ := hc
  obtain ⟨n1, n2⟩ := hn
  by_cases h1 : 0 ≤ c ∧ c ≤ 1000000
  · have d1 : decide (0 ≤ c ∧ c ≤ 1000000) = true := by simpa using h1
    obtain ⟨h1, h2⟩ := h1
    by_cases h3 : n < 0
    all_goals
     go_enter Try.func22, Try.ntmps22
     go_wp2_with (go_at_call 30; refine (isCharge_any _ _).mono ?_; rintro e w' ⟨rfl, rfl⟩)
     all_goals
      go_ret2
      refine ⟨ret_int2 ?_, rfl⟩
      unfold Bat.spend
      (repeat' split) <;> first | (exfalso; omega) | exact ⟨rfl, rfl⟩ | (exfalso; rename_i h; omega)
  · have d1 : decide (0 ≤ c ∧ c ≤ 1000000) = false := by simpa using h1
    go_enter Try.func22, Try.ntmps22
    go_wp2_with (go_at_call 30; refine (isCharge_any _ _).mono ?_; rintro e w' ⟨rfl, rfl⟩)
    all_goals
      go_ret2
      refine ⟨ret_int2 ?_, rfl⟩
      unfold Bat.spend
      rw [if_pos (by omega)]; exact ⟨rfl, rfl⟩
end Go.Proofs.Ytmfgdocbmgmopaa
