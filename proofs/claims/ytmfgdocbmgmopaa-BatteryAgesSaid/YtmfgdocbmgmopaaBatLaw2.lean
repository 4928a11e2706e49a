/- The walk of BatteryAges. -/
import Derived.Test.YtmfgdocbmgmopaaBatLaw1
namespace Go.Proofs.Ytmfgdocbmgmopaa
open Go.RowKit

namespace Bat
theorem age_mono {s t : Int} (h : s ≤ t) : age s ≤ age t := by unfold age; (repeat' split) <;> omega
theorem cost_mono {s t : Int} (a : Int) (b : Bool) (h : s ≤ t) : cost s a b ≤ cost t a b := by
  have hb := base_bd a b
  have hg := age_mono h
  have : base a b * (10 + age s) ≤ base a b * (10 + age t) := Int.mul_le_mul_of_nonneg_left (by omega) hb.1
  unfold cost; omega
theorem base_load (a : Int) : base a false ≤ base a true := by
  unfold base; simp only [Bool.false_eq_true, if_true, if_false]; (repeat' split) <;> omega
theorem cost_load (t a : Int) : cost t a false ≤ cost t a true := by
  have hg := age_bd t
  have : base a false * (10 + age t) ≤ base a true * (10 + age t) := Int.mul_le_mul_of_nonneg_right (base_load a) (by omega)
  unfold cost; omega
theorem base_pos (a : Int) (b : Bool) : 0 < base a b ↔ 0 ≤ a ∧ a < 10 ∧ a ≠ 9 := by
  unfold base; cases b <;> simp only [Bool.false_eq_true, if_true, if_false] <;> (repeat' split) <;> omega
theorem cost_pos (t a : Int) (b : Bool) : 0 < cost t a b ↔ 0 ≤ a ∧ a < 10 ∧ a ≠ 9 := by
  rw [← base_pos a b]
  have hg := age_bd t
  have hb := base_bd a b
  unfold cost
  constructor
  · intro h
    rcases Int.lt_or_le 0 (base a b) with h' | h'
    · exact h'
    · have : base a b = 0 := by omega
      rw [this] at h; omega
  · intro h
    have : 1 * (10 + age t) ≤ base a b * (10 + age t) := Int.mul_le_mul_of_nonneg_right (by omega) (by omega)
    omega
theorem age_floor (t : Int) (h0 : 0 ≤ t) (h1 : t ≤ 20000) : age (t - t % 1000) = age t := by unfold age; (repeat' split) <;> omega
theorem cost_floor (t a : Int) (b : Bool) (h0 : 0 ≤ t) (h1 : t ≤ 20000) : cost (t - t % 1000) a b = cost t a b := by unfold cost; rw [age_floor t h0 h1]
end Bat

set_option maxRecDepth 100000 in
set_option maxHeartbeats 4000000 in
theorem ages_walk1 (a b act : Int) (ld : Bool) (w : World) (ha : I64 a) (hb : I64 b) (hact : I64 act) (hab : a < b) :
    Calls Try.prog 3 #[.int .i64 a, .int .i64 b, .int .i64 act, .bool ld] w fun e w' => e = .returned (.bool true) ∧ Below w.heap.size w w' := by
  have c1 := Bat.cost_mono act ld (show a ≤ b by omega)
  have c2 := Bat.cost_load a act
  have c3 := Bat.cost_le_worst a act ld
  have c4 := (Bat.cost_bd a act ld).1
  have c6 : Bat.worst a ≤ Bat.worst b := Bat.cost_mono 5 true (by omega)
  have c7 : Bat.worst b ≤ 21 := (Bat.cost_bd b 5 true).2
  have c5 := Bat.cost_pos a act ld
  have HA := Lib.hid ha
  have HB := Lib.hid hb
  have HC := Lib.hid hact
  have a0 := ha.1
  clear ha hb hact
  rcases (show act < 0 ∨ 10 ≤ act ∨ act = 9 ∨ (0 ≤ act ∧ act < 10 ∧ act ≠ 9) by omega) with k0 | k0 | k0 | ⟨k0, k1, k2⟩
  case' inl => have c8 : Bat.cost a act ld ≤ 0 := by omega
  case' inr.inl => have c8 : Bat.cost a act ld ≤ 0 := by omega
  case' inr.inr.inl => have c8 : Bat.cost a act ld ≤ 0 := by omega
  case' inr.inr.inl => subst k0
  case' inr.inr.inr => have c8 : 0 < Bat.cost a act ld := by omega
  case' inr.inr.inr => have k3 : (act != 9) = true := by simpa using k2
  case' inr.inr.inr => clear k2
  all_goals
    clear c5
    go_enter Try.func3, Try.ntmps3
    go_wp2_with (first
      | (go_at_call 8; refine (small_any _).mono ?_; rintro e w1 ⟨rfl, hbel⟩)
      | (go_at_call 9; refine (Cost_any _ _ _ _ (by first | exact HA.out | exact HB.out) HC.out).mono ?_; rintro e w' ⟨rfl, rfl⟩)
      | (go_at_call 10; refine (Worst_any _ _ (by first | exact HA.out | exact HB.out)).mono ?_; rintro e w' ⟨rfl, rfl⟩))
    have HBEL := Lib.hid hbel
    clear hbel c1 c2 c3 c4 c6 c7
    go_loop [14, 15] (fun r i => ∃ (k : Nat) (q : Bool), k ≤ 10 ∧ (6 ≤ k → q = true) ∧ r = .bool q ∧ i = .int .i64 k) (fun _ i => 10 - (intOf i).toNat)
    case atStart => exact ⟨0, false, by omega, by omega, rfl, rfl⟩
    case round =>
      obtain ⟨k, q, hk, hq, rfl, rfl⟩ := hrel
      have HQ := Lib.hid hq
      clear hq
      by_cases hlt : k < 10
      · have hK : I64 k := by unfold I64; omega
        cases q with
        | true =>
          go_wp2
          go_round
          case rel => exact ⟨k + 1, true, by omega, fun _ => rfl, rfl, by go_num⟩
          case measure => simp [intOf]; omega
        | false =>
          have hk6 : k ≤ 5 := by
            rcases Nat.lt_or_ge k 6 with h | h
            · omega
            · exact absurd (HQ.out h) (by simp)
          have h5 : k = 5 → (Bat.cost b k true == Bat.worst b) = true := fun e => by subst e; simp [Bat.worst]
          have H5 := Lib.hid h5
          clear h5
          go_wp2_with (first
            | (go_at_call 9; refine (Cost_any _ _ _ _ HB.out hK).mono ?_; rintro e w' ⟨rfl, rfl⟩)
            | (go_at_call 10; refine (Worst_any _ _ HB.out).mono ?_; rintro e w' ⟨rfl, rfl⟩))
          go_round
          case rel => exact ⟨k + 1, _, by omega, fun h => H5.out (by omega), rfl, by go_num⟩
          case measure => simp [intOf]; omega
      · have hq' : q = true := HQ.out (by omega)
        subst hq'
        rcases (show a < 0 ∨ 20000 < a ∨ (0 ≤ a ∧ a ≤ 20000) by omega) with r0 | r0 | ⟨r0, r1⟩
        · go_wp2
          go_ret
          exact ⟨rfl, HBEL.out⟩
        · go_wp2
          go_ret
          exact ⟨rfl, HBEL.out⟩
        · have hf : I64 (a - a % 1000) := by unfold I64; omega
          have HF := Lib.hid (fun z => Bat.cost_floor a z ld r0 r1)
          go_wp2_with (go_at_call 9; refine (Cost_any _ _ _ _ hf HC.out).mono ?_; rintro e w' ⟨rfl, rfl⟩)
          go_ret
          refine ⟨ret_bool ?_, HBEL.out⟩
          simp [HF.out]

set_option maxRecDepth 100000 in
set_option maxHeartbeats 4000000 in
theorem ages_walk2 (a b act : Int) (ld : Bool) (w : World) (ha : I64 a) (hb : I64 b) (hact : I64 act) (hab : b < a) :
    Calls Try.prog 3 #[.int .i64 a, .int .i64 b, .int .i64 act, .bool ld] w fun e w' => e = .returned (.bool true) ∧ Below w.heap.size w w' := by
  have c1 := Bat.cost_mono act ld (show b ≤ a by omega)
  have c2 := Bat.cost_load b act
  have c3 := Bat.cost_le_worst b act ld
  have c4 := (Bat.cost_bd b act ld).1
  have c6 : Bat.worst b ≤ Bat.worst a := Bat.cost_mono 5 true (by omega)
  have c7 : Bat.worst a ≤ 21 := (Bat.cost_bd a 5 true).2
  have c5 := Bat.cost_pos b act ld
  have HA := Lib.hid ha
  have HB := Lib.hid hb
  have HC := Lib.hid hact
  have a0 := hb.1
  clear ha hb hact
  rcases (show act < 0 ∨ 10 ≤ act ∨ act = 9 ∨ (0 ≤ act ∧ act < 10 ∧ act ≠ 9) by omega) with k0 | k0 | k0 | ⟨k0, k1, k2⟩
  case' inl => have c8 : Bat.cost b act ld ≤ 0 := by omega
  case' inr.inl => have c8 : Bat.cost b act ld ≤ 0 := by omega
  case' inr.inr.inl => have c8 : Bat.cost b act ld ≤ 0 := by omega
  case' inr.inr.inl => subst k0
  case' inr.inr.inr => have c8 : 0 < Bat.cost b act ld := by omega
  case' inr.inr.inr => have k3 : (act != 9) = true := by simpa using k2
  case' inr.inr.inr => clear k2
  all_goals
    clear c5
    go_enter Try.func3, Try.ntmps3
    go_wp2_with (first
      | (go_at_call 8; refine (small_any _).mono ?_; rintro e w1 ⟨rfl, hbel⟩)
      | (go_at_call 9; refine (Cost_any _ _ _ _ (by first | exact HA.out | exact HB.out) HC.out).mono ?_; rintro e w' ⟨rfl, rfl⟩)
      | (go_at_call 10; refine (Worst_any _ _ (by first | exact HA.out | exact HB.out)).mono ?_; rintro e w' ⟨rfl, rfl⟩))
    have HBEL := Lib.hid hbel
    clear hbel c1 c2 c3 c4 c6 c7
    go_loop [14, 15] (fun r i => ∃ (k : Nat) (q : Bool), k ≤ 10 ∧ (6 ≤ k → q = true) ∧ r = .bool q ∧ i = .int .i64 k) (fun _ i => 10 - (intOf i).toNat)
    case atStart => exact ⟨0, false, by omega, by omega, rfl, rfl⟩
    case round =>
      obtain ⟨k, q, hk, hq, rfl, rfl⟩ := hrel
      have HQ := Lib.hid hq
      clear hq
      by_cases hlt : k < 10
      · have hK : I64 k := by unfold I64; omega
        cases q with
        | true =>
          go_wp2
          go_round
          case rel => exact ⟨k + 1, true, by omega, fun _ => rfl, rfl, by go_num⟩
          case measure => simp [intOf]; omega
        | false =>
          have hk6 : k ≤ 5 := by
            rcases Nat.lt_or_ge k 6 with h | h
            · omega
            · exact absurd (HQ.out h) (by simp)
          have h5 : k = 5 → (Bat.cost a k true == Bat.worst a) = true := fun e => by subst e; simp [Bat.worst]
          have H5 := Lib.hid h5
          clear h5
          go_wp2_with (first
            | (go_at_call 9; refine (Cost_any _ _ _ _ HA.out hK).mono ?_; rintro e w' ⟨rfl, rfl⟩)
            | (go_at_call 10; refine (Worst_any _ _ HA.out).mono ?_; rintro e w' ⟨rfl, rfl⟩))
          go_round
          case rel => exact ⟨k + 1, _, by omega, fun h => H5.out (by omega), rfl, by go_num⟩
          case measure => simp [intOf]; omega
      · have hq' : q = true := HQ.out (by omega)
        subst hq'
        rcases (show b < 0 ∨ 20000 < b ∨ (0 ≤ b ∧ b ≤ 20000) by omega) with r0 | r0 | ⟨r0, r1⟩
        · go_wp2
          go_ret
          exact ⟨rfl, HBEL.out⟩
        · go_wp2
          go_ret
          exact ⟨rfl, HBEL.out⟩
        · have hf : I64 (b - b % 1000) := by unfold I64; omega
          have HF := Lib.hid (fun z => Bat.cost_floor b z ld r0 r1)
          go_wp2_with (go_at_call 9; refine (Cost_any _ _ _ _ hf HC.out).mono ?_; rintro e w' ⟨rfl, rfl⟩)
          go_ret
          refine ⟨ret_bool ?_, HBEL.out⟩
          simp [HF.out]

set_option maxRecDepth 100000 in
set_option maxHeartbeats 4000000 in
theorem ages_walk3 (a act : Int) (ld : Bool) (w : World) (ha : I64 a) (hact : I64 act) :
    Calls Try.prog 3 #[.int .i64 a, .int .i64 a, .int .i64 act, .bool ld] w fun e w' => e = .returned (.bool true) ∧ Below w.heap.size w w' := by
  have c2 := Bat.cost_load a act
  have c3 := Bat.cost_le_worst a act ld
  have c4 := (Bat.cost_bd a act ld).1
  have c7 : Bat.worst a ≤ 21 := (Bat.cost_bd a 5 true).2
  have c5 := Bat.cost_pos a act ld
  have HA := Lib.hid ha
  have HC := Lib.hid hact
  have a0 := ha.1
  clear ha hact
  rcases (show act < 0 ∨ 10 ≤ act ∨ act = 9 ∨ (0 ≤ act ∧ act < 10 ∧ act ≠ 9) by omega) with k0 | k0 | k0 | ⟨k0, k1, k2⟩
  case' inl => have c8 : Bat.cost a act ld ≤ 0 := by omega
  case' inr.inl => have c8 : Bat.cost a act ld ≤ 0 := by omega
  case' inr.inr.inl => have c8 : Bat.cost a act ld ≤ 0 := by omega
  case' inr.inr.inl => subst k0
  case' inr.inr.inr => have c8 : 0 < Bat.cost a act ld := by omega
  case' inr.inr.inr => have k3 : (act != 9) = true := by simpa using k2
  case' inr.inr.inr => clear k2
  all_goals
    clear c5
    go_enter Try.func3, Try.ntmps3
    go_wp2_with (first
      | (go_at_call 8; refine (small_any _).mono ?_; rintro e w1 ⟨rfl, hbel⟩)
      | (go_at_call 9; refine (Cost_any _ _ _ _ HA.out HC.out).mono ?_; rintro e w' ⟨rfl, rfl⟩)
      | (go_at_call 10; refine (Worst_any _ _ HA.out).mono ?_; rintro e w' ⟨rfl, rfl⟩))
    have HBEL := Lib.hid hbel
    clear hbel c2 c3 c4 c7
    go_loop [14, 15] (fun r i => ∃ (k : Nat) (q : Bool), k ≤ 10 ∧ (6 ≤ k → q = true) ∧ r = .bool q ∧ i = .int .i64 k) (fun _ i => 10 - (intOf i).toNat)
    case atStart => exact ⟨0, false, by omega, by omega, rfl, rfl⟩
    case round =>
      obtain ⟨k, q, hk, hq, rfl, rfl⟩ := hrel
      have HQ := Lib.hid hq
      clear hq
      by_cases hlt : k < 10
      · have hK : I64 k := by unfold I64; omega
        cases q with
        | true =>
          go_wp2
          go_round
          case rel => exact ⟨k + 1, true, by omega, fun _ => rfl, rfl, by go_num⟩
          case measure => simp [intOf]; omega
        | false =>
          have hk6 : k ≤ 5 := by
            rcases Nat.lt_or_ge k 6 with h | h
            · omega
            · exact absurd (HQ.out h) (by simp)
          have h5 : k = 5 → (Bat.cost a k true == Bat.worst a) = true := fun e => by subst e; simp [Bat.worst]
          have H5 := Lib.hid h5
          clear h5
          go_wp2_with (first
            | (go_at_call 9; refine (Cost_any _ _ _ _ HA.out hK).mono ?_; rintro e w' ⟨rfl, rfl⟩)
            | (go_at_call 10; refine (Worst_any _ _ HA.out).mono ?_; rintro e w' ⟨rfl, rfl⟩))
          go_round
          case rel => exact ⟨k + 1, _, by omega, fun h => H5.out (by omega), rfl, by go_num⟩
          case measure => simp [intOf]; omega
      · have hq' : q = true := HQ.out (by omega)
        subst hq'
        rcases (show a < 0 ∨ 20000 < a ∨ (0 ≤ a ∧ a ≤ 20000) by omega) with r0 | r0 | ⟨r0, r1⟩
        · go_wp2
          go_ret
          exact ⟨rfl, HBEL.out⟩
        · go_wp2
          go_ret
          exact ⟨rfl, HBEL.out⟩
        · have hf : I64 (a - a % 1000) := by unfold I64; omega
          have HF := Lib.hid (fun z => Bat.cost_floor a z ld r0 r1)
          go_wp2_with (go_at_call 9; refine (Cost_any _ _ _ _ hf HC.out).mono ?_; rintro e w' ⟨rfl, rfl⟩)
          go_ret
          refine ⟨ret_bool ?_, HBEL.out⟩
          simp [HF.out]

theorem ages_walk (a b act : Int) (ld : Bool) (w : World) (ha : I64 a) (hb : I64 b) (hact : I64 act) :
    Calls Try.prog 3 #[.int .i64 a, .int .i64 b, .int .i64 act, .bool ld] w fun e w' => e = .returned (.bool true) ∧ Below w.heap.size w w' := by
  rcases Int.lt_trichotomy a b with h | h | h
  · exact ages_walk1 a b act ld w ha hb hact h
  · subst h; exact ages_walk3 a act ld w ha hact
  · exact ages_walk2 a b act ld w ha hb hact h
end Go.Proofs.Ytmfgdocbmgmopaa
