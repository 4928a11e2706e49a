/- The reference's Ticks; small facts on stay. -/
import Derived.Test.YtmfgdocbmgmopaaBatL
namespace Go.Proofs.Ytmfgdocbmgmopaa
open Go.RowKit

theorem Bat.after_stay (t c : Int) (h0 : 0 ≤ c) (h1 : c ≤ 1000000) : Bat.after t c 0 false = if c < Bat.cost t 0 false then (c, 16) else (c - Bat.cost t 0 false, 0) := by
  have := Bat.cost_bd t 0 false
  unfold Bat.after Bat.spend
  rw [if_neg (by omega), if_neg (by omega), if_neg (by omega)]
theorem Bat.after_stay_bad (t c : Int) (h : c < 0 ∨ 1000000 < c) : Bat.after t c 0 false = (c, 1) := by
  unfold Bat.after; rw [if_pos (by omega)]
theorem Bat.stay_bad (t c : Int) (n : Nat) (h : c < 0 ∨ 1000000 < c) : Bat.stay t c n = 0 := by
  cases n with
  | zero => rfl
  | succ n => unfold Bat.stay; rw [Bat.after_stay_bad t c h]; rfl

set_option maxRecDepth 100000 in
set_option maxHeartbeats 2000000 in
theorem rTicks_any (t c : Int) (w : World) (ht : 0 ≤ t ∧ t ≤ 20000) (hc : I64 c) :
    Calls Try.prog 27 #[.int .i64 t, .int .i64 c] w fun e w' => e = .returned (.int .i64 (Bat.stay t c 20000)) ∧ w = w' := by
  obtain ⟨t1, t2⟩ := ht
  have h0c := hc
  obtain ⟨c1, c2⟩ := hc
  obtain ⟨N, hN⟩ : ∃ N : Nat, N = 20000 := ⟨_, rfl⟩
  rw [← hN]
  have HN := Lib.hid hN
  clear hN
  obtain ⟨S, hS0⟩ : ∃ S, S = Bat.stay t c N := ⟨_, rfl⟩
  have hs : S ≤ N := by rw [hS0]; exact Bat.stay_le N t c
  rw [← hS0]
  have HS0 := Lib.hid hS0
  clear hS0
  have hin : I64 0 := by unfold I64; omega
  by_cases hr : 0 ≤ c ∧ c ≤ 1000000
  · obtain ⟨hr1, hr2⟩ := hr
    go_enter Try.func27, Try.ntmps27
    go_wp2
    go_loop [1, 5] (fun v n => ∃ (k : Nat) (x : Int), k ≤ N ∧ 0 ≤ x ∧ x ≤ 1000000 ∧ S = k + Bat.stay (t + k) x (N - k) ∧ v = .int .i64 x ∧ n = .int .i64 k) (fun _ n => N - (intOf n).toNat)
    case atStart => exact ⟨0, c, by omega, by omega, by omega, by rw [HS0.out]; simp, rfl, rfl⟩
    case round =>
      obtain ⟨k, x, hk, hx1, hx2, hS, rfl, rfl⟩ := hrel
      have HS := Lib.hid hS
      clear hS hs
      by_cases hlt : k < N
      · have hlt2 : (k : Int) < 20000 := by have := HN.out; omega
        have hT : I64 (t + k) := by unfold I64; omega
        have hst : Bat.stay (t + k) x (N - k) = if (Bat.after (t + k) x 0 false).2 = 0 then Bat.stay (t + (k + 1 : Nat)) (Bat.after (t + k) x 0 false).1 (N - (k + 1)) + 1 else 0 := by
          rw [show N - k = (N - (k + 1)) + 1 by omega, Bat.stay, show t + (k : Int) + 1 = t + (k + 1 : Nat) by omega]
        rw [Bat.after_stay _ _ hx1 hx2] at hst
        have hcb := Bat.cost_bd (t + k) 0 false
        obtain ⟨q, hq⟩ : ∃ q, q = Bat.cost (t + k) 0 false := ⟨_, rfl⟩
        have hcq : ∀ w, Calls Try.prog 19 #[.int .i64 (t + k), .int .i64 0, .bool false] w fun e w' => e = .returned (.int .i64 q) ∧ w = w' := fun w => by rw [hq]; exact rCost_any _ _ _ _ hT hin
        rw [← hq] at hst hcb
        have HC := Lib.hid hcq
        have Hst := Lib.hid hst
        clear hst hcq hq
        by_cases h0 : x < q
        · go_wp2_with (go_at_call 19; refine (HC.out _).mono ?_; rintro e w' ⟨rfl, rfl⟩)
          go_ret
          exact ⟨ret_int (by rw [HS.out, Hst.out, if_pos h0]; simp), rfl⟩
        · go_wp2_with (go_at_call 19; refine (HC.out _).mono ?_; rintro e w' ⟨rfl, rfl⟩)
          go_round
          case rel => exact ⟨k + 1, _, by omega, by omega, by omega, by rw [HS.out, Hst.out, if_neg (Int.not_lt.2 h0)]; simp; omega, rfl, by go_num⟩
          case measure => simp [intOf]; omega
      · have hlt2 : 20000 ≤ (k : Int) := by have := HN.out; omega
        obtain rfl : k = N := by omega
        go_wp2
        go_ret
        exact ⟨ret_int (by rw [HS.out]; simp [Bat.stay]), rfl⟩
  · have hz : S = 0 := by rw [HS0.out]; exact Bat.stay_bad _ _ _ (by omega)
    have HZ := Lib.hid hz
    clear hz
    by_cases h1 : c < 0
    all_goals
      go_enter Try.func27, Try.ntmps27
      go_wp2
      go_ret
      exact ⟨ret_int (by rw [HZ.out]; rfl), rfl⟩
end Go.Proofs.Ytmfgdocbmgmopaa
