/- The walk of BatteryStays. -/
import Derived.Test.YtmfgdocbmgmopaaBatLaw1
import Derived.Deep.RegionWith
namespace Go.Proofs.Ytmfgdocbmgmopaa
open Go.RowKit

namespace Bat
/-- What is left after k ticks of staying. -/
def left (t c : Int) : Nat → Int
  | 0 => c
  | k + 1 => (after (t + k) (left t c k) 0 false).1
theorem after_true (t c : Int) : (after t c 0 true) = after t c 0 false := by
  unfold after cost; have : base 0 true = base 0 false := rfl
  rw [this]
theorem left_succ (t c : Int) (k : Nat) : left t c (k + 1) = (after (t + k) (left t c k) 0 false).1 := rfl
theorem left_shift (t c : Int) : ∀ k, left (t + 1) (after t c 0 false).1 k = left t c (k + 1)
  | 0 => by simp [left]
  | k + 1 => by
    rw [left_succ, left_shift t c k, left_succ t c (k + 1)]
    rw [show t + 1 + (k : Int) = t + ((k + 1 : Nat) : Int) by omega]
/-- As long as stay says, each tick goes through; if it says fewer than asked, the next one is refused. -/
theorem stay_spec (n : Nat) : ∀ (t c : Int), (∀ k, k < stay t c n → (after (t + k) (left t c k) 0 false).2 = 0) ∧ (stay t c n < n → (after (t + (stay t c n : Nat)) (left t c (stay t c n)) 0 false).2 ≠ 0) := by
  induction n with
  | zero => intro t c; exact ⟨fun k h => by simp [stay] at h, fun h => by simp at h⟩
  | succ n ih =>
    intro t c
    obtain ⟨i1, i2⟩ := ih (t + 1) (after t c 0 false).1
    by_cases h0 : (after t c 0 false).2 = 0
    · have hs : stay t c (n + 1) = stay (t + 1) (after t c 0 false).1 n + 1 := by rw [stay, if_pos h0]
      rw [hs]
      refine ⟨fun k hk => ?_, fun hk => ?_⟩
      · cases k with
        | zero => simpa [left] using h0
        | succ k =>
          have := i1 k (by omega)
          rw [left_shift] at this
          rw [show t + ((k + 1 : Nat) : Int) = t + 1 + (k : Int) by omega]; exact this
      · have := i2 (by omega)
        rw [left_shift] at this
        rw [show t + ((stay (t + 1) (after t c 0 false).1 n + 1 : Nat) : Int) = t + 1 + ((stay (t + 1) (after t c 0 false).1 n : Nat) : Int) by omega]; exact this
    · have hs : stay t c (n + 1) = 0 := by rw [stay, if_neg h0]
      rw [hs]
      exact ⟨fun k hk => by omega, fun _ => by simpa [left] using h0⟩
/-- More charge, not fewer ticks. -/
theorem stay_mono (n : Nat) : ∀ (t c d : Int), 0 ≤ c → c ≤ d → d ≤ 1000000 → stay t c n ≤ stay t d n := by
  induction n with
  | zero => intro t c d _ _ _; exact Nat.le_refl _
  | succ n ih =>
    intro t c d h0 h1 h2
    have hc := cost_bd t 0 false
    unfold stay
    rw [after_stay t c h0 (by omega), after_stay t d (by omega) h2]
    by_cases hq : c < cost t 0 false
    · rw [if_pos hq]; simp
    · rw [if_neg hq, if_neg (by omega : ¬ d < cost t 0 false)]
      simp only [if_true]
      have := ih (t + 1) (c - cost t 0 false) (d - cost t 0 false) (by omega) (by omega) (by omega)
      omega
theorem left_bd (t c : Int) (h0 : 0 ≤ c) (h1 : c ≤ 1000000) : ∀ k, 0 ≤ left t c k ∧ left t c k ≤ 1000000
  | 0 => ⟨h0, h1⟩
  | k + 1 => by
    have ih := left_bd t c h0 h1 k
    have hc := cost_bd (t + k) 0 false
    rw [left_succ, after_stay _ _ ih.1 ih.2]
    split <;> dsimp only <;> omega
theorem stay_err (t c : Int) (h0 : 0 ≤ c) (h1 : c ≤ 1000000) (h : (after t c 0 false).2 ≠ 0) : (after t c 0 false).2 = 16 := by
  rw [after_stay t c h0 h1] at *; split at * <;> simp_all
theorem after_charge (t c : Int) (h0 : 0 ≤ c) (h1 : c ≤ 1000000) : (after t c 9 false).2 = 0 ∧ c ≤ (after t c 9 false).1 ∧ (after t c 9 false).1 ≤ 1000000 := by
  unfold after; rw [if_neg (by omega), if_pos rfl]; refine ⟨rfl, ?_⟩; dsimp only; split <;> omega
end Bat

set_option maxRecDepth 100000 in
set_option maxHeartbeats 4000000 in
theorem stays_walk (t c : Int) (w : World) (ht : I64 t) (hc : I64 c) :
    Calls Try.prog 6 #[.int .i64 t, .int .i64 c] w fun e w' => e = .returned (.bool true) ∧ Below w.heap.size w w' := by
  have HC := Lib.hid hc
  obtain ⟨t1, t2⟩ := ht
  obtain ⟨c1, c2⟩ := hc
  rcases (show t < 0 ∨ 20000 < t ∨ (0 ≤ t ∧ t ≤ 20000) by omega) with r0 | r0 | ⟨r0, r1⟩
  · go_enter Try.func6, Try.ntmps6
    go_wp2_with (go_at_call 8; refine (small_any _).mono ?_; rintro e w1 ⟨rfl, hbel⟩)
    go_ret
    exact ⟨rfl, hbel⟩
  · go_enter Try.func6, Try.ntmps6
    go_wp2_with (go_at_call 8; refine (small_any _).mono ?_; rintro e w1 ⟨rfl, hbel⟩)
    go_ret
    exact ⟨rfl, hbel⟩
  obtain ⟨T, hT⟩ : ∃ T : Int → Nat, T = fun c => Bat.stay t c 20000 := ⟨_, rfl⟩
  have hTicks : ∀ c w, I64 c → Calls Try.prog 15 #[.int .i64 t, .int .i64 c] w fun e w' => e = .returned (.int .i64 (T c)) ∧ w = w' := fun c w h => by
    rw [hT]; exact Ticks_any t c w ⟨r0, r1⟩ h
  have hTle : ∀ c, T c ≤ 20000 := fun c => by rw [hT]; exact Bat.stay_le _ _ _
  have HT := Lib.hid hTicks
  clear hTicks
  rcases (show c < 0 ∨ 1000000 < c ∨ (0 ≤ c ∧ c ≤ 1000000) by omega) with q0 | q0 | ⟨q0, q1⟩
  · have hz : T c = 0 := by rw [hT]; exact Bat.stay_bad _ _ _ (.inl q0)
    clear hT hTle
    go_enter Try.func6, Try.ntmps6
    go_wp2_with (first
      | (go_at_call 8; refine (small_any _).mono ?_; rintro e w1 ⟨rfl, hbel⟩)
      | (go_at_call 15; refine (HT.out _ _ HC.out).mono ?_; rintro e w' ⟨rfl, rfl⟩))
    go_ret
    exact ⟨rfl, hbel⟩
  · have hz : T c = 0 := by rw [hT]; exact Bat.stay_bad _ _ _ (.inr q0)
    clear hT hTle
    go_enter Try.func6, Try.ntmps6
    go_wp2_with (first
      | (go_at_call 8; refine (small_any _).mono ?_; rintro e w1 ⟨rfl, hbel⟩)
      | (go_at_call 15; refine (HT.out _ _ HC.out).mono ?_; rintro e w' ⟨rfl, rfl⟩))
    go_ret
    exact ⟨rfl, hbel⟩
  obtain ⟨s1, s2⟩ := Bat.stay_spec 20000 t c
  have hch := Bat.after_charge t c q0 q1
  obtain ⟨m, hm⟩ : ∃ m, m = (Bat.after t c 9 false).1 := ⟨_, rfl⟩
  rw [← hm] at hch
  obtain ⟨f0, m1, m2⟩ := hch
  have g1 : T c ≤ T m := by rw [hT]; exact Bat.stay_mono _ _ _ _ q0 m1 m2
  have g2 : c < 1000000 → T c ≤ T (c + 1) := fun h => by rw [hT]; exact Bat.stay_mono _ _ _ _ q0 (by omega) (by omega)
  have hle : (T c : Int) ≤ 20000 := by have := hTle c; omega
  have S1 : ∀ k, k < T c → (Bat.after (t + k) (Bat.left t c k) 0 true).2 = 0 := fun k h => by rw [Bat.after_true]; exact s1 k (by rw [hT] at h; exact h)
  have S2 : T c < 20000 → (Bat.after (t + (T c : Nat)) (Bat.left t c (T c)) 0 false).2 = 16 := fun h => by
    have hb := Bat.left_bd t c q0 q1 (T c)
    refine Bat.stay_err _ _ hb.1 hb.2 ?_
    rw [hT] at h ⊢; exact s2 h
  have hlb := Bat.left_bd t c q0 q1
  have hAm : ∀ w, Calls Try.prog 16 #[.int .i64 t, .int .i64 c, .int .i64 9, .bool false] w fun e w' => e = .returned (.tuple #[.int .i64 m, .int .i64 0]) ∧ w = w' := fun w => by
    have := After_any t c 9 false w ⟨t1, t2⟩ ⟨c1, c2⟩ (by unfold I64; omega)
    rw [← hm, f0] at this; exact this
  have HAm := Lib.hid hAm
  have HS1 := Lib.hid S1
  have HS2 := Lib.hid S2
  have HLB := Lib.hid hlb
  have G2 := Lib.hid g2
  obtain ⟨n, hn⟩ : ∃ n, n = T c := ⟨_, rfl⟩
  have HN := Lib.hid hn
  rw [← hn] at g1 hle
  clear hT hTle s1 s2 S1 S2 hlb g2 hAm hm f0 hn
  have hTm : I64 m := by unfold I64; omega
  have HTC := Lib.hid (fun w => HN.out ▸ HT.out c w HC.out)
  by_cases hmax : c = 1000000
  · have ceq : (c == 1000000) = true := by simpa using hmax
    clear hmax
    go_enter Try.func6, Try.ntmps6
    go_wp2_with (first
      | (go_at_call 8; refine (small_any _).mono ?_; rintro e w1 ⟨rfl, hbel⟩)
      | (go_at_call 15; refine (HTC.out _).mono ?_; rintro e w' ⟨rfl, rfl⟩))
    have HBEL := Lib.hid hbel
    clear hbel
    go_loop [7, 8] (fun v i => ∃ k : Nat, k ≤ n ∧ v = .int .i64 (Bat.left t c k) ∧ i = .int .i64 k) (fun _ i => n - (intOf i).toNat)
    case atStart => exact ⟨0, by omega, rfl, rfl⟩
    case round =>
      obtain ⟨k, hk, rfl, rfl⟩ := hrel
      have hb := HLB.out k
      obtain ⟨x, hx⟩ : ∃ x, x = Bat.left t c k := ⟨_, rfl⟩
      rw [← hx] at hb ⊢
      have hX : I64 x := by unfold I64; omega
      have HX := Lib.hid hx
      clear hx hb
      have hT : I64 (t + k) := by unfold I64; omega
      have h0 : I64 0 := by unfold I64; omega
      by_cases hlt : k < n
      · have hA : ∀ w, Calls Try.prog 16 #[.int .i64 (t + k), .int .i64 x, .int .i64 0, .bool true] w fun e w' => e = .returned (.tuple #[.int .i64 (Bat.left t c (k + 1)), .int .i64 0]) ∧ w = w' := fun w => by
          have h := After_any (t + k) x 0 true w hT hX h0
          have e2 := HS1.out k (by have := HN.out; omega)
          have e1 : (Bat.after (t + k) (Bat.left t c k) 0 true).1 = Bat.left t c (k + 1) := by rw [Bat.after_true, Bat.left_succ]
          rw [← HX.out] at e1 e2
          rw [e1, e2] at h; exact h
        have HA := Lib.hid hA
        clear hA
        go_wp2_with (go_at_call 16; refine (HA.out _).mono ?_; rintro e w' ⟨rfl, rfl⟩)
        go_round
        case rel => exact ⟨k + 1, by omega, rfl, by go_num⟩
        case measure => simp [intOf]; omega
      · obtain rfl : k = n := by omega
        clear hlt
        have hAf := fun w => After_any (t + k) x 0 false w hT hX h0
        obtain ⟨y, z, hyz⟩ : ∃ y z, Bat.after (t + k) x 0 false = (y, z) := ⟨_, _, rfl⟩
        have h16 : (k : Int) < 20000 → z = 16 := fun h => by
          have := HS2.out (by have := HN.out; omega)
          rw [← HN.out, ← HX.out, hyz] at this; exact this
        rw [hyz] at hAf
        have HAf := Lib.hid hAf
        clear hAf hyz
        by_cases hk2 : (k : Int) < 20000
        · have hz16 := h16 hk2
          subst hz16
          clear h16
          go_wp2_with fail
          refine (HAf.out _).mono ?_
          rintro e w' ⟨rfl, rfl⟩
          go_wp2_with fail
          refine (HAm.out _).mono ?_
          rintro e w' ⟨rfl, rfl⟩
          go_wp2_with fail
          refine (HT.out m _ hTm).mono ?_
          rintro e w' ⟨rfl, rfl⟩
          go_wp2
          go_ret
          exact ⟨rfl, HBEL.out⟩
        · have hk3 : 20000 ≤ (k : Int) := by omega
          clear h16 hk2
          rcases (show (z == 16) = true ∨ (z == 16) = false by cases (z == 16) <;> simp) with z16 | z16
          all_goals
            go_wp2_with fail
            refine (HAf.out _).mono ?_
            rintro e w' ⟨rfl, rfl⟩
            go_wp2_with fail
            refine (HAm.out _).mono ?_
            rintro e w' ⟨rfl, rfl⟩
            go_wp2_with fail
            refine (HT.out m _ hTm).mono ?_
            rintro e w' ⟨rfl, rfl⟩
            go_wp2
            go_ret
            exact ⟨rfl, HBEL.out⟩
  · have hTc1 : I64 (c + 1) := by unfold I64; omega
    have g2 := G2.out (by omega)
    rw [← HN.out] at g2
    have cne : (c == 1000000) = false := by simpa using hmax
    clear hmax
    go_enter Try.func6, Try.ntmps6
    go_wp2_with (first
      | (go_at_call 8; refine (small_any _).mono ?_; rintro e w1 ⟨rfl, hbel⟩)
      | (go_at_call 15; refine (HTC.out _).mono ?_; rintro e w' ⟨rfl, rfl⟩))
    have HBEL := Lib.hid hbel
    clear hbel
    go_loop [7, 8] (fun v i => ∃ k : Nat, k ≤ n ∧ v = .int .i64 (Bat.left t c k) ∧ i = .int .i64 k) (fun _ i => n - (intOf i).toNat)
    case atStart => exact ⟨0, by omega, rfl, rfl⟩
    case round =>
      obtain ⟨k, hk, rfl, rfl⟩ := hrel
      have hb := HLB.out k
      obtain ⟨x, hx⟩ : ∃ x, x = Bat.left t c k := ⟨_, rfl⟩
      rw [← hx] at hb ⊢
      have hX : I64 x := by unfold I64; omega
      have HX := Lib.hid hx
      clear hx hb
      have hT : I64 (t + k) := by unfold I64; omega
      have h0 : I64 0 := by unfold I64; omega
      by_cases hlt : k < n
      · have hA : ∀ w, Calls Try.prog 16 #[.int .i64 (t + k), .int .i64 x, .int .i64 0, .bool true] w fun e w' => e = .returned (.tuple #[.int .i64 (Bat.left t c (k + 1)), .int .i64 0]) ∧ w = w' := fun w => by
          have h := After_any (t + k) x 0 true w hT hX h0
          have e2 := HS1.out k (by have := HN.out; omega)
          have e1 : (Bat.after (t + k) (Bat.left t c k) 0 true).1 = Bat.left t c (k + 1) := by rw [Bat.after_true, Bat.left_succ]
          rw [← HX.out] at e1 e2
          rw [e1, e2] at h; exact h
        have HA := Lib.hid hA
        clear hA
        go_wp2_with (go_at_call 16; refine (HA.out _).mono ?_; rintro e w' ⟨rfl, rfl⟩)
        go_round
        case rel => exact ⟨k + 1, by omega, rfl, by go_num⟩
        case measure => simp [intOf]; omega
      · obtain rfl : k = n := by omega
        clear hlt
        have hAf := fun w => After_any (t + k) x 0 false w hT hX h0
        obtain ⟨y, z, hyz⟩ : ∃ y z, Bat.after (t + k) x 0 false = (y, z) := ⟨_, _, rfl⟩
        have h16 : (k : Int) < 20000 → z = 16 := fun h => by
          have := HS2.out (by have := HN.out; omega)
          rw [← HN.out, ← HX.out, hyz] at this; exact this
        rw [hyz] at hAf
        have HAf := Lib.hid hAf
        clear hAf hyz
        by_cases hk2 : (k : Int) < 20000
        · have hz16 := h16 hk2
          subst hz16
          clear h16
          go_wp2_with fail
          refine (HAf.out _).mono ?_
          rintro e w' ⟨rfl, rfl⟩
          go_wp2_with fail
          refine (HAm.out _).mono ?_
          rintro e w' ⟨rfl, rfl⟩
          go_wp2_with fail
          refine (HT.out m _ hTm).mono ?_
          rintro e w' ⟨rfl, rfl⟩
          go_wp2_with fail
          refine (HT.out (c + 1) _ hTc1).mono ?_
          rintro e w' ⟨rfl, rfl⟩
          go_wp2
          go_ret
          exact ⟨rfl, HBEL.out⟩
        · have hk3 : 20000 ≤ (k : Int) := by omega
          clear h16 hk2
          rcases (show (z == 16) = true ∨ (z == 16) = false by cases (z == 16) <;> simp) with z16 | z16
          all_goals
            go_wp2_with fail
            refine (HAf.out _).mono ?_
            rintro e w' ⟨rfl, rfl⟩
            go_wp2_with fail
            refine (HAm.out _).mono ?_
            rintro e w' ⟨rfl, rfl⟩
            go_wp2_with fail
            refine (HT.out m _ hTm).mono ?_
            rintro e w' ⟨rfl, rfl⟩
            go_wp2_with fail
            refine (HT.out (c + 1) _ hTc1).mono ?_
            rintro e w' ⟨rfl, rfl⟩
            go_wp2
            go_ret
            exact ⟨rfl, HBEL.out⟩
end Go.Proofs.Ytmfgdocbmgmopaa
