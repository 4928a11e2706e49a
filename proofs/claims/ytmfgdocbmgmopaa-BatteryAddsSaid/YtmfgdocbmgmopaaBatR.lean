/- Contracts of package battery's After, Ticks, Worst, and of the reference's functions. -/
import Derived.Test.YtmfgdocbmgmopaaBatW
import Derived.Lib.Hide
import Derived.Handy
namespace Go.Proofs.Ytmfgdocbmgmopaa
open Go.RowKit

set_option maxHeartbeats 400000 in
theorem After_any (t c a : Int) (b : Bool) (w : World) (ht : I64 t) (hc : I64 c) (ha : I64 a) :
    Calls Try.prog 16 #[.int .i64 t, .int .i64 c, .int .i64 a, .bool b] w fun e w' => e = .returned (.tuple #[.int .i64 (Bat.after t c a b).1, .int .i64 (Bat.after t c a b).2]) ∧ w = w' := by
  have hn := Bat.cost_bd t a b
  have hN : I64 (Bat.cost t a b) := by unfold I64; omega
  have hc' := hc
  obtain ⟨c1, c2⟩ := hc
  have a0 := ha
  obtain ⟨a1, a2⟩ := ha
  by_cases h1 : 0 ≤ c ∧ c ≤ 1000000
  · have d1 : decide (0 ≤ c ∧ c ≤ 1000000) = true := by simpa using h1
    obtain ⟨h1, h2⟩ := h1
    by_cases h3 : a < 0
    · go_enter Try.func16, Try.ntmps16
      go_wp2_with (go_at_call 30; refine (isCharge_any _ _).mono ?_; rintro e w' ⟨rfl, rfl⟩)
      all_goals
       go_ret2
       refine ⟨ret_int2 ?_, rfl⟩
       unfold Bat.after
       rw [if_pos (by omega)]; exact ⟨rfl, rfl⟩
    by_cases h4 : 10 ≤ a
    · go_enter Try.func16, Try.ntmps16
      go_wp2_with (go_at_call 30; refine (isCharge_any _ _).mono ?_; rintro e w' ⟨rfl, rfl⟩)
      all_goals
       go_ret2
       refine ⟨ret_int2 ?_, rfl⟩
       unfold Bat.after
       rw [if_pos (by omega)]; exact ⟨rfl, rfl⟩
    by_cases h5 : a = 9
    · subst h5
      go_enter Try.func16, Try.ntmps16
      go_wp2_with (go_at_call 30; refine (isCharge_any _ _).mono ?_; rintro e w' ⟨rfl, rfl⟩)
      all_goals
       go_ret2
       refine ⟨ret_int2 ?_, rfl⟩
       unfold Bat.after
       rw [if_neg (by omega), if_pos rfl]; (repeat' split) <;> first | exact ⟨rfl, rfl⟩ | (exfalso; omega)
    · have h5' : (a == 9) = false := by simpa using h5
      go_enter Try.func16, Try.ntmps16
      go_wp2_with (first
        | (go_at_call 30; refine (isCharge_any _ _).mono ?_; rintro e w' ⟨rfl, rfl⟩)
        | (go_at_call 9; refine (Cost_any _ _ _ _ ht a0).mono ?_; rintro e w' ⟨rfl, rfl⟩)
        | (go_at_call 22; refine (Spend_any _ _ _ hc' hN).mono ?_; rintro e w' ⟨rfl, rfl⟩))
      all_goals
       go_ret2
       refine ⟨ret_int2 ?_, rfl⟩
       unfold Bat.after
       rw [if_neg (by omega), if_neg (by omega)]; exact ⟨rfl, rfl⟩
  · have d1 : decide (0 ≤ c ∧ c ≤ 1000000) = false := by simpa using h1
    go_enter Try.func16, Try.ntmps16
    go_wp2_with (go_at_call 30; refine (isCharge_any _ _).mono ?_; rintro e w' ⟨rfl, rfl⟩)
    all_goals
      go_ret2
      refine ⟨ret_int2 ?_, rfl⟩
      unfold Bat.after
      rw [if_pos (by omega)]; exact ⟨rfl, rfl⟩

/-- Ticks, from a tick of a script on. -/
theorem Bat.stay_le (n : Nat) : ∀ t c, Bat.stay t c n ≤ n := by
  induction n with
  | zero => intro t c; exact Nat.le_refl _
  | succ n ih => intro t c; unfold Bat.stay; have := ih (t + 1) (Bat.after t c 0 false).1; split <;> omega
theorem Bat.after_zero (t c a : Int) (b : Bool) (h : (Bat.after t c a b).2 = 0) : 0 ≤ c ∧ c ≤ 1000000 ∧ 0 ≤ (Bat.after t c a b).1 ∧ (Bat.after t c a b).1 ≤ 1000000 := by
  have hn := Bat.cost_bd t a b
  unfold Bat.after Bat.spend at *; (repeat' split at *) <;> simp at h ⊢ <;> omega

set_option maxRecDepth 100000 in
set_option maxHeartbeats 400000 in
theorem Ticks_any (t c : Int) (w : World) (ht : 0 ≤ t ∧ t ≤ 20000) (hc : I64 c) :
    Calls Try.prog 15 #[.int .i64 t, .int .i64 c] w fun e w' => e = .returned (.int .i64 (Bat.stay t c 20000)) ∧ w = w' := by
  obtain ⟨t1, t2⟩ := ht
  obtain ⟨S, hS0⟩ : ∃ S, S = Bat.stay t c 20000 := ⟨_, rfl⟩
  have hs : S ≤ 20000 := by rw [hS0]; exact Bat.stay_le 20000 t c
  rw [← hS0]
  have HS0 := Lib.hid hS0
  clear hS0
  have hin : I64 0 := by unfold I64; omega
  go_enter Try.func15, Try.ntmps15
  go_wp2
  go_loop [1, 5] (fun v n => ∃ (k : Nat) (x : Int), k ≤ 20000 ∧ I64 x ∧ S = k + Bat.stay (t + k) x (20000 - k) ∧ v = .int .i64 x ∧ n = .int .i64 k) (fun _ n => 20000 - (intOf n).toNat)
  case atStart => exact ⟨0, c, by omega, hc, by rw [HS0.out]; simp, rfl, rfl⟩
  case round =>
    obtain ⟨k, x, hk, hx, hS, rfl, rfl⟩ := hrel
    have HS := Lib.hid hS
    clear hS hs
    by_cases hlt : k < 20000
    · have hT : I64 (t + k) := by unfold I64; omega
      have hst : Bat.stay (t + k) x (20000 - k) = if (Bat.after (t + k) x 0 false).2 = 0 then Bat.stay (t + (k + 1 : Nat)) (Bat.after (t + k) x 0 false).1 (20000 - (k + 1)) + 1 else 0 := by
        rw [show 20000 - k = (20000 - (k + 1)) + 1 by omega, Bat.stay, show t + (k : Int) + 1 = t + (k + 1 : Nat) by omega]
      have Hst := Lib.hid hst
      clear hst
      by_cases h0 : (Bat.after (t + k) x 0 false).2 = 0
      · have b0 : ((Bat.after (t + k) x 0 false).2 != 0) = false := by simpa using h0
        have H0 := Lib.hid h0
        clear h0
        have hb := Bat.after_bd (t + k) x 0 false hx
        go_wp2_with (go_at_call 16; refine (After_any _ _ _ _ _ hT hx hin).mono ?_; rintro e w' ⟨rfl, rfl⟩)
        go_round
        case rel => exact ⟨k + 1, _, by omega, hb, by rw [HS.out, Hst.out, if_pos H0.out]; omega, rfl, by go_num⟩
        case measure => simp [intOf]; omega
      · have b0 : ((Bat.after (t + k) x 0 false).2 != 0) = true := by simpa using h0
        have H0 := Lib.hid h0
        clear h0
        go_wp2_with (go_at_call 16; refine (After_any _ _ _ _ _ hT hx hin).mono ?_; rintro e w' ⟨rfl, rfl⟩)
        go_ret
        exact ⟨ret_int (by rw [HS.out, Hst.out, if_neg H0.out]; omega), rfl⟩
    · obtain rfl : k = 20000 := by omega
      go_wp2
      go_ret
      exact ⟨ret_int (by rw [HS.out]; simp [Bat.stay]), rfl⟩

set_option maxHeartbeats 400000 in
theorem Worst_any (t : Int) (w : World) (ht : I64 t) :
    Calls Try.prog 10 #[.int .i64 t] w fun e w' => e = .returned (.int .i64 (Bat.worst t)) ∧ w = w' := by
  go_enter Try.func10, Try.ntmps10
  go_wp2
  go_loop [3, 5] (fun v n => ∃ (k : Nat) (x : Int), k ≤ 10 ∧ 0 ≤ x ∧ x ≤ Bat.worst t ∧ (6 ≤ k → x = Bat.worst t) ∧ v = .int .i64 x ∧ n = .int .i64 k) (fun _ n => 10 - (intOf n).toNat)
  case atStart => exact ⟨0, 0, by omega, by omega, (Bat.cost_bd t 5 true).1, by omega, rfl, rfl⟩
  case round =>
    obtain ⟨k, x, hk, hx, hx2, hx3, rfl, rfl⟩ := hrel
    have hcb := Bat.cost_bd t k true
    have hcw := Bat.cost_le_worst t k true
    have h5 : k = 5 → Bat.cost t k true = Bat.worst t := fun e => by subst e; rfl
    have hK : I64 k := by unfold I64; omega
    by_cases hlt : k < 10
    · have HX := Lib.hid hx3
      have H5 := Lib.hid h5
      clear hx3 h5
      go_wp2_with (go_at_call 9; refine (Cost_any _ _ _ _ ht hK).mono ?_; rintro e w' ⟨rfl, rfl⟩)
      all_goals
        go_round
        case rel => exact ⟨k + 1, _, by omega, by omega, by omega, fun h => by have h6 := HX.out; have h7 := H5.out; omega, rfl, by go_num⟩
        case measure => simp [intOf]; omega
    · have hx4 := hx3 (by omega)
      have H4 := Lib.hid hx4
      clear hx3 hx4 h5
      go_wp2
      go_ret
      exact ⟨ret_int H4.out, rfl⟩

/-! ### The reference -/
set_option maxHeartbeats 400000 in
theorem rAct_any (a : Int) (w : World) :
    Calls Try.prog 28 #[.int .i64 a] w fun e w' => e = .returned (.bool (decide (0 ≤ a ∧ a < 10))) ∧ w = w' := by
  go_enter Try.func28, Try.ntmps28
  go_wp2
  all_goals
    go_ret
    refine ⟨ret_bool ?_, rfl⟩
    simp <;> omega

set_option maxHeartbeats 400000 in
theorem rBase_any (act : Int) (laden : Bool) (w : World) (h : I64 act) :
    Calls Try.prog 18 #[.int .i64 act, .bool laden] w fun e w' => e = .returned (.int .i64 (Bat.base act laden)) ∧ w = w' := by
  obtain ⟨h1, h2⟩ := h
  cases laden
  all_goals
   go_enter Try.func18, Try.ntmps18
   go_wp2
   all_goals
    go_ret
    refine ⟨ret_int ?_, rfl⟩
    try simp only [beq_iff_eq, beq_eq_false_iff_ne, ne_eq] at *
    unfold Bat.base
    simp only [Bool.false_eq_true, if_true, if_false]
    (repeat' split) <;> first | rfl | omega

set_option maxHeartbeats 400000 in
theorem rAge_any (t : Int) (w : World) (h : I64 t) :
    Calls Try.prog 31 #[.int .i64 t] w fun e w' => e = .returned (.int .i64 (Bat.age t)) ∧ w = w' := by
  obtain ⟨h1, h2⟩ := h
  go_enter Try.func31, Try.ntmps31
  go_wp2
  all_goals
    go_ret
    refine ⟨ret_int ?_, rfl⟩
    unfold Bat.age
    (repeat' split) <;> omega

set_option maxHeartbeats 400000 in
theorem rCost_any (tick act : Int) (laden : Bool) (w : World) (ht : I64 tick) (ha : I64 act) :
    Calls Try.prog 19 #[.int .i64 tick, .int .i64 act, .bool laden] w fun e w' => e = .returned (.int .i64 (Bat.cost tick act laden)) ∧ w = w' := by
  have hb := Bat.base_bd act laden
  have hg := Bat.age_bd tick
  have hp := Bat.prod_bd _ _ hb hg
  obtain ⟨p, hpe⟩ : ∃ p, p = Bat.base act laden * (10 + Bat.age tick) := ⟨_, rfl⟩
  have hc : Bat.cost tick act laden = (p + 9) / 10 := by rw [hpe]; rfl
  have hw : wrap64 (Bat.base act laden * (10 + Bat.age tick)) = p := by rw [IntWalk.wrap64_in _ (by omega), hpe]
  have hw2 : IntKind.i64.wrap (Bat.base act laden * (10 + Bat.age tick)) = p := by rw [IntWalk.i64_in _ (by omega), hpe]
  rw [← hpe] at hp
  clear hpe
  rw [hc]
  go_enter Try.func19, Try.ntmps19
  go_wp2_with (first
    | (go_at_call 18; refine (rBase_any _ _ _ ha).mono ?_; rintro e w' ⟨rfl, rfl⟩)
    | (go_at_call 31; refine (rAge_any _ _ ht).mono ?_; rintro e w' ⟨rfl, rfl⟩))
  all_goals
    go_ret
    exact ⟨ret_int (by omega), rfl⟩

set_option maxHeartbeats 400000 in
theorem rWorst_any (t : Int) (w : World) (ht : I64 t) :
    Calls Try.prog 20 #[.int .i64 t] w fun e w' => e = .returned (.int .i64 (Bat.worst t)) ∧ w = w' := by
  have h5 : I64 5 := by unfold I64; omega
  go_enter Try.func20, Try.ntmps20
  go_wp2_with (go_at_call 19; refine (rCost_any _ _ _ _ ht h5).mono ?_; rintro e w' ⟨rfl, rfl⟩)
  go_ret
  exact ⟨rfl, rfl⟩

set_option maxHeartbeats 400000 in
theorem rLaden_any (act : Int) (laden : Bool) (w : World) :
    Calls Try.prog 21 #[.int .i64 act, .bool laden] w fun e w' => e = .returned (.bool (Bat.laden act laden)) ∧ w = w' := by
  go_enter Try.func21, Try.ntmps21
  go_wp2
  all_goals
    go_ret
    refine ⟨ret_bool ?_, rfl⟩
    cases laden <;> simp_all [Bat.laden]

set_option maxHeartbeats 400000 in
theorem rSpend_any (c n : Int) (w : World) (hc : I64 c) (hn : I64 n) :
    Calls Try.prog 23 #[.int .i64 c, .int .i64 n] w fun e w' => e = .returned (.tuple #[.int .i64 (Bat.spend c n).1, .int .i64 (Bat.spend c n).2]) ∧ w = w' := by
  obtain ⟨c1, c2⟩ := hc
  obtain ⟨n1, n2⟩ := hn
  go_enter Try.func23, Try.ntmps23
  go_wp2
  all_goals
   go_ret2
   refine ⟨ret_int2 ?_, rfl⟩
   unfold Bat.spend
   (repeat' split) <;> first | exact ⟨rfl, rfl⟩ | (exfalso; omega) | (refine ⟨?_, rfl⟩; go_arith)

set_option maxHeartbeats 400000 in
theorem rAfter_any (t c a : Int) (b : Bool) (w : World) (ht : I64 t) (hc : I64 c) (ha : I64 a) :
    Calls Try.prog 24 #[.int .i64 t, .int .i64 c, .int .i64 a, .bool b] w fun e w' => e = .returned (.tuple #[.int .i64 (Bat.after t c a b).1, .int .i64 (Bat.after t c a b).2]) ∧ w = w' := by
  have hn := Bat.cost_bd t a b
  have hN : I64 (Bat.cost t a b) := by unfold I64; omega
  have hc' := hc
  obtain ⟨c1, c2⟩ := hc
  have a0 := ha
  obtain ⟨a1, a2⟩ := ha
  by_cases h3 : 0 ≤ a ∧ a < 10
  · have d3 : decide (0 ≤ a ∧ a < 10) = true := by simpa using h3
    obtain ⟨h3, h4⟩ := h3
    go_enter Try.func24, Try.ntmps24
    go_wp2_with (first
        | (go_at_call 28; refine (rAct_any _ _).mono ?_; rintro e w' ⟨rfl, rfl⟩)
        | (go_at_call 19; refine (rCost_any _ _ _ _ ht a0).mono ?_; rintro e w' ⟨rfl, rfl⟩)
        | (go_at_call 23; refine (rSpend_any _ _ _ hc' hN).mono ?_; rintro e w' ⟨rfl, rfl⟩))
    all_goals
       go_ret2
       refine ⟨ret_int2 ?_, rfl⟩
       unfold Bat.after
       (repeat' split) <;> first | exact ⟨rfl, rfl⟩ | (exfalso; (try simp only [beq_iff_eq, beq_eq_false_iff_ne, ne_eq] at *); omega)
  · have d3 : decide (0 ≤ a ∧ a < 10) = false := by simpa using h3
    go_enter Try.func24, Try.ntmps24
    go_wp2_with (go_at_call 28; refine (rAct_any _ _).mono ?_; rintro e w' ⟨rfl, rfl⟩)
    all_goals
       go_ret2
       refine ⟨ret_int2 ?_, rfl⟩
       unfold Bat.after
       rw [if_pos (by omega)]; exact ⟨rfl, rfl⟩
end Go.Proofs.Ytmfgdocbmgmopaa
