/- Parts BatS, BatW, BatR of this claim, laid one behind the other: walks and the plain laws behind them; each contract states its own conditions. -/
import Derived.Test.YtfcbcpfnaadpeaaGreatDoorMB
import Derived.WalkKit
import Derived.Test.YtfcbcpfnaadpeaaGreatDoorRows
import Derived.WalkSpells
import Derived.WalkLawsBesides
import Derived.Lib.Hide
import Derived.Handy
namespace Go.Proofs.YtfcbcpfnaadpeaaGreatDoor
set_option maxRecDepth 100000
set_option maxHeartbeats 64000000
open Go.RowKit
def I64 (n : Int) : Prop := -9223372036854775808 ≤ n ∧ n ≤ 9223372036854775807
theorem ret_int {k : IntKind} {a b : Int} (h : a = b) : Ending.returned (.int k a) = .returned (.int k b) := by rw [h]
theorem ret_bool {a b : Bool} (h : a = b) : Ending.returned (.bool a) = .returned (.bool b) := by rw [h]
theorem ret_int2 {k j : IntKind} {a b c d : Int} (h : a = b ∧ c = d) : Ending.returned (.tuple #[.int k a, .int j c]) = .returned (.tuple #[.int k b, .int j d]) := by rw [h.1, h.2]
namespace Bat
def base (act : Int) (laden : Bool) : Int :=
 if act = 0 ∨ act = 8 then 1 else if act = 7 then 3 else
 if act = 1 ∨ act = 2 ∨ act = 3 ∨ act = 4 then (if laden then 4 else 2) else
 if act = 5 then (if laden then 7 else 5) else if act = 6 then (if laden then 3 else 1) else 0
theorem base_bd (act : Int) (laden : Bool) : 0 ≤ base act laden ∧ base act laden ≤ 7 := by
 unfold base; cases laden <;> simp only [Bool.false_eq_true, if_true, if_false] <;> (repeat' split) <;> omega
def age (tick : Int) : Int := (if tick < 0 then 0 else if 20000 < tick then 20000 else tick) / 1000
theorem age_bd (t : Int) : 0 ≤ age t ∧ age t ≤ 20 := by unfold age; (repeat' split) <;> omega
def cost (tick act : Int) (laden : Bool) : Int := (base act laden * (10 + age tick) + 9) / 10
theorem prod_bd (b g : Int) (hb : 0 ≤ b ∧ b ≤ 7) (hg : 0 ≤ g ∧ g ≤ 20) : 0 ≤ b * (10 + g) ∧ b * (10 + g) ≤ 210 :=
 ⟨Int.mul_nonneg hb.1 (by omega), Int.le_trans (Int.mul_le_mul hb.2 (show 10 + g ≤ 30 by omega) (by omega) (by omega)) (by decide)⟩
theorem cost_bd (t a : Int) (b : Bool) : 0 ≤ cost t a b ∧ cost t a b ≤ 21 := by
 have := prod_bd _ _ (base_bd a b) (age_bd t); unfold cost; omega
theorem cost_wrap (b g : Int) (hb : 0 ≤ b ∧ b ≤ 7) (hg : 0 ≤ g ∧ g ≤ 20) : wrap64 ((wrap64 (wrap64 (b * (10 + g)) + 9)).tdiv 10) = (b * (10 + g) + 9) / 10 := by
 have := prod_bd b g hb hg
 rw [IntWalk.wrap64_in (b * (10 + g)) (by omega), IntWalk.wrap64_in (b * (10 + g) + 9) (by omega), Int.tdiv_eq_ediv_of_nonneg (by omega), IntWalk.wrap64_in _ (by omega)]
def laden (act : Int) (b : Bool) : Bool := act == 7 || b && act != 8
def spend (charge cost : Int) : Int × Int :=
 if charge < 0 ∨ 1000000 < charge ∨ cost < 0 then (charge, 1) else if charge < cost then (charge, 16) else (charge - cost, 0)
def after (tick charge act : Int) (b : Bool) : Int × Int :=
 if charge < 0 ∨ 1000000 < charge ∨ act < 0 ∨ 10 ≤ act then (charge, 1) else
 if act = 9 then (if 1000000 < charge + 20 then 1000000 else charge + 20, 0) else spend charge (cost tick act b)
theorem spend_bd (c n : Int) (h : I64 c) (hn : 0 ≤ n) : I64 (spend c n).1 := by
 obtain ⟨h1, h2⟩ := h; unfold I64 spend; (repeat' split) <;> (try dsimp only) <;> omega
theorem after_bd (t c a : Int) (b : Bool) (h : I64 c) : I64 (after t c a b).1 := by
 have hn := (cost_bd t a b).1
 have hs := spend_bd c _ h hn
 obtain ⟨h1, h2⟩ := h
 unfold I64 after at *; (repeat' split) <;> (try dsimp only) <;> omega
def sum (tick : Int) : List Int → Bool → Int
 | [], _ => 0
 | a :: l, b => cost tick a b + sum (tick + 1) l (laden a b)
def run (tick charge : Int) : List Int → Bool → Int × Nat
 | [], _ => (charge, 0)
 | a :: l, b => if (after tick charge a b).2 = 0 then
     ((run (tick + 1) (after tick charge a b).1 l (laden a b)).1, (run (tick + 1) (after tick charge a b).1 l (laden a b)).2 + 1) else (charge, 0)
end Bat
theorem Base_any (act : Int) (laden : Bool) (w : World) (h : I64 act) :
 Calls Tryz.prog 248 #[.int .i64 act, .bool laden] w fun e w' => e = .returned (.int .i64 (Bat.base act laden)) ∧ w = w' := by
 obtain ⟨h1, h2⟩ := h
 cases laden
 all_goals
  go_enter Tryz.func248, Tryz.ntmps248
  go_wp2
  all_goals
   go_ret
   refine ⟨ret_int ?_, rfl⟩
   simp only [beq_iff_eq, beq_eq_false_iff_ne, ne_eq, wrap64] at *
   unfold Bat.base
   simp only [Bool.false_eq_true, if_true, if_false]
   (repeat' split) <;> first | rfl | omega
theorem Cost_any (tick act : Int) (laden : Bool) (w : World) (ht : I64 tick) (ha : I64 act) :
 Calls Tryz.prog 187 #[.int .i64 tick, .int .i64 act, .bool laden] w fun e w' => e = .returned (.int .i64 (Bat.cost tick act laden)) ∧ w = w' := by
 have hb := Bat.base_bd act laden
 obtain ⟨t1, t2⟩ := ht
 go_enter Tryz.func187, Tryz.ntmps187
 go_wp2_with (go_at_call 248; refine (Base_any _ _ _ ha).mono ?_; rintro e w' ⟨rfl, rfl⟩)
 · go_ret
   refine ⟨ret_int ((Bat.cost_wrap _ 20 hb (by omega)).trans ?_), rfl⟩
   have : Bat.age tick = 20 := by unfold Bat.age; (repeat' split) <;> first | omega | (split at *; omega)
   unfold Bat.cost; rw [this]
 · go_ret
   refine ⟨ret_int ((Bat.cost_wrap _ 0 hb (by omega)).trans ?_), rfl⟩
   have : Bat.age tick = 0 := by unfold Bat.age; (repeat' split) <;> omega
   unfold Bat.cost; rw [this]
 · have h20 : tick ≤ 20000 := by split at * <;> omega
   go_ret
   refine ⟨ret_int ((Bat.cost_wrap _ (tick / 1000) hb (by omega)).trans ?_), rfl⟩
   have : Bat.age tick = tick / 1000 := by unfold Bat.age; (repeat' split) <;> omega
   unfold Bat.cost; rw [this]
theorem isCharge_any (n : Int) (w : World) :
 Calls Tryz.prog 185 #[.int .i64 n] w fun e w' => e = .returned (.bool (decide (0 ≤ n ∧ n ≤ 1000000))) ∧ w = w' := by
 go_enter Tryz.func185, Tryz.ntmps185
 go_wp2
 all_goals
  go_ret
  refine ⟨ret_bool ?_, rfl⟩
  simp <;> omega
theorem Spend_any (c n : Int) (w : World) (hc : I64 c) (hn : I64 n) :
 Calls Tryz.prog 186 #[.int .i64 c, .int .i64 n] w fun e w' => e = .returned (.tuple #[.int .i64 (Bat.spend c n).1, .int .i64 (Bat.spend c n).2]) ∧ w = w' := by
 obtain ⟨c1, c2⟩ := hc
 obtain ⟨n1, n2⟩ := hn
 by_cases h1 : 0 ≤ c ∧ c ≤ 1000000
 · have d1 : decide (0 ≤ c ∧ c ≤ 1000000) = true := by simpa using h1
   obtain ⟨h1, h2⟩ := h1
   by_cases h3 : n < 0
   all_goals
    go_enter Tryz.func186, Tryz.ntmps186
    go_wp2_with (go_at_call 185; refine (isCharge_any _ _).mono ?_; rintro e w' ⟨rfl, rfl⟩)
    all_goals
     go_ret2
     refine ⟨ret_int2 ?_, rfl⟩
     unfold Bat.spend
     (repeat' split) <;> first | (exfalso; omega) | exact ⟨rfl, rfl⟩ | (exfalso; rename_i h; omega)
 · have d1 : decide (0 ≤ c ∧ c ≤ 1000000) = false := by simpa using h1
   go_enter Tryz.func186, Tryz.ntmps186
   go_wp2_with (go_at_call 185; refine (isCharge_any _ _).mono ?_; rintro e w' ⟨rfl, rfl⟩)
   all_goals
    go_ret2
    refine ⟨ret_int2 ?_, rfl⟩
    unfold Bat.spend
    rw [if_pos (by omega)]; exact ⟨rfl, rfl⟩
theorem After_any (t c a : Int) (b : Bool) (w : World) (ht : I64 t) (hc : I64 c) (ha : I64 a) :
 Calls Tryz.prog 103 #[.int .i64 t, .int .i64 c, .int .i64 a, .bool b] w fun e w' => e = .returned (.tuple #[.int .i64 (Bat.after t c a b).1, .int .i64 (Bat.after t c a b).2]) ∧ w = w' := by
 have hn := Bat.cost_bd t a b
 have hN : I64 (Bat.cost t a b) := by unfold I64; omega
 have hc' := hc
 obtain ⟨c1, c2⟩ := hc
 have a0 := ha
 obtain ⟨a1, a2⟩ := ha
 by_cases h1 : 0 ≤ c ∧ c ≤ 1000000
 · have d1 : decide (0 ≤ c ∧ c ≤ 1000000) = true := by simpa using h1
   obtain ⟨h1, h2⟩ := h1
   by_cases h3 : a < 0
   · go_enter Tryz.func103, Tryz.ntmps103
     go_wp2_with (go_at_call 185; refine (isCharge_any _ _).mono ?_; rintro e w' ⟨rfl, rfl⟩)
     all_goals
      go_ret2
      refine ⟨ret_int2 ?_, rfl⟩
      unfold Bat.after
      rw [if_pos (by omega)]; exact ⟨rfl, rfl⟩
   by_cases h4 : 10 ≤ a
   · go_enter Tryz.func103, Tryz.ntmps103
     go_wp2_with (go_at_call 185; refine (isCharge_any _ _).mono ?_; rintro e w' ⟨rfl, rfl⟩)
     all_goals
      go_ret2
      refine ⟨ret_int2 ?_, rfl⟩
      unfold Bat.after
      rw [if_pos (by omega)]; exact ⟨rfl, rfl⟩
   by_cases h5 : a = 9
   · subst h5
     go_enter Tryz.func103, Tryz.ntmps103
     go_wp2_with (go_at_call 185; refine (isCharge_any _ _).mono ?_; rintro e w' ⟨rfl, rfl⟩)
     all_goals
      go_ret2
      refine ⟨ret_int2 ?_, rfl⟩
      unfold Bat.after
      rw [if_neg (by omega), if_pos rfl]; (repeat' split) <;> first | exact ⟨rfl, rfl⟩ | (exfalso; omega)
   · have h5' : (a == 9) = false := by simpa using h5
     go_enter Tryz.func103, Tryz.ntmps103
     go_wp2_with (first
      | (go_at_call 185; refine (isCharge_any _ _).mono ?_; rintro e w' ⟨rfl, rfl⟩)
      | (go_at_call 187; refine (Cost_any _ _ _ _ ht a0).mono ?_; rintro e w' ⟨rfl, rfl⟩)
      | (go_at_call 186; refine (Spend_any _ _ _ hc' hN).mono ?_; rintro e w' ⟨rfl, rfl⟩))
     all_goals
      go_ret2
      refine ⟨ret_int2 ?_, rfl⟩
      unfold Bat.after
      rw [if_neg (by omega), if_neg (by omega)]; exact ⟨rfl, rfl⟩
 · have d1 : decide (0 ≤ c ∧ c ≤ 1000000) = false := by simpa using h1
   go_enter Tryz.func103, Tryz.ntmps103
   go_wp2_with (go_at_call 185; refine (isCharge_any _ _).mono ?_; rintro e w' ⟨rfl, rfl⟩)
   all_goals
    go_ret2
    refine ⟨ret_int2 ?_, rfl⟩
    unfold Bat.after
    rw [if_pos (by omega)]; exact ⟨rfl, rfl⟩
end Go.Proofs.YtfcbcpfnaadpeaaGreatDoor
