/- Package battery in plain functions: what the code computes. -/
import Derived.WalkKit
namespace Go.Proofs.Ytmfgdocbmgmopaa
open Go.RowKit

/-- An int of Go. -/
def I64 (n : Int) : Prop := -9223372036854775808 ≤ n ∧ n ≤ 9223372036854775807
theorem ret_int {k : IntKind} {a b : Int} (h : a = b) : Ending.returned (.int k a) = .returned (.int k b) := by rw [h]
theorem ret_bool {a b : Bool} (h : a = b) : Ending.returned (.bool a) = .returned (.bool b) := by rw [h]
theorem ret_int2 {k j : IntKind} {a b c d : Int} (h : a = b ∧ c = d) : Ending.returned (.tuple #[.int k a, .int j c]) = .returned (.tuple #[.int k b, .int j d]) := by rw [h.1, h.2]

namespace Bat
def base (act : Int) (laden : Bool) : Int :=
  if act = 0 ∨ act = 8 then 1 else if act = 7 then 3 else
  if act = 1 ∨ act = 2 ∨ act = 3 ∨ act = 4 then (if laden then 4 else 2) else
  if act = 5 then (if laden then 7 else 5) else if act = 6 then (if laden then 3 else 1) else 0
theorem base_bd (act : Int) (laden : Bool) : 0 ≤ base act laden ∧ base act laden ≤ 7 := by
  unfold base; cases laden <;> simp only [Bool.false_eq_true, if_true, if_false] <;> (repeat' split) <;> omega
def age (tick : Int) : Int := (if tick < 0 then 0 else if 20000 < tick then 20000 else tick) / 1000
theorem age_bd (t : Int) : 0 ≤ age t ∧ age t ≤ 20 := by unfold age; (repeat' split) <;> omega
def cost (tick act : Int) (laden : Bool) : Int := (base act laden * (10 + age tick) + 9) / 10
theorem prod_bd (b g : Int) (hb : 0 ≤ b ∧ b ≤ 7) (hg : 0 ≤ g ∧ g ≤ 20) : 0 ≤ b * (10 + g) ∧ b * (10 + g) ≤ 210 :=
  ⟨Int.mul_nonneg hb.1 (by omega), Int.le_trans (Int.mul_le_mul hb.2 (show 10 + g ≤ 30 by omega) (by omega) (by omega)) (by decide)⟩
theorem cost_bd (t a : Int) (b : Bool) : 0 ≤ cost t a b ∧ cost t a b ≤ 21 := by
  have := prod_bd _ _ (base_bd a b) (age_bd t); unfold cost; omega
theorem cost_wrap (b g : Int) (hb : 0 ≤ b ∧ b ≤ 7) (hg : 0 ≤ g ∧ g ≤ 20) : wrap64 ((wrap64 (wrap64 (b * (10 + g)) + 9)).tdiv 10) = (b * (10 + g) + 9) / 10 := by
  have := prod_bd b g hb hg
  rw [IntWalk.wrap64_in (b * (10 + g)) (by omega), IntWalk.wrap64_in (b * (10 + g) + 9) (by omega), Int.tdiv_eq_ediv_of_nonneg (by omega), IntWalk.wrap64_in _ (by omega)]
def laden (act : Int) (b : Bool) : Bool := act == 7 || b && act != 8
/-- What is left, and the error. -/
def spend (charge cost : Int) : Int × Int :=
  if charge < 0 ∨ 1000000 < charge ∨ cost < 0 then (charge, 1) else if charge < cost then (charge, 16) else (charge - cost, 0)
def after (tick charge act : Int) (b : Bool) : Int × Int :=
  if charge < 0 ∨ 1000000 < charge ∨ act < 0 ∨ 10 ≤ act then (charge, 1) else
  if act = 9 then (if 1000000 < charge + 20 then 1000000 else charge + 20, 0) else spend charge (cost tick act b)
theorem spend_bd (c n : Int) (h : I64 c) (hn : 0 ≤ n) : I64 (spend c n).1 := by
  obtain ⟨h1, h2⟩ := h; unfold I64 spend; (repeat' split) <;> (try dsimp only) <;> omega
theorem after_bd (t c a : Int) (b : Bool) (h : I64 c) : I64 (after t c a b).1 := by
  have hn := (cost_bd t a b).1
  have hs := spend_bd c _ h hn
  obtain ⟨h1, h2⟩ := h
  unfold I64 after at *; (repeat' split) <;> (try dsimp only) <;> omega
def sum (tick : Int) : List Int → Bool → Int
  | [], _ => 0
  | a :: l, b => cost tick a b + sum (tick + 1) l (laden a b)
def run (tick charge : Int) : List Int → Bool → Int × Nat
  | [], _ => (charge, 0)
  | a :: l, b => if (after tick charge a b).2 = 0 then
      ((run (tick + 1) (after tick charge a b).1 l (laden a b)).1, (run (tick + 1) (after tick charge a b).1 l (laden a b)).2 + 1) else (charge, 0)
/-- n: how many ticks may still come. -/
def stay (tick charge : Int) : Nat → Nat
  | 0 => 0
  | n + 1 => if (after tick charge 0 false).2 = 0 then stay (tick + 1) (after tick charge 0 false).1 n + 1 else 0
def worst (tick : Int) : Int := cost tick 5 true
theorem base_le (a : Int) (b : Bool) : base a b ≤ 7 := (base_bd a b).2
theorem cost_le_worst (t a : Int) (b : Bool) : cost t a b ≤ worst t := by
  have hg := age_bd t
  have h7 : base 5 true = 7 := rfl
  have : base a b * (10 + age t) ≤ 7 * (10 + age t) := Int.mul_le_mul_of_nonneg_right (base_le a b) (by omega)
  unfold worst cost; rw [h7]; omega
theorem sum_bd (l : List Int) : ∀ (t : Int) (b : Bool), 0 ≤ sum t l b ∧ sum t l b ≤ 21 * l.length := by
  induction l with
  | nil => intro t b; simp [sum]
  | cons a l ih => intro t b; have := ih (t + 1) (laden a b); have := cost_bd t a b; simp only [sum, List.length_cons]; omega
end Bat

/-- A slice whose elements are one cell each: what its elements are. -/
def SliceC (w : World) (v : Value) (xs : List Value) : Prop :=
  ∃ a cap, v = .slice a xs.length cap ∧ xs.length ≤ maxLen ∧ ∀ i, (h : i < xs.length) → ∃ b off, a = some ⟨b, off, none⟩ ∧ w.cell? ⟨b, off + i, none⟩ = some xs[i]
end Go.Proofs.Ytmfgdocbmgmopaa
