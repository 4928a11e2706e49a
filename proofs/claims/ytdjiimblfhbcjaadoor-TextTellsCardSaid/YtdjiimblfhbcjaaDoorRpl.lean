/- The references' numbers in plain words. -/
import Derived.Test.YtdjiimblfhbcjaaDoorLxD
namespace Go.Proofs.YtdjiimblfhbcjaaDoor
open Go.RowKit

theorem itoa_digit (n : Int) (h0 : 0 ≤ n) (h1 : n < 10) : Lib.itoa n = [UInt8.ofNat (48 + n.toNat)] := by
  rw [Lib.itoa, if_neg (by omega), Lib.decDigits, dif_pos (by omega)]
theorem itoa_step (n : Int) (h : 10 ≤ n) : Lib.itoa n = Lib.itoa (n / 10) ++ Lib.itoa (n % 10) := by
  rw [itoa_digit (n % 10) (by omega) (by omega), Lib.itoa, if_neg (by omega), Lib.decDigits, dif_neg (by omega), Lib.itoa, if_neg (by omega)]
  rw [show (n / 10).toNat = n.toNat / 10 by omega, show (n % 10).toNat = n.toNat % 10 by omega]
theorem itoa_minus (n : Int) (h : n < 0) : Lib.itoa n = 45 :: Lib.itoa (-n) := by
  rw [Lib.itoa, if_pos h, Lib.itoa, if_neg (by omega), show (-n).toNat = n.natAbs by omega]
theorem itoa_neg_step (n : Int) (h : n ≤ -10) : Lib.itoa n = Lib.itoa (n.tdiv 10) ++ Lib.itoa (-(n.tmod 10)) := by
  have e1 : n.tdiv 10 = -((-n) / 10) := by
    have h1 : (-n).tdiv 10 = -(n.tdiv 10) := Int.neg_tdiv ..
    have h2 := Int.tdiv_eq_ediv_of_nonneg (a := -n) (b := 10) (by omega)
    omega
  have e2 : n.tmod 10 = -((-n) % 10) := by
    have h1 : (-n).tmod 10 = -(n.tmod 10) := Int.neg_tmod ..
    have h2 := Int.tmod_eq_emod_of_nonneg (a := -n) (b := 10) (by omega)
    omega
  rw [e1, e2, itoa_minus n (by omega), itoa_minus (-(-n / 10)) (by omega), itoa_step (-n) (by omega), Int.neg_neg, Int.neg_neg]; rfl
theorem dec_len : ∀ (k u : Nat), 1 ≤ k → u < 10 ^ k → (Lib.decDigits u).length ≤ k := by
  intro k
  induction k with
  | zero => intro u h; omega
  | succ k ih =>
    intro u _ hu
    rw [Lib.decDigits]
    split
    · simp
    · rename_i h10
      cases k with
      | zero => rw [Nat.zero_add, Nat.pow_one] at hu; omega
      | succ k =>
        have := ih (u / 10) (by omega) (by rw [Nat.pow_succ] at hu; omega)
        rw [List.length_append, List.length_singleton]; omega
theorem itoa_len20 (n : Int) (h0 : -9223372036854775808 ≤ n) (h1 : n ≤ 9223372036854775807) : (Lib.itoa n).length ≤ 20 := by
  unfold Lib.itoa
  split
  · have := dec_len 19 n.natAbs (by omega) (by have e : (10 : Nat) ^ 19 = 10000000000000000000 := by decide
                                               omega)
    rw [List.length_cons]; omega
  · have := dec_len 19 n.toNat (by omega) (by have e : (10 : Nat) ^ 19 = 10000000000000000000 := by decide
                                              omega)
    omega
/-- What the reference reckons: the negative of what the digits spell, wrapped. -/
def accN (z : Int) : List UInt8 → Int
  | [] => z
  | c :: r => accN (wrap64 (wrap64 (z * 10) - ((c.toNat : Int) - 48))) r
theorem accN_snoc (z : Int) (l : List UInt8) (c : UInt8) : accN z (l ++ [c]) = wrap64 (wrap64 (accN z l * 10) - ((c.toNat : Int) - 48)) := by
  induction l generalizing z with
  | nil => rfl
  | cons d l ih => rw [List.cons_append, accN, accN, ih]
theorem wrap_in (n : Int) (h : -9223372036854775808 ≤ n ∧ n ≤ 9223372036854775807) : wrap64 n = n := by
  unfold wrap64; omega
theorem accN_dec (u : Nat) (h : u ≤ 9223372036854775808) : accN 0 (Lib.decDigits u) = -(u : Int) := by
  induction u using Nat.strongRecOn with
  | _ u ih =>
    rw [Lib.decDigits]
    split
    · rename_i h10
      rw [accN, accN, dig_ofNat u h10, wrap_in (0 * 10) (by omega), wrap_in _ (by omega)]; omega
    · rename_i h10
      rw [accN_snoc, ih (u / 10) (by omega) (by omega), dig_ofNat (u % 10) (by omega), wrap_in (-((u / 10 : Nat) : Int) * 10) (by omega), wrap_in _ (by omega)]; omega
/-- The digits of a numeral: what stands behind a minus sign. -/
def digs : List UInt8 → List UInt8
  | 45 :: r => r
  | l => l
theorem digs_minus (r : List UInt8) : digs (45 :: r) = r := rfl
theorem digs_plain (c : UInt8) (r : List UInt8) (h : c ≠ 45) : digs (c :: r) = c :: r := by
  unfold digs
  split
  · rename_i h1; injection h1 with h1; exact absurd h1 h
  · rfl
/-- What the reference's Int comes to before it compares. -/
def refN (l : List UInt8) : Int := if l.head? = some 45 then accN 0 (digs l) else wrap64 (-(accN 0 (digs l)))
theorem itoa_shape (v : Int) : (v < 0 ∧ Lib.itoa v = 45 :: Lib.decDigits v.natAbs) ∨ (0 ≤ v ∧ Lib.itoa v = Lib.decDigits v.toNat ∧ (Lib.itoa v).head? ≠ some 45) := by
  by_cases h : v < 0
  · exact .inl ⟨h, by rw [Lib.itoa, if_pos h]⟩
  · have e : Lib.itoa v = Lib.decDigits v.toNat := by rw [Lib.itoa, if_neg h]
    refine .inr ⟨by omega, e, ?_⟩
    rw [e]
    cases hd : Lib.decDigits v.toNat with
    | nil => simp
    | cons c r =>
      have := dec_dig v.toNat c (by rw [hd]; exact List.mem_cons_self ..)
      intro e2
      simp only [List.head?_cons, Option.some.injEq] at e2
      rw [e2] at this; revert this; decide
theorem refN_itoa (v : Int) (h0 : -9223372036854775808 ≤ v) (h1 : v ≤ 9223372036854775807) : refN (Lib.itoa v) = v := by
  unfold refN
  rcases itoa_shape v with ⟨h, e⟩ | ⟨h, e, hh⟩
  · rw [e, List.head?_cons, if_pos rfl, digs_minus, accN_dec _ (by omega)]; omega
  · rw [if_neg hh]
    have hd : digs (Lib.itoa v) = Lib.decDigits v.toNat := by
      rw [e]
      cases hd : Lib.decDigits v.toNat with
      | nil => exact absurd hd (dec_ne _)
      | cons c r =>
        rw [digs_plain]
        rintro rfl
        rw [e, hd] at hh; exact hh rfl
    rw [hd, accN_dec _ (by omega), wrap_in] <;> omega
theorem intOfB_refN (l : List UInt8) : intOfB l = if Lib.itoa (refN l) = l ∧ -9223372036854775808 ≤ refN l ∧ refN l ≤ 9223372036854775807 then some (refN l) else none := by
  split
  · rename_i h
    have := intOfB_itoa (refN l) h.2.1 h.2.2
    rw [h.1] at this; exact this
  · rename_i h
    cases hi : intOfB l with
    | none => rfl
    | some v =>
      have h1 := intOfB_back hi
      have h2 := intOfB_bd hi
      exfalso; apply h
      have h3 : refN l = v := by rw [← h1]; exact refN_itoa v h2.1 h2.2
      rw [h3]; exact ⟨h1, h2⟩
theorem accN_bd (z : Int) (l : List UInt8) (h : -9223372036854775808 ≤ z ∧ z ≤ 9223372036854775807) : -9223372036854775808 ≤ accN z l ∧ accN z l ≤ 9223372036854775807 := by
  induction l generalizing z with
  | nil => exact h
  | cons c l ih => exact ih _ (by unfold wrap64; omega)
theorem refN_bd (l : List UInt8) : -9223372036854775808 ≤ refN l ∧ refN l ≤ 9223372036854775807 := by
  unfold refN
  split
  · exact accN_bd _ _ (by omega)
  · unfold wrap64; omega
theorem intOfB_yes {l : List UInt8} (h : Lib.itoa (refN l) = l) : intOfB l = some (refN l) := by
  rw [intOfB_refN, if_pos ⟨h, (refN_bd l).1, (refN_bd l).2⟩]
theorem intOfB_not {l : List UInt8} (h : Lib.itoa (refN l) ≠ l) : intOfB l = none := by
  rw [intOfB_refN, if_neg (fun x => h x.1)]
theorem intOfB_long {l : List UInt8} (h : 20 < l.length ∨ l.length = 0) : intOfB l = none := by
  cases hi : intOfB l with
  | none => rfl
  | some v =>
    have h1 := intOfB_back hi
    have h2 := intOfB_bd hi
    have h3 := itoa_len20 v h2.1 h2.2
    rw [h1] at h3
    rcases h with h | h
    · omega
    · have : l = [] := List.eq_nil_of_length_eq_zero h
      subst this
      exfalso
      rcases itoa_shape v with ⟨_, e⟩ | ⟨_, e, _⟩
      · rw [h1] at e; cases e
      · rw [h1] at e; exact dec_ne _ e.symm
theorem intOfB_nodigit {l : List UInt8} {k : Nat} {c : UInt8} (hk : l[k]? = some c) (hc : ¬ (48 ≤ c.toNat ∧ c.toNat ≤ 57)) (h0 : k = 0 → c ≠ 45) : intOfB l = none := by
  cases hi : intOfB l with
  | none => rfl
  | some v =>
    have h1 := intOfB_back hi
    exfalso
    rcases itoa_shape v with ⟨_, e⟩ | ⟨_, e, _⟩
    · rw [← h1, e] at hk
      cases k with
      | zero => simp at hk; exact h0 rfl hk.symm
      | succ k =>
        rw [List.getElem?_cons_succ] at hk
        exact hc (dec_dig _ c (List.mem_of_getElem? hk))
    · rw [← h1, e] at hk
      exact hc (dec_dig _ c (List.mem_of_getElem? hk))
end Go.Proofs.YtdjiimblfhbcjaaDoor
