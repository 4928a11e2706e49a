/- Parts R9a, Rpl, R2a, R2b, R2c, R2d, R2e of this claim, laid one behind the other: walks and the plain laws behind them; each contract states its own conditions. -/
import Derived.Test.YtnccndfffmaonaaGreatDoorZC
import Derived.Test.YtnccndfffmaonaaGreatDoorZA
import Derived.Test.YtnccndfffmaonaaGreatDoorZB
import Derived.Deep.AppendLies
import Derived.Deep.RegionLaw
/- Walks of taquinref09: letter, digit, part, Word. -/
namespace Go.Proofs.YtnccndfffmaonaaGreatDoor
set_option linter.unusedSimpArgs false
open Go.RowKit

theorem letter_val (c : UInt8) : Lx.letter c = (decide (97 ≤ c.toNat ∧ c.toNat ≤ 122) || decide (65 ≤ c.toNat ∧ c.toNat ≤ 90) || decide (c.toNat = 95)) := by
  have h : (List.range 256).all (fun n => Lx.letter (UInt8.ofNat n) == (decide (97 ≤ (UInt8.ofNat n).toNat ∧ (UInt8.ofNat n).toNat ≤ 122) || decide (65 ≤ (UInt8.ofNat n).toNat ∧ (UInt8.ofNat n).toNat ≤ 90) || decide ((UInt8.ofNat n).toNat = 95))) = true := by decide +kernel
  have h2 := List.all_eq_true.1 h c.toNat (List.mem_range.2 c.toNat_lt)
  rw [beq_iff_eq, UInt8.ofNat_toNat] at h2
  exact h2
theorem r9letter_any (c : UInt8) (b : Bool) (h : Lx.letter c = b) (w : World) :
    Calls Tryz.prog 80 #[.int .u8 c.toNat] w fun e w' => e = .returned (.bool b) ∧ w = w' := by
  have HP := Lib.hid h
  clear h
  by_cases i1 : (97 : Int) ≤ (c.toNat : Int) ∧ (c.toNat : Int) ≤ 122
  · obtain ⟨i1, i2⟩ := i1
    have HV : Hid (true = b) := Lib.hid (by rw [← HP.out, letter_val]; simp; omega)
    go_enter Tryz.func80, Tryz.ntmps80
    go_wp2_with fail
    go_ret
    exact ⟨ret_bool (by first | rw [HV.out] | (rw [← HV.out]; simp; omega)), rfl⟩
  by_cases i2 : (65 : Int) ≤ (c.toNat : Int) ∧ (c.toNat : Int) ≤ 90
  · obtain ⟨i2, i3⟩ := i2
    have j : (c.toNat : Int) < 97 := by omega
    clear i1
    have HV : Hid (true = b) := Lib.hid (by rw [← HP.out, letter_val]; simp; omega)
    go_enter Tryz.func80, Tryz.ntmps80
    go_wp2_with fail
    go_ret
    exact ⟨ret_bool (by first | rw [HV.out] | (rw [← HV.out]; simp; omega)), rfl⟩
  by_cases i5 : c.toNat = 95
  · have e95 : ((c.toNat : Int) == 95) = true := beq_iff_eq.2 (by omega)
    have j1 : (90 : Int) < (c.toNat : Int) := by omega
    have j2 : (c.toNat : Int) < 97 := by omega
    have HV : Hid (true = b) := Lib.hid (by rw [← HP.out, letter_val]; simp; omega)
    clear i1 i2 i5
    go_enter Tryz.func80, Tryz.ntmps80
    go_wp2_with fail
    go_ret
    exact ⟨ret_bool (by first | rw [HV.out] | (rw [← HV.out]; simp; omega)), rfl⟩
  have e95 : ((c.toNat : Int) == 95) = false := beq_eq_false_iff_ne.2 (by omega)
  have HV : Hid (false = b) := Lib.hid (by rw [← HP.out, letter_val]; simp; omega)
  by_cases i7 : (c.toNat : Int) < 65
  · clear i1 i2 i5
    go_enter Tryz.func80, Tryz.ntmps80
    go_wp2_with fail
    go_ret
    exact ⟨ret_bool (by first | rw [HV.out] | (rw [← HV.out]; simp; omega)), rfl⟩
  by_cases i9 : (c.toNat : Int) < 97
  · have j1 : (90 : Int) < (c.toNat : Int) := by omega
    clear i1 i2 i5 i7
    go_enter Tryz.func80, Tryz.ntmps80
    go_wp2_with fail
    go_ret
    exact ⟨ret_bool (by first | rw [HV.out] | (rw [← HV.out]; simp; omega)), rfl⟩
  have j1 : (122 : Int) < (c.toNat : Int) := by omega
  clear i1 i2 i5 i7 i9
  go_enter Tryz.func80, Tryz.ntmps80
  go_wp2_with fail
  go_ret
  exact ⟨ret_bool (by first | rw [HV.out] | (rw [← HV.out]; simp; omega)), rfl⟩
theorem r9digit_any (c : UInt8) (b : Bool) (h : Lx.digit c = b) (w : World) :
    Calls Tryz.prog 81 #[.int .u8 c.toNat] w fun e w' => e = .returned (.bool b) ∧ w = w' := by
  unfold Lx.digit at h
  by_cases h1 : 48 ≤ c
  · by_cases h2 : c ≤ 57
    · have e1 : (48 : Int) ≤ (c.toNat : Int) := u8_le h1
      have e2 : (c.toNat : Int) ≤ 57 := u8_le h2
      rw [decide_eq_true h1, decide_eq_true h2] at h
      have H := Lib.hid h
      clear h h1 h2
      go_enter Tryz.func81, Tryz.ntmps81
      go_wp2_with fail
      go_ret
      exact ⟨ret_bool (by rw [← H.out]; rfl), rfl⟩
    · have e1 : (48 : Int) ≤ (c.toNat : Int) := u8_le h1
      have e2 : (57 : Int) < (c.toNat : Int) := u8_lt h2
      have e3 : decide ((c.toNat : Int) ≤ 57) = false := decide_eq_false (by omega)
      rw [decide_eq_false h2, Bool.and_false] at h
      have H := Lib.hid h
      clear h h1 h2
      go_enter Tryz.func81, Tryz.ntmps81
      go_wp2_with fail
      go_ret
      exact ⟨ret_bool H.out, rfl⟩
  · have e1 : (c.toNat : Int) < 48 := u8_lt h1
    rw [decide_eq_false h1, Bool.false_and] at h
    have H := Lib.hid h
    clear h h1
    go_enter Tryz.func81, Tryz.ntmps81
    go_wp2_with fail
    go_ret
    exact ⟨ret_bool H.out, rfl⟩
theorem r9part_any (c : UInt8) (b : Bool) (h : Lx.part c = b) (w : World) :
    Calls Tryz.prog 82 #[.int .u8 c.toNat] w fun e w' => e = .returned (.bool b) ∧ w = w' := by
  unfold Lx.part at h
  cases h1 : Lx.letter c with
  | true =>
    rw [h1] at h
    have H := Lib.hid h
    have H1 := Lib.hid h1
    clear h h1
    go_enter Tryz.func82, Tryz.ntmps82
    go_wp2_with fail
    go_at_call 80; refine (r9letter_any c true H1.out _).mono ?_; rintro e w' ⟨rfl, rfl⟩
    go_wp2_with fail
    go_ret
    exact ⟨ret_bool (by rw [← H.out]; rfl), rfl⟩
  | false =>
    rw [h1, Bool.false_or] at h
    have H1 := Lib.hid h1
    clear h1
    cases h2 : Lx.digit c with
    | true =>
      rw [h2] at h
      have H := Lib.hid h
      have H2 := Lib.hid h2
      clear h h2
      go_enter Tryz.func82, Tryz.ntmps82
      go_wp2_with fail
      go_at_call 80; refine (r9letter_any c false H1.out _).mono ?_; rintro e w' ⟨rfl, rfl⟩
      go_wp2_with fail
      go_at_call 81; refine (r9digit_any c true H2.out _).mono ?_; rintro e w' ⟨rfl, rfl⟩
      go_wp2_with fail
      go_ret
      exact ⟨ret_bool (by rw [← H.out]; rfl), rfl⟩
    | false =>
      rw [h2, Bool.false_or, show (45 : UInt8) = (45 : UInt8) from rfl] at h
      have H2 := Lib.hid h2
      have e1 : ((c.toNat : Int) == 45) = b := by rw [← h]; exact u8_eq c 45
      have H := Lib.hid h
      clear h h2
      go_enter Tryz.func82, Tryz.ntmps82
      go_wp2_with fail
      go_at_call 80; refine (r9letter_any c false H1.out _).mono ?_; rintro e w' ⟨rfl, rfl⟩
      go_wp2_with fail
      go_at_call 81; refine (r9digit_any c false H2.out _).mono ?_; rintro e w' ⟨rfl, rfl⟩
      go_wp2_with fail
      go_ret
      exact ⟨rfl, rfl⟩
theorem word_short {l : List UInt8} (h : l.length < 1 ∨ 20 < l.length) : Lx.word l = false := by
  unfold Lx.word
  rcases h with h | h
  · rw [decide_eq_false (by omega : ¬ 1 ≤ l.length)]; simp
  · rw [decide_eq_false (by omega : ¬ l.length ≤ 20)]; simp
set_option maxRecDepth 100000 in
set_option maxHeartbeats 1000000 in
theorem r9Word_any (s : ByteArray) (b : Bool) (hb : Lx.word (bs s) = b) (w : World) (hs : s.size ≤ 140737488355328) :
    Calls Tryz.prog 62 #[.string s] w fun e w' => e = .returned (.bool b) ∧ w = w' := by
  have HB := Lib.hid hb
  clear hb
  by_cases h1 : 1 ≤ s.size
  · have h1' : (1 : Int) ≤ (s.size : Int) := by omega
    by_cases h2 : s.size ≤ 20
    · have h2' : (s.size : Int) ≤ 20 := by omega
      have d2 : decide ((20 : Int) < (s.size : Int)) = false := decide_eq_false (by omega)
      have d1 : decide ((s.size : Int) < 1) = false := decide_eq_false (by omega)
      have hpos : 0 < s.size := by omega
      cases hl : Lx.letter s[0] with
      | false =>
        have HL := Lib.hid hl
        have HR : Hid (b = false) := Lib.hid (by rw [← HB.out, Lx.word, bs_head s hpos, hl, Bool.and_false])
        clear hl
        go_enter Tryz.func62, Tryz.ntmps62
        go_wp2_with fail
        go_at_call 80; refine (r9letter_any s[0] false HL.out _).mono ?_; rintro e w' ⟨rfl, rfl⟩
        go_wp2_with fail
        go_ret
        exact ⟨ret_bool (by rw [HR.out]), rfl⟩
      | true =>
        have HL := Lib.hid hl
        clear hl
        go_enter Tryz.func62, Tryz.ntmps62
        go_wp2_with fail
        go_at_call 80; refine (r9letter_any s[0] true HL.out _).mono ?_; rintro e w' ⟨rfl, rfl⟩
        go_wp2_with fail
        go_loop [3] (fun i => ∃ k : Nat, k ≤ s.size ∧ Hid (((bs s).take k).all Lx.part = true) ∧ i = .int .i64 k) (fun i => s.size - (intOf i).toNat)
        case atStart => exact ⟨0, by omega, Lib.hid (by rfl), rfl⟩
        case round =>
          obtain ⟨k, hk, HA, rfl⟩ := hrel
          by_cases hlt : k < s.size
          · cases hp : Lx.part s[k] with
            | true =>
              have HN := Lib.hid (take_all s k hlt HA.out hp)
              have HP := Lib.hid hp
              clear hp HA
              go_wp2_with fail
              go_at_call 82; refine (r9part_any s[k] true HP.out _).mono ?_; rintro e w' ⟨rfl, rfl⟩
              go_wp2_with fail
              go_round
              case rel => exact ⟨k + 1, by omega, HN, by go_num⟩
              case measure => simp [intOf]; omega
            | false =>
              have HN := Lib.hid (all_take s k hlt hp)
              have HP := Lib.hid hp
              clear hp HA
              go_wp2_with fail
              go_at_call 82; refine (r9part_any s[k] false HP.out _).mono ?_; rintro e w' ⟨rfl, rfl⟩
              go_wp2_with fail
              go_ret
              exact ⟨ret_bool (by rw [← HB.out, Lx.word, HN.out]; rfl), rfl⟩
          · obtain rfl : k = s.size := by omega
            have HA2 : Hid ((bs s).all Lx.part = true) := Lib.hid (by have := HA.out; rwa [← bs_len, List.take_length] at this)
            have HR : Hid (b = true) := Lib.hid (by rw [← HB.out, Lx.word, HA2.out, bs_head s hpos, HL.out, bs_len, decide_eq_true h1, decide_eq_true h2]; rfl)
            clear HA
            go_wp2_with fail
            go_ret
            exact ⟨ret_bool (by rw [HR.out]), rfl⟩
    · have h2' : (20 : Int) < (s.size : Int) := by omega
      have HR : Hid (b = false) := Lib.hid (by rw [← HB.out]; exact word_short (by rw [bs_len]; omega))
      go_enter Tryz.func62, Tryz.ntmps62
      go_wp2_with fail
      go_ret
      exact ⟨ret_bool (by rw [HR.out]), rfl⟩
  · have h1' : (s.size : Int) < 1 := by omega
    have HR : Hid (b = false) := Lib.hid (by rw [← HB.out]; exact word_short (by rw [bs_len]; omega))
    go_enter Tryz.func62, Tryz.ntmps62
    go_wp2_with fail
    go_ret
    exact ⟨ret_bool (by rw [HR.out]), rfl⟩
end Go.Proofs.YtnccndfffmaonaaGreatDoor
/- The references' numbers in plain words. -/
namespace Go.Proofs.YtnccndfffmaonaaGreatDoor
open Go.RowKit

theorem itoa_digit (n : Int) (h0 : 0 ≤ n) (h1 : n < 10) : Lib.itoa n = [UInt8.ofNat (48 + n.toNat)] := by
  rw [Lib.itoa, if_neg (by omega), Lib.decDigits, dif_pos (by omega)]
theorem itoa_step (n : Int) (h : 10 ≤ n) : Lib.itoa n = Lib.itoa (n / 10) ++ Lib.itoa (n % 10) := by
  rw [itoa_digit (n % 10) (by omega) (by omega), Lib.itoa, if_neg (by omega), Lib.decDigits, dif_neg (by omega), Lib.itoa, if_neg (by omega)]
  rw [show (n / 10).toNat = n.toNat / 10 by omega, show (n % 10).toNat = n.toNat % 10 by omega]
theorem itoa_minus (n : Int) (h : n < 0) : Lib.itoa n = 45 :: Lib.itoa (-n) := by
  rw [Lib.itoa, if_pos h, Lib.itoa, if_neg (by omega), show (-n).toNat = n.natAbs by omega]
theorem itoa_neg_step (n : Int) (h : n ≤ -10) : Lib.itoa n = Lib.itoa (n.tdiv 10) ++ Lib.itoa (-(n.tmod 10)) := by
  have e1 : n.tdiv 10 = -((-n) / 10) := by
    have h1 : (-n).tdiv 10 = -(n.tdiv 10) := Int.neg_tdiv ..
    have h2 := Int.tdiv_eq_ediv_of_nonneg (a := -n) (b := 10) (by omega)
    omega
  have e2 : n.tmod 10 = -((-n) % 10) := by
    have h1 : (-n).tmod 10 = -(n.tmod 10) := Int.neg_tmod ..
    have h2 := Int.tmod_eq_emod_of_nonneg (a := -n) (b := 10) (by omega)
    omega
  rw [e1, e2, itoa_minus n (by omega), itoa_minus (-(-n / 10)) (by omega), itoa_step (-n) (by omega), Int.neg_neg, Int.neg_neg]; rfl
theorem dec_len : ∀ (k u : Nat), 1 ≤ k → u < 10 ^ k → (Lib.decDigits u).length ≤ k := by
  intro k
  induction k with
  | zero => intro u h; omega
  | succ k ih =>
    intro u _ hu
    rw [Lib.decDigits]
    split
    · simp
    · rename_i h10
      cases k with
      | zero => rw [Nat.zero_add, Nat.pow_one] at hu; omega
      | succ k =>
        have := ih (u / 10) (by omega) (by rw [Nat.pow_succ] at hu; omega)
        rw [List.length_append, List.length_singleton]; omega
theorem itoa_len20 (n : Int) (h0 : -9223372036854775808 ≤ n) (h1 : n ≤ 9223372036854775807) : (Lib.itoa n).length ≤ 20 := by
  unfold Lib.itoa
  split
  · have := dec_len 19 n.natAbs (by omega) (by have e : (10 : Nat) ^ 19 = 10000000000000000000 := by decide
                                               omega)
    rw [List.length_cons]; omega
  · have := dec_len 19 n.toNat (by omega) (by have e : (10 : Nat) ^ 19 = 10000000000000000000 := by decide
                                              omega)
    omega
/-- What the reference reckons: the negative of what the digits spell, wrapped. -/
def accN (z : Int) : List UInt8 → Int
  | [] => z
  | c :: r => accN (wrap64 (wrap64 (z * 10) - ((c.toNat : Int) - 48))) r
theorem accN_snoc (z : Int) (l : List UInt8) (c : UInt8) : accN z (l ++ [c]) = wrap64 (wrap64 (accN z l * 10) - ((c.toNat : Int) - 48)) := by
  induction l generalizing z with
  | nil => rfl
  | cons d l ih => rw [List.cons_append, accN, accN, ih]
theorem wrap_in (n : Int) (h : -9223372036854775808 ≤ n ∧ n ≤ 9223372036854775807) : wrap64 n = n := by
  unfold wrap64; omega
theorem accN_dec (u : Nat) (h : u ≤ 9223372036854775808) : accN 0 (Lib.decDigits u) = -(u : Int) := by
  induction u using Nat.strongRecOn with
  | _ u ih =>
    rw [Lib.decDigits]
    split
    · rename_i h10
      rw [accN, accN, dig_ofNat u h10, wrap_in (0 * 10) (by omega), wrap_in _ (by omega)]; omega
    · rename_i h10
      rw [accN_snoc, ih (u / 10) (by omega) (by omega), dig_ofNat (u % 10) (by omega), wrap_in (-((u / 10 : Nat) : Int) * 10) (by omega), wrap_in _ (by omega)]; omega
/-- The digits of a numeral: what stands behind a minus sign. -/
def digs : List UInt8 → List UInt8
  | 45 :: r => r
  | l => l
theorem digs_minus (r : List UInt8) : digs (45 :: r) = r := rfl
theorem digs_plain (c : UInt8) (r : List UInt8) (h : c ≠ 45) : digs (c :: r) = c :: r := by
  unfold digs
  split
  · rename_i h1; injection h1 with h1; exact absurd h1 h
  · rfl
/-- What the reference's Int comes to before it compares. -/
def refN (l : List UInt8) : Int := if l.head? = some 45 then accN 0 (digs l) else wrap64 (-(accN 0 (digs l)))
theorem itoa_shape (v : Int) : (v < 0 ∧ Lib.itoa v = 45 :: Lib.decDigits v.natAbs) ∨ (0 ≤ v ∧ Lib.itoa v = Lib.decDigits v.toNat ∧ (Lib.itoa v).head? ≠ some 45) := by
  by_cases h : v < 0
  · exact .inl ⟨h, by rw [Lib.itoa, if_pos h]⟩
  · have e : Lib.itoa v = Lib.decDigits v.toNat := by rw [Lib.itoa, if_neg h]
    refine .inr ⟨by omega, e, ?_⟩
    rw [e]
    cases hd : Lib.decDigits v.toNat with
    | nil => simp
    | cons c r =>
      have := dec_dig v.toNat c (by rw [hd]; exact List.mem_cons_self ..)
      intro e2
      simp only [List.head?_cons, Option.some.injEq] at e2
      rw [e2] at this; revert this; decide
theorem refN_itoa (v : Int) (h0 : -9223372036854775808 ≤ v) (h1 : v ≤ 9223372036854775807) : refN (Lib.itoa v) = v := by
  unfold refN
  rcases itoa_shape v with ⟨h, e⟩ | ⟨h, e, hh⟩
  · rw [e, List.head?_cons, if_pos rfl, digs_minus, accN_dec _ (by omega)]; omega
  · rw [if_neg hh]
    have hd : digs (Lib.itoa v) = Lib.decDigits v.toNat := by
      rw [e]
      cases hd : Lib.decDigits v.toNat with
      | nil => exact absurd hd (dec_ne _)
      | cons c r =>
        rw [digs_plain]
        rintro rfl
        rw [e, hd] at hh; exact hh rfl
    rw [hd, accN_dec _ (by omega), wrap_in] <;> omega
theorem intOfB_refN (l : List UInt8) : intOfB l = if Lib.itoa (refN l) = l ∧ -9223372036854775808 ≤ refN l ∧ refN l ≤ 9223372036854775807 then some (refN l) else none := by
  split
  · rename_i h
    have := intOfB_itoa (refN l) h.2.1 h.2.2
    rw [h.1] at this; exact this
  · rename_i h
    cases hi : intOfB l with
    | none => rfl
    | some v =>
      have h1 := intOfB_back hi
      have h2 := intOfB_bd hi
      exfalso; apply h
      have h3 : refN l = v := by rw [← h1]; exact refN_itoa v h2.1 h2.2
      rw [h3]; exact ⟨h1, h2⟩
theorem accN_bd (z : Int) (l : List UInt8) (h : -9223372036854775808 ≤ z ∧ z ≤ 9223372036854775807) : -9223372036854775808 ≤ accN z l ∧ accN z l ≤ 9223372036854775807 := by
  induction l generalizing z with
  | nil => exact h
  | cons c l ih => exact ih _ (by unfold wrap64; omega)
theorem refN_bd (l : List UInt8) : -9223372036854775808 ≤ refN l ∧ refN l ≤ 9223372036854775807 := by
  unfold refN
  split
  · exact accN_bd _ _ (by omega)
  · unfold wrap64; omega
theorem intOfB_yes {l : List UInt8} (h : Lib.itoa (refN l) = l) : intOfB l = some (refN l) := by
  rw [intOfB_refN, if_pos ⟨h, (refN_bd l).1, (refN_bd l).2⟩]
theorem intOfB_not {l : List UInt8} (h : Lib.itoa (refN l) ≠ l) : intOfB l = none := by
  rw [intOfB_refN, if_neg (fun x => h x.1)]
theorem intOfB_long {l : List UInt8} (h : 20 < l.length ∨ l.length = 0) : intOfB l = none := by
  cases hi : intOfB l with
  | none => rfl
  | some v =>
    have h1 := intOfB_back hi
    have h2 := intOfB_bd hi
    have h3 := itoa_len20 v h2.1 h2.2
    rw [h1] at h3
    rcases h with h | h
    · omega
    · have : l = [] := List.eq_nil_of_length_eq_zero h
      subst this
      exfalso
      rcases itoa_shape v with ⟨_, e⟩ | ⟨_, e, _⟩
      · rw [h1] at e; cases e
      · rw [h1] at e; exact dec_ne _ e.symm
theorem intOfB_nodigit {l : List UInt8} {k : Nat} {c : UInt8} (hk : l[k]? = some c) (hc : ¬ (48 ≤ c.toNat ∧ c.toNat ≤ 57)) (h0 : k = 0 → c ≠ 45) : intOfB l = none := by
  cases hi : intOfB l with
  | none => rfl
  | some v =>
    have h1 := intOfB_back hi
    exfalso
    rcases itoa_shape v with ⟨_, e⟩ | ⟨_, e, _⟩
    · rw [← h1, e] at hk
      cases k with
      | zero => simp at hk; exact h0 rfl hk.symm
      | succ k =>
        rw [List.getElem?_cons_succ] at hk
        exact hc (dec_dig _ c (List.mem_of_getElem? hk))
    · rw [← h1, e] at hk
      exact hc (dec_dig _ c (List.mem_of_getElem? hk))
end Go.Proofs.YtnccndfffmaonaaGreatDoor
/- Walks of taquinref02: Decimal, Int. -/
namespace Go.Proofs.YtnccndfffmaonaaGreatDoor
set_option linter.unusedSimpArgs false
open Go.RowKit

theorem conv1b (c : UInt8) (w : World) : Sem.run Tryz.prog (convert 65 9 (.slice (some ⟨w.heap.size, 0, none⟩) 1 1)) (w.alloc (.cells #[.int .u8 c.toNat] 5)) = .ok (.string ⟨#[c]⟩) (w.alloc (.cells #[.int .u8 c.toNat] 5)) := by
  have h := run_convert_bytes_back (P := Tryz.prog) (w.alloc (.cells #[.int .u8 c.toNat] 5)) 65 9 5 ⟨w.heap.size, 0, none⟩ 1 [c] Tryz.underlying65 Tryz.underlying5 Tryz.underlying9
  exact h (fun j hj => by
    have h0 : j = 0 := by simpa using hj
    subst h0
    simp [Addr.add])
/-- What the reference's Decimal comes to. -/
def DecPost (n : Int) (w : World) (e : Ending) (w' : World) : Prop := ∃ D : ByteArray, bs D = Lib.itoa n ∧ e = .returned (.string D) ∧ Below w.heap.size w w'
set_option maxRecDepth 100000 in
set_option maxHeartbeats 1000000 in
theorem rDec_small (n : Int) (h0 : 0 ≤ n) (h1 : n < 10) (w : World) : Calls Tryz.prog 69 #[.int .i64 n] w (DecPost n w) := by
  have hi := itoa_digit n h0 h1
  obtain ⟨c, hc⟩ : ∃ c, c = UInt8.ofNat (48 + n.toNat) := ⟨_, rfl⟩
  rw [← hc] at hi
  have hcn : (48 : Int) + n = (c.toNat : Int) := by rw [hc, dig_ofNat _ (by omega)]; omega
  have hcv := conv1b c w
  rw [← hcn] at hcv
  have HI := Lib.hid hi
  have HC := Lib.hid hcn
  clear hi hc hcn
  go_enter Tryz.func69, Tryz.ntmps69
  go_wp2_with fail
  go_ret
  exact ⟨_, by rw [HI.out]; rfl, rfl, (Below.refl _ _).alloc (Nat.le_refl _) _⟩
theorem bs_appR (a b : ByteArray) : bs (a ++ b) = bs a ++ bs b := by simp [bs]
theorem dec_size {n : Int} (h0 : -9223372036854775808 ≤ n) (h1 : n ≤ 9223372036854775807) {D : ByteArray} (h : bs D = Lib.itoa n) : D.size ≤ 20 := by
  rw [← bs_len, h]; exact itoa_len20 n h0 h1
set_option maxRecDepth 100000 in
set_option maxHeartbeats 4000000 in
theorem rDec_any (k : Nat) : ∀ (n : Int) (w : World), n.natAbs ≤ k → -9223372036854775808 ≤ n → n ≤ 9223372036854775807 → Calls Tryz.prog 69 #[.int .i64 n] w (DecPost n w) := by
  induction k with
  | zero => intro n w h _ _; exact rDec_small n (by omega) (by omega) w
  | succ k ih =>
    intro n w hk h0 h1
    by_cases hs : 0 ≤ n ∧ n < 10
    · exact rDec_small n hs.1 hs.2 w
    · have IH := Lib.hid ih
      clear ih
      by_cases hp : 10 ≤ n
      · have hn : (0 : Int) < n := by omega
        have HI := Lib.hid (itoa_step n hp)
        clear hs
        go_enter Tryz.func69, Tryz.ntmps69
        go_wp2_with fail
        refine (IH.out (n / 10) _ (by omega) (by omega) (by omega)).mono ?_; rintro e w1 ⟨D1, d1, rfl, b1⟩
        have hd1 := dec_size (by omega) (by omega) d1
        have HD1 := Lib.hid d1
        clear d1
        go_wp2_with fail
        refine (IH.out (n % 10) _ (by omega) (by omega) (by omega)).mono ?_; rintro e w2 ⟨D2, d2, rfl, b2⟩
        have hd2 := dec_size (by omega) (by omega) d2
        have HD2 := Lib.hid d2
        clear d2
        go_wp2_with fail
        go_ret
        exact ⟨_, by rw [bs_appR, HD1.out, HD2.out, HI.out], rfl, b1.trans (b2.mono b1.size)⟩
      · have hn : n < 0 := by omega
        clear hs
        by_cases hq : -10 < n
        · have HI := Lib.hid (itoa_minus n hn)
          go_enter Tryz.func69, Tryz.ntmps69
          go_wp2_with fail
          refine (rDec_small (-n) (by omega) (by omega) _).mono ?_; rintro e w1 ⟨D1, d1, rfl, b1⟩
          have hd1 := dec_size (by omega) (by omega) d1
          have HD1 := Lib.hid d1
          clear d1
          go_wp2_with fail
          go_ret
          exact ⟨_, by rw [bs_appR, HD1.out, HI.out]; rfl, rfl, b1⟩
        · have HI := Lib.hid (itoa_neg_step n (by omega))
          have e1 : n.tdiv 10 = -((-n) / 10) := by
            have h1 : (-n).tdiv 10 = -(n.tdiv 10) := Int.neg_tdiv ..
            have h2 := Int.tdiv_eq_ediv_of_nonneg (a := -n) (b := 10) (by omega)
            omega
          have e2 : n.tmod 10 = -((-n) % 10) := by
            have h1 : (-n).tmod 10 = -(n.tmod 10) := Int.neg_tmod ..
            have h2 := Int.tmod_eq_emod_of_nonneg (a := -n) (b := 10) (by omega)
            omega
          obtain ⟨x, hx⟩ : ∃ x, x = n.tdiv 10 := ⟨_, rfl⟩
          obtain ⟨y, hy⟩ : ∃ y, y = n.tmod 10 := ⟨_, rfl⟩
          have hx1 : x.natAbs ≤ k := by omega
          have hx2 : -9223372036854775808 ≤ x := by omega
          have hx3 : x ≤ 9223372036854775807 := by omega
          have hy1 : 0 ≤ -y := by omega
          have hy2 : -y < 10 := by omega
          have HII := Lib.hid (show Lib.itoa n = Lib.itoa x ++ Lib.itoa (-y) by rw [hx, hy]; exact HI.out)
          have gx := hx.symm
          have gy := hy.symm
          clear hx hy e1 e2 HI
          go_enter Tryz.func69, Tryz.ntmps69
          go_wp2_with fail
          refine (IH.out x _ hx1 hx2 hx3).mono ?_; rintro e w1 ⟨D1, d1, rfl, b1⟩
          have hd1 := dec_size hx2 hx3 d1
          have HD1 := Lib.hid d1
          clear d1
          go_wp2_with fail
          refine (rDec_small (-y) hy1 hy2 _).mono ?_; rintro e w2 ⟨D2, d2, rfl, b2⟩
          have hd2 := dec_size (by omega) (by omega) d2
          have HD2 := Lib.hid d2
          clear d2
          go_wp2_with fail
          go_ret
          exact ⟨_, by rw [bs_appR, HD1.out, HD2.out, HII.out], rfl, b1.trans (b2.mono b1.size)⟩
theorem rDec_is (n : Int) (s : ByteArray) (h : Lib.itoa n = bs s) (h0 : -9223372036854775808 ≤ n) (h1 : n ≤ 9223372036854775807) (w : World) :
    Calls Tryz.prog 69 #[.int .i64 n] w fun e w' => e = .returned (.string s) ∧ Below w.heap.size w w' := by
  refine (rDec_any _ n w (Nat.le_refl _) h0 h1).mono ?_
  rintro e w' ⟨D, hD, rfl, hb⟩
  exact ⟨by rw [bs_inj' (hD.trans h)], hb⟩
end Go.Proofs.YtnccndfffmaonaaGreatDoor
/- Walks of taquinref02: Int. -/
namespace Go.Proofs.YtnccndfffmaonaaGreatDoor
set_option linter.unusedSimpArgs false
open Go.RowKit

theorem digs_snoc (l : List UInt8) (c : UInt8) (h : l ≠ [] ∨ c ≠ 45) : digs (l ++ [c]) = digs l ++ [c] := by
  cases l with
  | nil =>
    rcases h with h | h
    · exact absurd rfl h
    · rw [List.nil_append, digs_plain c [] h]; rfl
  | cons d l =>
    by_cases hd : d = 45
    · subst hd; rfl
    · rw [List.cons_append, digs_plain d _ hd, digs_plain d _ hd]; rfl
/-- What Int comes to. -/
def IntPost (s : ByteArray) (w : World) (e : Ending) (w' : World) : Prop := e = .returned (.tuple #[.int .i64 ((intOfB (bs s)).getD 0), .bool (intOfB (bs s)).isSome]) ∧ Below w.heap.size w w'
theorem IntPost.none {s : ByteArray} {w w' : World} (h : intOfB (bs s) = Option.none) (hb : Below w.heap.size w w') : IntPost s w (.returned (.tuple #[.int .i64 0, .bool false])) w' := by
  refine ⟨?_, hb⟩; rw [h]; rfl
theorem IntPost.some {s : ByteArray} {w w' : World} {v : Int} (h : intOfB (bs s) = Option.some v) (hb : Below w.heap.size w w') : IntPost s w (.returned (.tuple #[.int .i64 v, .bool true])) w' := by
  refine ⟨?_, hb⟩; rw [h]; rfl
set_option maxRecDepth 100000 in
set_option maxHeartbeats 8000000 in
theorem rInt_any (s : ByteArray) (w : World) (hs : s.size ≤ 140737488355328) :
    Calls Tryz.prog 98 #[.string s] w (IntPost s w) := by
  by_cases h0 : s.size = 0
  · have e0 : ((s.size : Int) == 0) = true := beq_iff_eq.2 (by omega)
    have HI := Lib.hid (intOfB_long (l := bs s) (.inr (by rw [bs_len]; exact h0)))
    clear h0
    go_enter Tryz.func98, Tryz.ntmps98
    go_wp2_with fail
    go_ret2
    exact IntPost.none HI.out (Below.refl _ _)
  · have e0 : ((s.size : Int) == 0) = false := beq_eq_false_iff_ne.2 (by omega)
    by_cases h20 : 20 < s.size
    · have e1 : (20 : Int) < (s.size : Int) := by omega
      have HI := Lib.hid (intOfB_long (l := bs s) (.inl (by rw [bs_len]; exact h20)))
      clear h0
      go_enter Tryz.func98, Tryz.ntmps98
      go_wp2_with fail
      go_ret2
      exact IntPost.none HI.out (Below.refl _ _)
    · have e1 : decide ((20 : Int) < (s.size : Int)) = false := decide_eq_false (by omega)
      have hpos : 0 < s.size := by omega
      have hposI : (0 : Int) < (s.size : Int) := by omega
      clear h0
      go_enter Tryz.func98, Tryz.ntmps98
      go_wp2_with fail
      go_loop [4, 5] (fun zv i => ∃ (k : Nat) (z : Int), k ≤ s.size ∧ -9223372036854775808 ≤ z ∧ z ≤ 9223372036854775807 ∧ i = .int .i64 k ∧ zv = .int .i64 z ∧ Hid (z = accN 0 (digs ((bs s).take k)))) (fun _ i => s.size - (intOf i).toNat)
      case atStart => exact ⟨0, 0, by omega, by omega, by omega, rfl, rfl, Lib.hid (by rfl)⟩
      case round =>
        obtain ⟨k, z, hk, z0, z1, rfl, rfl, HZ⟩ := hrel
        by_cases hlt : k < s.size
        · by_cases hm : k = 0 ∧ s[0] = 45
          · obtain ⟨rfl, hm⟩ := hm
            have em : ((s[0].toNat : Int) == 45) = true := u8_is (b := 45) hm
            have HN : Hid (z = accN 0 (digs ((bs s).take 1))) := Lib.hid (by
              rw [HZ.out, bs_take s 0 hpos, hm]; rfl)
            clear HZ hm
            go_wp2_with fail
            go_round
            case rel => exact ⟨1, z, by omega, z0, z1, by go_num, rfl, HN⟩
            case measure => simp [intOf]; omega
          · have hem : (((k : Int) == 0) = true ∧ ((s[0].toNat : Int) == 45) = false) ∨ ((k : Int) == 0) = false := by
              by_cases hk0 : k = 0
              · exact .inl ⟨beq_iff_eq.2 (by omega), u8_ne (b := 45) (fun h => hm ⟨hk0, h⟩)⟩
              · exact .inr (beq_eq_false_iff_ne.2 (by omega))
            by_cases hd : 48 ≤ s[k] ∧ s[k] ≤ 57
            · have d1 : (48 : Int) ≤ (s[k].toNat : Int) := u8_le hd.1
              have d2 : (s[k].toNat : Int) ≤ 57 := u8_le hd.2
              have HN : Hid (wrap64 (wrap64 (z * 10) - ((s[k].toNat : Int) - 48)) = accN 0 (digs ((bs s).take (k + 1)))) := Lib.hid (by
                rw [bs_take s k hlt, digs_snoc, accN_snoc, HZ.out]
                by_cases hk0 : k = 0
                · subst hk0; exact .inr (fun h => hm ⟨rfl, h⟩)
                · left; intro e
                  have := congrArg List.length e
                  rw [List.length_take, bs_len, List.length_nil] at this; omega)
              have b0 : -9223372036854775808 ≤ wrap64 (wrap64 (z * 10) - ((s[k].toNat : Int) - 48)) := by unfold wrap64; omega
              have b1 : wrap64 (wrap64 (z * 10) - ((s[k].toNat : Int) - 48)) ≤ 9223372036854775807 := by unfold wrap64; omega
              have B0 := Lib.hid b0
              have B1 := Lib.hid b1
              clear HZ hm hd b0 b1
              rcases hem with ⟨m1, m2⟩ | m1
              all_goals
                go_wp2_with fail
                go_round
                case rel => exact ⟨k + 1, _, by omega, B0.out, B1.out, by go_num, rfl, HN⟩
                case measure => simp [intOf]; omega
            · have HI := Lib.hid (intOfB_nodigit (l := bs s) (k := k) (c := s[k]) (bs_get s k hlt) (fun h => hd ⟨by rw [UInt8.le_iff_toNat_le]; exact h.1, by rw [UInt8.le_iff_toNat_le]; exact h.2⟩) (fun hk0 => by subst hk0; exact fun h => hm ⟨rfl, h⟩))
              have hdd : (s[k].toNat : Int) < 48 ∨ (48 : Int) ≤ (s[k].toNat : Int) ∧ (57 : Int) < (s[k].toNat : Int) := by
                by_cases h1 : 48 ≤ s[k]
                · exact .inr ⟨u8_le h1, u8_lt (a := s[k]) (b := 57) (fun h => hd ⟨h1, h⟩)⟩
                · exact .inl (u8_lt h1)
              clear HZ hm hd
              rcases hem with ⟨m1, m2⟩ | m1 <;> rcases hdd with d1 | ⟨d1, d2⟩
              all_goals
                go_wp2_with fail
                go_ret2
                exact IntPost.none HI.out (Below.refl _ _)
        · obtain rfl : k = s.size := by omega
          have hts : (bs s).take s.size = bs s := by rw [← bs_len, List.take_length]
          have hh : (bs s).head? = Option.some s[0] := by
            have := bs_drop s 0 hpos
            rw [List.drop_zero] at this
            rw [this]; rfl
          obtain ⟨v, hv⟩ : ∃ v, v = refN (bs s) := ⟨_, rfl⟩
          have hvb := refN_bd (bs s)
          rw [← hv] at hvb
          have hz : (s[0] = 45 ∧ v = z) ∨ (s[0] ≠ 45 ∧ v = wrap64 (-z)) := by
            have hzz := HZ.out
            rw [hts] at hzz
            unfold refN at hv
            rw [hh] at hv
            by_cases h45 : s[0] = 45
            · left; rw [if_pos (by rw [h45])] at hv; exact ⟨h45, by rw [hv, hzz]⟩
            · right; rw [if_neg (by simpa using h45)] at hv; exact ⟨h45, by rw [hv, hzz]⟩
          obtain ⟨v0, v1⟩ := hvb
          clear HZ hts hh
          by_cases hq : Lib.itoa v = bs s
          · have hi := intOfB_yes (l := bs s) (by rw [← hv]; exact hq)
            rw [← hv] at hi
            have HI := Lib.hid hi
            have HQ := Lib.hid hq
            have q1 : (s.toList == s.toList) = true := beq_self_eq_true _
            have q2 : (s.toList != s.toList) = false := by rw [bne, q1]; rfl
            clear hv hi hq
            rcases hz with ⟨h45, rfl⟩ | ⟨h45, hz⟩
            · have em : ((s[0].toNat : Int) == 45) = true := u8_is (b := 45) h45
              have en : ((s[0].toNat : Int) != 45) = false := by rw [bne, em]; rfl
              clear h45
              go_wp2_with fail
              go_at_call 69; refine (rDec_is v s HQ.out v0 v1 _).mono ?_; rintro e w2 ⟨rfl, b⟩
              go_wp2_with fail
              go_ret2
              exact IntPost.some HI.out b
            · have em : ((s[0].toNat : Int) == 45) = false := u8_ne (b := 45) h45
              have en : ((s[0].toNat : Int) != 45) = true := by rw [bne, em]; rfl
              have gz := hz.symm
              clear h45 hz
              go_wp2_with fail
              go_at_call 69; refine (rDec_is v s HQ.out v0 v1 _).mono ?_; rintro e w2 ⟨rfl, b⟩
              go_wp2_with fail
              go_ret2
              exact IntPost.some HI.out b
          · have hi := intOfB_not (l := bs s) (by rw [← hv]; exact hq)
            have HI := Lib.hid hi
            have HQ := Lib.hid hq
            clear hv hi hq
            rcases hz with ⟨h45, rfl⟩ | ⟨h45, hz⟩
            · have em : ((s[0].toNat : Int) == 45) = true := u8_is (b := 45) h45
              have en : ((s[0].toNat : Int) != 45) = false := by rw [bne, em]; rfl
              clear h45
              go_wp2_with fail
              go_at_call 69; refine (rDec_any _ v _ (Nat.le_refl _) v0 v1).mono ?_; rintro e w2 ⟨D, hD, rfl, b⟩
              have q1 : (D.toList == s.toList) = false := by rw [toList_bs, toList_bs, hD]; exact beq_eq_false_iff_ne.2 HQ.out
              have q2 : (D.toList != s.toList) = true := by rw [bne, q1]; rfl
              clear hD
              go_wp2_with fail
              go_ret2
              exact IntPost.none HI.out b
            · have em : ((s[0].toNat : Int) == 45) = false := u8_ne (b := 45) h45
              have en : ((s[0].toNat : Int) != 45) = true := by rw [bne, em]; rfl
              have gz := hz.symm
              clear h45 hz
              go_wp2_with fail
              go_at_call 69; refine (rDec_any _ v _ (Nat.le_refl _) v0 v1).mono ?_; rintro e w2 ⟨D, hD, rfl, b⟩
              have q1 : (D.toList == s.toList) = false := by rw [toList_bs, toList_bs, hD]; exact beq_eq_false_iff_ne.2 HQ.out
              have q2 : (D.toList != s.toList) = true := by rw [bne, q1]; rfl
              clear hD
              go_wp2_with fail
              go_ret2
              exact IntPost.none HI.out b
end Go.Proofs.YtnccndfffmaonaaGreatDoor
/- Bytes that a call appends to a slice of its own; Quote of taquinref02. -/
namespace Go.Proofs.YtnccndfffmaonaaGreatDoor
set_option linter.unusedSimpArgs false
open Go.RowKit

def bc (l : List UInt8) : List Value := l.map fun b => .int .u8 b.toNat
/-- The slice value v owns these bytes. -/
def OB (base : Nat) (w : World) (v : Value) (l : List UInt8) : Prop := w.ownsRow base 5 1 v l.length (bc l)
theorem OB.nil (base : Nat) (w : World) : OB base w (.slice none 0 0) [] := ⟨rfl, .inl ⟨rfl, rfl⟩⟩
theorem OB.keep {base : Nat} {w W : World} {v : Value} {l : List UInt8} (h : OB base w v l) (hb : Below w.heap.size w W) : OB base W v l :=
  World.ownsRow.kept (row := none) h ⟨hb.os, hb.tape, hb.output, hb.size, fun k hk _ => hb.block k hk⟩ (Classical.em _)
theorem OB.fresh {w : World} {base : Nat} (hb : base ≤ w.heap.size) (l : List UInt8) (cs : Array Value) (hcs : cs.toList = bc l) (hl : l.length ≤ maxLen) : OB base (w.alloc (.cells cs 5)) (.slice (some ⟨w.heap.size, 0, none⟩) l.length l.length) l := by
  refine ⟨by simp [bc], .inr ⟨w.heap.size, l.length, cs, rfl, hb, heap_alloc_new _ _, Nat.le_refl _, hl, ?_, ?_⟩⟩
  · have := congrArg List.length hcs
    simp [bc] at this; simpa using this
  · rw [hcs, List.take_of_length_le (by simp [bc])]
theorem wpList_app_bytes {w : World} {ops : Array Oper} {rest : List Oper} {o : Oper} {a : Act} {Q : Exit → Act → World → Prop} (hgd : o.guard = none) (s x : Operand)
    (ho : o.op = .call { callee := .builtin .append, args := #[s, x], argTypes := #[65, 65] })
    (base : Nat) (v : Value) (l : List UInt8) (hs : a.eval s = v) (hown : OB base w v l)
    (g c : Nat) (d : List UInt8) (cs : Array Value) (hx : a.eval x = .slice (some ⟨g, 0, none⟩) d.length c) (hg : w.heap[g]? = some (.cells cs 5 (0, 0))) (hcs : cs.toList = bc d)
    (hsz : l.length + d.length ≤ 1000000000) (hbase : base ≤ w.heap.size)
    (h : ∀ v' w', OB base w' v' (l ++ d) → Below base w w' → wpList Tryz.prog ops Q rest (a.put o.dst v') w') : wpList Tryz.prog ops Q (o :: rest) a w := by
  obtain ⟨i, hi, hz, hsize, hby⟩ := info_parts Tryz.bldByte
  have hlt := hown
  refine wpList_append_own w hgd s x _ ho base 5 i _ 1 1 Tryz.underlying65 hi hz hsize hby rfl (by decide) v l.length (bc l) hs hown ⟨g, 0, none⟩ d.length c (bc d) hx (by simp [bc]) ?_ ?_ (by unfold maxLen; omega) (by omega) hbase ?_
  · intro j u hj
    have e2 : ((⟨g, 0, none⟩ : Addr).add j) = ⟨g, 0 + j, none⟩ := by unfold Addr.add; split <;> simp_all
    rw [e2, Nat.zero_add]
    have : cs[j]? = some u := by rw [← hj, ← hcs]; simp
    simp [World.cell?, hg, this]
  · intro u hu
    obtain ⟨b, _, rfl⟩ := List.mem_map.1 hu
    rfl
  · intro v' w' h2 h3 _
    refine h v' w' ?_ ((Below.refl _ _).grown h3 hbase (fun k hk => (World.ownsRow.lt hlt k hk).1))
    unfold OB
    rw [List.length_append]
    have e : bc (l ++ d) = bc l ++ bc d := by simp [bc]
    rw [e]; exact h2
theorem step_app_bytes {w : World} {ops : Array Oper} {o : Oper} {a : Act} {K : Act → World → Prop} {Q : Exit → Act → World → Prop} {E : Prop} (hgd : o.guard = none) (s x : Operand)
    (ho : o.op = .call { callee := .builtin .append, args := #[s, x], argTypes := #[65, 65] })
    (base : Nat) (v : Value) (l : List UInt8) (hs : a.eval s = v) (hown : OB base w v l)
    (g c : Nat) (d : List UInt8) (cs : Array Value) (hx : a.eval x = .slice (some ⟨g, 0, none⟩) d.length c) (hg : w.heap[g]? = some (.cells cs 5 (0, 0))) (hcs : cs.toList = bc d) (hd : 0 < d.length)
    (hsz : l.length + d.length ≤ 1000000000) (hbase : base ≤ w.heap.size)
    (h : ∀ v' w', OB base w' v' (l ++ d) → Below base w w' → K (a.put o.dst v') w') : if Region.wanted o (yielded ops a.tmps) = true then Oper.wp Tryz.prog o a w K Q else E := by
  obtain ⟨i, hi, hz, hsize, hby⟩ := info_parts Tryz.bldByte
  have hlt := hown
  refine step_append_lies w hgd s x _ ho base 5 i _ 1 1 Tryz.underlying65 hi hz hsize hby rfl (by decide) v l.length (bc l) hs hown ⟨g, 0, none⟩ d.length c (bc d) hx (by simp [bc]) ?_ ?_ hd (by unfold maxLen; omega) (by omega) hbase _ rfl ?_
  · intro j u hj
    have e2 : ((⟨g, 0, none⟩ : Addr).add j) = ⟨g, 0 + j, none⟩ := by unfold Addr.add; split <;> simp_all
    rw [e2, Nat.zero_add]
    have : cs[j]? = some u := by rw [← hj, ← hcs]; simp
    simp [World.cell?, hg, this]
  · intro u hu
    obtain ⟨b, _, rfl⟩ := List.mem_map.1 hu
    rfl
  · intro g' cap' w' h2 h3 _ _
    refine h _ w' ?_ ((Below.refl _ _).grown h3 hbase (fun k hk => (World.ownsRow.lt hlt k hk).1))
    unfold OB
    rw [List.length_append]
    have e : bc (l ++ d) = bc l ++ bc d := by simp [bc]
    rw [e]; exact h2
theorem heap_alloc_drew (w : World) (o : Obj) : (w.alloc o).drew.heap[w.heap.size]? = some o := heap_alloc_new w o
theorem conv_own {w : World} {base : Nat} {v : Value} {l : List UInt8} (h : OB base w v l) : Sem.run Tryz.prog (convert 65 9 v) w = .ok (.string ⟨l.toArray⟩) w := by
  rcases h.2 with ⟨rfl, h0⟩ | ⟨g, cap, cur, rfl, hb, hh, hnc, hcm, hcs, ht⟩
  · obtain rfl : l = [] := List.eq_nil_of_length_eq_zero h0
    rw [run_convert_bytes_string w _ _ _ none 0 0 Tryz.underlying65 Tryz.underlying5 Tryz.underlying9]
    rfl
  · exact run_convert_bytes_back (P := Tryz.prog) w 65 9 5 ⟨g, 0, none⟩ cap l Tryz.underlying65 Tryz.underlying5 Tryz.underlying9 (fun j hj => by
      have hc := World.ownsRow.cells h (g := g) rfl j (.int .u8 l[j].toNat) (by unfold bc; rw [List.getElem?_map, List.getElem?_eq_getElem hj]; rfl)
      exact hc)
end Go.Proofs.YtnccndfffmaonaaGreatDoor
/- Walks of taquinref02: Quote. -/
namespace Go.Proofs.YtnccndfffmaonaaGreatDoor
set_option linter.unusedSimpArgs false
open Go.RowKit

theorem hxd_u8 (c : UInt8) (h : c.toNat < 16) : (ByteArray.mk #[48, 49, 50, 51, 52, 53, 54, 55, 56, 57, 97, 98, 99, 100, 101, 102])[c.toNat] = hxd c.toNat := hxd_get c.toNat h
theorem u8_wrap (a : Nat) (h : a < 256) : IntKind.u8.wrap (a : Int) = (a : Int) := by
  have : IntKind.u8.wrap (a : Int) = (a : Int) % 256 := by simp [IntKind.wrap, IntKind.bits, IntKind.signed]
  omega
set_option maxRecDepth 100000 in
set_option maxHeartbeats 8000000 in
theorem rQuote_any (s : ByteArray) (w : World) (hs : s.size ≤ 100000000) :
    Calls Tryz.prog 38 #[.string s] w fun e w' => e = .returned (.string ⟨(quote (bs s)).toArray⟩) ∧ Below w.heap.size w w' := by
  have H0 := Lib.hid (OB.fresh (w := w) (Nat.le_refl _) [34] #[.int .u8 34] (by rfl) (by decide))
  go_enter Tryz.func38, Tryz.ntmps38
  go_wp2_with fail
  go_loopw [3, 4] (fun v iv wr => ∃ k : Nat, k ≤ s.size ∧ iv = .int .i64 k ∧ Hid (OB w.heap.size wr v (34 :: qb ((bs s).take k))) ∧ Hid (Below w.heap.size w wr)) (fun _ iv _ => s.size - (intOf iv).toNat)
  case atStart => exact ⟨0, by omega, rfl, H0, Lib.hid ((Below.refl _ w).alloc (Nat.le_refl _) _)⟩
  case round =>
    obtain ⟨k, hk, rfl, HB, HW⟩ := hrel
    clear H0
    by_cases hlt : k < s.size
    · have hstep : 34 :: qb ((bs s).take (k + 1)) = 34 :: qb ((bs s).take k) ++ qt1 s[k] := by
        rw [bs_take s k hlt]; simp [qb]
      have hlen : (34 :: qb ((bs s).take k)).length ≤ 4 * k + 1 := by
        have := qb_len ((bs s).take k)
        rw [List.length_take] at this; rw [List.length_cons]; omega
      have hwb : w.heap.size ≤ wr.heap.size := HW.out.size
      obtain ⟨l, hl⟩ : ∃ l, l = 34 :: qb ((bs s).take k) := ⟨_, rfl⟩
      rw [← hl] at HB hstep hlen
      clear hl
      obtain ⟨c, hc⟩ : ∃ c, c = s[k] := ⟨_, rfl⟩
      have hidx : s[k] = c := hc.symm
      rw [hidx] at hstep
      clear hc
      by_cases h34 : c = 34
      · have hx : ((c.toNat : Int) == 34) = true := u8_is (b := 34) h34
        rw [show qt1 c = [92, c] by rw [qt1, if_pos (.inl h34)]] at hstep
        have HS := Lib.hid hstep
        clear hstep h34
        go_wp2_with (at_builtin; refine wpList_app_bytes rfl _ _ rfl w.heap.size _ l rfl (HB.out.keep ((Below.refl _ _).alloc (Nat.le_refl _) _)) wr.heap.size 2 [92, c] #[.int .u8 92, .int .u8 c.toNat] rfl (heap_alloc_new _ _) (by rfl) (by simp; omega) (by simp; omega) ?_)
        intro v' w' h1 h2
        have HB2 := Lib.hid h1
        have HW2 : Hid (Below w.heap.size w w') := Lib.hid ((HW.out.alloc hwb _).trans h2)
        clear h1 h2
        go_wp2_with fail
        go_roundw
        case rel => exact ⟨k + 1, by omega, by go_num, by rw [HS.out]; exact HB2, HW2⟩
        case measure => simp [intOf]; omega
      · have hx : ((c.toNat : Int) == 34) = false := u8_ne (b := 34) h34
        by_cases h92 : c = 92
        · have hy : ((c.toNat : Int) == 92) = true := u8_is (b := 92) h92
          rw [show qt1 c = [92, c] by rw [qt1, if_pos (.inr h92)]] at hstep
          have HS := Lib.hid hstep
          clear hstep h34 h92
          go_wp2_with (at_builtin; refine wpList_app_bytes rfl _ _ rfl w.heap.size _ l rfl (HB.out.keep ((Below.refl _ _).alloc (Nat.le_refl _) _)) wr.heap.size 2 [92, c] #[.int .u8 92, .int .u8 c.toNat] rfl (heap_alloc_new _ _) (by rfl) (by simp; omega) (by simp; omega) ?_)
          intro v' w' h1 h2
          have HB2 := Lib.hid h1
          have HW2 : Hid (Below w.heap.size w w') := Lib.hid ((HW.out.alloc hwb _).trans h2)
          clear h1 h2
          go_wp2_with fail
          go_roundw
          case rel => exact ⟨k + 1, by omega, by go_num, by rw [HS.out]; exact HB2, HW2⟩
          case measure => simp [intOf]; omega
        · have hy : ((c.toNat : Int) == 92) = false := u8_ne (b := 92) h92
          by_cases h10 : c = 10
          · have hz : ((c.toNat : Int) == 10) = true := u8_is (b := 10) h10
            rw [show qt1 c = [92, 110] by rw [qt1, if_neg (by simp [h34, h92]), if_pos h10]] at hstep
            have HS := Lib.hid hstep
            clear hstep h34 h92 h10
            go_wp2_with (at_builtin; refine wpList_app_bytes rfl _ _ rfl w.heap.size _ l rfl (HB.out.keep ((Below.refl _ _).alloc (Nat.le_refl _) _)) wr.heap.size 2 [92, 110] #[.int .u8 92, .int .u8 110] rfl (heap_alloc_new _ _) (by rfl) (by simp; omega) (by simp; omega) ?_)
            intro v' w' h1 h2
            have HB2 := Lib.hid h1
            have HW2 : Hid (Below w.heap.size w w') := Lib.hid ((HW.out.alloc hwb _).trans h2)
            clear h1 h2
            go_wp2_with fail
            go_roundw
            case rel => exact ⟨k + 1, by omega, by go_num, by rw [HS.out]; exact HB2, HW2⟩
            case measure => simp [intOf]; omega
          · have hz : ((c.toNat : Int) == 10) = false := u8_ne (b := 10) h10
            by_cases hr : 32 ≤ c ∧ c ≤ 126
            · have r1 : (32 : Int) ≤ (c.toNat : Int) := u8_le hr.1
              have r2 : (c.toNat : Int) ≤ 126 := u8_le hr.2
              rw [show qt1 c = [c] by rw [qt1, if_neg (by simp [h34, h92]), if_neg h10, if_pos hr]] at hstep
              have HS := Lib.hid hstep
              clear hstep h34 h92 h10 hr
              go_wp2_with (at_builtin; refine wpList_app_bytes rfl _ _ rfl w.heap.size _ l rfl (HB.out.keep ((Below.refl _ _).alloc (Nat.le_refl _) _)) wr.heap.size 1 [c] #[.int .u8 c.toNat] rfl (heap_alloc_new _ _) (by rfl) (by simp; omega) (by simp; omega) ?_)
              intro v' w' h1 h2
              have HB2 := Lib.hid h1
              have HW2 : Hid (Below w.heap.size w w') := Lib.hid ((HW.out.alloc hwb _).trans h2)
              clear h1 h2
              go_wp2_with fail
              go_roundw
              case rel => exact ⟨k + 1, by omega, by go_num, by rw [HS.out]; exact HB2, HW2⟩
              case measure => simp [intOf]; omega
            · rw [show qt1 c = [92, 120, hxd (c.toNat / 16), hxd (c.toNat % 16)] by rw [qt1, if_neg (by simp [h34, h92]), if_neg h10, if_neg hr]] at hstep
              have hb := c.toNat_lt
              have hd : ((c.toNat : Int)).tdiv 16 = ((c.toNat / 16 : Nat) : Int) := by rw [Int.tdiv_eq_ediv_of_nonneg (by omega)]; omega
              have hm : ((c.toNat : Int)).tmod 16 = ((c.toNat % 16 : Nat) : Int) := by rw [Int.tmod_eq_emod_of_nonneg (by omega)]; omega
              have hd1 : c.toNat / 16 < 16 := by omega
              have hm1 : c.toNat % 16 < 16 := by omega
              obtain ⟨a, ha⟩ : ∃ a, a = c.toNat / 16 := ⟨_, rfl⟩
              obtain ⟨b, hb2⟩ : ∃ b, b = c.toNat % 16 := ⟨_, rfl⟩
              rw [← ha] at hd hd1 hstep
              rw [← hb2] at hm hm1 hstep
              have ga := hxd_get a hd1
              have gb := hxd_get b hm1
              have HS := Lib.hid hstep
              clear hstep h34 h92 h10 ha hb2
              by_cases hr1 : 32 ≤ c
              · have r1 : (32 : Int) ≤ (c.toNat : Int) := u8_le hr1
                have r2 : (126 : Int) < (c.toNat : Int) := u8_lt (a := c) (b := 126) (by intro h; exact hr ⟨hr1, h⟩)
                clear hr hr1
                have ga1 : (a : Int) < 16 := by omega
                have gb1 : (b : Int) < 16 := by omega
                have ga0 : (0 : Int) ≤ (a : Int) := by omega
                have gb0 : (0 : Int) ≤ (b : Int) := by omega
                have gw := u8_wrap a (by omega)
                go_wp2_with fail
                go_region_law ((refine step_app_bytes rfl _ _ rfl w.heap.size _ l rfl (HB.out.keep ((Below.refl _ _).alloc (Nat.le_refl _) _).drew) wr.heap.size 4 [92, 120, hxd a, hxd b] #[.int .u8 92, .int .u8 120, .int .u8 (hxd a).toNat, .int .u8 (hxd b).toNat] rfl (heap_alloc_drew _ _) (by rfl) (by simp) (by simp; omega) (by simp; omega) ?_; intro v' w' h1 h2))
                all_goals
                  have HB2 := Lib.hid h1
                  have HW2 : Hid (Below w.heap.size w w') := Lib.hid ((HW.out.alloc hwb _).drew.trans h2)
                  clear h1 h2
                  go_wp2_with fail
                  go_roundw
                  case rel => exact ⟨k + 1, by omega, by go_num, by rw [HS.out]; exact HB2, HW2⟩
                  case measure => simp [intOf]; omega
              · have r1 : (c.toNat : Int) < 32 := u8_lt hr1
                clear hr hr1
                have ga1 : (a : Int) < 16 := by omega
                have gb1 : (b : Int) < 16 := by omega
                have ga0 : (0 : Int) ≤ (a : Int) := by omega
                have gb0 : (0 : Int) ≤ (b : Int) := by omega
                have gw := u8_wrap a (by omega)
                go_wp2_with fail
                go_region_law ((refine step_app_bytes rfl _ _ rfl w.heap.size _ l rfl (HB.out.keep ((Below.refl _ _).alloc (Nat.le_refl _) _).drew) wr.heap.size 4 [92, 120, hxd a, hxd b] #[.int .u8 92, .int .u8 120, .int .u8 (hxd a).toNat, .int .u8 (hxd b).toNat] rfl (heap_alloc_drew _ _) (by rfl) (by simp) (by simp; omega) (by simp; omega) ?_; intro v' w' h1 h2))
                all_goals
                  have HB2 := Lib.hid h1
                  have HW2 : Hid (Below w.heap.size w w') := Lib.hid ((HW.out.alloc hwb _).drew.trans h2)
                  clear h1 h2
                  go_wp2_with fail
                  go_roundw
                  case rel => exact ⟨k + 1, by omega, by go_num, by rw [HS.out]; exact HB2, HW2⟩
                  case measure => simp [intOf]; omega
    · obtain rfl : k = s.size := by omega
      rw [show (bs s).take s.size = bs s by rw [← bs_len, List.take_length]] at HB
      have hlen : (34 :: qb (bs s)).length ≤ 4 * s.size + 1 := by
        have := qb_len (bs s)
        rw [bs_len] at this; rw [List.length_cons]; omega
      have hwb : w.heap.size ≤ wr.heap.size := HW.out.size
      obtain ⟨l, hl⟩ : ∃ l, l = 34 :: qb (bs s) := ⟨_, rfl⟩
      have HQ : Hid (quote (bs s) = l ++ [34]) := Lib.hid (by rw [hl]; rfl)
      rw [← hl] at HB hlen
      clear hl
      go_wp2_with (at_builtin; refine wpList_app_bytes rfl _ _ rfl w.heap.size _ l rfl (HB.out.keep ((Below.refl _ _).alloc (Nat.le_refl _) _)) wr.heap.size 1 [34] #[.int .u8 34] rfl (heap_alloc_new _ _) (by rfl) (by simp; omega) (by simp; omega) ?_)
      intro v' w' h1 h2
      have hcv := conv_own h1
      have HW2 : Hid (Below w.heap.size w w') := Lib.hid ((HW.out.alloc hwb _).trans h2)
      clear h1 h2
      go_wp2_with fail
      go_ret
      exact ⟨by rw [HQ.out]; rfl, HW2.out⟩
end Go.Proofs.YtnccndfffmaonaaGreatDoor
/- Walks of taquinref02: digit, Unquote. -/
namespace Go.Proofs.YtnccndfffmaonaaGreatDoor
set_option linter.unusedSimpArgs false
open Go.RowKit

/-- The value of a digit, from the k-th on; 0 if it is none. -/
def dgF : Nat → Nat → UInt8 → Nat
  | 0, _, _ => 0
  | f + 1, k, c => if hxd k = c then k else dgF f (k + 1) c
def dg (c : UInt8) : Nat := dgF 16 0 c
theorem dgF_lt : ∀ (f k : Nat) (c : UInt8), f + k ≤ 16 → dgF f k c < 16 := by
  intro f
  induction f with
  | zero => intro k c _; simp [dgF]
  | succ f ih =>
    intro k c h
    rw [dgF]; split
    · omega
    · exact ih (k + 1) c (by omega)
theorem dg_lt (c : UInt8) : dg c < 16 := dgF_lt 16 0 c (by omega)
def ubR (a b : UInt8) : UInt8 := UInt8.ofNat (dg a * 16 + dg b)
theorem ubR_nat (a b : UInt8) : (ubR a b).toNat = dg a * 16 + dg b := by
  have := dg_lt a; have := dg_lt b
  unfold ubR; rw [UInt8.toNat_ofNat']; omega
theorem ubR_walk (a b : UInt8) : (((dg a : Nat) : Int) * 16 % 256 + ((dg b : Nat) : Int)) % 256 = ((ubR a b).toNat : Int) := by
  have h1 := dg_lt a; have h2 := dg_lt b
  rw [ubR_nat]; omega
/-- What a quoted string's inside reads as, the digits by the reference. -/
def rawR : List UInt8 → List UInt8
  | 92 :: 110 :: r => 10 :: rawR r
  | 92 :: 120 :: a :: b :: r => ubR a b :: rawR r
  | 92 :: c :: r => c :: rawR r
  | a :: r => a :: rawR r
  | [] => []
theorem rawR_n (r : List UInt8) : rawR (92 :: 110 :: r) = 10 :: rawR r := by rw [rawR]
theorem rawR_x (a b : UInt8) (r : List UInt8) : rawR (92 :: 120 :: a :: b :: r) = ubR a b :: rawR r := by rw [rawR]
theorem rawR_c (c : UInt8) (r : List UInt8) (h : c ≠ 110) (h2 : c ≠ 120 ∨ r.length < 2) : rawR (92 :: c :: r) = c :: rawR r := by
  rw [rawR]
  · rintro rfl; exact h rfl
  · intro a b r' e1 e2
    subst e2
    rcases h2 with h2 | h2
    · exact h2 e1
    · simp only [List.length_cons] at h2; omega
theorem rawR_a (a : UInt8) (r : List UInt8) (h : a ≠ 92 ∨ r = []) : rawR (a :: r) = a :: rawR r := by
  rcases h with h | h
  · rw [rawR]
    · intro r' e1; exact absurd e1 h
    · intro x y r' e1; exact absurd e1 h
    · intro x r' e1; exact absurd e1 h
  · subst h
    rw [rawR]
    · intro r' _ e; cases e
    · intro x y r' _ e; cases e
    · intro x r' _ e; cases e
theorem ubR_all : (List.range 256).all (fun n => ubR (hxd (n / 16)) (hxd (n % 16)) == UInt8.ofNat n) = true := by decide +kernel
theorem ubR_hx (c : UInt8) : ubR (hxd (c.toNat / 16)) (hxd (c.toNat % 16)) = c := by
  have h := List.all_eq_true.1 ubR_all c.toNat (List.mem_range.2 c.toNat_lt)
  rw [beq_iff_eq] at h
  rw [h, UInt8.ofNat_toNat]
theorem rawR_qb (l : List UInt8) : rawR (qb l) = l := by
  induction l with
  | nil => rfl
  | cons c l ih =>
    show rawR (qt1 c ++ qb l) = _
    unfold qt1
    split
    · rename_i h
      show rawR (92 :: c :: qb l) = _
      rw [rawR_c, ih]
      · rcases h with rfl | rfl <;> decide
      · left; rcases h with rfl | rfl <;> decide
    · rename_i h
      split
      · rename_i h; subst h; show rawR (92 :: 110 :: qb l) = _; rw [rawR_n, ih]
      · split
        · show rawR (c :: qb l) = _
          rw [rawR_a, ih]
          left; intro e; exact h (.inr e)
        · show rawR (92 :: 120 :: _ :: _ :: qb l) = _
          rw [rawR_x, ih, ubR_hx]
/-- Both readings quote to the string, or none does. -/
theorem rawR_raw {s : ByteArray} (h : quote (rawR (inside s 1)) = bs s) : raw (inside s 1) = rawR (inside s 1) := by
  have := inside_quote s _ h.symm
  rw [this, raw_qb, rawR_qb]
theorem raw_rawR {s : ByteArray} (h : quote (raw (inside s 1)) = bs s) : raw (inside s 1) = rawR (inside s 1) := by
  have := inside_quote s _ h.symm
  rw [this, raw_qb, rawR_qb]
theorem quote_iff (s : ByteArray) : (quote (rawR (inside s 1)) = bs s) ↔ (quote (unq (bs s)) = bs s) := by
  rw [← unq_eq]
  constructor
  · intro h; rw [rawR_raw h]; exact h
  · intro h; rw [← raw_rawR h]; exact h

set_option maxRecDepth 100000 in
set_option maxHeartbeats 2000000 in
theorem rdigit_any (c : UInt8) (w : World) :
    Calls Tryz.prog 112 #[.int .u8 c.toNat] w fun e w' => e = .returned (.int .u8 (dg c)) ∧ w' = w := by
  obtain ⟨D, hD⟩ : ∃ D, D = dg c := ⟨_, rfl⟩
  rw [← hD]
  have HD := Lib.hid hD
  clear hD
  go_enter Tryz.func112, Tryz.ntmps112
  go_wp2_with fail
  go_loop [3] (fun i => ∃ k : Nat, k ≤ 16 ∧ i = .int .i64 k ∧ Hid (D = dgF (16 - k) k c)) (fun i => 16 - (intOf i).toNat)
  case atStart => exact ⟨0, by omega, rfl, HD⟩
  case round =>
    obtain ⟨k, hk, rfl, HK⟩ := hrel
    by_cases hlt : k < 16
    · have g := hxd_get k hlt
      have hs : dgF (16 - k) k c = if hxd k = c then k else dgF (16 - (k + 1)) (k + 1) c := by
        rw [show 16 - k = (16 - (k + 1)) + 1 by omega, dgF]
      have k0 : (0 : Int) ≤ (k : Int) := by omega
      have k1 : (k : Int) < 16 := by omega
      by_cases he : hxd k = c
      · have e1 : (((hxd k).toNat : Int) == (c.toNat : Int)) = true := by rw [u8_eq, he]; exact beq_self_eq_true _
        have HN : Hid (D = k) := Lib.hid (by rw [HK.out, hs, if_pos he])
        have hw := u8_wrap k (by omega)
        clear HK hs he
        go_wp2_with fail
        go_ret
        exact ⟨by rw [HN.out]; rfl, rfl⟩
      · have e1 : (((hxd k).toNat : Int) == (c.toNat : Int)) = false := by rw [u8_eq]; exact beq_eq_false_iff_ne.2 he
        have HN : Hid (D = dgF (16 - (k + 1)) (k + 1) c) := Lib.hid (by rw [HK.out, hs, if_neg he])
        clear HK hs he
        go_wp2_with fail
        go_round
        case rel => exact ⟨k + 1, by omega, by go_num, HN⟩
        case measure => simp [intOf]; omega
    · have HN : Hid (D = 0) := Lib.hid (by rw [HK.out, show 16 - k = 0 by omega, dgF])
      clear HK
      go_wp2_with fail
      go_ret
      exact ⟨by rw [HN.out]; rfl, rfl⟩
theorem rQuote_l (l : List UInt8) (w : World) (hs : l.length ≤ 100000000) :
    Calls Tryz.prog 38 #[.string ⟨l.toArray⟩] w fun e w' => e = .returned (.string ⟨(quote l).toArray⟩) ∧ Below w.heap.size w w' := by
  have h := rQuote_any ⟨l.toArray⟩ w (by rw [← bs_len, bs_lit0]; exact hs)
  rw [bs_lit0] at h; exact h

def UnqPost (s : ByteArray) (w : World) (e : Ending) (w' : World) : Prop :=
  e = .returned (.tuple #[.string (if quote (unq (bs s)) = bs s then ⟨(unq (bs s)).toArray⟩ else ⟨#[]⟩), .bool (decide (quote (unq (bs s)) = bs s))]) ∧ Below w.heap.size w w'
set_option maxRecDepth 100000 in
set_option maxHeartbeats 16000000 in
theorem rUnquote_any (s : ByteArray) (w : World) (hs : s.size ≤ 20000000) :
    Calls Tryz.prog 97 #[.string s] w (UnqPost s w) := by
  obtain ⟨G, hG⟩ : ∃ G, rawR (inside s 1) = G := ⟨_, rfl⟩
  have HG := Lib.hid hG
  clear hG
  go_enter Tryz.func97, Tryz.ntmps97
  go_wp2_with fail
  go_loopw [4, 5] (fun v iv wr => ∃ (k : Nat) (l : List UInt8), 1 ≤ k ∧ k ≤ s.size + 1 ∧ l.length ≤ k ∧ iv = .int .i64 k ∧ Hid (OB w.heap.size wr v l) ∧ Hid (Below w.heap.size w wr) ∧ Hid (G = l ++ rawR (inside s k))) (fun _ iv _ => s.size + 1 - (intOf iv).toNat)
  case atStart => exact ⟨1, [], by omega, by omega, by simp, rfl, Lib.hid (OB.nil _ _), Lib.hid (Below.refl _ _), Lib.hid (by rw [HG.out]; rfl)⟩
  case round =>
    obtain ⟨k, l, hk1, hk, hl, rfl, HB, HW, HN⟩ := hrel
    have hwb : w.heap.size ≤ wr.heap.size := HW.out.size
    by_cases hlt : k + 1 < s.size
    · have hlt0 : (k : Int) < (s.size : Int) - 1 := by omega
      by_cases h92 : s[k] = 92
      · have hx : ((s[k].toNat : Int) == 92) = true := u8_is (b := 92) h92
        by_cases h2 : k + 2 < s.size
        · have hge : (k : Int) + 1 < (s.size : Int) - 1 := by omega
          by_cases h110 : s[k + 1] = 110
          · have hy : ((s[k + 1].toNat : Int) == 110) = true := u8_is (b := 110) h110
            have HG2 : Hid (G = (l ++ [10]) ++ rawR (inside s (k + 2))) := Lib.hid (by rw [HN.out, inside_cons s k hlt, inside_cons s (k + 1) h2, h92, h110, rawR_n, List.append_assoc]; rfl)
            clear HN h92 h110
            go_wp2_with (at_builtin; refine wpList_app_bytes rfl _ _ rfl w.heap.size _ l rfl (HB.out.keep ((Below.refl _ _).alloc (Nat.le_refl _) _)) wr.heap.size 1 [10] #[.int .u8 10] rfl (heap_alloc_new _ _) (by rfl) (by simp; omega) (by simp; omega) ?_)
            intro v' w' h1 h2
            have HB2 := Lib.hid h1
            have HW2 : Hid (Below w.heap.size w w') := Lib.hid ((HW.out.alloc hwb _).trans h2)
            clear h1 h2
            go_wp2_with fail
            go_roundw
            case rel => exact ⟨k + 2, l ++ [10], by omega, by omega, by simp; omega, by go_num, HB2, HW2, HG2⟩
            case measure => simp [intOf]; omega
          · have hy : ((s[k + 1].toNat : Int) == 110) = false := u8_ne (b := 110) h110
            by_cases h120 : s[k + 1] = 120
            · have hz : ((s[k + 1].toNat : Int) == 120) = true := u8_is (b := 120) h120
              by_cases h3 : k + 4 < s.size
              · have hge2 : (k : Int) + 3 < (s.size : Int) - 1 := by omega
                have HG2 : Hid (G = (l ++ [ubR s[k + 2] s[k + 3]]) ++ rawR (inside s (k + 4))) := Lib.hid (by rw [HN.out, inside_cons s k hlt, inside_cons s (k + 1) h2, inside_cons s (k + 2) (by omega), inside_cons s (k + 3) (by omega), h92, h120, rawR_x, List.append_assoc]; rfl)
                have HU := Lib.hid (ubR_walk s[k + 2] s[k + 3])
                have hn1 : (0 : Int) ≤ (k : Int) + 2 := by omega
                have hn2 : (0 : Int) ≤ (k : Int) + 3 := by omega
                have hn3 : (k : Int) + 2 < (s.size : Int) := by omega
                have hn4 : (k : Int) + 3 < (s.size : Int) := by omega
                have ht1 : ((k : Int) + 2).toNat = k + 2 := by omega
                have ht2 : ((k : Int) + 3).toNat = k + 3 := by omega
                have ht3 : ((k : Int) + 1 + 1).toNat = k + 2 := by omega
                have ht4 : ((k : Int) + 1 + 1 + 1).toNat = k + 3 := by omega
                have hw1 : IntKind.i64.wrap (((k : Int) + 1) + 1) = (k : Int) + 2 := by rw [IntWalk.i64_in _ (by omega)]; omega
                have hw2 : IntKind.i64.wrap (((k : Int) + 1 + 1) + 1) = (k : Int) + 3 := by rw [IntWalk.i64_in _ (by omega)]; omega
                have hw3 : IntKind.i64.wrap (((k : Int) + 2) + 1) = (k : Int) + 3 := by rw [IntWalk.i64_in _ (by omega)]; omega
                clear HN h92 h110 h120
                go_wp2_with fail
                go_quiet ((go_at_call 112; exact Calls.quiet_of_same (rdigit_any _ _)))
                rw [HU.out]
                generalize hwq : wr.drewN nq = w2
                have HB9 : Hid (OB w.heap.size w2 u4 l) := Lib.hid (hwq ▸ (show OB w.heap.size (wr.drewN nq) u4 l from HB.out))
                have HW9 : Hid (Below w.heap.size w w2) := Lib.hid (hwq ▸ (HW.out.trans (below_drewN _ _ _)))
                have hwb9 : w.heap.size ≤ w2.heap.size := HW9.out.size
                clear hwq hw1 hw2 hw3
                go_wp2_with (at_builtin; refine wpList_app_bytes rfl _ _ rfl w.heap.size _ l rfl (HB9.out.keep ((Below.refl _ _).alloc (Nat.le_refl _) _)) w2.heap.size 1 [ubR s[k + 2] s[k + 3]] #[.int .u8 (ubR s[k + 2] s[k + 3]).toNat] rfl (heap_alloc_new _ _) (by rfl) (by simp; omega) (by simp; omega) ?_)
                intro v' w' h1 h2
                have HB2 := Lib.hid h1
                have HW2 : Hid (Below w.heap.size w w') := Lib.hid ((HW9.out.alloc hwb9 _).trans h2)
                clear h1 h2
                go_wp2_with fail
                go_roundw
                case rel => exact ⟨k + 4, l ++ [ubR s[k + 2] s[k + 3]], by omega, by omega, by simp; omega, by go_num, HB2, HW2, HG2⟩
                case measure => simp [intOf]; omega
              · have hge2 : (s.size : Int) - 1 ≤ (k : Int) + 3 := by omega
                have HG2 : Hid (G = (l ++ [s[k + 1]]) ++ rawR (inside s (k + 2))) := Lib.hid (by rw [HN.out, inside_cons s k hlt, inside_cons s (k + 1) h2, h92, rawR_c _ _ h110 (.inr (by rw [inside_len]; omega)), List.append_assoc]; rfl)
                clear HN h92 h110 h120
                go_wp2_with (at_builtin; refine wpList_app_bytes rfl _ _ rfl w.heap.size _ l rfl (HB.out.keep ((Below.refl _ _).alloc (Nat.le_refl _) _)) wr.heap.size 1 [s[k + 1]] #[.int .u8 s[k + 1].toNat] rfl (heap_alloc_new _ _) (by rfl) (by simp; omega) (by simp; omega) ?_)
                intro v' w' h1 h2
                have HB2 := Lib.hid h1
                have HW2 : Hid (Below w.heap.size w w') := Lib.hid ((HW.out.alloc hwb _).trans h2)
                clear h1 h2
                go_wp2_with fail
                go_roundw
                case rel => exact ⟨k + 2, l ++ [s[k + 1]], by omega, by omega, by simp; omega, by go_num, HB2, HW2, HG2⟩
                case measure => simp [intOf]; omega
            · have hz : ((s[k + 1].toNat : Int) == 120) = false := u8_ne (b := 120) h120
              have HG2 : Hid (G = (l ++ [s[k + 1]]) ++ rawR (inside s (k + 2))) := Lib.hid (by rw [HN.out, inside_cons s k hlt, inside_cons s (k + 1) h2, h92, rawR_c _ _ h110 (.inl h120), List.append_assoc]; rfl)
              clear HN h92 h110 h120
              go_wp2_with (at_builtin; refine wpList_app_bytes rfl _ _ rfl w.heap.size _ l rfl (HB.out.keep ((Below.refl _ _).alloc (Nat.le_refl _) _)) wr.heap.size 1 [s[k + 1]] #[.int .u8 s[k + 1].toNat] rfl (heap_alloc_new _ _) (by rfl) (by simp; omega) (by simp; omega) ?_)
              intro v' w' h1 h2
              have HB2 := Lib.hid h1
              have HW2 : Hid (Below w.heap.size w w') := Lib.hid ((HW.out.alloc hwb _).trans h2)
              clear h1 h2
              go_wp2_with fail
              go_roundw
              case rel => exact ⟨k + 2, l ++ [s[k + 1]], by omega, by omega, by simp; omega, by go_num, HB2, HW2, HG2⟩
              case measure => simp [intOf]; omega
        · have hge : (s.size : Int) - 1 ≤ (k : Int) + 1 := by omega
          have HG2 : Hid (G = (l ++ [s[k]]) ++ rawR (inside s (k + 1))) := Lib.hid (by rw [HN.out, inside_cons s k hlt, rawR_a _ _ (.inr (inside_nil s (k + 1) h2)), List.append_assoc]; rfl)
          clear HN h92
          go_wp2_with (at_builtin; refine wpList_app_bytes rfl _ _ rfl w.heap.size _ l rfl (HB.out.keep ((Below.refl _ _).alloc (Nat.le_refl _) _)) wr.heap.size 1 [s[k]] #[.int .u8 s[k].toNat] rfl (heap_alloc_new _ _) (by rfl) (by simp; omega) (by simp; omega) ?_)
          intro v' w' h1 h2
          have HB2 := Lib.hid h1
          have HW2 : Hid (Below w.heap.size w w') := Lib.hid ((HW.out.alloc hwb _).trans h2)
          clear h1 h2
          go_wp2_with fail
          go_roundw
          case rel => exact ⟨k + 1, l ++ [s[k]], by omega, by omega, by simp; omega, by go_num, HB2, HW2, HG2⟩
          case measure => simp [intOf]; omega
      · have hx : ((s[k].toNat : Int) == 92) = false := u8_ne (b := 92) h92
        have HG2 : Hid (G = (l ++ [s[k]]) ++ rawR (inside s (k + 1))) := Lib.hid (by rw [HN.out, inside_cons s k hlt, rawR_a _ _ (.inl h92), List.append_assoc]; rfl)
        clear HN h92
        go_wp2_with (at_builtin; refine wpList_app_bytes rfl _ _ rfl w.heap.size _ l rfl (HB.out.keep ((Below.refl _ _).alloc (Nat.le_refl _) _)) wr.heap.size 1 [s[k]] #[.int .u8 s[k].toNat] rfl (heap_alloc_new _ _) (by rfl) (by simp; omega) (by simp; omega) ?_)
        intro v' w' h1 h2
        have HB2 := Lib.hid h1
        have HW2 : Hid (Below w.heap.size w w') := Lib.hid ((HW.out.alloc hwb _).trans h2)
        clear h1 h2
        go_wp2_with fail
        go_roundw
        case rel => exact ⟨k + 1, l ++ [s[k]], by omega, by omega, by simp; omega, by go_num, HB2, HW2, HG2⟩
        case measure => simp [intOf]; omega
    · have hg : G = l := by rw [HN.out, inside_nil s k hlt, rawR, List.append_nil]
      subst hg
      have hge : (s.size : Int) - 1 ≤ (k : Int) := by omega
      have hql : G.length ≤ 20000001 := by omega
      have hqi := quote_iff s
      rw [HG.out] at hqi
      clear HN
      by_cases hq : quote G = bs s
      · have hqq : (quote G == s.toList) = true := by rw [toList_bs, hq]; exact beq_self_eq_true _
        have hqn : (quote G != s.toList) = false := by rw [bne, hqq]; rfl
        have HQ := Lib.hid (hqi.1 hq)
        have HR : Hid (unq (bs s) = G) := Lib.hid (by rw [← HG.out, ← unq_eq]; exact rawR_raw (by rw [HG.out]; exact hq))
        clear hq hqi
        have hcv := conv_own HB.out
        go_wp2_with fail
        go_at_call 38; refine (rQuote_l G _ (by omega)).mono ?_; rintro e w3 ⟨rfl, b⟩
        have hcv2 := conv_own (HB.out.keep b)
        clear hcv
        go_wp2_with fail
        go_ret2
        exact ⟨by rw [if_pos HQ.out, decide_eq_true HQ.out, HR.out]; rfl, HW.out.trans (b.mono hwb)⟩
      · have hqq : (quote G == s.toList) = false := by rw [toList_bs]; exact beq_eq_false_iff_ne.2 hq
        have hqn : (quote G != s.toList) = true := by rw [bne, hqq]; rfl
        have HQ := Lib.hid (fun h => hq (hqi.2 h))
        clear hq hqi
        have hcv := conv_own HB.out
        go_wp2_with fail
        go_at_call 38; refine (rQuote_l G _ (by omega)).mono ?_; rintro e w3 ⟨rfl, b⟩
        go_wp2_with fail
        go_ret2
        exact ⟨by rw [if_neg HQ.out, decide_eq_false HQ.out]; rfl, HW.out.trans (b.mono hwb)⟩
end Go.Proofs.YtnccndfffmaonaaGreatDoor
