/- Walks of taquinref09: letter, digit, part, Word. -/
import Derived.Test.YtdjiimblfhbcjaaDoorLxW
namespace Go.Proofs.YtdjiimblfhbcjaaDoor
set_option linter.unusedSimpArgs false
open Go.RowKit

theorem letter_val (c : UInt8) : Lx.letter c = (decide (97 ≤ c.toNat ∧ c.toNat ≤ 122) || decide (65 ≤ c.toNat ∧ c.toNat ≤ 90) || decide (c.toNat = 95)) := by
  have h : (List.range 256).all (fun n => Lx.letter (UInt8.ofNat n) == (decide (97 ≤ (UInt8.ofNat n).toNat ∧ (UInt8.ofNat n).toNat ≤ 122) || decide (65 ≤ (UInt8.ofNat n).toNat ∧ (UInt8.ofNat n).toNat ≤ 90) || decide ((UInt8.ofNat n).toNat = 95))) = true := by decide +kernel
  have h2 := List.all_eq_true.1 h c.toNat (List.mem_range.2 c.toNat_lt)
  rw [beq_iff_eq, UInt8.ofNat_toNat] at h2
  exact h2
theorem r9letter_any (c : UInt8) (b : Bool) (h : Lx.letter c = b) (w : World) :
    Calls Tryd.prog 64 #[.int .u8 c.toNat] w fun e w' => e = .returned (.bool b) ∧ w = w' := by
  have HP := Lib.hid h
  clear h
  by_cases i1 : (97 : Int) ≤ (c.toNat : Int) ∧ (c.toNat : Int) ≤ 122
  · obtain ⟨i1, i2⟩ := i1
    have HV : Hid (true = b) := Lib.hid (by rw [← HP.out, letter_val]; simp; omega)
    go_enter Tryd.func64, Tryd.ntmps64
    go_wp2_with fail
    go_ret
    exact ⟨ret_bool (by first | rw [HV.out] | (rw [← HV.out]; simp; omega)), rfl⟩
  by_cases i2 : (65 : Int) ≤ (c.toNat : Int) ∧ (c.toNat : Int) ≤ 90
  · obtain ⟨i2, i3⟩ := i2
    have j : (c.toNat : Int) < 97 := by omega
    clear i1
    have HV : Hid (true = b) := Lib.hid (by rw [← HP.out, letter_val]; simp; omega)
    go_enter Tryd.func64, Tryd.ntmps64
    go_wp2_with fail
    go_ret
    exact ⟨ret_bool (by first | rw [HV.out] | (rw [← HV.out]; simp; omega)), rfl⟩
  by_cases i5 : c.toNat = 95
  · have e95 : ((c.toNat : Int) == 95) = true := beq_iff_eq.2 (by omega)
    have j1 : (90 : Int) < (c.toNat : Int) := by omega
    have j2 : (c.toNat : Int) < 97 := by omega
    have HV : Hid (true = b) := Lib.hid (by rw [← HP.out, letter_val]; simp; omega)
    clear i1 i2 i5
    go_enter Tryd.func64, Tryd.ntmps64
    go_wp2_with fail
    go_ret
    exact ⟨ret_bool (by first | rw [HV.out] | (rw [← HV.out]; simp; omega)), rfl⟩
  have e95 : ((c.toNat : Int) == 95) = false := beq_eq_false_iff_ne.2 (by omega)
  have HV : Hid (false = b) := Lib.hid (by rw [← HP.out, letter_val]; simp; omega)
  by_cases i7 : (c.toNat : Int) < 65
  · clear i1 i2 i5
    go_enter Tryd.func64, Tryd.ntmps64
    go_wp2_with fail
    go_ret
    exact ⟨ret_bool (by first | rw [HV.out] | (rw [← HV.out]; simp; omega)), rfl⟩
  by_cases i9 : (c.toNat : Int) < 97
  · have j1 : (90 : Int) < (c.toNat : Int) := by omega
    clear i1 i2 i5 i7
    go_enter Tryd.func64, Tryd.ntmps64
    go_wp2_with fail
    go_ret
    exact ⟨ret_bool (by first | rw [HV.out] | (rw [← HV.out]; simp; omega)), rfl⟩
  have j1 : (122 : Int) < (c.toNat : Int) := by omega
  clear i1 i2 i5 i7 i9
  go_enter Tryd.func64, Tryd.ntmps64
  go_wp2_with fail
  go_ret
  exact ⟨ret_bool (by first | rw [HV.out] | (rw [← HV.out]; simp; omega)), rfl⟩
theorem r9digit_any (c : UInt8) (b : Bool) (h : Lx.digit c = b) (w : World) :
    Calls Tryd.prog 86 #[.int .u8 c.toNat] w fun e w' => e = .returned (.bool b) ∧ w = w' := by
  unfold Lx.digit at h
  by_cases h1 : 48 ≤ c
  · by_cases h2 : c ≤ 57
    · have e1 : (48 : Int) ≤ (c.toNat : Int) := u8_le h1
      have e2 : (c.toNat : Int) ≤ 57 := u8_le h2
      rw [decide_eq_true h1, decide_eq_true h2] at h
      have H := Lib.hid h
      clear h h1 h2
      go_enter Tryd.func86, Tryd.ntmps86
      go_wp2_with fail
      go_ret
      exact ⟨ret_bool (by rw [← H.out]; rfl), rfl⟩
    · have e1 : (48 : Int) ≤ (c.toNat : Int) := u8_le h1
      have e2 : (57 : Int) < (c.toNat : Int) := u8_lt h2
      have e3 : decide ((c.toNat : Int) ≤ 57) = false := decide_eq_false (by omega)
      rw [decide_eq_false h2, Bool.and_false] at h
      have H := Lib.hid h
      clear h h1 h2
      go_enter Tryd.func86, Tryd.ntmps86
      go_wp2_with fail
      go_ret
      exact ⟨ret_bool H.out, rfl⟩
  · have e1 : (c.toNat : Int) < 48 := u8_lt h1
    rw [decide_eq_false h1, Bool.false_and] at h
    have H := Lib.hid h
    clear h h1
    go_enter Tryd.func86, Tryd.ntmps86
    go_wp2_with fail
    go_ret
    exact ⟨ret_bool H.out, rfl⟩
theorem r9part_any (c : UInt8) (b : Bool) (h : Lx.part c = b) (w : World) :
    Calls Tryd.prog 65 #[.int .u8 c.toNat] w fun e w' => e = .returned (.bool b) ∧ w = w' := by
  unfold Lx.part at h
  cases h1 : Lx.letter c with
  | true =>
    rw [h1] at h
    have H := Lib.hid h
    have H1 := Lib.hid h1
    clear h h1
    go_enter Tryd.func65, Tryd.ntmps65
    go_wp2_with fail
    go_at_call 64; refine (r9letter_any c true H1.out _).mono ?_; rintro e w' ⟨rfl, rfl⟩
    go_wp2_with fail
    go_ret
    exact ⟨ret_bool (by rw [← H.out]; rfl), rfl⟩
  | false =>
    rw [h1, Bool.false_or] at h
    have H1 := Lib.hid h1
    clear h1
    cases h2 : Lx.digit c with
    | true =>
      rw [h2] at h
      have H := Lib.hid h
      have H2 := Lib.hid h2
      clear h h2
      go_enter Tryd.func65, Tryd.ntmps65
      go_wp2_with fail
      go_at_call 64; refine (r9letter_any c false H1.out _).mono ?_; rintro e w' ⟨rfl, rfl⟩
      go_wp2_with fail
      go_at_call 86; refine (r9digit_any c true H2.out _).mono ?_; rintro e w' ⟨rfl, rfl⟩
      go_wp2_with fail
      go_ret
      exact ⟨ret_bool (by rw [← H.out]; rfl), rfl⟩
    | false =>
      rw [h2, Bool.false_or, show (45 : UInt8) = (45 : UInt8) from rfl] at h
      have H2 := Lib.hid h2
      have e1 : ((c.toNat : Int) == 45) = b := by rw [← h]; exact u8_eq c 45
      have H := Lib.hid h
      clear h h2
      go_enter Tryd.func65, Tryd.ntmps65
      go_wp2_with fail
      go_at_call 64; refine (r9letter_any c false H1.out _).mono ?_; rintro e w' ⟨rfl, rfl⟩
      go_wp2_with fail
      go_at_call 86; refine (r9digit_any c false H2.out _).mono ?_; rintro e w' ⟨rfl, rfl⟩
      go_wp2_with fail
      go_ret
      exact ⟨rfl, rfl⟩
theorem word_short {l : List UInt8} (h : l.length < 1 ∨ 20 < l.length) : Lx.word l = false := by
  unfold Lx.word
  rcases h with h | h
  · rw [decide_eq_false (by omega : ¬ 1 ≤ l.length)]; simp
  · rw [decide_eq_false (by omega : ¬ l.length ≤ 20)]; simp
set_option maxRecDepth 100000 in
set_option maxHeartbeats 1000000 in
theorem r9Word_any (s : ByteArray) (b : Bool) (hb : Lx.word (bs s) = b) (w : World) (hs : s.size ≤ 140737488355328) :
    Calls Tryd.prog 33 #[.string s] w fun e w' => e = .returned (.bool b) ∧ w = w' := by
  have HB := Lib.hid hb
  clear hb
  by_cases h1 : 1 ≤ s.size
  · have h1' : (1 : Int) ≤ (s.size : Int) := by omega
    by_cases h2 : s.size ≤ 20
    · have h2' : (s.size : Int) ≤ 20 := by omega
      have d2 : decide ((20 : Int) < (s.size : Int)) = false := decide_eq_false (by omega)
      have d1 : decide ((s.size : Int) < 1) = false := decide_eq_false (by omega)
      have hpos : 0 < s.size := by omega
      cases hl : Lx.letter s[0] with
      | false =>
        have HL := Lib.hid hl
        have HR : Hid (b = false) := Lib.hid (by rw [← HB.out, Lx.word, bs_head s hpos, hl, Bool.and_false])
        clear hl
        go_enter Tryd.func33, Tryd.ntmps33
        go_wp2_with fail
        go_at_call 64; refine (r9letter_any s[0] false HL.out _).mono ?_; rintro e w' ⟨rfl, rfl⟩
        go_wp2_with fail
        go_ret
        exact ⟨ret_bool (by rw [HR.out]), rfl⟩
      | true =>
        have HL := Lib.hid hl
        clear hl
        go_enter Tryd.func33, Tryd.ntmps33
        go_wp2_with fail
        go_at_call 64; refine (r9letter_any s[0] true HL.out _).mono ?_; rintro e w' ⟨rfl, rfl⟩
        go_wp2_with fail
        go_loop [3] (fun i => ∃ k : Nat, k ≤ s.size ∧ Hid (((bs s).take k).all Lx.part = true) ∧ i = .int .i64 k) (fun i => s.size - (intOf i).toNat)
        case atStart => exact ⟨0, by omega, Lib.hid (by rfl), rfl⟩
        case round =>
          obtain ⟨k, hk, HA, rfl⟩ := hrel
          by_cases hlt : k < s.size
          · cases hp : Lx.part s[k] with
            | true =>
              have HN := Lib.hid (take_all s k hlt HA.out hp)
              have HP := Lib.hid hp
              clear hp HA
              go_wp2_with fail
              go_at_call 65; refine (r9part_any s[k] true HP.out _).mono ?_; rintro e w' ⟨rfl, rfl⟩
              go_wp2_with fail
              go_round
              case rel => exact ⟨k + 1, by omega, HN, by go_num⟩
              case measure => simp [intOf]; omega
            | false =>
              have HN := Lib.hid (all_take s k hlt hp)
              have HP := Lib.hid hp
              clear hp HA
              go_wp2_with fail
              go_at_call 65; refine (r9part_any s[k] false HP.out _).mono ?_; rintro e w' ⟨rfl, rfl⟩
              go_wp2_with fail
              go_ret
              exact ⟨ret_bool (by rw [← HB.out, Lx.word, HN.out]; rfl), rfl⟩
          · obtain rfl : k = s.size := by omega
            have HA2 : Hid ((bs s).all Lx.part = true) := Lib.hid (by have := HA.out; rwa [← bs_len, List.take_length] at this)
            have HR : Hid (b = true) := Lib.hid (by rw [← HB.out, Lx.word, HA2.out, bs_head s hpos, HL.out, bs_len, decide_eq_true h1, decide_eq_true h2]; rfl)
            clear HA
            go_wp2_with fail
            go_ret
            exact ⟨ret_bool (by rw [HR.out]), rfl⟩
    · have h2' : (20 : Int) < (s.size : Int) := by omega
      have HR : Hid (b = false) := Lib.hid (by rw [← HB.out]; exact word_short (by rw [bs_len]; omega))
      go_enter Tryd.func33, Tryd.ntmps33
      go_wp2_with fail
      go_ret
      exact ⟨ret_bool (by rw [HR.out]), rfl⟩
  · have h1' : (s.size : Int) < 1 := by omega
    have HR : Hid (b = false) := Lib.hid (by rw [← HB.out]; exact word_short (by rw [bs_len]; omega))
    go_enter Tryd.func33, Tryd.ntmps33
    go_wp2_with fail
    go_ret
    exact ⟨ret_bool (by rw [HR.out]), rfl⟩
end Go.Proofs.YtdjiimblfhbcjaaDoor
