/- Walks of package lex: letter, digit, part, Word. -/
import Derived.Test.YtdjiimblfhbcjaaDoorLxS
import Derived.Test.YtdjiimblfhbcjaaDoorTxW
namespace Go.Proofs.YtdjiimblfhbcjaaDoor
set_option linter.unusedSimpArgs false
open Go.RowKit

def or32 (c : UInt8) : Nat := c.toNat ||| 32
theorem or32_walk (c : UInt8) : bits BinOp.or IntKind.u8 (c.toNat : Int) 32 = ((or32 c : Nat) : Int) := by
  have h : (List.range 256).all (fun n => bits BinOp.or IntKind.u8 (n : Int) 32 == ((or32 (UInt8.ofNat n) : Nat) : Int)) = true := by decide +kernel
  have h2 := List.all_eq_true.1 h c.toNat (List.mem_range.2 c.toNat_lt)
  rw [beq_iff_eq, UInt8.ofNat_toNat] at h2
  exact h2
theorem letter_or (c : UInt8) : Lx.letter c = (c == 95 || (decide (97 ≤ or32 c) && decide (or32 c ≤ 122))) := by
  have h : (List.range 256).all (fun n => Lx.letter (UInt8.ofNat n) == (UInt8.ofNat n == 95 || (decide (97 ≤ or32 (UInt8.ofNat n)) && decide (or32 (UInt8.ofNat n) ≤ 122)))) = true := by decide +kernel
  have h2 := List.all_eq_true.1 h c.toNat (List.mem_range.2 c.toNat_lt)
  rw [beq_iff_eq, UInt8.ofNat_toNat] at h2
  exact h2
theorem letter_any (c : UInt8) (b : Bool) (h : Lx.letter c = b) (w : World) :
    Calls Tryd.prog 61 #[.int .u8 c.toNat] w fun e w' => e = .returned (.bool b) ∧ w = w' := by
  rw [letter_or] at h
  have hw := or32_walk c
  obtain ⟨x, hx⟩ : ∃ x, x = or32 c := ⟨_, rfl⟩
  rw [← hx] at h hw
  clear hx
  by_cases h1 : c = 95
  · have e1 : ((c.toNat : Int) == 95) = true := u8_is (b := 95) h1
    have H := Lib.hid h
    have H1 := Lib.hid h1
    clear h h1
    go_enter Tryd.func61, Tryd.ntmps61
    go_wp2_with fail
    go_ret
    exact ⟨ret_bool (by rw [← H.out, H1.out]; rfl), rfl⟩
  · have e1 : ((c.toNat : Int) == 95) = false := u8_ne (b := 95) h1
    rw [show (c == 95) = false from beq_eq_false_iff_ne.2 h1, Bool.false_or] at h
    have H := Lib.hid h
    clear h h1
    by_cases h2 : (97 : Int) ≤ (x : Int)
    · by_cases h3 : (x : Int) ≤ 122
      · go_enter Tryd.func61, Tryd.ntmps61
        go_wp2_with fail
        go_ret
        exact ⟨ret_bool (by rw [← H.out, decide_eq_true (by omega : 97 ≤ x), decide_eq_true (by omega : x ≤ 122)]; rfl), rfl⟩
      · go_enter Tryd.func61, Tryd.ntmps61
        go_wp2_with fail
        go_ret
        exact ⟨ret_bool (by rw [← H.out, decide_eq_false (by omega : ¬ x ≤ 122), Bool.and_false]), rfl⟩
    · go_enter Tryd.func61, Tryd.ntmps61
      go_wp2_with fail
      go_ret
      exact ⟨ret_bool (by rw [← H.out, decide_eq_false (by omega : ¬ 97 ≤ x), Bool.false_and]), rfl⟩
theorem digit_any (c : UInt8) (b : Bool) (h : Lx.digit c = b) (w : World) :
    Calls Tryd.prog 79 #[.int .u8 c.toNat] w fun e w' => e = .returned (.bool b) ∧ w = w' := by
  unfold Lx.digit at h
  by_cases h1 : 48 ≤ c
  · by_cases h2 : c ≤ 57
    · have e1 : (48 : Int) ≤ (c.toNat : Int) := u8_le h1
      have e2 : (c.toNat : Int) ≤ 57 := u8_le h2
      rw [decide_eq_true h1, decide_eq_true h2] at h
      have H := Lib.hid h
      clear h h1 h2
      go_enter Tryd.func79, Tryd.ntmps79
      go_wp2_with fail
      go_ret
      exact ⟨ret_bool (by rw [← H.out]; rfl), rfl⟩
    · have e1 : (48 : Int) ≤ (c.toNat : Int) := u8_le h1
      have e2 : (57 : Int) < (c.toNat : Int) := u8_lt h2
      have e3 : decide ((c.toNat : Int) ≤ 57) = false := decide_eq_false (by omega)
      rw [decide_eq_false h2, Bool.and_false] at h
      have H := Lib.hid h
      clear h h1 h2
      go_enter Tryd.func79, Tryd.ntmps79
      go_wp2_with fail
      go_ret
      exact ⟨ret_bool H.out, rfl⟩
  · have e1 : (c.toNat : Int) < 48 := u8_lt h1
    rw [decide_eq_false h1, Bool.false_and] at h
    have H := Lib.hid h
    clear h h1
    go_enter Tryd.func79, Tryd.ntmps79
    go_wp2_with fail
    go_ret
    exact ⟨ret_bool H.out, rfl⟩
theorem part_any (c : UInt8) (b : Bool) (h : Lx.part c = b) (w : World) :
    Calls Tryd.prog 60 #[.int .u8 c.toNat] w fun e w' => e = .returned (.bool b) ∧ w = w' := by
  unfold Lx.part at h
  cases h1 : Lx.letter c with
  | true =>
    rw [h1] at h
    have H := Lib.hid h
    have H1 := Lib.hid h1
    clear h h1
    go_enter Tryd.func60, Tryd.ntmps60
    go_wp2_with fail
    go_at_call 61; refine (letter_any c true H1.out _).mono ?_; rintro e w' ⟨rfl, rfl⟩
    go_wp2_with fail
    go_ret
    exact ⟨ret_bool (by rw [← H.out]; rfl), rfl⟩
  | false =>
    rw [h1, Bool.false_or] at h
    have H1 := Lib.hid h1
    clear h1
    cases h2 : Lx.digit c with
    | true =>
      rw [h2] at h
      have H := Lib.hid h
      have H2 := Lib.hid h2
      clear h h2
      go_enter Tryd.func60, Tryd.ntmps60
      go_wp2_with fail
      go_at_call 61; refine (letter_any c false H1.out _).mono ?_; rintro e w' ⟨rfl, rfl⟩
      go_wp2_with fail
      go_at_call 79; refine (digit_any c true H2.out _).mono ?_; rintro e w' ⟨rfl, rfl⟩
      go_wp2_with fail
      go_ret
      exact ⟨ret_bool (by rw [← H.out]; rfl), rfl⟩
    | false =>
      rw [h2, Bool.false_or, show (45 : UInt8) = (45 : UInt8) from rfl] at h
      have H2 := Lib.hid h2
      have e1 : ((c.toNat : Int) == 45) = b := by rw [← h]; exact u8_eq c 45
      have H := Lib.hid h
      clear h h2
      go_enter Tryd.func60, Tryd.ntmps60
      go_wp2_with fail
      go_at_call 61; refine (letter_any c false H1.out _).mono ?_; rintro e w' ⟨rfl, rfl⟩
      go_wp2_with fail
      go_at_call 79; refine (digit_any c false H2.out _).mono ?_; rintro e w' ⟨rfl, rfl⟩
      go_wp2_with fail
      go_ret
      exact ⟨rfl, rfl⟩
theorem all_take (s : ByteArray) (k : Nat) (h : k < s.size) (hp : Lx.part s[k] = false) : (bs s).all Lx.part = false := by
  rw [List.all_eq_false]
  exact ⟨s[k], by rw [← bs_get s k h |> (List.getElem?_eq_some_iff.1 · |>.2)]; exact List.getElem_mem _, by rw [hp]; simp⟩
theorem take_all (s : ByteArray) (k : Nat) (h : k < s.size) (ha : ((bs s).take k).all Lx.part = true) (hp : Lx.part s[k] = true) : ((bs s).take (k + 1)).all Lx.part = true := by
  rw [bs_take s k h, List.all_append, ha]; simp [hp]
theorem bs_head (s : ByteArray) (h : 0 < s.size) : (bs s).headD 0 = s[0] := by
  have := bs_drop s 0 h
  rw [List.drop_zero] at this
  rw [this]; rfl
set_option maxHeartbeats 1000000 in
theorem Word_any (s : ByteArray) (b : Bool) (hb : Lx.word (bs s) = b) (w : World) (hs : s.size ≤ 140737488355328) :
    Calls Tryd.prog 27 #[.string s] w fun e w' => e = .returned (.bool b) ∧ w = w' := by
  have HB := Lib.hid hb
  clear hb
  go_enter Tryd.func27, Tryd.ntmps27
  go_wp2_with fail
  go_loop [6] (fun i => ∃ k : Nat, k ≤ s.size ∧ Hid (((bs s).take k).all Lx.part = true) ∧ i = .int .i64 k) (fun i => s.size - (intOf i).toNat)
  case atStart => exact ⟨0, by omega, Lib.hid (by rfl), rfl⟩
  case round =>
    obtain ⟨k, hk, HA, rfl⟩ := hrel
    by_cases hlt : k < s.size
    · cases hp : Lx.part s[k] with
      | true =>
        have HN := Lib.hid (take_all s k hlt HA.out hp)
        have HP := Lib.hid hp
        clear hp HA
        go_wp2_with fail
        go_at_call 60; refine (part_any s[k] true HP.out _).mono ?_; rintro e w' ⟨rfl, rfl⟩
        go_wp2_with fail
        go_round
        case rel => exact ⟨k + 1, by omega, HN, by go_num⟩
        case measure => simp [intOf]; omega
      | false =>
        have HN := Lib.hid (all_take s k hlt hp)
        have HP := Lib.hid hp
        clear hp HA
        go_wp2_with fail
        go_at_call 60; refine (part_any s[k] false HP.out _).mono ?_; rintro e w' ⟨rfl, rfl⟩
        go_wp2_with fail
        go_ret
        exact ⟨ret_bool (by rw [← HB.out, Lx.word, HN.out]; rfl), rfl⟩
    · obtain rfl : k = s.size := by omega
      have HA2 : Hid ((bs s).all Lx.part = true) := Lib.hid (by have := HA.out; rwa [← bs_len, List.take_length] at this)
      clear HA
      by_cases h1 : 1 ≤ s.size
      · by_cases h2 : s.size ≤ 20
        · have hpos : 0 < s.size := by omega
          cases hl : Lx.letter s[0] with
          | true =>
            have HL := Lib.hid hl
            have HR : Hid (b = true) := Lib.hid (by rw [← HB.out, Lx.word, HA2.out, bs_head s hpos, hl, bs_len, decide_eq_true h1, decide_eq_true h2]; rfl)
            clear hl
            go_wp2_with fail
            go_at_call 61; refine (letter_any s[0] true HL.out _).mono ?_; rintro e w' ⟨rfl, rfl⟩
            go_wp2_with fail
            go_ret
            exact ⟨ret_bool (by rw [HR.out]), rfl⟩
          | false =>
            have HL := Lib.hid hl
            have HR : Hid (b = false) := Lib.hid (by rw [← HB.out, Lx.word, bs_head s hpos, hl, Bool.and_false])
            clear hl
            go_wp2_with fail
            go_at_call 61; refine (letter_any s[0] false HL.out _).mono ?_; rintro e w' ⟨rfl, rfl⟩
            go_wp2_with fail
            go_ret
            exact ⟨ret_bool (by rw [HR.out]), rfl⟩
        · have HR : Hid (b = false) := Lib.hid (by rw [← HB.out, Lx.word, bs_len, decide_eq_false h2]; simp)
          go_wp2_with fail
          go_ret
          exact ⟨ret_bool (by rw [HR.out]), rfl⟩
      · have HR : Hid (b = false) := Lib.hid (by rw [← HB.out, Lx.word, bs_len, decide_eq_false h1]; simp)
        go_wp2_with fail
        go_ret
        exact ⟨ret_bool (by rw [HR.out]), rfl⟩
end Go.Proofs.YtdjiimblfhbcjaaDoor
