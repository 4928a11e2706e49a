/- Walks of package lex: next. -/
import Derived.Test.YtdjiimblfhbcjaaDoorLxQ
namespace Go.Proofs.YtdjiimblfhbcjaaDoor
set_option linter.unusedSimpArgs false
open Go.RowKit

/-- A method of the scanner as a function value. -/
def meth (f : Nat) (b : Nat) : Value := .func (.func f) #[.pointer (some ⟨b, 0, none⟩)] #[]
/-- What takes the token that begins at k. -/
def nextFn (src : ByteArray) (k : Nat) : Nat :=
  match (bs src).drop k with
  | [] => 78
  | c :: _ => if Lx.letter c || Lx.digit c then 80 else if c = 34 then 81 else if c = 10 then 82 else 83
set_option maxRecDepth 100000 in
set_option maxHeartbeats 4000000 in
theorem next_any (b : Nat) (src : ByteArray) (k ln : Nat) (ts : List Lx.Tok) (w : World) (h : Scn b src k ln ts w) (hk : k ≤ src.size) :
    Calls Tryd.prog 59 #[.pointer (some ⟨b, 0, none⟩)] w fun e w' => e = .returned (meth (nextFn src k) b) ∧ SameMem w w' := by
  have c0 := h.c0
  have c1 := h.c1
  clear h
  by_cases hlt : k < src.size
  · have hkI : (k : Int) < (src.size : Int) := by omega
    have hk0' : (0 : Int) ≤ (k : Int) := by omega
    have hn : (k : Int).toNat = k := by omega
    have hne : ((k : Int) == (src.size : Int)) = false := beq_eq_false_iff_ne.2 (by omega)
    have hd := bs_drop src k hlt
    have hN : nextFn src k = if Lx.letter src[k] || Lx.digit src[k] then 80 else if src[k] = 34 then 81 else if src[k] = 10 then 82 else 83 := by
      rw [nextFn, hd]
    clear hd
    cases hl : Lx.letter src[k] with
    | true =>
      have HL := Lib.hid hl
      have HN := Lib.hid (hN.trans (by rw [hl]; rfl : _ = 80))
      clear hl hN
      go_enter Tryd.func59, Tryd.ntmps59
      go_wp2_with fail
      go_quiet (fail)
      go_wp2_with fail
      go_quiet (fail)
      go_wp2_with fail
      go_at_call 61; refine (letter_any src[k] true HL.out _).mono ?_; rintro e w' ⟨rfl, rfl⟩
      go_wp2_with fail
      go_ret
      exact ⟨by rw [HN.out]; rfl, ⟨rfl, rfl, rfl, rfl⟩⟩
    | false =>
      have HL := Lib.hid hl
      rw [hl, Bool.false_or] at hN
      clear hl
      cases hdg : Lx.digit src[k] with
      | true =>
        have HD := Lib.hid hdg
        have HN := Lib.hid (hN.trans (by rw [hdg]; rfl : _ = 80))
        clear hdg hN
        go_enter Tryd.func59, Tryd.ntmps59
        go_wp2_with fail
        go_quiet (fail)
        go_wp2_with fail
        go_quiet (fail)
        go_wp2_with fail
        go_at_call 61; refine (letter_any src[k] false HL.out _).mono ?_; rintro e w' ⟨rfl, rfl⟩
        go_wp2_with fail
        go_at_call 79; refine (digit_any src[k] true HD.out _).mono ?_; rintro e w' ⟨rfl, rfl⟩
        go_wp2_with fail
        go_ret
        exact ⟨by rw [HN.out]; rfl, ⟨rfl, rfl, rfl, rfl⟩⟩
      | false =>
        have HD := Lib.hid hdg
        rw [hdg, if_neg (by simp)] at hN
        clear hdg
        by_cases h34 : src[k] = 34
        · have e34 : ((src[k].toNat : Int) == 34) = true := u8_is (b := 34) h34
          rw [if_pos h34] at hN
          have HN := Lib.hid hN
          clear h34 hN
          go_enter Tryd.func59, Tryd.ntmps59
          go_wp2_with fail
          go_quiet (fail)
          go_wp2_with fail
          go_quiet (fail)
          go_wp2_with fail
          go_at_call 61; refine (letter_any src[k] false HL.out _).mono ?_; rintro e w' ⟨rfl, rfl⟩
          go_wp2_with fail
          go_at_call 79; refine (digit_any src[k] false HD.out _).mono ?_; rintro e w' ⟨rfl, rfl⟩
          go_wp2_with fail
          go_ret
          exact ⟨by rw [HN.out]; rfl, ⟨rfl, rfl, rfl, rfl⟩⟩
        · have e34 : ((src[k].toNat : Int) == 34) = false := u8_ne (b := 34) h34
          rw [if_neg h34] at hN
          clear h34
          by_cases h10 : src[k] = 10
          · have e10 : ((src[k].toNat : Int) == 10) = true := u8_is (b := 10) h10
            rw [if_pos h10] at hN
            have HN := Lib.hid hN
            clear h10 hN
            go_enter Tryd.func59, Tryd.ntmps59
            go_wp2_with fail
            go_quiet (fail)
            go_wp2_with fail
            go_quiet (fail)
            go_wp2_with fail
            go_at_call 61; refine (letter_any src[k] false HL.out _).mono ?_; rintro e w' ⟨rfl, rfl⟩
            go_wp2_with fail
            go_at_call 79; refine (digit_any src[k] false HD.out _).mono ?_; rintro e w' ⟨rfl, rfl⟩
            go_wp2_with fail
            go_ret
            exact ⟨by rw [HN.out]; rfl, ⟨rfl, rfl, rfl, rfl⟩⟩
          · have e10 : ((src[k].toNat : Int) == 10) = false := u8_ne (b := 10) h10
            rw [if_neg h10] at hN
            have HN := Lib.hid hN
            clear h10 hN
            go_enter Tryd.func59, Tryd.ntmps59
            go_wp2_with fail
            go_quiet (fail)
            go_wp2_with fail
            go_quiet (fail)
            go_wp2_with fail
            go_at_call 61; refine (letter_any src[k] false HL.out _).mono ?_; rintro e w' ⟨rfl, rfl⟩
            go_wp2_with fail
            go_at_call 79; refine (digit_any src[k] false HD.out _).mono ?_; rintro e w' ⟨rfl, rfl⟩
            go_wp2_with fail
            go_ret
            exact ⟨by rw [HN.out]; rfl, ⟨rfl, rfl, rfl, rfl⟩⟩
  · obtain rfl : k = src.size := by omega
    have hne : (((src.size : Nat) : Int) == (src.size : Int)) = true := beq_self_eq_true _
    have hN : nextFn src src.size = 78 := by
      rw [nextFn, List.drop_eq_nil_of_le (by rw [bs_len]; exact Nat.le_refl _)]
    have HN := Lib.hid hN
    clear hN
    go_enter Tryd.func59, Tryd.ntmps59
    go_wp2_with fail
    go_quiet (fail)
    go_wp2_with fail
    go_ret
    exact ⟨by rw [HN.out]; rfl, ⟨rfl, rfl, rfl, rfl⟩⟩
end Go.Proofs.YtdjiimblfhbcjaaDoor
