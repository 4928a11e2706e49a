/- Walks of package text: Quote. -/
import Derived.Test.YtdjiimblfhbcjaaDoorTxB
import Derived.Test.YtdjiimblfhbcjaaDoorQu
namespace Go.Proofs.YtdjiimblfhbcjaaDoor
set_option linter.unusedSimpArgs false
open Go.RowKit

set_option maxHeartbeats 4000000 in
theorem Quote_any (s : ByteArray) (w : World) (hs : s.size ≤ 1073741824) :
    Calls Tryd.prog 23 #[.string s] w fun e w' => e = .returned (.string ⟨(quote (bs s)).toArray⟩) ∧ Below w.heap.size w w' := by
  have H0 := Lib.hid (Bw.start w)
  go_enter Tryd.func23, Tryd.ntmps23
  go_wp2_with fail
  go_at_call 48; refine (H0.out.writeByte 34 (by simp)).mono ?_; rintro e w1 ⟨rfl, HB1⟩
  replace HB1 := Lib.hid HB1
  go_wp2_with fail
  go_loopw [9] (fun iv wr => ∃ k : Nat, k ≤ s.size ∧ iv = .int .i64 k ∧ Hid (Bw w (34 :: qb ((bs s).take k)) wr)) (fun iv _ => s.size - (intOf iv).toNat)
  case atStart => exact ⟨0, by omega, rfl, HB1⟩
  case round =>
    obtain ⟨k, hk, rfl, HB⟩ := hrel
    clear H0 HB1
    by_cases hlt : k < s.size
    · have hstep : 34 :: qb ((bs s).take (k + 1)) = 34 :: qb ((bs s).take k) ++ qt1 s[k] := by
        rw [bs_take s k hlt]; simp [qb]
      have hlen : (34 :: qb ((bs s).take k)).length ≤ 4 * k + 1 := by
        have := qb_len ((bs s).take k)
        rw [List.length_take] at this; rw [List.length_cons]; omega
      obtain ⟨l, hl⟩ : ∃ l, l = 34 :: qb ((bs s).take k) := ⟨_, rfl⟩
      rw [← hl] at HB hstep hlen
      clear hl
      obtain ⟨c, hc⟩ : ∃ c, c = s[k] := ⟨_, rfl⟩
      have hidx : s[k] = c := hc.symm
      rw [hidx] at hstep
      clear hc
      by_cases h34 : c = 34
      · have hx : ((c.toNat : Int) == 34) = true := u8_is (b := 34) h34
        rw [show qt1 c = [92, c] by rw [qt1, if_pos (.inl h34)]] at hstep
        have HS := Lib.hid hstep
        clear hstep h34
        go_wp2_with fail
        go_at_call 48; refine (HB.out.writeByte (92) (by simp; omega)).mono ?_; rintro e w' ⟨rfl, HB2⟩
        replace HB2 := Lib.hid HB2
        go_wp2_with fail
        go_at_call 48; refine (HB2.out.writeByte (c) (by simp; omega)).mono ?_; rintro e w' ⟨rfl, HB3⟩
        replace HB3 := Lib.hid HB3
        go_wp2_with fail
        go_roundw
        case rel => exact ⟨k + 1, by omega, by go_num, by rw [HS.out]; simpa [bs] using HB3⟩
        case measure => simp [intOf]; omega
      · have hx : ((c.toNat : Int) == 34) = false := u8_ne (b := 34) h34
        by_cases h92 : c = 92
        · have hy : ((c.toNat : Int) == 92) = true := u8_is (b := 92) h92
          rw [show qt1 c = [92, c] by rw [qt1, if_pos (.inr h92)]] at hstep
          have HS := Lib.hid hstep
          clear hstep h34 h92
          go_wp2_with fail
          go_at_call 48; refine (HB.out.writeByte (92) (by simp; omega)).mono ?_; rintro e w' ⟨rfl, HB2⟩
          replace HB2 := Lib.hid HB2
          go_wp2_with fail
          go_at_call 48; refine (HB2.out.writeByte (c) (by simp; omega)).mono ?_; rintro e w' ⟨rfl, HB3⟩
          replace HB3 := Lib.hid HB3
          go_wp2_with fail
          go_roundw
          case rel => exact ⟨k + 1, by omega, by go_num, by rw [HS.out]; simpa [bs] using HB3⟩
          case measure => simp [intOf]; omega
        · have hy : ((c.toNat : Int) == 92) = false := u8_ne (b := 92) h92
          by_cases h10 : c = 10
          · have hz : ((c.toNat : Int) == 10) = true := u8_is (b := 10) h10
            rw [show qt1 c = [92, 110] by rw [qt1, if_neg (by simp [h34, h92]), if_pos h10]] at hstep
            have HS := Lib.hid hstep
            clear hstep h34 h92 h10
            go_wp2_with fail
            go_at_call 47; refine (HB.out.writeString (⟨#[92, 110]⟩) (by simp [show (ByteArray.mk #[92, 110]).size = 2 from rfl]; omega)).mono ?_; rintro e w' ⟨rfl, HB3⟩
            replace HB3 := Lib.hid HB3
            go_wp2_with fail
            go_roundw
            case rel => exact ⟨k + 1, by omega, by go_num, by rw [HS.out]; simpa [bs] using HB3⟩
            case measure => simp [intOf]; omega
          · have hz : ((c.toNat : Int) == 10) = false := u8_ne (b := 10) h10
            by_cases hr : 32 ≤ c ∧ c ≤ 126
            · have r1 : (32 : Int) ≤ (c.toNat : Int) := u8_le hr.1
              have r2 : (c.toNat : Int) ≤ 126 := u8_le hr.2
              rw [show qt1 c = [c] by rw [qt1, if_neg (by simp [h34, h92]), if_neg h10, if_pos hr]] at hstep
              have HS := Lib.hid hstep
              clear hstep h34 h92 h10 hr
              go_wp2_with fail
              go_at_call 48; refine (HB.out.writeByte (c) (by simp; omega)).mono ?_; rintro e w' ⟨rfl, HB3⟩
              replace HB3 := Lib.hid HB3
              go_wp2_with fail
              go_roundw
              case rel => exact ⟨k + 1, by omega, by go_num, by rw [HS.out]; simpa [bs] using HB3⟩
              case measure => simp [intOf]; omega
            · rw [show qt1 c = [92, 120, hxd (c.toNat / 16), hxd (c.toNat % 16)] by rw [qt1, if_neg (by simp [h34, h92]), if_neg h10, if_neg hr]] at hstep
              have hb := c.toNat_lt
              have hd : ((c.toNat : Int)).tdiv 16 = ((c.toNat / 16 : Nat) : Int) := by rw [Int.tdiv_eq_ediv_of_nonneg (by omega)]; omega
              have hm : ((c.toNat : Int)).tmod 16 = ((c.toNat % 16 : Nat) : Int) := by rw [Int.tmod_eq_emod_of_nonneg (by omega)]; omega
              have hd1 : c.toNat / 16 < 16 := by omega
              have hm1 : c.toNat % 16 < 16 := by omega
              obtain ⟨a, ha⟩ : ∃ a, a = c.toNat / 16 := ⟨_, rfl⟩
              obtain ⟨b, hb2⟩ : ∃ b, b = c.toNat % 16 := ⟨_, rfl⟩
              rw [← ha] at hd hd1 hstep
              rw [← hb2] at hm hm1 hstep
              have ga := hxd_get a hd1
              have gb := hxd_get b hm1
              have HS := Lib.hid hstep
              clear hstep h34 h92 h10 ha hb2
              by_cases hr1 : 32 ≤ c
              · have r1 : (32 : Int) ≤ (c.toNat : Int) := u8_le hr1
                have r2 : (126 : Int) < (c.toNat : Int) := u8_lt (a := c) (b := 126) (by intro h; exact hr ⟨hr1, h⟩)
                clear hr hr1
                go_wp2_with fail
                go_at_call 47; refine (HB.out.writeString (⟨#[92, 120]⟩) (by simp [show (ByteArray.mk #[92, 120]).size = 2 from rfl]; omega)).mono ?_; rintro e w' ⟨rfl, HB2⟩
                replace HB2 := Lib.hid HB2
                go_wp2_with fail
                go_at_call 48; refine (HB2.out.writeByte (hxd a) (by simp [bs]; omega)).mono ?_; rintro e w' ⟨rfl, HB3⟩
                replace HB3 := Lib.hid HB3
                go_wp2_with fail
                go_at_call 48; refine (HB3.out.writeByte (hxd b) (by simp [bs]; omega)).mono ?_; rintro e w' ⟨rfl, HB4⟩
                replace HB4 := Lib.hid HB4
                go_wp2_with fail
                go_roundw
                case rel => exact ⟨k + 1, by omega, by go_num, by rw [HS.out]; simpa [bs] using HB4⟩
                case measure => simp [intOf]; omega
              · have r1 : (c.toNat : Int) < 32 := u8_lt hr1
                clear hr hr1
                go_wp2_with fail
                go_at_call 47; refine (HB.out.writeString (⟨#[92, 120]⟩) (by simp [show (ByteArray.mk #[92, 120]).size = 2 from rfl]; omega)).mono ?_; rintro e w' ⟨rfl, HB2⟩
                replace HB2 := Lib.hid HB2
                go_wp2_with fail
                go_at_call 48; refine (HB2.out.writeByte (hxd a) (by simp [bs]; omega)).mono ?_; rintro e w' ⟨rfl, HB3⟩
                replace HB3 := Lib.hid HB3
                go_wp2_with fail
                go_at_call 48; refine (HB3.out.writeByte (hxd b) (by simp [bs]; omega)).mono ?_; rintro e w' ⟨rfl, HB4⟩
                replace HB4 := Lib.hid HB4
                go_wp2_with fail
                go_roundw
                case rel => exact ⟨k + 1, by omega, by go_num, by rw [HS.out]; simpa [bs] using HB4⟩
                case measure => simp [intOf]; omega
    · obtain rfl : k = s.size := by omega
      rw [show (bs s).take s.size = bs s by rw [← bs_len, List.take_length]] at HB
      have hlen : (34 :: qb (bs s)).length ≤ 4 * s.size + 1 := by
        have := qb_len (bs s)
        rw [bs_len] at this; rw [List.length_cons]; omega
      obtain ⟨l, hl⟩ : ∃ l, l = 34 :: qb (bs s) := ⟨_, rfl⟩
      have HQ : Hid (quote (bs s) = l ++ [34]) := Lib.hid (by rw [hl]; rfl)
      rw [← hl] at HB hlen
      clear hl
      go_wp2_with fail
      go_at_call 48; refine (HB.out.writeByte (34) (by simp; omega)).mono ?_; rintro e w' ⟨rfl, HB2⟩
      replace HB2 := Lib.hid HB2
      go_wp2_with fail
      go_at_call 49; refine HB2.out.string.mono ?_; rintro e w2 ⟨rfl, HB3⟩
      replace HB3 := Lib.hid HB3
      go_wp2_with fail
      go_ret
      exact ⟨by rw [HQ.out]; rfl, HB3.out.below⟩
end Go.Proofs.YtdjiimblfhbcjaaDoor
