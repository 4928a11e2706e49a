/- Walks of taquinref02: Quote. -/
import Derived.Test.YtdjiimblfhbcjaaDoorR2c
import Derived.Deep.RegionLaw
namespace Go.Proofs.YtdjiimblfhbcjaaDoor
set_option linter.unusedSimpArgs false
open Go.RowKit

theorem hxd_u8 (c : UInt8) (h : c.toNat < 16) : (ByteArray.mk #[48, 49, 50, 51, 52, 53, 54, 55, 56, 57, 97, 98, 99, 100, 101, 102])[c.toNat] = hxd c.toNat := hxd_get c.toNat h
theorem u8_wrap (a : Nat) (h : a < 256) : IntKind.u8.wrap (a : Int) = (a : Int) := by
  have : IntKind.u8.wrap (a : Int) = (a : Int) % 256 := by simp [IntKind.wrap, IntKind.bits, IntKind.signed]
  omega
set_option maxRecDepth 100000 in
set_option maxHeartbeats 8000000 in
theorem rQuote_any (s : ByteArray) (w : World) (hs : s.size ≤ 100000000) :
    Calls Tryd.prog 37 #[.string s] w fun e w' => e = .returned (.string ⟨(quote (bs s)).toArray⟩) ∧ Below w.heap.size w w' := by
  have H0 := Lib.hid (OB.fresh (w := w) (Nat.le_refl _) [34] #[.int .u8 34] (by rfl) (by decide))
  go_enter Tryd.func37, Tryd.ntmps37
  go_wp2_with fail
  go_loopw [3, 4] (fun v iv wr => ∃ k : Nat, k ≤ s.size ∧ iv = .int .i64 k ∧ Hid (OB w.heap.size wr v (34 :: qb ((bs s).take k))) ∧ Hid (Below w.heap.size w wr)) (fun _ iv _ => s.size - (intOf iv).toNat)
  case atStart => exact ⟨0, by omega, rfl, H0, Lib.hid ((Below.refl _ w).alloc (Nat.le_refl _) _)⟩
  case round =>
    obtain ⟨k, hk, rfl, HB, HW⟩ := hrel
    clear H0
    by_cases hlt : k < s.size
    · have hstep : 34 :: qb ((bs s).take (k + 1)) = 34 :: qb ((bs s).take k) ++ qt1 s[k] := by
        rw [bs_take s k hlt]; simp [qb]
      have hlen : (34 :: qb ((bs s).take k)).length ≤ 4 * k + 1 := by
        have := qb_len ((bs s).take k)
        rw [List.length_take] at this; rw [List.length_cons]; omega
      have hwb : w.heap.size ≤ wr.heap.size := HW.out.size
      obtain ⟨l, hl⟩ : ∃ l, l = 34 :: qb ((bs s).take k) := ⟨_, rfl⟩
      rw [← hl] at HB hstep hlen
      clear hl
      obtain ⟨c, hc⟩ : ∃ c, c = s[k] := ⟨_, rfl⟩
      have hidx : s[k] = c := hc.symm
      rw [hidx] at hstep
      clear hc
      by_cases h34 : c = 34
      · have hx : ((c.toNat : Int) == 34) = true := u8_is (b := 34) h34
        rw [show qt1 c = [92, c] by rw [qt1, if_pos (.inl h34)]] at hstep
        have HS := Lib.hid hstep
        clear hstep h34
        go_wp2_with (at_builtin; refine wpList_app_bytes rfl _ _ rfl w.heap.size _ l rfl (HB.out.keep ((Below.refl _ _).alloc (Nat.le_refl _) _)) wr.heap.size 2 [92, c] #[.int .u8 92, .int .u8 c.toNat] rfl (heap_alloc_new _ _) (by rfl) (by simp; omega) (by simp; omega) ?_)
        intro v' w' h1 h2
        have HB2 := Lib.hid h1
        have HW2 : Hid (Below w.heap.size w w') := Lib.hid ((HW.out.alloc hwb _).trans h2)
        clear h1 h2
        go_wp2_with fail
        go_roundw
        case rel => exact ⟨k + 1, by omega, by go_num, by rw [HS.out]; exact HB2, HW2⟩
        case measure => simp [intOf]; omega
      · have hx : ((c.toNat : Int) == 34) = false := u8_ne (b := 34) h34
        by_cases h92 : c = 92
        · have hy : ((c.toNat : Int) == 92) = true := u8_is (b := 92) h92
          rw [show qt1 c = [92, c] by rw [qt1, if_pos (.inr h92)]] at hstep
          have HS := Lib.hid hstep
          clear hstep h34 h92
          go_wp2_with (at_builtin; refine wpList_app_bytes rfl _ _ rfl w.heap.size _ l rfl (HB.out.keep ((Below.refl _ _).alloc (Nat.le_refl _) _)) wr.heap.size 2 [92, c] #[.int .u8 92, .int .u8 c.toNat] rfl (heap_alloc_new _ _) (by rfl) (by simp; omega) (by simp; omega) ?_)
          intro v' w' h1 h2
          have HB2 := Lib.hid h1
          have HW2 : Hid (Below w.heap.size w w') := Lib.hid ((HW.out.alloc hwb _).trans h2)
          clear h1 h2
          go_wp2_with fail
          go_roundw
          case rel => exact ⟨k + 1, by omega, by go_num, by rw [HS.out]; exact HB2, HW2⟩
          case measure => simp [intOf]; omega
        · have hy : ((c.toNat : Int) == 92) = false := u8_ne (b := 92) h92
          by_cases h10 : c = 10
          · have hz : ((c.toNat : Int) == 10) = true := u8_is (b := 10) h10
            rw [show qt1 c = [92, 110] by rw [qt1, if_neg (by simp [h34, h92]), if_pos h10]] at hstep
            have HS := Lib.hid hstep
            clear hstep h34 h92 h10
            go_wp2_with (at_builtin; refine wpList_app_bytes rfl _ _ rfl w.heap.size _ l rfl (HB.out.keep ((Below.refl _ _).alloc (Nat.le_refl _) _)) wr.heap.size 2 [92, 110] #[.int .u8 92, .int .u8 110] rfl (heap_alloc_new _ _) (by rfl) (by simp; omega) (by simp; omega) ?_)
            intro v' w' h1 h2
            have HB2 := Lib.hid h1
            have HW2 : Hid (Below w.heap.size w w') := Lib.hid ((HW.out.alloc hwb _).trans h2)
            clear h1 h2
            go_wp2_with fail
            go_roundw
            case rel => exact ⟨k + 1, by omega, by go_num, by rw [HS.out]; exact HB2, HW2⟩
            case measure => simp [intOf]; omega
          · have hz : ((c.toNat : Int) == 10) = false := u8_ne (b := 10) h10
            by_cases hr : 32 ≤ c ∧ c ≤ 126
            · have r1 : (32 : Int) ≤ (c.toNat : Int) := u8_le hr.1
              have r2 : (c.toNat : Int) ≤ 126 := u8_le hr.2
              rw [show qt1 c = [c] by rw [qt1, if_neg (by simp [h34, h92]), if_neg h10, if_pos hr]] at hstep
              have HS := Lib.hid hstep
              clear hstep h34 h92 h10 hr
              go_wp2_with (at_builtin; refine wpList_app_bytes rfl _ _ rfl w.heap.size _ l rfl (HB.out.keep ((Below.refl _ _).alloc (Nat.le_refl _) _)) wr.heap.size 1 [c] #[.int .u8 c.toNat] rfl (heap_alloc_new _ _) (by rfl) (by simp; omega) (by simp; omega) ?_)
              intro v' w' h1 h2
              have HB2 := Lib.hid h1
              have HW2 : Hid (Below w.heap.size w w') := Lib.hid ((HW.out.alloc hwb _).trans h2)
              clear h1 h2
              go_wp2_with fail
              go_roundw
              case rel => exact ⟨k + 1, by omega, by go_num, by rw [HS.out]; exact HB2, HW2⟩
              case measure => simp [intOf]; omega
            · rw [show qt1 c = [92, 120, hxd (c.toNat / 16), hxd (c.toNat % 16)] by rw [qt1, if_neg (by simp [h34, h92]), if_neg h10, if_neg hr]] at hstep
              have hb := c.toNat_lt
              have hd : ((c.toNat : Int)).tdiv 16 = ((c.toNat / 16 : Nat) : Int) := by rw [Int.tdiv_eq_ediv_of_nonneg (by omega)]; omega
              have hm : ((c.toNat : Int)).tmod 16 = ((c.toNat % 16 : Nat) : Int) := by rw [Int.tmod_eq_emod_of_nonneg (by omega)]; omega
              have hd1 : c.toNat / 16 < 16 := by omega
              have hm1 : c.toNat % 16 < 16 := by omega
              obtain ⟨a, ha⟩ : ∃ a, a = c.toNat / 16 := ⟨_, rfl⟩
              obtain ⟨b, hb2⟩ : ∃ b, b = c.toNat % 16 := ⟨_, rfl⟩
              rw [← ha] at hd hd1 hstep
              rw [← hb2] at hm hm1 hstep
              have ga := hxd_get a hd1
              have gb := hxd_get b hm1
              have HS := Lib.hid hstep
              clear hstep h34 h92 h10 ha hb2
              by_cases hr1 : 32 ≤ c
              · have r1 : (32 : Int) ≤ (c.toNat : Int) := u8_le hr1
                have r2 : (126 : Int) < (c.toNat : Int) := u8_lt (a := c) (b := 126) (by intro h; exact hr ⟨hr1, h⟩)
                clear hr hr1
                have ga1 : (a : Int) < 16 := by omega
                have gb1 : (b : Int) < 16 := by omega
                have ga0 : (0 : Int) ≤ (a : Int) := by omega
                have gb0 : (0 : Int) ≤ (b : Int) := by omega
                have gw := u8_wrap a (by omega)
                go_wp2_with fail
                go_region_law ((refine step_app_bytes rfl _ _ rfl w.heap.size _ l rfl (HB.out.keep ((Below.refl _ _).alloc (Nat.le_refl _) _).drew) wr.heap.size 4 [92, 120, hxd a, hxd b] #[.int .u8 92, .int .u8 120, .int .u8 (hxd a).toNat, .int .u8 (hxd b).toNat] rfl (heap_alloc_drew _ _) (by rfl) (by simp) (by simp; omega) (by simp; omega) ?_; intro v' w' h1 h2))
                all_goals
                  have HB2 := Lib.hid h1
                  have HW2 : Hid (Below w.heap.size w w') := Lib.hid ((HW.out.alloc hwb _).drew.trans h2)
                  clear h1 h2
                  go_wp2_with fail
                  go_roundw
                  case rel => exact ⟨k + 1, by omega, by go_num, by rw [HS.out]; exact HB2, HW2⟩
                  case measure => simp [intOf]; omega
              · have r1 : (c.toNat : Int) < 32 := u8_lt hr1
                clear hr hr1
                have ga1 : (a : Int) < 16 := by omega
                have gb1 : (b : Int) < 16 := by omega
                have ga0 : (0 : Int) ≤ (a : Int) := by omega
                have gb0 : (0 : Int) ≤ (b : Int) := by omega
                have gw := u8_wrap a (by omega)
                go_wp2_with fail
                go_region_law ((refine step_app_bytes rfl _ _ rfl w.heap.size _ l rfl (HB.out.keep ((Below.refl _ _).alloc (Nat.le_refl _) _).drew) wr.heap.size 4 [92, 120, hxd a, hxd b] #[.int .u8 92, .int .u8 120, .int .u8 (hxd a).toNat, .int .u8 (hxd b).toNat] rfl (heap_alloc_drew _ _) (by rfl) (by simp) (by simp; omega) (by simp; omega) ?_; intro v' w' h1 h2))
                all_goals
                  have HB2 := Lib.hid h1
                  have HW2 : Hid (Below w.heap.size w w') := Lib.hid ((HW.out.alloc hwb _).drew.trans h2)
                  clear h1 h2
                  go_wp2_with fail
                  go_roundw
                  case rel => exact ⟨k + 1, by omega, by go_num, by rw [HS.out]; exact HB2, HW2⟩
                  case measure => simp [intOf]; omega
    · obtain rfl : k = s.size := by omega
      rw [show (bs s).take s.size = bs s by rw [← bs_len, List.take_length]] at HB
      have hlen : (34 :: qb (bs s)).length ≤ 4 * s.size + 1 := by
        have := qb_len (bs s)
        rw [bs_len] at this; rw [List.length_cons]; omega
      have hwb : w.heap.size ≤ wr.heap.size := HW.out.size
      obtain ⟨l, hl⟩ : ∃ l, l = 34 :: qb (bs s) := ⟨_, rfl⟩
      have HQ : Hid (quote (bs s) = l ++ [34]) := Lib.hid (by rw [hl]; rfl)
      rw [← hl] at HB hlen
      clear hl
      go_wp2_with (at_builtin; refine wpList_app_bytes rfl _ _ rfl w.heap.size _ l rfl (HB.out.keep ((Below.refl _ _).alloc (Nat.le_refl _) _)) wr.heap.size 1 [34] #[.int .u8 34] rfl (heap_alloc_new _ _) (by rfl) (by simp; omega) (by simp; omega) ?_)
      intro v' w' h1 h2
      have hcv := conv_own h1
      have HW2 : Hid (Below w.heap.size w w') := Lib.hid ((HW.out.alloc hwb _).trans h2)
      clear h1 h2
      go_wp2_with fail
      go_ret
      exact ⟨by rw [HQ.out]; rfl, HW2.out⟩
end Go.Proofs.YtdjiimblfhbcjaaDoor
