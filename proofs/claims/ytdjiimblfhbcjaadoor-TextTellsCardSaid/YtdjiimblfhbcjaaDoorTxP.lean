/- Walks of package text: Pattern. -/
import Derived.Test.YtdjiimblfhbcjaaDoorTxO
import Derived.Test.YtdjiimblfhbcjaaDoorPatI
import Derived.WalkMore
namespace Go.Proofs.YtdjiimblfhbcjaaDoor
set_option linter.unusedSimpArgs false
open Go.RowKit

theorem nat_eqb {a b : Nat} (h : a = b) : ((a : Int) == (b : Int)) = true := by subst h; simp
theorem nat_neb {a b : Nat} (h : a ≠ b) : ((a : Int) == (b : Int)) = false := by
  rw [beq_eq_false_iff_ne]; omega
set_option maxHeartbeats 8000000 in
theorem Pattern_any (p s : ByteArray) (w : World) (hp : p.size ≤ 140737488355328) (hs : s.size ≤ 140737488355328) :
    Calls Tryd.prog 18 #[.string p, .string s] w fun e w' => e = .returned (.bool (Pat.pat (bs p) (bs s))) ∧ ∃ k, w' = w.drewN k := by
  have h0 := Pat.pinv_start (P := bs p) (S := bs s)
  obtain ⟨G, hG⟩ : ∃ G, G = Pat.pat (bs p) (bs s) := ⟨_, rfl⟩
  rw [← hG] at h0 ⊢
  have H0 := Lib.hid h0
  clear h0 hG
  go_enter Tryd.func18, Tryd.ntmps18
  go_wp2
  go_step3
  go_wp2
  go_step3
  go_wp2
  go_loopw [5, 6, 7, 8] (fun iv sv gv av wr => ∃ (i : Nat) (st : Int) (ag a : Nat), Hid (Pat.PInv (bs p) (bs s) G i st ag a) ∧ i ≤ p.size ∧ a ≤ s.size ∧ ag ≤ a ∧ -1 ≤ st ∧ st < p.size ∧ iv = .int .i64 i ∧ sv = .int .i64 st ∧ gv = .int .i64 ag ∧ av = .int .i64 a ∧ ∃ k, wr = w.drewN k) (fun iv sv gv av _ => Pat.left p.size s.size (intOf iv).toNat (intOf gv).toNat)
  case atStart => exact ⟨0, -1, 0, 0, H0, by omega, by omega, by omega, by omega, by omega, rfl, rfl, rfl, rfl, 0, rfl⟩
  case round =>
    obtain ⟨i, st, ag, a, HI, hi, ha, hag, hst1, hst2, rfl, rfl, rfl, rfl, k, rfl⟩ := hrel
    by_cases hip : i < p.size
    · have hib := nat_neb (show i ≠ p.size by omega)
      by_cases h42 : p[i] = 42
      · have hx : ((p[i].toNat : Int) == 42) = true := u8_is (b := 42) h42
        have hn := Pat.pinv_star HI.out (by rw [bs_len]; exact hip) h42
        have HN := Lib.hid hn
        clear hn HI h42
        go_wp2_with fail
        go_roundw
        case rel => exact ⟨i + 1, i, a, a, HN, by omega, by omega, by omega, by omega, by omega, by go_num, rfl, rfl, rfl, k, rfl⟩
        case measure =>
          have e : ((i : Int) + 1).toNat = i + 1 := by omega
          simp only [intOf, e, Int.toNat_natCast]
          exact Pat.left_further hag (by omega) (by omega)
      · have hx : ((p[i].toNat : Int) == 42) = false := u8_ne (b := 42) h42
        by_cases has : a < s.size
        · have hab := nat_neb (show a ≠ s.size by omega)
          have hO := fun w => one_any p i s[a] w hp hip h42
          have hn2 := Pat.headPart_len p[i] ((bs p).drop (i + 1))
          rw [← bs_drop p i hip, List.length_drop, bs_len] at hn2
          cases hfit : (Pat.headPart ((bs p).drop i)).1.fits s[a] with
          | true =>
            have hn := Pat.pinv_step HI.out (by rw [bs_len]; exact hip) (by rw [bs_len]; exact has) h42 hfit
            rw [hfit] at hO
            obtain ⟨n, hnn⟩ : ∃ n, n = (Pat.headPart ((bs p).drop i)).2 := ⟨_, rfl⟩
            rw [← hnn] at hO hn hn2
            obtain ⟨hn1, hn2⟩ := hn2
            have HO := Lib.hid hO
            have HN := Lib.hid hn
            clear hn hO HI h42 hfit hnn
            go_wp2_with fail
            go_at_call 52; refine (HO.out _).mono ?_; rintro e w' ⟨rfl, k2, rfl⟩
            go_wp2_with fail
            go_roundw
            case rel => exact ⟨i + n, st, ag, a + 1, HN, by omega, by omega, by omega, by omega, by omega, by go_num, rfl, rfl, by go_num, k + k2, rfl⟩
            case measure =>
              have e : ((i : Int) + n).toNat = i + n := by omega
              simp only [intOf, e, Int.toNat_natCast]
              exact Pat.left_further (Nat.le_refl _) (by omega) (by omega)
          | false =>
            have hm := Pat.mm_fit (P := bs p) (S := bs s) (by rw [bs_len]; exact hip) h42 (by rw [bs_len]; exact has) hfit
            rw [hfit] at hO
            obtain ⟨n, hnn⟩ : ∃ n, n = (Pat.headPart ((bs p).drop i)).2 := ⟨_, rfl⟩
            rw [← hnn] at hO hn2
            obtain ⟨hn1, hn2⟩ := hn2
            have HO := Lib.hid hO
            have HM := Lib.hid hm
            clear hm hO h42 hfit hnn
            by_cases hneg : st < 0
            · have hf := Pat.pinv_fails HI.out HM.out (.inl (by omega))
              have HF := Lib.hid hf
              clear hf HI HM
              go_wp2_with fail
              go_at_call 52; refine (HO.out _).mono ?_; rintro e w' ⟨rfl, k2, rfl⟩
              go_wp2_with fail
              (try rw [Exit.noGoto_ret]); go_ret
              exact ⟨ret_bool HF.out.symm, k + k2, rfl⟩
            · by_cases hag2 : ag = s.size
              · have hf := Pat.pinv_fails HI.out HM.out (.inr (by rw [bs_len]; exact hag2))
                have HF := Lib.hid hf
                have hagb := nat_eqb hag2
                clear hf HI HM hag2
                go_wp2_with fail
                go_at_call 52; refine (HO.out _).mono ?_; rintro e w' ⟨rfl, k2, rfl⟩
                go_wp2_with fail
                (try rw [Exit.noGoto_ret]); go_ret
                exact ⟨ret_bool HF.out.symm, k + k2, rfl⟩
              · obtain ⟨k', rfl⟩ : ∃ k' : Nat, st = (k' : Int) := ⟨st.toNat, by omega⟩
                have hlt : ag < s.size := by omega
                have hn := Pat.pinv_back HI.out HM.out (by rw [bs_len]; exact hlt)
                have HN := Lib.hid hn
                have hagb := nat_neb hag2
                clear hn HI HM hag2
                go_wp2_with fail
                go_at_call 52; refine (HO.out _).mono ?_; rintro e w' ⟨rfl, k2, rfl⟩
                go_wp2_with fail
                go_roundw
                case rel => exact ⟨k' + 1, k', ag + 1, ag + 1, HN, by omega, by omega, by omega, by omega, by omega, by go_num, rfl, by go_num, by go_num, k + k2, rfl⟩
                case measure =>
                  have e : ((ag : Int) + 1).toNat = ag + 1 := by omega
                  simp only [intOf, e, Int.toNat_natCast]
                  exact Pat.left_back hlt
        · have hae : a = s.size := by omega
          have hab := nat_eqb hae
          have hm : Pat.mt (Pat.parts ((bs p).drop i)) ((bs s).drop a) = false := Pat.mm_short (P := bs p) (S := bs s) (by rw [bs_len]; exact hip) h42 (by rw [bs_len]; exact hae)
          have HM := Lib.hid hm
          clear hm h42 hae
          by_cases hneg : st < 0
          · have hf := Pat.pinv_fails HI.out HM.out (.inl (by omega))
            have HF := Lib.hid hf
            clear hf HI HM
            go_wp2_with fail
            (try rw [Exit.noGoto_ret]); go_ret
            exact ⟨ret_bool HF.out.symm, k, rfl⟩
          · by_cases hag2 : ag = s.size
            · have hf := Pat.pinv_fails HI.out HM.out (.inr (by rw [bs_len]; exact hag2))
              have HF := Lib.hid hf
              have hagb := nat_eqb hag2
              clear hf HI HM hag2
              go_wp2_with fail
              (try rw [Exit.noGoto_ret]); go_ret
              exact ⟨ret_bool HF.out.symm, k, rfl⟩
            · obtain ⟨k', rfl⟩ : ∃ k' : Nat, st = (k' : Int) := ⟨st.toNat, by omega⟩
              have hlt : ag < s.size := by omega
              have hn := Pat.pinv_back HI.out HM.out (by rw [bs_len]; exact hlt)
              have HN := Lib.hid hn
              have hagb := nat_neb hag2
              clear hn HI HM hag2
              go_wp2_with fail
              go_roundw
              case rel => exact ⟨k' + 1, k', ag + 1, ag + 1, HN, by omega, by omega, by omega, by omega, by omega, by go_num, rfl, by go_num, by go_num, k, rfl⟩
              case measure =>
                have e : ((ag : Int) + 1).toNat = ag + 1 := by omega
                simp only [intOf, e, Int.toNat_natCast]
                exact Pat.left_back hlt
    · have hie : i = p.size := by omega
      have hib := nat_eqb hie
      by_cases has : a < s.size
      · have hab := nat_neb (show a ≠ s.size by omega)
        have hm : Pat.mt (Pat.parts ((bs p).drop i)) ((bs s).drop a) = false := Pat.mm_end (P := bs p) (S := bs s) (by rw [bs_len]; exact hie) (by rw [bs_len]; exact has)
        have HM := Lib.hid hm
        clear hm hie
        by_cases hneg : st < 0
        · have hf := Pat.pinv_fails HI.out HM.out (.inl (by omega))
          have HF := Lib.hid hf
          clear hf HI HM
          go_wp2_with fail
          (try rw [Exit.noGoto_ret]); go_ret
          exact ⟨ret_bool HF.out.symm, k, rfl⟩
        · by_cases hag2 : ag = s.size
          · have hf := Pat.pinv_fails HI.out HM.out (.inr (by rw [bs_len]; exact hag2))
            have HF := Lib.hid hf
            have hagb := nat_eqb hag2
            clear hf HI HM hag2
            go_wp2_with fail
            (try rw [Exit.noGoto_ret]); go_ret
            exact ⟨ret_bool HF.out.symm, k, rfl⟩
          · obtain ⟨k', rfl⟩ : ∃ k' : Nat, st = (k' : Int) := ⟨st.toNat, by omega⟩
            have hlt : ag < s.size := by omega
            have hn := Pat.pinv_back HI.out HM.out (by rw [bs_len]; exact hlt)
            have HN := Lib.hid hn
            have hagb := nat_neb hag2
            clear hn HI HM hag2
            go_wp2_with fail
            go_roundw
            case rel => exact ⟨k' + 1, k', ag + 1, ag + 1, HN, by omega, by omega, by omega, by omega, by omega, by go_num, rfl, by go_num, by go_num, k, rfl⟩
            case measure =>
              have e : ((ag : Int) + 1).toNat = ag + 1 := by omega
              simp only [intOf, e, Int.toNat_natCast]
              exact Pat.left_back hlt
      · have hae : a = s.size := by omega
        have hab := nat_eqb hae
        have hf := Pat.pinv_done HI.out (by rw [bs_len]; exact hie) (by rw [bs_len]; exact hae)
        have HF := Lib.hid hf
        clear hf HI hae hie
        go_wp2_with fail
        (try rw [Exit.noGoto_ret]); go_ret
        exact ⟨ret_bool HF.out.symm, k, rfl⟩
end Go.Proofs.YtdjiimblfhbcjaaDoor
