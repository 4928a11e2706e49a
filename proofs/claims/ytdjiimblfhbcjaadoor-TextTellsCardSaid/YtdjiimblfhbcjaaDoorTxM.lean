/- Walks of package text: Magic, Plain. -/
import Derived.Test.YtdjiimblfhbcjaaDoorTxB
import Derived.Test.YtdjiimblfhbcjaaDoorTxC
import Derived.Test.YtdjiimblfhbcjaaDoorPatP
namespace Go.Proofs.YtdjiimblfhbcjaaDoor
set_option linter.unusedSimpArgs false
open Go.RowKit

theorem drop_all (p : ByteArray) (k : Nat) (hk : p.size ≤ k) : (bs p).drop k = [] := List.drop_eq_nil_of_le (by rw [bs_len]; exact hk)
namespace Pat
variable {p : ByteArray} {k : Nat}
theorem hp_star (hk : k < p.size) (h : p[k] = 42) : headPart ((bs p).drop k) = (.star, 1) := by rw [bs_drop p k hk, headPart_cons, if_pos h]
theorem hp_esc (hk : k < p.size) (h : p[k] = 92) (h1 : k + 1 < p.size) : headPart ((bs p).drop k) = (.byte p[k + 1], 2) := by
  rw [bs_drop p k hk, headPart_cons, if_neg (by rw [h]; decide), if_pos h, bs_drop p (k + 1) h1]
theorem hp_end (hk : k < p.size) (h : p[k] = 92) (h1 : ¬ k + 1 < p.size) : headPart ((bs p).drop k) = (.byte p[k], 1) := by
  rw [bs_drop p k hk, headPart_cons, if_neg (by rw [h]; decide), if_pos h, drop_all p (k + 1) (by omega), h]
theorem hp_any (hk : k < p.size) (h : p[k] = 63) : headPart ((bs p).drop k) = (.any, 1) := by
  rw [bs_drop p k hk, headPart_cons, if_neg (by rw [h]; decide), if_neg (by rw [h]; decide), if_pos h]
theorem hp_cls (hk : k < p.size) (h : p[k] = 91) {x : Bool × List UInt8 × Nat} (hc : cls ((bs p).drop (k + 1)) = some x) : headPart ((bs p).drop k) = (.cls x.1 x.2.1, x.2.2) := by
  rw [bs_drop p k hk, headPart_cons, if_neg (by rw [h]; decide), if_neg (by rw [h]; decide), if_neg (by rw [h]; decide), if_pos h, hc]
theorem hp_none (hk : k < p.size) (h : p[k] = 91) (hc : cls ((bs p).drop (k + 1)) = none) : headPart ((bs p).drop k) = (.byte p[k], 1) := by
  rw [bs_drop p k hk, headPart_cons, if_neg (by rw [h]; decide), if_neg (by rw [h]; decide), if_neg (by rw [h]; decide), if_pos h, hc, h]
theorem hp_byte (hk : k < p.size) (h1 : p[k] ≠ 42) (h2 : p[k] ≠ 92) (h3 : p[k] ≠ 63) (h4 : p[k] ≠ 91) : headPart ((bs p).drop k) = (.byte p[k], 1) := by
  rw [bs_drop p k hk, headPart_cons, if_neg h1, if_neg h2, if_neg h3, if_neg h4]
theorem mg_at (hk : k < p.size) {x : Part} {n : Nat} (h : headPart ((bs p).drop k) = (x, n)) : mg ((bs p).drop k) = (!x.isByte || mg ((bs p).drop (k + n))) := by
  have := mg_drop (bs p) k (by rw [bs_len]; exact hk)
  rw [h] at this; exact this
theorem pl_at (hk : k < p.size) {x : Part} {n : Nat} (h : headPart ((bs p).drop k) = (x, n)) : pl ((bs p).drop k) = piece x (((bs p).drop k).take n) ++ pl ((bs p).drop (k + n)) := by
  have := pl_drop (bs p) k (by rw [bs_len]; exact hk)
  rw [h] at this; exact this
theorem take_one (hk : k < p.size) : ((bs p).drop k).take 1 = [p[k]] := by rw [bs_drop p k hk]; rfl
end Pat

set_option maxHeartbeats 4000000 in
theorem Magic_any (p : ByteArray) (w : World) (hp : p.size ≤ 140737488355328) :
    Calls Tryd.prog 28 #[.string p] w fun e w' => e = .returned (.bool (Pat.mg (bs p))) ∧ ∃ k, w' = w.drewN k := by
  obtain ⟨G, hG⟩ : ∃ G, G = Pat.mg (bs p) := ⟨_, rfl⟩
  rw [← hG]
  have H0 := Lib.hid hG
  clear hG
  go_enter Tryd.func28, Tryd.ntmps28
  go_wp2_with fail
  go_loopw [3] (fun iv wr => ∃ k : Nat, k ≤ p.size + 1 ∧ iv = .int .i64 k ∧ Hid (G = Pat.mg ((bs p).drop k)) ∧ ∃ n, wr = w.drewN n) (fun iv _ => p.size + 1 - (intOf iv).toNat)
  case atStart => exact ⟨0, by omega, rfl, Lib.hid (by rw [H0.out]; rfl), 0, rfl⟩
  case round =>
    obtain ⟨k, hk, rfl, HG, n, rfl⟩ := hrel
    by_cases hlt : k < p.size
    · by_cases h92 : p[k] = 92
      · have hx : ((p[k].toNat : Int) == 92) = true := u8_is (b := 92) h92
        have hg : G = Pat.mg ((bs p).drop (k + 2)) := by
          rw [HG.out]
          by_cases h1 : k + 1 < p.size
          · rw [Pat.mg_at hlt (Pat.hp_esc hlt h92 h1)]; rfl
          · rw [Pat.mg_at hlt (Pat.hp_end hlt h92 h1), drop_all p (k + 1) (by omega), drop_all p (k + 2) (by omega)]; rfl
        have HN := Lib.hid hg
        clear hg HG h92
        go_wp2_with fail
        go_roundw
        case rel => exact ⟨k + 2, by omega, by go_num, HN, n, rfl⟩
        case measure => simp [intOf]; omega
      · have hx : ((p[k].toNat : Int) == 92) = false := u8_ne (b := 92) h92
        by_cases h42 : p[k] = 42
        · have hy : ((p[k].toNat : Int) == 42) = true := u8_is (b := 42) h42
          have hg : G = true := by rw [HG.out, Pat.mg_at hlt (Pat.hp_star hlt h42)]; rfl
          have HN := Lib.hid hg
          clear hg HG h92 h42
          go_wp2_with fail
          go_ret
          exact ⟨ret_bool HN.out.symm, n, rfl⟩
        · have hy : ((p[k].toNat : Int) == 42) = false := u8_ne (b := 42) h42
          by_cases h63 : p[k] = 63
          · have hz : ((p[k].toNat : Int) == 63) = true := u8_is (b := 63) h63
            have hg : G = true := by rw [HG.out, Pat.mg_at hlt (Pat.hp_any hlt h63)]; rfl
            have HN := Lib.hid hg
            clear hg HG h92 h42 h63
            go_wp2_with fail
            go_ret
            exact ⟨ret_bool HN.out.symm, n, rfl⟩
          · have hz : ((p[k].toNat : Int) == 63) = false := u8_ne (b := 63) h63
            by_cases h91 : p[k] = 91
            · have hv : ((p[k].toNat : Int) == 91) = true := u8_is (b := 91) h91
              have hC := fun w => class_any p k w hp hlt
              cases hc : Pat.cls ((bs p).drop (k + 1)) with
              | none =>
                have hg : G = Pat.mg ((bs p).drop (k + 1)) := by rw [HG.out, Pat.mg_at hlt (Pat.hp_none hlt h91 hc)]; rfl
                rw [hc] at hC
                simp only [clsVal] at hC
                have HC := Lib.hid hC
                have HN := Lib.hid hg
                clear hg HG h92 h42 h63 h91 hC hc
                go_wp2_with fail
                go_at_call 62; refine (HC.out _).mono ?_; rintro e w' ⟨set, rfl, hset, k2, rfl⟩
                clear hset
                go_wp2_with fail
                go_roundw
                case rel => exact ⟨k + 1, by omega, by go_num, HN, n + k2, rfl⟩
                case measure => simp [intOf]; omega
              | some x =>
                obtain ⟨neg, set0, m⟩ := x
                have hg : G = true := by rw [HG.out, Pat.mg_at hlt (Pat.hp_cls hlt h91 hc)]; rfl
                rw [hc] at hC
                simp only [clsVal] at hC
                have HC := Lib.hid hC
                have HN := Lib.hid hg
                clear hg HG h92 h42 h63 h91 hC hc
                go_wp2_with fail
                go_at_call 62; refine (HC.out _).mono ?_; rintro e w' ⟨set, rfl, hset, k2, rfl⟩
                clear hset
                go_wp2_with fail
                go_ret
                exact ⟨ret_bool HN.out.symm, n + k2, rfl⟩
            · have hv : ((p[k].toNat : Int) == 91) = false := u8_ne (b := 91) h91
              have hg : G = Pat.mg ((bs p).drop (k + 1)) := by rw [HG.out, Pat.mg_at hlt (Pat.hp_byte hlt h42 h92 h63 h91)]; rfl
              have HN := Lib.hid hg
              clear hg HG h92 h42 h63 h91
              go_wp2_with fail
              go_roundw
              case rel => exact ⟨k + 1, by omega, by go_num, HN, n, rfl⟩
              case measure => simp [intOf]; omega
    · have hg : G = false := by rw [HG.out, drop_all p k (by omega)]; rfl
      have HN := Lib.hid hg
      clear hg HG
      go_wp2_with fail
      go_ret
      exact ⟨ret_bool HN.out.symm, n, rfl⟩

set_option maxHeartbeats 8000000 in
theorem Plain_any (p : ByteArray) (w : World) (hp : p.size ≤ 1073741824) :
    Calls Tryd.prog 29 #[.string p] w fun e w' => e = .returned (.string ⟨(Pat.pl (bs p)).toArray⟩) ∧ Below w.heap.size w w' := by
  obtain ⟨G, hG⟩ : ∃ G, G = Pat.pl (bs p) := ⟨_, rfl⟩
  rw [← hG]
  have HS := Lib.hid hG
  have H0 := Lib.hid (Bw.start w)
  clear hG
  go_enter Tryd.func29, Tryd.ntmps29
  go_wp2_with fail
  go_loopw [4] (fun iv wr => ∃ (k : Nat) (l : List UInt8), k ≤ p.size ∧ l.length ≤ k ∧ iv = .int .i64 k ∧ Hid (Bw w l wr) ∧ Hid (G = l ++ Pat.pl ((bs p).drop k))) (fun iv _ => p.size - (intOf iv).toNat)
  case atStart => exact ⟨0, [], by omega, by simp, rfl, H0, Lib.hid (by rw [HS.out]; rfl)⟩
  case round =>
    obtain ⟨k, l, hk, hl, rfl, HB, HG⟩ := hrel
    clear HS H0
    by_cases hlt : k < p.size
    · by_cases h92 : p[k] = 92
      · have hx : ((p[k].toNat : Int) == 92) = true := u8_is (b := 92) h92
        have hv : ((p[k].toNat : Int) == 91) = false := u8_ne (b := 91) (by rw [h92]; decide)
        by_cases h1 : k + 1 < p.size
        · have hg : G = (l ++ [p[k + 1]]) ++ Pat.pl ((bs p).drop (k + 2)) := by rw [HG.out, Pat.pl_at hlt (Pat.hp_esc hlt h92 h1), List.append_assoc]; rfl
          have HN := Lib.hid hg
          clear hg HG h92
          go_wp2_with fail
          go_at_call 48; refine (HB.out.writeByte p[k + 1] (by simp; omega)).mono ?_; rintro e w2 ⟨rfl, HB2⟩
          replace HB2 := Lib.hid HB2
          go_wp2_with fail
          go_roundw
          case rel => exact ⟨k + 2, l ++ [p[k + 1]], by omega, by simp; omega, by go_num, HB2, HN⟩
          case measure => simp [intOf]; omega
        · have hg : G = (l ++ [p[k]]) ++ Pat.pl ((bs p).drop (k + 1)) := by rw [HG.out, Pat.pl_at hlt (Pat.hp_end hlt h92 h1), List.append_assoc]; first | rfl | (rw [Pat.piece, Pat.take_one hlt])
          have HN := Lib.hid hg
          clear hg HG h92
          go_wp2_with fail
          go_at_call 48; refine (HB.out.writeByte p[k] (by simp; omega)).mono ?_; rintro e w2 ⟨rfl, HB2⟩
          replace HB2 := Lib.hid HB2
          go_wp2_with fail
          go_roundw
          case rel => exact ⟨k + 1, l ++ [p[k]], by omega, by simp; omega, by go_num, HB2, HN⟩
          case measure => simp [intOf]; omega
      · have hx : ((p[k].toNat : Int) == 92) = false := u8_ne (b := 92) h92
        by_cases h91 : p[k] = 91
        · have hv : ((p[k].toNat : Int) == 91) = true := u8_is (b := 91) h91
          have hC := fun w => class_any p k w (by omega) hlt
          cases hc : Pat.cls ((bs p).drop (k + 1)) with
          | none =>
            have hg : G = (l ++ [p[k]]) ++ Pat.pl ((bs p).drop (k + 1)) := by rw [HG.out, Pat.pl_at hlt (Pat.hp_none hlt h91 hc), List.append_assoc]; first | rfl | (rw [Pat.piece, Pat.take_one hlt])
            have HN := Lib.hid hg
            rw [hc] at hC
            simp only [clsVal] at hC
            have HC := Lib.hid hC
            clear hg HG h92 h91 hC hc
            go_wp2_with fail
            go_at_call 62; refine (HC.out _).mono ?_; rintro e w' ⟨set, rfl, hset, k2, rfl⟩
            clear hset
            have HB1 := Lib.hid (HB.out.drewN k2)
            go_wp2_with fail
            go_at_call 48; refine (HB1.out.writeByte p[k] (by simp; omega)).mono ?_; rintro e w2 ⟨rfl, HB2⟩
            replace HB2 := Lib.hid HB2
            go_wp2_with fail
            go_roundw
            case rel => exact ⟨k + 1, l ++ [p[k]], by omega, by simp; omega, by go_num, HB2, HN⟩
            case measure => simp [intOf]; omega
          | some x =>
            obtain ⟨neg, set0, m⟩ := x
            have hm := Pat.cls_len hc
            rw [List.length_drop, bs_len] at hm
            obtain ⟨hm1, hm2⟩ := hm
            dsimp only at hm1 hm2
            have hlast : k + m - 1 < p.size := by omega
            have hg : G = (l ++ bs (p.extract k (k + m - 1)) ++ [p[k + m - 1]]) ++ Pat.pl ((bs p).drop (k + m)) := by
              rw [HG.out, Pat.pl_at hlt (Pat.hp_cls hlt h91 hc), bs_extract, List.append_assoc, List.append_assoc]
              show l ++ (((bs p).drop k).take m ++ _) = _
              congr 1
              rw [← List.append_assoc]
              congr 1
              have e : m = (k + m - 1 - k) + 1 := by omega
              have hlt2 : k + m - 1 - k < ((bs p).drop k).length := by rw [List.length_drop, bs_len]; omega
              conv => lhs; rw [e, List.take_succ_eq_append_getElem hlt2]
              congr 2
              rw [List.getElem_drop]
              have : k + (k + m - 1 - k) = k + m - 1 := by omega
              simp only [this]; rfl
            have HN := Lib.hid hg
            have hbl : (bs (p.extract k (k + m - 1))).length = m - 1 := by rw [bs_extract, List.length_take, List.length_drop, bs_len]; omega
            have hes : (p.extract k (k + m - 1)).size = m - 1 := by rw [← bs_len]; exact hbl
            rw [hc] at hC
            simp only [clsVal] at hC
            have HC := Lib.hid hC
            have HL := Lib.hid hbl
            clear hg HG h92 h91 hC hc hbl
            go_wp2_with fail
            go_at_call 62; refine (HC.out _).mono ?_; rintro e w' ⟨set, rfl, hset, k2, rfl⟩
            clear hset
            have HB1 := Lib.hid (HB.out.drewN k2)
            go_wp2_with fail
            go_at_call 47; refine (HB1.out.writeString (p.extract k (k + m - 1)) (by omega)).mono ?_; rintro e w2 ⟨rfl, HB2⟩
            replace HB2 := Lib.hid HB2
            go_wp2_with fail
            go_at_call 48; refine (HB2.out.writeByte p[k + m - 1] (by rw [List.length_append, HL.out]; omega)).mono ?_; rintro e w2 ⟨rfl, HB3⟩
            replace HB3 := Lib.hid HB3
            go_wp2_with fail
            go_roundw
            case rel => exact ⟨k + m, l ++ bs (p.extract k (k + m - 1)) ++ [p[k + m - 1]], by omega, by rw [List.length_append, List.length_append, HL.out]; simp; omega, by go_num, HB3, HN⟩
            case measure => simp [intOf]; omega
        · have hv : ((p[k].toNat : Int) == 91) = false := u8_ne (b := 91) h91
          have hh : ∃ x, Pat.headPart ((bs p).drop k) = (x, 1) ∧ Pat.piece x (((bs p).drop k).take 1) = [p[k]] := by
            by_cases h42 : p[k] = 42
            · exact ⟨_, Pat.hp_star hlt h42, Pat.take_one hlt⟩
            · by_cases h63 : p[k] = 63
              · exact ⟨_, Pat.hp_any hlt h63, Pat.take_one hlt⟩
              · exact ⟨_, Pat.hp_byte hlt h42 h92 h63 h91, rfl⟩
          obtain ⟨x, hh1, hh2⟩ := hh
          have hg : G = (l ++ [p[k]]) ++ Pat.pl ((bs p).drop (k + 1)) := by rw [HG.out, Pat.pl_at hlt hh1, hh2, List.append_assoc]
          have HN := Lib.hid hg
          clear hg HG h92 h91 hh1 hh2
          go_wp2_with fail
          go_at_call 48; refine (HB.out.writeByte p[k] (by simp; omega)).mono ?_; rintro e w2 ⟨rfl, HB2⟩
          replace HB2 := Lib.hid HB2
          go_wp2_with fail
          go_roundw
          case rel => exact ⟨k + 1, l ++ [p[k]], by omega, by simp; omega, by go_num, HB2, HN⟩
          case measure => simp [intOf]; omega
    · have hg : G = l := by rw [HG.out, drop_all p k (by omega), Pat.pl_nil, List.append_nil]
      have HN := Lib.hid hg
      clear hg HG
      go_wp2_with fail
      go_at_call 49; refine HB.out.string.mono ?_; rintro e w2 ⟨rfl, HB2⟩
      replace HB2 := Lib.hid HB2
      go_wp2_with fail
      go_ret
      exact ⟨by rw [HN.out]; rfl, HB2.out.below⟩
end Go.Proofs.YtdjiimblfhbcjaaDoor
