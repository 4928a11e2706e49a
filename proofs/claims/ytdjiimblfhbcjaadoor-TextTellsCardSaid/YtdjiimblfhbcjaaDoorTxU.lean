/- Walks of package text: Unquote. -/
import Derived.Test.YtdjiimblfhbcjaaDoorTxQ
import Derived.Test.YtdjiimblfhbcjaaDoorTxE
import Derived.StillTailTactics
import Derived.StillTactics
namespace Go.Proofs.YtdjiimblfhbcjaaDoor
set_option linter.unusedSimpArgs false
open Go.RowKit

theorem wb_below {T e : TypeId} {B b : Nat} {p : Value} {l : List Value} {W W' : World} (h : Lib.BuilderAtF T e B b p l W) (hb : Below W.heap.size W W') : Lib.BuilderAtF T e B b p l W' := by
  have hlt := h.lt
  obtain ⟨hB, v, hv, hown, hne⟩ := h
  exact ⟨hB, v, (hb.block b hlt).trans hv, hown.kept (row := none) ⟨hb.os, hb.tape, hb.output, hb.size, fun k hk _ => hb.block k hk⟩ (Classical.em _), hne⟩
theorem Bw.keep {w0 : World} {l : List UInt8} {w w' : World} (h : Bw w0 l w) (hb : Below w.heap.size w w') : Bw w0 l w' :=
  ⟨h.1.elim (fun x => .inl (wb_below x hb)) (fun x => .inr (wb_below x hb)), h.2.trans (hb.mono h.2.size)⟩
theorem Bw.drew {w0 : World} {l : List UInt8} {w : World} (h : Bw w0 l w) : Bw w0 l w.drew := h.drewN 1
theorem ub_walk (a b : UInt8) : bits BinOp.or IntKind.i64 (wrap64 (Lib.indexByte [48, 49, 50, 51, 52, 53, 54, 55, 56, 57, 97, 98, 99, 100, 101, 102] a * 16)) (Lib.indexByte [48, 49, 50, 51, 52, 53, 54, 55, 56, 57, 97, 98, 99, 100, 101, 102] b) % 256 = ((ub a b).toNat : Int) := by
  rw [← ubI_eq, ubI]
  have h : ∀ z : Int, IntKind.u8.wrap z = z % 256 := by
    intro z; simp [IntKind.wrap, IntKind.bits, IntKind.signed]
  rw [h, IntWalk.i64_left]
theorem bs_lit0 (l : List UInt8) : bs ⟨l.toArray⟩ = l := by simp [bs]
theorem Quote_l (l : List UInt8) (w : World) (hs : l.length ≤ 1073741824) :
    Calls Tryd.prog 23 #[.string ⟨l.toArray⟩] w fun e w' => e = .returned (.string ⟨(quote l).toArray⟩) ∧ Below w.heap.size w w' := by
  have h := Quote_any ⟨l.toArray⟩ w (by rw [← bs_len, bs_lit0]; exact hs)
  rw [bs_lit0] at h; exact h
/-- The inside. -/
def inside (s : ByteArray) (k : Nat) : List UInt8 := ((bs s).take (s.size - 1)).drop k
theorem inside_cons (s : ByteArray) (k : Nat) (h : k + 1 < s.size) : inside s k = s[k] :: inside s (k + 1) := by
  unfold inside
  have h1 : k < ((bs s).take (s.size - 1)).length := by rw [List.length_take, bs_len]; omega
  rw [List.drop_eq_getElem_cons h1, List.getElem_take]; rfl
theorem inside_nil (s : ByteArray) (k : Nat) (h : ¬ k + 1 < s.size) : inside s k = [] := by
  unfold inside
  exact List.drop_eq_nil_of_le (by rw [List.length_take, bs_len]; omega)

theorem inside_len (s : ByteArray) (k : Nat) : (inside s k).length = s.size - 1 - k := by
  unfold inside; rw [List.length_drop, List.length_take, bs_len]; omega

set_option maxRecDepth 100000 in
set_option maxHeartbeats 8000000 in
theorem Unquote_any (s : ByteArray) (w : World) (hs : s.size ≤ 268435456) :
    Calls Tryd.prog 22 #[.string s] w fun e w' => e = .returned (.tuple #[.string (if quote (raw (inside s 1)) = bs s then ⟨(raw (inside s 1)).toArray⟩ else ⟨#[]⟩), .bool (decide (quote (raw (inside s 1)) = bs s))]) ∧ Below w.heap.size w w' := by
  have H0 := Lib.hid (Bw.start w)
  obtain ⟨G, hG⟩ : ∃ G, raw (inside s 1) = G := ⟨_, rfl⟩
  have HG := Lib.hid hG
  rw [hG]
  clear hG
  go_enter Tryd.func22, Tryd.ntmps22
  go_wp2_with fail
  go_loopw [5] (fun iv wr => ∃ (k : Nat) (l : List UInt8), 1 ≤ k ∧ k ≤ s.size + 1 ∧ l.length ≤ k ∧ iv = .int .i64 k ∧ Hid (Bw w l wr) ∧ Hid (G = l ++ raw (inside s k))) (fun iv _ => s.size + 1 - (intOf iv).toNat)
  case atStart => exact ⟨1, [], by omega, by omega, by simp, rfl, H0, Lib.hid (by rw [HG.out]; rfl)⟩
  case round =>
    obtain ⟨k, l, hk1, hk, hl, rfl, HB, HN⟩ := hrel
    clear H0 HG
    by_cases hlt : k + 1 < s.size
    · have hlt0 : (k : Int) < (s.size : Int) - 1 := by omega
      by_cases h92 : s[k] = 92
      · have hx : ((s[k].toNat : Int) == 92) = true := u8_is (b := 92) h92
        have hxx : ((s[k].toNat : Int) != 92) = false := by rw [bne, hx]; rfl
        by_cases h2 : k + 2 < s.size
        · have hge : (k : Int) + 1 < (s.size : Int) - 1 := by omega
          by_cases h110 : s[k + 1] = 110
          · have hy : ((s[k + 1].toNat : Int) == 110) = true := u8_is (b := 110) h110
            have HG2 : Hid (G = (l ++ [10]) ++ raw (inside s (k + 2))) := Lib.hid (by rw [HN.out, inside_cons s k hlt, inside_cons s (k + 1) h2, h92, h110, raw_n, List.append_assoc]; rfl)
            clear HN h92 h110
            go_wp2_with fail
            go_at_call 48; refine (HB.out.writeByte (10) (by simp; omega)).mono ?_; rintro e w' ⟨rfl, HB2⟩
            replace HB2 := Lib.hid HB2
            go_wp2_with fail
            go_roundw
            case rel => exact ⟨k + 2, l ++ [10], by omega, by omega, by simp; omega, by go_num, HB2, HG2⟩
            case measure => simp [intOf]; omega
          · have hy : ((s[k + 1].toNat : Int) == 110) = false := u8_ne (b := 110) h110
            by_cases h120 : s[k + 1] = 120
            · have hz : ((s[k + 1].toNat : Int) == 120) = true := u8_is (b := 120) h120
              by_cases h3 : k + 4 < s.size
              · have hw1 : IntKind.i64.wrap (((k : Int) + 1) + 1) = (k : Int) + 2 := by rw [IntWalk.i64_in _ (by omega)]; omega
                have hw2 : IntKind.i64.wrap (((k : Int) + 1) + 2) = (k : Int) + 3 := by rw [IntWalk.i64_in _ (by omega)]; omega
                have hn1 : (0 : Int) ≤ (k : Int) + 2 := by omega
                have hn2 : (0 : Int) ≤ (k : Int) + 3 := by omega
                have hn3 : (k : Int) + 2 < (s.size : Int) := by omega
                have hn4 : (k : Int) + 3 < (s.size : Int) := by omega
                have ht1 : ((k : Int) + 2).toNat = k + 2 := by omega
                have ht2 : ((k : Int) + 3).toNat = k + 3 := by omega
                have HG2 : Hid (G = (l ++ [ub s[k + 2] s[k + 3]]) ++ raw (inside s (k + 4))) := Lib.hid (by rw [HN.out, inside_cons s k hlt, inside_cons s (k + 1) h2, inside_cons s (k + 2) (by omega), inside_cons s (k + 3) (by omega), h92, h120, raw_x, List.append_assoc]; rfl)
                clear HN h92 h110 h120
                go_wp2_with fail
                refine wp_region_still_tail 13 (by kernel_rfl) (by kernel_rfl) ?_
                simp only [List.take_succ_cons, List.take_zero, List.drop_succ_cons, List.drop_zero]
                repeat still_step
                still_call (Tryd.strings_IndexByte _ _ _)
                repeat still_step
                still_call (Tryd.strings_IndexByte _ _ _)
                repeat still_step
                try refine wpStill_nil ?_
                change wpList _ _ _ _ _ wr.drew
                go_wp2_with fail
                rw [ub_walk]
                refine (HB.out.drew.writeByte (ub s[k + 2] s[k + 3]) (by simp; omega)).mono ?_; rintro e w' ⟨rfl, HB2⟩
                replace HB2 := Lib.hid HB2
                go_wp2_with fail
                go_roundw
                case rel => exact ⟨k + 4, l ++ [ub s[k + 2] s[k + 3]], by omega, by omega, by simp; omega, by go_num, HB2, HG2⟩
                case measure => simp [intOf]; omega
              · have HG2 : Hid (G = (l ++ [s[k + 1]]) ++ raw (inside s (k + 2))) := Lib.hid (by rw [HN.out, inside_cons s k hlt, inside_cons s (k + 1) h2, h92, raw_c _ _ h110 (.inr (by rw [inside_len]; omega)), List.append_assoc]; rfl)
                clear HN h92 h110 h120
                go_wp2_with fail
                go_at_call 48; refine (HB.out.writeByte (s[k + 1]) (by simp; omega)).mono ?_; rintro e w' ⟨rfl, HB2⟩
                replace HB2 := Lib.hid HB2
                go_wp2_with fail
                go_roundw
                case rel => exact ⟨k + 2, l ++ [s[k + 1]], by omega, by omega, by simp; omega, by go_num, HB2, HG2⟩
                case measure => simp [intOf]; omega
            · have hz : ((s[k + 1].toNat : Int) == 120) = false := u8_ne (b := 120) h120
              have HG2 : Hid (G = (l ++ [s[k + 1]]) ++ raw (inside s (k + 2))) := Lib.hid (by rw [HN.out, inside_cons s k hlt, inside_cons s (k + 1) h2, h92, raw_c _ _ h110 (.inl h120), List.append_assoc]; rfl)
              clear HN h92 h110 h120
              go_wp2_with fail
              go_at_call 48; refine (HB.out.writeByte (s[k + 1]) (by simp; omega)).mono ?_; rintro e w' ⟨rfl, HB2⟩
              replace HB2 := Lib.hid HB2
              go_wp2_with fail
              go_roundw
              case rel => exact ⟨k + 2, l ++ [s[k + 1]], by omega, by omega, by simp; omega, by go_num, HB2, HG2⟩
              case measure => simp [intOf]; omega
        · have HG2 : Hid (G = (l ++ [s[k]]) ++ raw (inside s (k + 1))) := Lib.hid (by rw [HN.out, inside_cons s k hlt, raw_a _ _ (.inr (inside_nil s (k + 1) h2)), List.append_assoc]; rfl)
          clear HN h92
          go_wp2_with fail
          go_at_call 48; refine (HB.out.writeByte (s[k]) (by simp; omega)).mono ?_; rintro e w' ⟨rfl, HB2⟩
          replace HB2 := Lib.hid HB2
          go_wp2_with fail
          go_roundw
          case rel => exact ⟨k + 1, l ++ [s[k]], by omega, by omega, by simp; omega, by go_num, HB2, HG2⟩
          case measure => simp [intOf]; omega
      · have hx : ((s[k].toNat : Int) == 92) = false := u8_ne (b := 92) h92
        have hxx : ((s[k].toNat : Int) != 92) = true := by rw [bne, hx]; rfl
        have HG2 : Hid (G = (l ++ [s[k]]) ++ raw (inside s (k + 1))) := Lib.hid (by rw [HN.out, inside_cons s k hlt, raw_a _ _ (.inl h92), List.append_assoc]; rfl)
        clear HN h92
        go_wp2_with fail
        go_at_call 48; refine (HB.out.writeByte (s[k]) (by simp; omega)).mono ?_; rintro e w' ⟨rfl, HB2⟩
        replace HB2 := Lib.hid HB2
        go_wp2_with fail
        go_roundw
        case rel => exact ⟨k + 1, l ++ [s[k]], by omega, by omega, by simp; omega, by go_num, HB2, HG2⟩
        case measure => simp [intOf]; omega
    · have hg : G = l := by rw [HN.out, inside_nil s k hlt, raw, List.append_nil]
      subst hg
      have hge : (s.size : Int) - 1 ≤ (k : Int) := by omega
      have hql : G.length ≤ 268435457 := by omega
      clear HN
      by_cases hq : quote G = bs s
      · have hqq : (quote G == s.toList) = true := by rw [toList_bs, hq]; exact beq_self_eq_true _
        have hqn : (quote G != s.toList) = false := by rw [bne, hqq]; rfl
        have HQ := Lib.hid hq
        clear hq
        go_wp2_with fail
        go_at_call 49; refine HB.out.string.mono ?_; rintro e w2 ⟨rfl, HB2⟩
        replace HB2 := Lib.hid HB2
        go_wp2_with fail
        go_at_call 23; refine (Quote_l G _ (by omega)).mono ?_; rintro e w3 ⟨rfl, b⟩
        have HB3 := Lib.hid (HB2.out.keep b)
        clear b
        go_wp2_with fail
        go_at_call 49; refine HB3.out.string.mono ?_; rintro e w2 ⟨rfl, HB4⟩
        replace HB4 := Lib.hid HB4
        go_wp2_with fail
        go_ret2
        exact ⟨rfl, HB4.out.below⟩
      · have hqq : (quote G == s.toList) = false := by rw [toList_bs]; exact beq_eq_false_iff_ne.2 hq
        have hqn : (quote G != s.toList) = true := by rw [bne, hqq]; rfl
        have HQ := Lib.hid hq
        clear hq
        go_wp2_with fail
        go_at_call 49; refine HB.out.string.mono ?_; rintro e w2 ⟨rfl, HB2⟩
        replace HB2 := Lib.hid HB2
        go_wp2_with fail
        go_at_call 23; refine (Quote_l G _ (by omega)).mono ?_; rintro e w3 ⟨rfl, b⟩
        have HB3 := Lib.hid (HB2.out.keep b)
        clear b
        go_wp2_with fail
        go_ret2
        exact ⟨rfl, HB3.out.below⟩
end Go.Proofs.YtdjiimblfhbcjaaDoor
