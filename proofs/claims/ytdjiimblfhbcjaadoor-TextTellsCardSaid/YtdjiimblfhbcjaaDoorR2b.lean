/- Walks of taquinref02: Int. -/
import Derived.Test.YtdjiimblfhbcjaaDoorR2a
namespace Go.Proofs.YtdjiimblfhbcjaaDoor
set_option linter.unusedSimpArgs false
open Go.RowKit

theorem digs_snoc (l : List UInt8) (c : UInt8) (h : l ≠ [] ∨ c ≠ 45) : digs (l ++ [c]) = digs l ++ [c] := by
  cases l with
  | nil =>
    rcases h with h | h
    · exact absurd rfl h
    · rw [List.nil_append, digs_plain c [] h]; rfl
  | cons d l =>
    by_cases hd : d = 45
    · subst hd; rfl
    · rw [List.cons_append, digs_plain d _ hd, digs_plain d _ hd]; rfl
/-- What Int comes to. -/
def IntPost (s : ByteArray) (w : World) (e : Ending) (w' : World) : Prop := e = .returned (.tuple #[.int .i64 ((intOfB (bs s)).getD 0), .bool (intOfB (bs s)).isSome]) ∧ Below w.heap.size w w'
theorem IntPost.none {s : ByteArray} {w w' : World} (h : intOfB (bs s) = Option.none) (hb : Below w.heap.size w w') : IntPost s w (.returned (.tuple #[.int .i64 0, .bool false])) w' := by
  refine ⟨?_, hb⟩; rw [h]; rfl
theorem IntPost.some {s : ByteArray} {w w' : World} {v : Int} (h : intOfB (bs s) = Option.some v) (hb : Below w.heap.size w w') : IntPost s w (.returned (.tuple #[.int .i64 v, .bool true])) w' := by
  refine ⟨?_, hb⟩; rw [h]; rfl
set_option maxRecDepth 100000 in
set_option maxHeartbeats 8000000 in
theorem rInt_any (s : ByteArray) (w : World) (hs : s.size ≤ 140737488355328) :
    Calls Tryd.prog 34 #[.string s] w (IntPost s w) := by
  by_cases h0 : s.size = 0
  · have e0 : ((s.size : Int) == 0) = true := beq_iff_eq.2 (by omega)
    have HI := Lib.hid (intOfB_long (l := bs s) (.inr (by rw [bs_len]; exact h0)))
    clear h0
    go_enter Tryd.func34, Tryd.ntmps34
    go_wp2_with fail
    go_ret2
    exact IntPost.none HI.out (Below.refl _ _)
  · have e0 : ((s.size : Int) == 0) = false := beq_eq_false_iff_ne.2 (by omega)
    by_cases h20 : 20 < s.size
    · have e1 : (20 : Int) < (s.size : Int) := by omega
      have HI := Lib.hid (intOfB_long (l := bs s) (.inl (by rw [bs_len]; exact h20)))
      clear h0
      go_enter Tryd.func34, Tryd.ntmps34
      go_wp2_with fail
      go_ret2
      exact IntPost.none HI.out (Below.refl _ _)
    · have e1 : decide ((20 : Int) < (s.size : Int)) = false := decide_eq_false (by omega)
      have hpos : 0 < s.size := by omega
      have hposI : (0 : Int) < (s.size : Int) := by omega
      clear h0
      go_enter Tryd.func34, Tryd.ntmps34
      go_wp2_with fail
      go_loop [4, 5] (fun zv i => ∃ (k : Nat) (z : Int), k ≤ s.size ∧ -9223372036854775808 ≤ z ∧ z ≤ 9223372036854775807 ∧ i = .int .i64 k ∧ zv = .int .i64 z ∧ Hid (z = accN 0 (digs ((bs s).take k)))) (fun _ i => s.size - (intOf i).toNat)
      case atStart => exact ⟨0, 0, by omega, by omega, by omega, rfl, rfl, Lib.hid (by rfl)⟩
      case round =>
        obtain ⟨k, z, hk, z0, z1, rfl, rfl, HZ⟩ := hrel
        by_cases hlt : k < s.size
        · by_cases hm : k = 0 ∧ s[0] = 45
          · obtain ⟨rfl, hm⟩ := hm
            have em : ((s[0].toNat : Int) == 45) = true := u8_is (b := 45) hm
            have HN : Hid (z = accN 0 (digs ((bs s).take 1))) := Lib.hid (by
              rw [HZ.out, bs_take s 0 hpos, hm]; rfl)
            clear HZ hm
            go_wp2_with fail
            go_round
            case rel => exact ⟨1, z, by omega, z0, z1, by go_num, rfl, HN⟩
            case measure => simp [intOf]; omega
          · have hem : (((k : Int) == 0) = true ∧ ((s[0].toNat : Int) == 45) = false) ∨ ((k : Int) == 0) = false := by
              by_cases hk0 : k = 0
              · exact .inl ⟨beq_iff_eq.2 (by omega), u8_ne (b := 45) (fun h => hm ⟨hk0, h⟩)⟩
              · exact .inr (beq_eq_false_iff_ne.2 (by omega))
            by_cases hd : 48 ≤ s[k] ∧ s[k] ≤ 57
            · have d1 : (48 : Int) ≤ (s[k].toNat : Int) := u8_le hd.1
              have d2 : (s[k].toNat : Int) ≤ 57 := u8_le hd.2
              have HN : Hid (wrap64 (wrap64 (z * 10) - ((s[k].toNat : Int) - 48)) = accN 0 (digs ((bs s).take (k + 1)))) := Lib.hid (by
                rw [bs_take s k hlt, digs_snoc, accN_snoc, HZ.out]
                by_cases hk0 : k = 0
                · subst hk0; exact .inr (fun h => hm ⟨rfl, h⟩)
                · left; intro e
                  have := congrArg List.length e
                  rw [List.length_take, bs_len, List.length_nil] at this; omega)
              have b0 : -9223372036854775808 ≤ wrap64 (wrap64 (z * 10) - ((s[k].toNat : Int) - 48)) := by unfold wrap64; omega
              have b1 : wrap64 (wrap64 (z * 10) - ((s[k].toNat : Int) - 48)) ≤ 9223372036854775807 := by unfold wrap64; omega
              have B0 := Lib.hid b0
              have B1 := Lib.hid b1
              clear HZ hm hd b0 b1
              rcases hem with ⟨m1, m2⟩ | m1
              all_goals
                go_wp2_with fail
                go_round
                case rel => exact ⟨k + 1, _, by omega, B0.out, B1.out, by go_num, rfl, HN⟩
                case measure => simp [intOf]; omega
            · have HI := Lib.hid (intOfB_nodigit (l := bs s) (k := k) (c := s[k]) (bs_get s k hlt) (fun h => hd ⟨by rw [UInt8.le_iff_toNat_le]; exact h.1, by rw [UInt8.le_iff_toNat_le]; exact h.2⟩) (fun hk0 => by subst hk0; exact fun h => hm ⟨rfl, h⟩))
              have hdd : (s[k].toNat : Int) < 48 ∨ (48 : Int) ≤ (s[k].toNat : Int) ∧ (57 : Int) < (s[k].toNat : Int) := by
                by_cases h1 : 48 ≤ s[k]
                · exact .inr ⟨u8_le h1, u8_lt (a := s[k]) (b := 57) (fun h => hd ⟨h1, h⟩)⟩
                · exact .inl (u8_lt h1)
              clear HZ hm hd
              rcases hem with ⟨m1, m2⟩ | m1 <;> rcases hdd with d1 | ⟨d1, d2⟩
              all_goals
                go_wp2_with fail
                go_ret2
                exact IntPost.none HI.out (Below.refl _ _)
        · obtain rfl : k = s.size := by omega
          have hts : (bs s).take s.size = bs s := by rw [← bs_len, List.take_length]
          have hh : (bs s).head? = Option.some s[0] := by
            have := bs_drop s 0 hpos
            rw [List.drop_zero] at this
            rw [this]; rfl
          obtain ⟨v, hv⟩ : ∃ v, v = refN (bs s) := ⟨_, rfl⟩
          have hvb := refN_bd (bs s)
          rw [← hv] at hvb
          have hz : (s[0] = 45 ∧ v = z) ∨ (s[0] ≠ 45 ∧ v = wrap64 (-z)) := by
            have hzz := HZ.out
            rw [hts] at hzz
            unfold refN at hv
            rw [hh] at hv
            by_cases h45 : s[0] = 45
            · left; rw [if_pos (by rw [h45])] at hv; exact ⟨h45, by rw [hv, hzz]⟩
            · right; rw [if_neg (by simpa using h45)] at hv; exact ⟨h45, by rw [hv, hzz]⟩
          obtain ⟨v0, v1⟩ := hvb
          clear HZ hts hh
          by_cases hq : Lib.itoa v = bs s
          · have hi := intOfB_yes (l := bs s) (by rw [← hv]; exact hq)
            rw [← hv] at hi
            have HI := Lib.hid hi
            have HQ := Lib.hid hq
            have q1 : (s.toList == s.toList) = true := beq_self_eq_true _
            have q2 : (s.toList != s.toList) = false := by rw [bne, q1]; rfl
            clear hv hi hq
            rcases hz with ⟨h45, rfl⟩ | ⟨h45, hz⟩
            · have em : ((s[0].toNat : Int) == 45) = true := u8_is (b := 45) h45
              have en : ((s[0].toNat : Int) != 45) = false := by rw [bne, em]; rfl
              clear h45
              go_wp2_with fail
              go_at_call 36; refine (rDec_is v s HQ.out v0 v1 _).mono ?_; rintro e w2 ⟨rfl, b⟩
              go_wp2_with fail
              go_ret2
              exact IntPost.some HI.out b
            · have em : ((s[0].toNat : Int) == 45) = false := u8_ne (b := 45) h45
              have en : ((s[0].toNat : Int) != 45) = true := by rw [bne, em]; rfl
              have gz := hz.symm
              clear h45 hz
              go_wp2_with fail
              go_at_call 36; refine (rDec_is v s HQ.out v0 v1 _).mono ?_; rintro e w2 ⟨rfl, b⟩
              go_wp2_with fail
              go_ret2
              exact IntPost.some HI.out b
          · have hi := intOfB_not (l := bs s) (by rw [← hv]; exact hq)
            have HI := Lib.hid hi
            have HQ := Lib.hid hq
            clear hv hi hq
            rcases hz with ⟨h45, rfl⟩ | ⟨h45, hz⟩
            · have em : ((s[0].toNat : Int) == 45) = true := u8_is (b := 45) h45
              have en : ((s[0].toNat : Int) != 45) = false := by rw [bne, em]; rfl
              clear h45
              go_wp2_with fail
              go_at_call 36; refine (rDec_any _ v _ (Nat.le_refl _) v0 v1).mono ?_; rintro e w2 ⟨D, hD, rfl, b⟩
              have q1 : (D.toList == s.toList) = false := by rw [toList_bs, toList_bs, hD]; exact beq_eq_false_iff_ne.2 HQ.out
              have q2 : (D.toList != s.toList) = true := by rw [bne, q1]; rfl
              clear hD
              go_wp2_with fail
              go_ret2
              exact IntPost.none HI.out b
            · have em : ((s[0].toNat : Int) == 45) = false := u8_ne (b := 45) h45
              have en : ((s[0].toNat : Int) != 45) = true := by rw [bne, em]; rfl
              have gz := hz.symm
              clear h45 hz
              go_wp2_with fail
              go_at_call 36; refine (rDec_any _ v _ (Nat.le_refl _) v0 v1).mono ?_; rintro e w2 ⟨D, hD, rfl, b⟩
              have q1 : (D.toList == s.toList) = false := by rw [toList_bs, toList_bs, hD]; exact beq_eq_false_iff_ne.2 HQ.out
              have q2 : (D.toList != s.toList) = true := by rw [bne, q1]; rfl
              clear hD
              go_wp2_with fail
              go_ret2
              exact IntPost.none HI.out b
end Go.Proofs.YtdjiimblfhbcjaaDoor
