/- TextStars. -/
import Derived.Test.YtdjiimblfhbcjaaDoorTxLaw1
namespace Go.Proofs.YtdjiimblfhbcjaaDoor
set_option linter.unusedSimpArgs false
open Go.RowKit

def endB (P S : List UInt8) (k : Nat) : Bool := (List.range k).any fun j => Pat.pat P (S.drop j)
def beginB (P S : List UInt8) (k : Nat) : Bool := (List.range k).any fun j => Pat.pat P (S.take j)
theorem endB_succ (P S : List UInt8) (k : Nat) : endB P S (k + 1) = (endB P S k || Pat.pat P (S.drop k)) := by
  unfold endB; rw [List.range_succ, List.any_append]; simp
theorem beginB_succ (P S : List UInt8) (k : Nat) : beginB P S (k + 1) = (beginB P S k || Pat.pat P (S.take k)) := by
  unfold beginB; rw [List.range_succ, List.any_append]; simp
theorem endB_star (P S : List UInt8) : Pat.pat (42 :: P) S = endB P S (S.length + 1) := by
  rw [Pat.pat_starred, Bool.eq_iff_iff, Pat.anySuf_iff, endB, List.any_eq_true]
  constructor
  · rintro ⟨k, hk, h⟩; exact ⟨k, List.mem_range.2 (by omega), h⟩
  · rintro ⟨k, hk, h⟩; have := List.mem_range.1 hk; exact ⟨k, by omega, h⟩
theorem beginB_star (P S : List UInt8) (h : P.getLast? ≠ some 92) : Pat.pat (P ++ [42]) S = beginB P S (S.length + 1) := by
  rw [Bool.eq_iff_iff, Pat.pat_more P S h, beginB, List.any_eq_true]
  constructor
  · rintro ⟨k, hk, h⟩; exact ⟨k, List.mem_range.2 (by omega), h⟩
  · rintro ⟨k, hk, h⟩; have := List.mem_range.1 hk; exact ⟨k, by omega, h⟩
theorem bs_append (a b : ByteArray) : bs (a ++ b) = bs a ++ bs b := by simp [bs]
theorem bs_from (s : ByteArray) (k : Nat) : bs (s.extract k s.size) = (bs s).drop k := Lib.extract_to_end s k
theorem bs_upto (s : ByteArray) (k : Nat) : bs (s.extract 0 k) = (bs s).take k := Lib.extract_from_zero s k

theorem sz_from (s : ByteArray) (k : Nat) (h : s.size ≤ 100) : (s.extract k s.size).size ≤ 140737488355328 := by
  rw [← bs_len, bs_from, List.length_drop, bs_len]; omega
theorem sz_upto (s : ByteArray) (k : Nat) (h : s.size ≤ 100) : (s.extract 0 k).size ≤ 140737488355328 := by
  rw [← bs_len, bs_upto, List.length_take, bs_len]; omega
theorem sz_app (a b : ByteArray) (ha : a.size ≤ 1000) (hb : b.size ≤ 1000) : (a ++ b).size ≤ 140737488355328 := by
  rw [← bs_len, bs_append, List.length_append, bs_len, bs_len]; omega
set_option maxHeartbeats 8000000 in
theorem TextStars_any (p s t : ByteArray) (w : World) (hE : Env w) :
    Calls Tryd.prog 4 #[.string p, .string s, .string t] w fun e w' => e = .returned (.bool true) ∧ Below w.heap.size w w' := by
  have HE := Lib.hid hE
  clear hE
  by_cases hp : p.size ≤ 60
  · by_cases hs : s.size ≤ 100
    · by_cases ht : t.size ≤ 100
      · go_enter Tryd.func4, Tryd.ntmps4
        go_wp2_with fail
        go_at_call 13; refine (small_any _ HE.out).mono ?_; rintro e w1 ⟨rfl, B⟩
        go_wp2_with fail
        go_loopw [8, 9, 10] (fun xv yv iv wr => ∃ (k : Nat) (x y : Bool), k ≤ s.size + 1 ∧ xv = .bool x ∧ yv = .bool y ∧ iv = .int .i64 k ∧ Hid (endB (bs p) (bs s) k = x) ∧ Hid (beginB (bs p) (bs s) k = y) ∧ Below w.heap.size w wr) (fun _ _ iv _ => s.size + 1 - (intOf iv).toNat)
        case atStart => exact ⟨0, false, false, by omega, rfl, rfl, rfl, Lib.hid rfl, Lib.hid rfl, B⟩
        case round =>
          obtain ⟨k, x, y, hk, rfl, rfl, rfl, X, Y, B'⟩ := hrel
          clear B
          have B := B'
          clear B'
          by_cases hlt : k ≤ s.size
          · have hx := endB_succ (bs p) (bs s) k
            have hy := beginB_succ (bs p) (bs s) k
            rw [X.out] at hx
            rw [Y.out] at hy
            obtain ⟨r1, h1⟩ : ∃ r, Pat.pat (bs p) ((bs s).drop k) = r := ⟨_, rfl⟩
            obtain ⟨r2, h2⟩ : ∃ r, Pat.pat (bs p) ((bs s).take k) = r := ⟨_, rfl⟩
            rw [h1] at hx
            rw [h2] at hy
            have R1 := Lib.hid h1
            have R2 := Lib.hid h2
            have HX := Lib.hid hx
            have HY := Lib.hid hy
            clear h1 h2 hx hy X Y
            cases x with
            | false =>
              cases y with
              | false =>
                go_wp2_with fail
                go_at_call 18; refine (Pattern_k p (s.extract k s.size) r1 (by rw [bs_from]; exact R1.out) _ (by omega) (sz_from s k hs)).mono ?_; rintro e w2 ⟨rfl, b⟩
                replace B := B.trans (b.mono B.size)
                clear b
                go_wp2_with fail
                go_at_call 18; refine (Pattern_k p (s.extract 0 k) r2 (by rw [bs_upto]; exact R2.out) _ (by omega) (sz_upto s k hs)).mono ?_; rintro e w2 ⟨rfl, b⟩
                replace B := B.trans (b.mono B.size)
                clear b
                go_wp2_with fail
                go_roundw
                case rel => exact ⟨k + 1, r1, r2, by omega, rfl, rfl, by go_num, Lib.hid (by rw [HX.out]; rfl), Lib.hid (by rw [HY.out]; rfl), B⟩
                case measure => simp [intOf]; omega
              | true =>
                go_wp2_with fail
                go_at_call 18; refine (Pattern_k p (s.extract k s.size) r1 (by rw [bs_from]; exact R1.out) _ (by omega) (sz_from s k hs)).mono ?_; rintro e w2 ⟨rfl, b⟩
                replace B := B.trans (b.mono B.size)
                clear b
                go_wp2_with fail
                go_roundw
                case rel => exact ⟨k + 1, r1, true, by omega, rfl, rfl, by go_num, Lib.hid (by rw [HX.out]; rfl), Lib.hid (by rw [HY.out]; rfl), B⟩
                case measure => simp [intOf]; omega
            | true =>
              cases y with
              | false =>
                go_wp2_with fail
                go_at_call 18; refine (Pattern_k p (s.extract 0 k) r2 (by rw [bs_upto]; exact R2.out) _ (by omega) (sz_upto s k hs)).mono ?_; rintro e w2 ⟨rfl, b⟩
                replace B := B.trans (b.mono B.size)
                clear b
                go_wp2_with fail
                go_roundw
                case rel => exact ⟨k + 1, true, r2, by omega, rfl, rfl, by go_num, Lib.hid (by rw [HX.out]; rfl), Lib.hid (by rw [HY.out]; rfl), B⟩
                case measure => simp [intOf]; omega
              | true =>
                go_wp2_with fail
                go_roundw
                case rel => exact ⟨k + 1, true, true, by omega, rfl, rfl, by go_num, Lib.hid (by rw [HX.out]; rfl), Lib.hid (by rw [HY.out]; rfl), B⟩
                case measure => simp [intOf]; omega
          · obtain rfl : k = s.size + 1 := by omega
            obtain ⟨r3, h3⟩ : ∃ r, Pat.pat (bs p) (bs s) = r := ⟨_, rfl⟩
            have R3 := Lib.hid h3
            clear h3
            have hS : Pat.pat ([42] ++ bs p) (bs s) = x := by
              rw [List.singleton_append, endB_star, bs_len]; exact X.out
            have HS := Lib.hid hS
            have hL : (bs p).getLast? ≠ some 92 → Pat.pat (bs p ++ [42]) (bs s) = y := by
              intro h
              rw [beginB_star _ _ h, bs_len]; exact Y.out
            have HL := Lib.hid hL
            clear hS hL X Y
            by_cases hs0 : s.size = 0
            · have hse : bs s = [] := List.eq_nil_of_length_eq_zero (by rw [bs_len]; exact hs0)
              have hsq : (s.toList == []) = true := by rw [toList_bs, hse]; rfl
              have hq : Pat.pat ([63] ++ bs p) (bs s) = false := by
                rw [List.singleton_append, Pat.pat_question, hse]
              have HQ := Lib.hid hq
              clear hse hq hs0
              by_cases hp0 : p.size = 0
              · have hpe : bs p = [] := List.eq_nil_of_length_eq_zero (by rw [bs_len]; exact hp0)
                have hpq : (p.toList == []) = true := by rw [toList_bs, hpe]; rfl
                have hl : Hid ((bs p).getLast? ≠ some 92) := Lib.hid (by rw [hpe]; simp)
                clear hpe hp0
                go_wp2_with fail
                go_at_call 18; refine (Pattern_k _ s x (by rw [bs_append]; exact HS.out) _ (sz_app _ _ (by decide) (by omega)) (by omega)).mono ?_; rintro e w2 ⟨rfl, b⟩
                replace B := B.trans (b.mono B.size)
                clear b
                go_wp2_with fail
                go_at_call 18; refine (Pattern_k _ s false (by rw [bs_append]; exact HQ.out) _ (sz_app _ _ (by decide) (by omega)) (by omega)).mono ?_; rintro e w2 ⟨rfl, b⟩
                replace B := B.trans (b.mono B.size)
                clear b
                go_wp2_with fail
                go_at_call 19; refine (Escape_k t _ (by omega)).mono ?_; rintro e w2 ⟨E, hEs, hEl, rfl, b⟩
                replace B := B.trans (b.mono B.size)
                have HS2 := Lib.hid hEs
                clear b hEs
                go_wp2_with fail
                go_at_call 18; refine (Pattern_k (E ++ p) (t ++ s) r3 (by rw [bs_append, bs_append, HS2.out, Pat.pat_escaped]; exact R3.out) _ (sz_app _ _ (by omega) (by omega)) (sz_app _ _ (by omega) (by omega))).mono ?_; rintro e w2 ⟨rfl, b⟩
                replace B := B.trans (b.mono B.size)
                clear b
                go_wp2_with fail
                go_at_call 18; refine (Pattern_k p s r3 R3.out _ (by omega) (by omega)).mono ?_; rintro e w2 ⟨rfl, b⟩
                replace B := B.trans (b.mono B.size)
                clear b
                go_wp2_with fail
                go_at_call 18; refine (Pattern_k _ s y (by rw [bs_append]; exact HL.out hl.out) _ (sz_app _ _ (by omega) (by decide)) (by omega)).mono ?_; rintro e w2 ⟨rfl, b⟩
                replace B := B.trans (b.mono B.size)
                clear b
                go_wp2_with fail
                go_ret
                exact ⟨rfl, B⟩
              · have hpn : bs p ≠ [] := fun e => hp0 (by rw [← bs_len, e]; rfl)
                have hpq : (p.toList == []) = false := by rw [toList_bs]; exact beq_eq_false_iff_ne.2 hpn
                have hlt2 : p.size - 1 < p.size := by omega
                have hi1 : ((p.size : Int) - 1).toNat = p.size - 1 := by omega
                have hi2 : (0 : Int) ≤ (p.size : Int) - 1 := by omega
                have hgl : (bs p).getLast? = some p[p.size - 1] := by
                  rw [List.getLast?_eq_getElem?, bs_len, bs_get p (p.size - 1) hlt2]
                clear hpn hp0
                by_cases hz : p[p.size - 1] = 92
                · have hzz : ((p[p.size - 1].toNat : Int) == 92) = true := u8_is (b := 92) hz
                  clear hgl hz
                  go_wp2_with fail
                  go_at_call 18; refine (Pattern_k _ s x (by rw [bs_append]; exact HS.out) _ (sz_app _ _ (by decide) (by omega)) (by omega)).mono ?_; rintro e w2 ⟨rfl, b⟩
                  replace B := B.trans (b.mono B.size)
                  clear b
                  go_wp2_with fail
                  go_at_call 18; refine (Pattern_k _ s false (by rw [bs_append]; exact HQ.out) _ (sz_app _ _ (by decide) (by omega)) (by omega)).mono ?_; rintro e w2 ⟨rfl, b⟩
                  replace B := B.trans (b.mono B.size)
                  clear b
                  go_wp2_with fail
                  go_at_call 19; refine (Escape_k t _ (by omega)).mono ?_; rintro e w2 ⟨E, hEs, hEl, rfl, b⟩
                  replace B := B.trans (b.mono B.size)
                  have HS2 := Lib.hid hEs
                  clear b hEs
                  go_wp2_with fail
                  go_at_call 18; refine (Pattern_k (E ++ p) (t ++ s) r3 (by rw [bs_append, bs_append, HS2.out, Pat.pat_escaped]; exact R3.out) _ (sz_app _ _ (by omega) (by omega)) (sz_app _ _ (by omega) (by omega))).mono ?_; rintro e w2 ⟨rfl, b⟩
                  replace B := B.trans (b.mono B.size)
                  clear b
                  go_wp2_with fail
                  go_at_call 18; refine (Pattern_k p s r3 R3.out _ (by omega) (by omega)).mono ?_; rintro e w2 ⟨rfl, b⟩
                  replace B := B.trans (b.mono B.size)
                  clear b
                  go_wp2_with fail
                  go_ret
                  exact ⟨rfl, B⟩
                · have hzz : ((p[p.size - 1].toNat : Int) == 92) = false := u8_ne (b := 92) hz
                  have hl : Hid ((bs p).getLast? ≠ some 92) := Lib.hid (by rw [hgl]; simpa using hz)
                  clear hgl hz
                  go_wp2_with fail
                  go_at_call 18; refine (Pattern_k _ s x (by rw [bs_append]; exact HS.out) _ (sz_app _ _ (by decide) (by omega)) (by omega)).mono ?_; rintro e w2 ⟨rfl, b⟩
                  replace B := B.trans (b.mono B.size)
                  clear b
                  go_wp2_with fail
                  go_at_call 18; refine (Pattern_k _ s false (by rw [bs_append]; exact HQ.out) _ (sz_app _ _ (by decide) (by omega)) (by omega)).mono ?_; rintro e w2 ⟨rfl, b⟩
                  replace B := B.trans (b.mono B.size)
                  clear b
                  go_wp2_with fail
                  go_at_call 19; refine (Escape_k t _ (by omega)).mono ?_; rintro e w2 ⟨E, hEs, hEl, rfl, b⟩
                  replace B := B.trans (b.mono B.size)
                  have HS2 := Lib.hid hEs
                  clear b hEs
                  go_wp2_with fail
                  go_at_call 18; refine (Pattern_k (E ++ p) (t ++ s) r3 (by rw [bs_append, bs_append, HS2.out, Pat.pat_escaped]; exact R3.out) _ (sz_app _ _ (by omega) (by omega)) (sz_app _ _ (by omega) (by omega))).mono ?_; rintro e w2 ⟨rfl, b⟩
                  replace B := B.trans (b.mono B.size)
                  clear b
                  go_wp2_with fail
                  go_at_call 18; refine (Pattern_k p s r3 R3.out _ (by omega) (by omega)).mono ?_; rintro e w2 ⟨rfl, b⟩
                  replace B := B.trans (b.mono B.size)
                  clear b
                  go_wp2_with fail
                  go_at_call 18; refine (Pattern_k _ s y (by rw [bs_append]; exact HL.out hl.out) _ (sz_app _ _ (by omega) (by decide)) (by omega)).mono ?_; rintro e w2 ⟨rfl, b⟩
                  replace B := B.trans (b.mono B.size)
                  clear b
                  go_wp2_with fail
                  go_ret
                  exact ⟨rfl, B⟩
            · have hsn : bs s ≠ [] := fun e => hs0 (by rw [← bs_len, e]; rfl)
              have hsq : (s.toList == []) = false := by rw [toList_bs]; exact beq_eq_false_iff_ne.2 hsn
              obtain ⟨r4, h4⟩ : ∃ r, Pat.pat (bs p) ((bs s).drop 1) = r := ⟨_, rfl⟩
              have hq : Pat.pat ([63] ++ bs p) (bs s) = r4 := by
                rw [List.singleton_append, Pat.pat_question, ← h4]
                cases hss : bs s with
                | nil => exact absurd hss hsn
                | cons c r => rfl
              have HQ := Lib.hid hq
              have R4 := Lib.hid h4
              have hmin : min (1 : Int) (s.size : Int) = 1 := by omega
              have hs1 : 1 ≤ s.size := by omega
              clear hsn hq hs0 h4
              by_cases hp0 : p.size = 0
              · have hpe : bs p = [] := List.eq_nil_of_length_eq_zero (by rw [bs_len]; exact hp0)
                have hpq : (p.toList == []) = true := by rw [toList_bs, hpe]; rfl
                have hl : Hid ((bs p).getLast? ≠ some 92) := Lib.hid (by rw [hpe]; simp)
                clear hpe hp0
                go_wp2_with fail
                go_at_call 18; refine (Pattern_k _ s x (by rw [bs_append]; exact HS.out) _ (sz_app _ _ (by decide) (by omega)) (by omega)).mono ?_; rintro e w2 ⟨rfl, b⟩
                replace B := B.trans (b.mono B.size)
                clear b
                go_wp2_with fail
                go_at_call 18; refine (Pattern_k _ s r4 (by rw [bs_append]; exact HQ.out) _ (sz_app _ _ (by decide) (by omega)) (by omega)).mono ?_; rintro e w2 ⟨rfl, b⟩
                replace B := B.trans (b.mono B.size)
                clear b
                go_wp2_with fail
                go_at_call 18; refine (Pattern_k p (s.extract 1 s.size) r4 (by rw [bs_from]; exact R4.out) _ (by omega) (sz_from s 1 hs)).mono ?_; rintro e w2 ⟨rfl, b⟩
                replace B := B.trans (b.mono B.size)
                clear b
                go_wp2_with fail
                go_at_call 19; refine (Escape_k t _ (by omega)).mono ?_; rintro e w2 ⟨E, hEs, hEl, rfl, b⟩
                replace B := B.trans (b.mono B.size)
                have HS2 := Lib.hid hEs
                clear b hEs
                go_wp2_with fail
                go_at_call 18; refine (Pattern_k (E ++ p) (t ++ s) r3 (by rw [bs_append, bs_append, HS2.out, Pat.pat_escaped]; exact R3.out) _ (sz_app _ _ (by omega) (by omega)) (sz_app _ _ (by omega) (by omega))).mono ?_; rintro e w2 ⟨rfl, b⟩
                replace B := B.trans (b.mono B.size)
                clear b
                go_wp2_with fail
                go_at_call 18; refine (Pattern_k p s r3 R3.out _ (by omega) (by omega)).mono ?_; rintro e w2 ⟨rfl, b⟩
                replace B := B.trans (b.mono B.size)
                clear b
                go_wp2_with fail
                go_at_call 18; refine (Pattern_k _ s y (by rw [bs_append]; exact HL.out hl.out) _ (sz_app _ _ (by omega) (by decide)) (by omega)).mono ?_; rintro e w2 ⟨rfl, b⟩
                replace B := B.trans (b.mono B.size)
                clear b
                go_wp2_with fail
                go_ret
                exact ⟨rfl, B⟩
              · have hpn : bs p ≠ [] := fun e => hp0 (by rw [← bs_len, e]; rfl)
                have hpq : (p.toList == []) = false := by rw [toList_bs]; exact beq_eq_false_iff_ne.2 hpn
                have hlt2 : p.size - 1 < p.size := by omega
                have hi1 : ((p.size : Int) - 1).toNat = p.size - 1 := by omega
                have hi2 : (0 : Int) ≤ (p.size : Int) - 1 := by omega
                have hgl : (bs p).getLast? = some p[p.size - 1] := by
                  rw [List.getLast?_eq_getElem?, bs_len, bs_get p (p.size - 1) hlt2]
                clear hpn hp0
                by_cases hz : p[p.size - 1] = 92
                · have hzz : ((p[p.size - 1].toNat : Int) == 92) = true := u8_is (b := 92) hz
                  clear hgl hz
                  go_wp2_with fail
                  go_at_call 18; refine (Pattern_k _ s x (by rw [bs_append]; exact HS.out) _ (sz_app _ _ (by decide) (by omega)) (by omega)).mono ?_; rintro e w2 ⟨rfl, b⟩
                  replace B := B.trans (b.mono B.size)
                  clear b
                  go_wp2_with fail
                  go_at_call 18; refine (Pattern_k _ s r4 (by rw [bs_append]; exact HQ.out) _ (sz_app _ _ (by decide) (by omega)) (by omega)).mono ?_; rintro e w2 ⟨rfl, b⟩
                  replace B := B.trans (b.mono B.size)
                  clear b
                  go_wp2_with fail
                  go_at_call 18; refine (Pattern_k p (s.extract 1 s.size) r4 (by rw [bs_from]; exact R4.out) _ (by omega) (sz_from s 1 hs)).mono ?_; rintro e w2 ⟨rfl, b⟩
                  replace B := B.trans (b.mono B.size)
                  clear b
                  go_wp2_with fail
                  go_at_call 19; refine (Escape_k t _ (by omega)).mono ?_; rintro e w2 ⟨E, hEs, hEl, rfl, b⟩
                  replace B := B.trans (b.mono B.size)
                  have HS2 := Lib.hid hEs
                  clear b hEs
                  go_wp2_with fail
                  go_at_call 18; refine (Pattern_k (E ++ p) (t ++ s) r3 (by rw [bs_append, bs_append, HS2.out, Pat.pat_escaped]; exact R3.out) _ (sz_app _ _ (by omega) (by omega)) (sz_app _ _ (by omega) (by omega))).mono ?_; rintro e w2 ⟨rfl, b⟩
                  replace B := B.trans (b.mono B.size)
                  clear b
                  go_wp2_with fail
                  go_at_call 18; refine (Pattern_k p s r3 R3.out _ (by omega) (by omega)).mono ?_; rintro e w2 ⟨rfl, b⟩
                  replace B := B.trans (b.mono B.size)
                  clear b
                  go_wp2_with fail
                  go_ret
                  exact ⟨rfl, B⟩
                · have hzz : ((p[p.size - 1].toNat : Int) == 92) = false := u8_ne (b := 92) hz
                  have hl : Hid ((bs p).getLast? ≠ some 92) := Lib.hid (by rw [hgl]; simpa using hz)
                  clear hgl hz
                  go_wp2_with fail
                  go_at_call 18; refine (Pattern_k _ s x (by rw [bs_append]; exact HS.out) _ (sz_app _ _ (by decide) (by omega)) (by omega)).mono ?_; rintro e w2 ⟨rfl, b⟩
                  replace B := B.trans (b.mono B.size)
                  clear b
                  go_wp2_with fail
                  go_at_call 18; refine (Pattern_k _ s r4 (by rw [bs_append]; exact HQ.out) _ (sz_app _ _ (by decide) (by omega)) (by omega)).mono ?_; rintro e w2 ⟨rfl, b⟩
                  replace B := B.trans (b.mono B.size)
                  clear b
                  go_wp2_with fail
                  go_at_call 18; refine (Pattern_k p (s.extract 1 s.size) r4 (by rw [bs_from]; exact R4.out) _ (by omega) (sz_from s 1 hs)).mono ?_; rintro e w2 ⟨rfl, b⟩
                  replace B := B.trans (b.mono B.size)
                  clear b
                  go_wp2_with fail
                  go_at_call 19; refine (Escape_k t _ (by omega)).mono ?_; rintro e w2 ⟨E, hEs, hEl, rfl, b⟩
                  replace B := B.trans (b.mono B.size)
                  have HS2 := Lib.hid hEs
                  clear b hEs
                  go_wp2_with fail
                  go_at_call 18; refine (Pattern_k (E ++ p) (t ++ s) r3 (by rw [bs_append, bs_append, HS2.out, Pat.pat_escaped]; exact R3.out) _ (sz_app _ _ (by omega) (by omega)) (sz_app _ _ (by omega) (by omega))).mono ?_; rintro e w2 ⟨rfl, b⟩
                  replace B := B.trans (b.mono B.size)
                  clear b
                  go_wp2_with fail
                  go_at_call 18; refine (Pattern_k p s r3 R3.out _ (by omega) (by omega)).mono ?_; rintro e w2 ⟨rfl, b⟩
                  replace B := B.trans (b.mono B.size)
                  clear b
                  go_wp2_with fail
                  go_at_call 18; refine (Pattern_k _ s y (by rw [bs_append]; exact HL.out hl.out) _ (sz_app _ _ (by omega) (by decide)) (by omega)).mono ?_; rintro e w2 ⟨rfl, b⟩
                  replace B := B.trans (b.mono B.size)
                  clear b
                  go_wp2_with fail
                  go_ret
                  exact ⟨rfl, B⟩
      · have ht' : (100 : Int) < (t.size : Int) := by omega
        go_enter Tryd.func4, Tryd.ntmps4
        go_wp2_with fail
        go_at_call 13; refine (small_any _ HE.out).mono ?_; rintro e w1 ⟨rfl, B⟩
        go_wp2_with fail
        go_ret
        exact ⟨rfl, B⟩
    · have hs' : (100 : Int) < (s.size : Int) := by omega
      go_enter Tryd.func4, Tryd.ntmps4
      go_wp2_with fail
      go_at_call 13; refine (small_any _ HE.out).mono ?_; rintro e w1 ⟨rfl, B⟩
      go_wp2_with fail
      go_ret
      exact ⟨rfl, B⟩
  · have hp' : (60 : Int) < (p.size : Int) := by omega
    go_enter Tryd.func4, Tryd.ntmps4
    go_wp2_with fail
    go_at_call 13; refine (small_any _ HE.out).mono ?_; rintro e w1 ⟨rfl, B⟩
    go_wp2_with fail
    go_ret
    exact ⟨rfl, B⟩
end Go.Proofs.YtdjiimblfhbcjaaDoor
