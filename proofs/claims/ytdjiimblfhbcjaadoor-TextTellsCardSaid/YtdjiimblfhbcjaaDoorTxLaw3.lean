/- TextBack. -/
import Derived.Test.YtdjiimblfhbcjaaDoorTxS
import Derived.Test.YtdjiimblfhbcjaaDoorTxU
import Derived.Lib.ItoaLen
namespace Go.Proofs.YtdjiimblfhbcjaaDoor
set_option linter.unusedSimpArgs false
open Go.RowKit

theorem bs_inj' {a b : ByteArray} (h : bs a = bs b) : a = b := by
  rw [← mk_data a, ← mk_data b]; exact congrArg (fun l : List UInt8 => (⟨l.toArray⟩ : ByteArray)) h
theorem Decimal_is (v : Int) (s : ByteArray) (h : Lib.itoa v = bs s) (h0 : -9223372036854775808 ≤ v) (h1 : v ≤ 9223372036854775807) (w : World) (hE : Env w) :
    Calls Tryd.prog 21 #[.int .i64 v] w fun e w' => e = .returned (.string s) ∧ Below w.heap.size w w' := by
  refine (Decimal_any v h0 h1 w hE).mono ?_
  rintro e w' ⟨rfl, hb⟩
  exact ⟨by rw [bs_inj' (bs_lit0 (Lib.itoa v) |>.trans h)], hb⟩
theorem Int_some (s : ByteArray) (v : Int) (h : intOfB (bs s) = some v) (w : World) (hE : Env w) (hs : s.size ≤ 1073741824) :
    Calls Tryd.prog 20 #[.string s] w fun e w' => e = .returned (.tuple #[.int .i64 v, .bool true]) ∧ Below w.heap.size w w' := by
  have := Int_any s w hE hs
  rw [h] at this; exact this
theorem Int_none (s : ByteArray) (h : intOfB (bs s) = none) (w : World) (hE : Env w) (hs : s.size ≤ 1073741824) :
    Calls Tryd.prog 20 #[.string s] w fun e w' => e = .returned (.tuple #[.int .i64 0, .bool false]) ∧ Below w.heap.size w w' := by
  have := Int_any s w hE hs
  rw [h] at this; exact this
theorem Quote_is (l : List UInt8) (s : ByteArray) (h : quote l = bs s) (hl : l.length ≤ 1073741824) (w : World) :
    Calls Tryd.prog 23 #[.string ⟨l.toArray⟩] w fun e w' => e = .returned (.string s) ∧ Below w.heap.size w w' := by
  refine (Quote_l l w hl).mono ?_
  rintro e w' ⟨rfl, hb⟩
  exact ⟨by rw [bs_inj' (bs_lit0 (quote l) |>.trans h)], hb⟩
theorem Quote_k (s : ByteArray) (w : World) (hs : s.size ≤ 1073741824) :
    Calls Tryd.prog 23 #[.string s] w fun e w' => ∃ E, bs E = quote (bs s) ∧ E.size ≤ 4 * s.size + 2 ∧ e = .returned (.string E) ∧ Below w.heap.size w w' := by
  refine (Quote_any s w hs).mono ?_
  rintro e w' ⟨rfl, hb⟩
  refine ⟨_, by rw [bs_lit0], ?_, rfl, hb⟩
  have := qb_len (bs s)
  rw [← bs_len, bs_lit0, quote]; rw [bs_len] at this
  simp only [List.length_cons, List.length_append, List.length_nil]; omega
theorem inside_quote (E : ByteArray) (l : List UInt8) (h : bs E = quote l) : inside E 1 = qb l := by
  have hs : E.size - 1 = (qb l).length + 1 := by rw [← bs_len, h, quote]; simp
  rw [inside, hs, h, quote]
  simp
theorem Unquote_is (E s : ByteArray) (h : bs E = quote (bs s)) (hs : E.size ≤ 268435456) (w : World) :
    Calls Tryd.prog 22 #[.string E] w fun e w' => e = .returned (.tuple #[.string s, .bool true]) ∧ Below w.heap.size w w' := by
  have := Unquote_any E w hs
  rw [inside_quote E _ h, raw_qb, ← h, if_pos rfl, decide_eq_true rfl, show (⟨(bs s).toArray⟩ : ByteArray) = s from mk_data s] at this
  exact this
/-- What a string is unquoted to. -/
def unq (l : List UInt8) : List UInt8 := raw ((l.take (l.length - 1)).drop 1)
theorem unq_eq (s : ByteArray) : raw (inside s 1) = unq (bs s) := by rw [unq, inside, bs_len]
theorem raw_len : ∀ (f : Nat) (l : List UInt8), l.length ≤ f → (raw l).length ≤ l.length := by
  intro f
  induction f with
  | zero =>
    intro l hl
    obtain rfl : l = [] := List.eq_nil_of_length_eq_zero (by omega)
    simp [raw]
  | succ f ih =>
    intro l hl
    unfold raw
    split
    · rename_i r; have := ih r (by simp at hl; omega); simp; omega
    · rename_i r; have := ih r (by simp at hl; omega); simp; omega
    · rename_i r _ _; have := ih r (by simp at hl; omega); simp; omega
    · rename_i r _ _ _; have := ih r (by simp at hl; omega); simp; omega
    · simp
theorem unq_len (l : List UInt8) : (unq l).length ≤ l.length := by
  refine Nat.le_trans (raw_len _ _ (Nat.le_refl _)) ?_
  rw [List.length_drop, List.length_take]; omega
theorem Unquote_yes (s : ByteArray) (h : quote (unq (bs s)) = bs s) (hs : s.size ≤ 268435456) (w : World) :
    Calls Tryd.prog 22 #[.string s] w fun e w' => e = .returned (.tuple #[.string ⟨(unq (bs s)).toArray⟩, .bool true]) ∧ Below w.heap.size w w' := by
  have := Unquote_any s w hs
  rw [unq_eq, if_pos h, decide_eq_true h] at this; exact this
theorem Unquote_no (s : ByteArray) (h : ¬ quote (unq (bs s)) = bs s) (hs : s.size ≤ 268435456) (w : World) :
    Calls Tryd.prog 22 #[.string s] w fun e w' => e = .returned (.tuple #[.string ⟨#[]⟩, .bool false]) ∧ Below w.heap.size w w' := by
  have := Unquote_any s w hs
  rw [unq_eq, if_neg h, decide_eq_false h] at this; exact this

set_option maxHeartbeats 4000000 in
theorem TextBack_any (n : Int) (s : ByteArray) (h0 : -9223372036854775808 ≤ n) (h1 : n ≤ 9223372036854775807) (w : World) (hE : Env w) :
    Calls Tryd.prog 5 #[.int .i64 n, .string s] w fun e w' => e = .returned (.bool true) ∧ Below w.heap.size w w' := by
  have HE := Lib.hid hE
  clear hE
  by_cases hs : s.size ≤ 300
  · cases hi : intOfB (bs s) with
    | some v =>
      have hv := intOfB_bd hi
      have HV := Lib.hid (intOfB_back hi)
      obtain ⟨v0, v1⟩ := hv
      have HI := Lib.hid hi
      clear hi
      by_cases hq : quote (unq (bs s)) = bs s
      · have HQ := Lib.hid hq
        clear hq
        have hul : (unq (bs s)).length ≤ s.size := by rw [← bs_len]; exact unq_len _
        go_enter Tryd.func5, Tryd.ntmps5
        go_wp2_with fail
        go_at_call 13; refine (small_any _ HE.out).mono ?_; rintro e w1 ⟨rfl, B⟩
        go_wp2_with fail
        go_at_call 21; refine (Decimal_any n h0 h1 _ (HE.out.below B)).mono ?_; rintro e w2 ⟨rfl, b⟩
        replace B := B.trans (b.mono B.size)
        clear b
        go_wp2_with fail
        go_at_call 20; refine (Int_some ⟨(Lib.itoa n).toArray⟩ n (by rw [bs_lit0]; exact intOfB_itoa n h0 h1) _ (HE.out.below B) (by have := Lib.itoa_length_le n h0 h1; rw [← bs_len, bs_lit0]; omega)).mono ?_; rintro e w2 ⟨rfl, b⟩
        replace B := B.trans (b.mono B.size)
        clear b
        go_wp2_with fail
        go_at_call 23; refine (Quote_k s _ (by omega)).mono ?_; rintro e w2 ⟨E, hEs, hEl, rfl, b⟩
        replace B := B.trans (b.mono B.size)
        clear b
        have HS := Lib.hid hEs
        clear hEs
        go_wp2_with fail
        go_at_call 22; refine (Unquote_is E s HS.out (by omega) _).mono ?_; rintro e w2 ⟨rfl, b⟩
        replace B := B.trans (b.mono B.size)
        clear b
        go_wp2_with fail
        go_at_call 20; refine (Int_some s v HI.out _ (HE.out.below B) (by omega)).mono ?_; rintro e w2 ⟨rfl, b⟩
        replace B := B.trans (b.mono B.size)
        clear b
        go_wp2_with fail
        go_at_call 22; refine (Unquote_yes s HQ.out (by omega) _).mono ?_; rintro e w2 ⟨rfl, b⟩
        replace B := B.trans (b.mono B.size)
        clear b
        go_wp2_with fail
        go_at_call 21; refine (Decimal_is v s HV.out v0 v1 _ (HE.out.below B)).mono ?_; rintro e w2 ⟨rfl, b⟩
        replace B := B.trans (b.mono B.size)
        clear b
        go_wp2_with fail
        go_at_call 23; refine (Quote_is _ s HQ.out (by omega) _).mono ?_; rintro e w2 ⟨rfl, b⟩
        replace B := B.trans (b.mono B.size)
        clear b
        go_wp2_with fail
        go_ret
        exact ⟨rfl, B⟩
      · have HQ := Lib.hid hq
        clear hq
        go_enter Tryd.func5, Tryd.ntmps5
        go_wp2_with fail
        go_at_call 13; refine (small_any _ HE.out).mono ?_; rintro e w1 ⟨rfl, B⟩
        go_wp2_with fail
        go_at_call 21; refine (Decimal_any n h0 h1 _ (HE.out.below B)).mono ?_; rintro e w2 ⟨rfl, b⟩
        replace B := B.trans (b.mono B.size)
        clear b
        go_wp2_with fail
        go_at_call 20; refine (Int_some ⟨(Lib.itoa n).toArray⟩ n (by rw [bs_lit0]; exact intOfB_itoa n h0 h1) _ (HE.out.below B) (by have := Lib.itoa_length_le n h0 h1; rw [← bs_len, bs_lit0]; omega)).mono ?_; rintro e w2 ⟨rfl, b⟩
        replace B := B.trans (b.mono B.size)
        clear b
        go_wp2_with fail
        go_at_call 23; refine (Quote_k s _ (by omega)).mono ?_; rintro e w2 ⟨E, hEs, hEl, rfl, b⟩
        replace B := B.trans (b.mono B.size)
        clear b
        have HS := Lib.hid hEs
        clear hEs
        go_wp2_with fail
        go_at_call 22; refine (Unquote_is E s HS.out (by omega) _).mono ?_; rintro e w2 ⟨rfl, b⟩
        replace B := B.trans (b.mono B.size)
        clear b
        go_wp2_with fail
        go_at_call 20; refine (Int_some s v HI.out _ (HE.out.below B) (by omega)).mono ?_; rintro e w2 ⟨rfl, b⟩
        replace B := B.trans (b.mono B.size)
        clear b
        go_wp2_with fail
        go_at_call 22; refine (Unquote_no s HQ.out (by omega) _).mono ?_; rintro e w2 ⟨rfl, b⟩
        replace B := B.trans (b.mono B.size)
        clear b
        go_wp2_with fail
        go_at_call 21; refine (Decimal_is v s HV.out v0 v1 _ (HE.out.below B)).mono ?_; rintro e w2 ⟨rfl, b⟩
        replace B := B.trans (b.mono B.size)
        clear b
        go_wp2_with fail
        go_ret
        exact ⟨rfl, B⟩
    | none =>
      have HI := Lib.hid hi
      clear hi
      by_cases hq : quote (unq (bs s)) = bs s
      · have HQ := Lib.hid hq
        clear hq
        have hul : (unq (bs s)).length ≤ s.size := by rw [← bs_len]; exact unq_len _
        go_enter Tryd.func5, Tryd.ntmps5
        go_wp2_with fail
        go_at_call 13; refine (small_any _ HE.out).mono ?_; rintro e w1 ⟨rfl, B⟩
        go_wp2_with fail
        go_at_call 21; refine (Decimal_any n h0 h1 _ (HE.out.below B)).mono ?_; rintro e w2 ⟨rfl, b⟩
        replace B := B.trans (b.mono B.size)
        clear b
        go_wp2_with fail
        go_at_call 20; refine (Int_some ⟨(Lib.itoa n).toArray⟩ n (by rw [bs_lit0]; exact intOfB_itoa n h0 h1) _ (HE.out.below B) (by have := Lib.itoa_length_le n h0 h1; rw [← bs_len, bs_lit0]; omega)).mono ?_; rintro e w2 ⟨rfl, b⟩
        replace B := B.trans (b.mono B.size)
        clear b
        go_wp2_with fail
        go_at_call 23; refine (Quote_k s _ (by omega)).mono ?_; rintro e w2 ⟨E, hEs, hEl, rfl, b⟩
        replace B := B.trans (b.mono B.size)
        clear b
        have HS := Lib.hid hEs
        clear hEs
        go_wp2_with fail
        go_at_call 22; refine (Unquote_is E s HS.out (by omega) _).mono ?_; rintro e w2 ⟨rfl, b⟩
        replace B := B.trans (b.mono B.size)
        clear b
        go_wp2_with fail
        go_at_call 20; refine (Int_none s HI.out _ (HE.out.below B) (by omega)).mono ?_; rintro e w2 ⟨rfl, b⟩
        replace B := B.trans (b.mono B.size)
        clear b
        go_wp2_with fail
        go_at_call 22; refine (Unquote_yes s HQ.out (by omega) _).mono ?_; rintro e w2 ⟨rfl, b⟩
        replace B := B.trans (b.mono B.size)
        clear b
        go_wp2_with fail
        go_at_call 23; refine (Quote_is _ s HQ.out (by omega) _).mono ?_; rintro e w2 ⟨rfl, b⟩
        replace B := B.trans (b.mono B.size)
        clear b
        go_wp2_with fail
        go_ret
        exact ⟨rfl, B⟩
      · have HQ := Lib.hid hq
        clear hq
        go_enter Tryd.func5, Tryd.ntmps5
        go_wp2_with fail
        go_at_call 13; refine (small_any _ HE.out).mono ?_; rintro e w1 ⟨rfl, B⟩
        go_wp2_with fail
        go_at_call 21; refine (Decimal_any n h0 h1 _ (HE.out.below B)).mono ?_; rintro e w2 ⟨rfl, b⟩
        replace B := B.trans (b.mono B.size)
        clear b
        go_wp2_with fail
        go_at_call 20; refine (Int_some ⟨(Lib.itoa n).toArray⟩ n (by rw [bs_lit0]; exact intOfB_itoa n h0 h1) _ (HE.out.below B) (by have := Lib.itoa_length_le n h0 h1; rw [← bs_len, bs_lit0]; omega)).mono ?_; rintro e w2 ⟨rfl, b⟩
        replace B := B.trans (b.mono B.size)
        clear b
        go_wp2_with fail
        go_at_call 23; refine (Quote_k s _ (by omega)).mono ?_; rintro e w2 ⟨E, hEs, hEl, rfl, b⟩
        replace B := B.trans (b.mono B.size)
        clear b
        have HS := Lib.hid hEs
        clear hEs
        go_wp2_with fail
        go_at_call 22; refine (Unquote_is E s HS.out (by omega) _).mono ?_; rintro e w2 ⟨rfl, b⟩
        replace B := B.trans (b.mono B.size)
        clear b
        go_wp2_with fail
        go_at_call 20; refine (Int_none s HI.out _ (HE.out.below B) (by omega)).mono ?_; rintro e w2 ⟨rfl, b⟩
        replace B := B.trans (b.mono B.size)
        clear b
        go_wp2_with fail
        go_at_call 22; refine (Unquote_no s HQ.out (by omega) _).mono ?_; rintro e w2 ⟨rfl, b⟩
        replace B := B.trans (b.mono B.size)
        clear b
        go_wp2_with fail
        go_ret
        exact ⟨rfl, B⟩
  · have hs' : (300 : Int) < (s.size : Int) := by omega
    go_enter Tryd.func5, Tryd.ntmps5
    go_wp2_with fail
    go_at_call 13; refine (small_any _ HE.out).mono ?_; rintro e w1 ⟨rfl, B⟩
    go_wp2_with fail
    go_ret
    exact ⟨rfl, B⟩
end Go.Proofs.YtdjiimblfhbcjaaDoor
