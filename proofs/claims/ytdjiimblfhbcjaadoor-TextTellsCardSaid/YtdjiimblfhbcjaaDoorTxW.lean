/- Walks of package text: in, closing, class, one. -/
import Derived.Test.YtdjiimblfhbcjaaDoorRows
import Derived.Test.YtdjiimblfhbcjaaDoorPatS
import Derived.WalkKit
import Derived.WalkSpells
import Derived.WalkLawsBesides
import Derived.Lib.Hide
import Derived.Test.YtdjiimblfhbcjaaDoorShelf
import Derived.Deep.QuietTactic
import Derived.BigQuiet
namespace Go.Proofs.YtdjiimblfhbcjaaDoor
open Go.RowKit

theorem ret_int {k : IntKind} {a b : Int} (h : a = b) : Ending.returned (.int k a) = .returned (.int k b) := by rw [h]
theorem ret_bool {a b : Bool} (h : a = b) : Ending.returned (.bool a) = .returned (.bool b) := by rw [h]
theorem ret_str {a b : ByteArray} (h : a = b) : Ending.returned (.string a) = .returned (.string b) := by rw [h]
/-- The bytes of a string. -/
def bs (s : ByteArray) : List UInt8 := s.data.toList
theorem bs_len (s : ByteArray) : (bs s).length = s.size := by simp [bs]
theorem bs_get (s : ByteArray) (k : Nat) (h : k < s.size) : (bs s)[k]? = some s[k] := by
  have : k < (bs s).length := by rw [bs_len]; exact h
  rw [List.getElem?_eq_getElem this]; rfl
theorem bs_drop (s : ByteArray) (k : Nat) (h : k < s.size) : (bs s).drop k = s[k] :: (bs s).drop (k + 1) := by
  have hk : k < (bs s).length := by rw [bs_len]; exact h
  rw [List.drop_eq_getElem_cons hk]; rfl
theorem bs_take (s : ByteArray) (k : Nat) (h : k < s.size) : (bs s).take (k + 1) = (bs s).take k ++ [s[k]] := by
  have hk : k < (bs s).length := by rw [bs_len]; exact h
  rw [List.take_succ_eq_append_getElem hk]; rfl
theorem u8_eq (a b : UInt8) : ((a.toNat : Int) == (b.toNat : Int)) = (a == b) := by
  rw [Bool.eq_iff_iff, beq_iff_eq, beq_iff_eq, ← UInt8.toNat_inj]; omega
theorem u8_ne {a b : UInt8} (h : a ≠ b) : ((a.toNat : Int) == (b.toNat : Int)) = false := by rw [u8_eq]; simpa using h
theorem u8_is {a b : UInt8} (h : a = b) : ((a.toNat : Int) == (b.toNat : Int)) = true := by rw [u8_eq]; simpa using h
theorem u8_le {a b : UInt8} (h : a ≤ b) : (a.toNat : Int) ≤ (b.toNat : Int) := by have := UInt8.le_iff_toNat_le.1 h; omega
theorem u8_lt {a b : UInt8} (h : ¬ a ≤ b) : (b.toNat : Int) < (a.toNat : Int) := by rw [UInt8.le_iff_toNat_le] at h; omega

namespace Pat
theorem inSet_nil (c : UInt8) : inSet [] c = false := rfl
theorem inSet_range (a b : UInt8) (r : List UInt8) (c : UInt8) : inSet (a :: 45 :: b :: r) c = ((decide (a ≤ c) && decide (c ≤ b)) || inSet r c) := by rw [inSet]
theorem inSet_byte (a : UInt8) (l : List UInt8) (c : UInt8) (h : ∀ b r, l ≠ 45 :: b :: r) : inSet (a :: l) c = (a == c || inSet l c) := by
  rw [inSet]
  · intro b r; rintro rfl; exact h _ _ rfl
end Pat

set_option maxHeartbeats 1000000 in
theorem in_any (s : ByteArray) (c : UInt8) (w : World) (hs : s.size ≤ 140737488355328) :
    Calls Tryd.prog 72 #[.string s, .int .u8 c.toNat] w fun e w' => e = .returned (.bool (Pat.inSet (bs s) c)) ∧ w = w' := by

  obtain ⟨S, hS⟩ : ∃ S, S = Pat.inSet (bs s) c := ⟨_, rfl⟩
  rw [← hS]
  have HS := Lib.hid hS
  clear hS
  go_enter Tryd.func72, Tryd.ntmps72
  go_wp2
  go_loop [5] (fun i => ∃ k : Nat, k ≤ s.size ∧ S = Pat.inSet ((bs s).drop k) c ∧ i = .int .i64 k) (fun i => s.size - (intOf i).toNat)
  case atStart => exact ⟨0, by omega, by rw [HS.out]; rfl, rfl⟩
  case round =>
    obtain ⟨k, hk, hS, rfl⟩ := hrel
    have HK := Lib.hid hS
    clear hS
    by_cases hlt : k < s.size
    · by_cases h2 : k + 2 < s.size
      · by_cases h3 : s[k + 1] = 45
        · have h3' : ((s[k + 1].toNat : Int) == 45) = true := by rw [h3]; rfl
          have hd : Pat.inSet ((bs s).drop k) c = ((decide (s[k] ≤ c) && decide (c ≤ s[k + 2])) || Pat.inSet ((bs s).drop (k + 3)) c) := by
            rw [bs_drop s k hlt, bs_drop s (k + 1) (by omega), bs_drop s (k + 2) h2, h3]; exact Pat.inSet_range _ _ _ _
          have HD := Lib.hid hd
          clear hd
          clear h3
          by_cases h4 : s[k] ≤ c
          · have h5 := u8_le h4
            by_cases h6 : c ≤ s[k + 2]
            · have h7 := u8_le h6
              have H4 := Lib.hid h4
              have H6 := Lib.hid h6
              clear h4 h6
              go_wp2
              go_ret
              exact ⟨ret_bool (by rw [HK.out, HD.out]; simp [H4.out, H6.out]), rfl⟩
            · have h7 := u8_lt h6
              have H6 := Lib.hid h6
              clear h4 h6
              go_wp2
              go_round
              case rel => exact ⟨k + 3, by omega, by rw [HK.out, HD.out]; simp [H6.out], by go_num⟩
              case measure => simp [intOf]; omega
          · have h5 := u8_lt h4
            have H4 := Lib.hid h4
            clear h4
            go_wp2
            go_round
            case rel => exact ⟨k + 3, by omega, by rw [HK.out, HD.out]; simp [H4.out], by go_num⟩
            case measure => simp [intOf]; omega
        · have hnd : ∀ b r, (bs s).drop (k + 1) ≠ 45 :: b :: r := by
            intro b r e
            rw [bs_drop s (k + 1) (by omega)] at e; exact h3 (List.cons.inj e).1
          have hd : Pat.inSet ((bs s).drop k) c = (s[k] == c || Pat.inSet ((bs s).drop (k + 1)) c) := by
            rw [bs_drop s k hlt]; exact Pat.inSet_byte _ _ _ hnd
          have HD := Lib.hid hd
          clear hd hnd
          have h3' : ((s[k + 1].toNat : Int) == 45) = false := u8_ne (b := 45) h3
          clear h3
          by_cases h4 : s[k] = c
          · have h5 := u8_is h4
            have H4 := Lib.hid h4
            clear h4
            go_wp2
            go_ret
            exact ⟨ret_bool (by rw [HK.out, HD.out]; simp [H4.out]), rfl⟩
          · have h5 := u8_ne h4
            have H4 := Lib.hid h4
            clear h4
            go_wp2
            go_round
            case rel => exact ⟨k + 1, by omega, by rw [HK.out, HD.out]; simp [H4.out], by go_num⟩
            case measure => simp [intOf]; omega
      · have hx : k < s.size := hlt
        have hnd : ∀ b r, (bs s).drop (k + 1) ≠ 45 :: b :: r := by
          intro b r e
          have := congrArg List.length e; simp [bs_len] at this; omega
        have hd : Pat.inSet ((bs s).drop k) c = (s[k] == c || Pat.inSet ((bs s).drop (k + 1)) c) := by
          rw [bs_drop s k hlt]; exact Pat.inSet_byte _ _ _ hnd
        have HD := Lib.hid hd
        clear hd hnd
        by_cases h4 : s[k] = c
        · have h5 := u8_is h4
          have H4 := Lib.hid h4
          clear h4
          go_wp2
          go_ret
          exact ⟨ret_bool (by rw [HK.out, HD.out]; simp [H4.out]), rfl⟩
        · have h5 := u8_ne h4
          have H4 := Lib.hid h4
          clear h4
          go_wp2
          go_round
          case rel => exact ⟨k + 1, by omega, by rw [HK.out, HD.out]; simp [H4.out], by go_num⟩
          case measure => simp [intOf]; omega
    · obtain rfl : k = s.size := by omega
      go_wp2
      go_ret
      exact ⟨ret_bool (by rw [HK.out, show (bs s).drop s.size = [] by rw [← bs_len]; exact List.drop_length]; rfl), rfl⟩

/-- Where a closing bracket stands, as the code says it. -/
def Pat.closingAt (p : List UInt8) (first : Nat) : Int := match Pat.closing (p.drop first) with | some j => (first + j : Nat) | none => -1
theorem Pat.closing_idx (l : List UInt8) : Pat.closing l = match (l.drop 1).findIdx? (· == 93) with | some n => some (n + 1) | none => none := by
  unfold Pat.closing; cases (l.drop 1).findIdx? (· == 93) <;> rfl
theorem Pat.closingAt_bd (p : List UInt8) (first : Nat) : -1 ≤ Pat.closingAt p first ∧ Pat.closingAt p first < p.length + 1 ∧ (0 ≤ Pat.closingAt p first → first + 1 ≤ Pat.closingAt p first ∧ Pat.closingAt p first < p.length) := by
  unfold Pat.closingAt
  cases h : Pat.closing (p.drop first) with
  | none => simp; omega
  | some j => have := Pat.closing_lt h; simp at this; simp; omega

theorem indexByte_find (l : List UInt8) (c : UInt8) : Lib.indexByte l c = match l.findIdx? (· == c) with | some n => (n : Int) | none => -1 := by
  induction l with
  | nil => rfl
  | cons b l ih =>
    rw [Lib.indexByte, List.findIdx?_cons, ih]
    cases hb : (b == c) with
    | true => rfl
    | false =>
      cases h : l.findIdx? (· == c) with
      | none => simp
      | some n => first | (simp; done) | (simp; omega)
theorem Pat.closingAt_index (p : List UInt8) (first : Nat) : Pat.closingAt p first = if Lib.indexByte (p.drop (first + 1)) 93 < 0 then -1 else (first : Int) + 1 + Lib.indexByte (p.drop (first + 1)) 93 := by
  unfold Pat.closingAt Pat.closing
  rw [List.drop_drop, indexByte_find]
  cases h : (p.drop (first + 1)).findIdx? (· == 93) with
  | none => simp
  | some n => simp only [Option.map_some]; rw [if_neg (by omega)]; omega
theorem indexByte_lt (l : List UInt8) (c : UInt8) : -1 ≤ Lib.indexByte l c ∧ Lib.indexByte l c < l.length + 1 := by
  rw [indexByte_find]
  cases h : l.findIdx? (· == c) with
  | none => simp; omega
  | some n => have := (List.findIdx?_eq_some_iff_getElem.1 h).1; simp; omega

set_option maxHeartbeats 1000000 in
theorem closing_any (p : ByteArray) (first : Nat) (w : World) (hp : p.size ≤ 140737488355328) (hf : first ≤ p.size + 2) :
    Calls Tryd.prog 84 #[.string p, .int .i64 first] w fun e w' => e = .returned (.int .i64 (Pat.closingAt (bs p) first)) ∧ w = w' := by
  obtain ⟨R, hR⟩ : ∃ R, R = Pat.closingAt (bs p) first := ⟨_, rfl⟩
  rw [← hR]
  by_cases h1 : p.size < first + 1
  · have hS : R = -1 := by
      rw [hR]; unfold Pat.closingAt Pat.closing
      rw [List.drop_drop, List.drop_eq_nil_of_le (by rw [bs_len]; omega)]; rfl
    have HS := Lib.hid hS
    clear hS hR
    go_enter Tryd.func84, Tryd.ntmps84
    go_wp2
    go_ret
    exact ⟨ret_int HS.out.symm, rfl⟩
  · have hi : (p.extract (first + 1) p.size).data.toList = (bs p).drop (first + 1) := Lib.extract_to_end p (first + 1)
    have hC := fun w => Tryd.strings_IndexByte (p.extract (first + 1) p.size) 93 w
    rw [hi, show (93 : Int).toNat.toUInt8 = 93 from rfl] at hC
    rw [Pat.closingAt_index] at hR
    have hb := indexByte_lt ((bs p).drop (first + 1)) 93
    rw [List.length_drop, bs_len] at hb
    obtain ⟨q, hq⟩ : ∃ q, q = Lib.indexByte ((bs p).drop (first + 1)) 93 := ⟨_, rfl⟩
    rw [← hq] at hC hR hb
    obtain ⟨b1, b2⟩ := hb
    have hmin : min ((first : Int) + 1) (p.size : Int) = (first : Int) + 1 := by omega
    have htn : ((first : Int) + 1).toNat = first + 1 := by omega
    have HC := Lib.hid hC
    have HR := Lib.hid hR
    clear hC hR hq hi
    go_enter Tryd.func84, Tryd.ntmps84
    go_wp2_with (go_at_call 53; refine (HC.out _).mono ?_; rintro e w' ⟨rfl, rfl⟩)
    all_goals
      go_ret
      refine ⟨ret_int ?_, rfl⟩
      rw [HR.out]
      split <;> omega

/-- What class hands back. -/
def clsVal (i : Nat) (set : ByteArray) : Option (Bool × List UInt8 × Nat) → Value
  | some (neg, _, n) => .tuple #[.int .i64 ((i + n - 1 : Nat) : Int), .bool neg, .string set, .bool true]
  | none => .tuple #[.int .i64 0, .bool false, .string ⟨#[]⟩, .bool false]
theorem closing_some {p : ByteArray} {first : Nat} {j : Nat} (h : Pat.closing ((bs p).drop first) = some j) : Pat.closingAt (bs p) first = ((first + j : Nat) : Int) ∧ first + j < p.size := by
  have := Pat.closing_lt h
  rw [List.length_drop, bs_len] at this
  unfold Pat.closingAt; rw [h]; exact ⟨rfl, by omega⟩
theorem closing_none {p : ByteArray} {first : Nat} (h : Pat.closing ((bs p).drop first) = none) : Pat.closingAt (bs p) first = -1 := by
  unfold Pat.closingAt; rw [h]
theorem bs_extract (p : ByteArray) (a b : Nat) : bs (p.extract a b) = ((bs p).drop a).take (b - a) := Lib.extract_data p a b

end Go.Proofs.YtdjiimblfhbcjaaDoor
