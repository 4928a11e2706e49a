/- Quoted strings and decimals in plain words. -/
import Derived.Lib.ParseIntB
import Derived.Lib.ItoaNum
import Derived.Lib.Bytealg
import Derived.WalkKit
namespace Go.Proofs.YtdjiimblfhbcjaaDoor
open Go.RowKit

def hexA : ByteArray := ⟨#[48, 49, 50, 51, 52, 53, 54, 55, 56, 57, 97, 98, 99, 100, 101, 102]⟩
theorem hexA_size : hexA.size = 16 := rfl
def hxd (n : Nat) : UInt8 := hexA.data.toList.getD n 0
theorem hxd_get (a : Nat) (h : a < 16) : (ByteArray.mk #[48, 49, 50, 51, 52, 53, 54, 55, 56, 57, 97, 98, 99, 100, 101, 102])[a] = hxd a := by
  have : ∀ a : Fin 16, (ByteArray.mk #[48, 49, 50, 51, 52, 53, 54, 55, 56, 57, 97, 98, 99, 100, 101, 102])[a] = hxd a := by decide
  exact this ⟨a, h⟩
/-- A byte, quoted. -/
def qt1 (c : UInt8) : List UInt8 :=
  if c = 34 ∨ c = 92 then [92, c] else if c = 10 then [92, 110] else if 32 ≤ c ∧ c ≤ 126 then [c] else [92, 120, hxd (c.toNat / 16), hxd (c.toNat % 16)]
def qb (l : List UInt8) : List UInt8 := l.flatMap qt1
def quote (l : List UInt8) : List UInt8 := 34 :: (qb l ++ [34])
theorem qt1_len (c : UInt8) : (qt1 c).length ≤ 4 := by unfold qt1; split <;> (try split) <;> (try split) <;> simp
theorem qb_len (l : List UInt8) : (qb l).length ≤ 4 * l.length := by
  induction l with
  | nil => simp [qb]
  | cons a l ih =>
    have := qt1_len a
    simp only [qb, List.flatMap_cons, List.length_append, List.length_cons] at ih ⊢; omega

/-- What two digits make (for the lower-case hexadecimal digits: their value). -/
def ubI (a b : UInt8) : Int := IntKind.u8.wrap (bits BinOp.or IntKind.i64 (IntKind.i64.wrap (Lib.indexByte [48, 49, 50, 51, 52, 53, 54, 55, 56, 57, 97, 98, 99, 100, 101, 102] a * 16)) (Lib.indexByte [48, 49, 50, 51, 52, 53, 54, 55, 56, 57, 97, 98, 99, 100, 101, 102] b))
def ub (a b : UInt8) : UInt8 := (ubI a b).toNat.toUInt8
theorem ubI_eq (a b : UInt8) : ubI a b = ((ub a b).toNat : Int) := by
  have h : ∀ z : Int, 0 ≤ IntKind.u8.wrap z ∧ IntKind.u8.wrap z < 256 := by
    intro z
    have : IntKind.u8.wrap z = z % 256 := by simp [IntKind.wrap, IntKind.bits, IntKind.signed]
    omega
  have h2 := h (bits BinOp.or IntKind.i64 (IntKind.i64.wrap (Lib.indexByte [48, 49, 50, 51, 52, 53, 54, 55, 56, 57, 97, 98, 99, 100, 101, 102] a * 16)) (Lib.indexByte [48, 49, 50, 51, 52, 53, 54, 55, 56, 57, 97, 98, 99, 100, 101, 102] b))
  have h3 : 0 ≤ ubI a b ∧ ubI a b < 256 := h2
  unfold ub
  simp only [Nat.toUInt8, UInt8.toNat_ofNat']
  omega
/-- What a quoted string's inside reads as. -/
def raw : List UInt8 → List UInt8
  | 92 :: 110 :: r => 10 :: raw r
  | 92 :: 120 :: a :: b :: r => ub a b :: raw r
  | 92 :: c :: r => c :: raw r
  | a :: r => a :: raw r
  | [] => []
theorem raw_n (r : List UInt8) : raw (92 :: 110 :: r) = 10 :: raw r := by rw [raw]
theorem raw_x (a b : UInt8) (r : List UInt8) : raw (92 :: 120 :: a :: b :: r) = ub a b :: raw r := by rw [raw]
theorem raw_c (c : UInt8) (r : List UInt8) (h : c ≠ 110) (h2 : c ≠ 120 ∨ r.length < 2) : raw (92 :: c :: r) = c :: raw r := by
  rw [raw]
  · rintro rfl; exact h rfl
  · intro a b r' e1 e2
    subst e2
    rcases h2 with h2 | h2
    · exact h2 e1
    · simp only [List.length_cons] at h2; omega
theorem raw_a (a : UInt8) (r : List UInt8) (h : a ≠ 92 ∨ r = []) : raw (a :: r) = a :: raw r := by
  rcases h with h | h
  · rw [raw]
    · intro r' e1; exact absurd e1 h
    · intro x y r' e1; exact absurd e1 h
    · intro x r' e1; exact absurd e1 h
  · subst h
    rw [raw]
    · intro r' _ e; cases e
    · intro x y r' _ e; cases e
    · intro x r' _ e; cases e
/-- What Int reads. -/
def intOfB (l : List UInt8) : Option Int := match Lib.parseIntB 64 l with | .ok v => if Lib.itoa v = l then some v else none | _ => none

theorem parse_bd {l : List UInt8} {v : Int} (h : Lib.parseIntB 64 l = .ok v) : -9223372036854775808 ≤ v ∧ v ≤ 9223372036854775807 := by
  unfold Lib.parseIntB at h
  cases l with
  | nil => cases h
  | cons c r =>
    dsimp only at h
    split at h
    · cases h
    · cases h
    · rename_i u _
      split at h
      · cases h
      · split at h
        · cases h
        · rename_i h1 h2
          injection h with h
          by_cases hc : c.toNat = 45
          · rw [if_pos hc] at h
            have : u ≤ 2 ^ 63 := by
              apply Nat.le_of_not_lt; intro hh; exact h2 ⟨hc, hh⟩
            omega
          · rw [if_neg hc] at h
            have : u < 2 ^ 63 := by
              apply Nat.lt_of_not_le; intro hh; exact h1 ⟨hc, hh⟩
            omega
theorem parseUintM_append (M : Nat) : ∀ (l r : List UInt8) (acc a : Nat), Lib.parseUintM M acc l = .ok a → Lib.parseUintM M acc (l ++ r) = Lib.parseUintM M a r
  | [], r, acc, a, h => by rw [Lib.parseUintM] at h; injection h with h; subst h; rfl
  | c :: l, r, acc, a, h => by
    rw [List.cons_append, Lib.parseUintM]
    rw [Lib.parseUintM] at h
    split at h
    · rename_i h1
      rw [if_pos h1]
      split at h
      · cases h
      · rename_i h2
        rw [if_neg h2]
        split at h
        · cases h
        · rename_i h3
          rw [if_neg h3]
          exact parseUintM_append M l r _ a h
    · cases h
theorem dig_ofNat (d : Nat) (h : d < 10) : (UInt8.ofNat (48 + d)).toNat = 48 + d := by
  rw [UInt8.toNat_ofNat']; omega
theorem parse_dec (u : Nat) (h : u ≤ 18446744073709551615) : Lib.parseUintM 18446744073709551615 0 (Lib.decDigits u) = .ok u := by
  induction u using Nat.strongRecOn with
  | _ u ih =>
    rw [Lib.decDigits]
    split
    · rename_i h10
      rw [Lib.parseUintM, dig_ofNat u h10, if_pos (by omega), if_neg (by omega), if_neg (by omega), Lib.parseUintM]
      congr 1; omega
    · rename_i h10
      rw [parseUintM_append _ _ _ _ _ (ih (u / 10) (by omega) (by omega))]
      rw [Lib.parseUintM, dig_ofNat (u % 10) (by omega), if_pos (by omega), if_neg (by omega), if_neg (by omega), Lib.parseUintM]
      congr 1; omega
theorem dec_dig (u : Nat) : ∀ c ∈ Lib.decDigits u, 48 ≤ c.toNat ∧ c.toNat ≤ 57 := by
  induction u using Nat.strongRecOn with
  | _ u ih =>
    rw [Lib.decDigits]
    split
    · rename_i h10
      intro c hc
      obtain rfl := List.mem_singleton.1 hc
      rw [dig_ofNat u h10]; omega
    · rename_i h10
      intro c hc
      rcases List.mem_append.1 hc with hc | hc
      · exact ih _ (by omega) c hc
      · obtain rfl := List.mem_singleton.1 hc
        rw [dig_ofNat _ (by omega)]; omega
theorem dec_ne (u : Nat) : Lib.decDigits u ≠ [] := by
  rw [Lib.decDigits]; split <;> simp
theorem parse_itoa (n : Int) (h0 : -9223372036854775808 ≤ n) (h1 : n ≤ 9223372036854775807) : Lib.parseIntB 64 (Lib.itoa n) = .ok n := by
  by_cases hn : n < 0
  · rw [Lib.itoa, if_pos hn]
    have hp : Lib.parseUintB 64 (Lib.decDigits n.natAbs) = .ok n.natAbs := by
      rw [Lib.parseUintB, if_neg (dec_ne _), show 2 ^ 64 - 1 = 18446744073709551615 from rfl, parse_dec _ (by omega)]
    simp only [Lib.parseIntB]
    rw [if_pos (.inr (by decide)), hp]
    dsimp only
    rw [if_neg (by rintro ⟨h, -⟩; exact h (by decide)), if_neg (by rintro ⟨-, h⟩; omega), if_pos (by decide)]
    congr 1; omega
  · rw [Lib.itoa, if_neg hn]
    have hp : Lib.parseUintB 64 (Lib.decDigits n.toNat) = .ok n.toNat := by
      rw [Lib.parseUintB, if_neg (dec_ne _), show 2 ^ 64 - 1 = 18446744073709551615 from rfl, parse_dec _ (by omega)]
    have hd := dec_dig n.toNat
    cases hl : Lib.decDigits n.toNat with
    | nil => exact absurd hl (dec_ne _)
    | cons c r =>
      rw [hl] at hp hd
      have hc := hd c (List.mem_cons_self ..)
      simp only [Lib.parseIntB]
      rw [if_neg (by omega), hp]
      dsimp only
      rw [if_neg (by rintro ⟨-, h⟩; omega), if_neg (by rintro ⟨h, -⟩; omega), if_neg (by omega)]
      congr 1; omega
theorem intOfB_itoa (n : Int) (h0 : -9223372036854775808 ≤ n) (h1 : n ≤ 9223372036854775807) : intOfB (Lib.itoa n) = some n := by
  rw [intOfB, parse_itoa n h0 h1]
  exact if_pos rfl

theorem intOfB_back {l : List UInt8} {v : Int} (h : intOfB l = some v) : Lib.itoa v = l := by
  unfold intOfB at h
  cases hp : Lib.parseIntB 64 l with
  | ok u =>
    rw [hp] at h; dsimp only at h
    split at h
    · rename_i he; injection h with h; subst h; exact he
    · cases h
  | «syntax» => rw [hp] at h; cases h
  | range => rw [hp] at h; cases h
theorem intOfB_bd {l : List UInt8} {v : Int} (h : intOfB l = some v) : -9223372036854775808 ≤ v ∧ v ≤ 9223372036854775807 := by
  unfold intOfB at h
  cases hp : Lib.parseIntB 64 l with
  | ok u =>
    rw [hp] at h; dsimp only at h
    split at h
    · injection h with h; subst h; exact parse_bd hp
    · cases h
  | «syntax» => rw [hp] at h; cases h
  | range => rw [hp] at h; cases h

theorem ub_all : (List.range 256).all (fun n => ub (hxd (n / 16)) (hxd (n % 16)) == UInt8.ofNat n) = true := by decide +kernel
theorem ub_hx (c : UInt8) : ub (hxd (c.toNat / 16)) (hxd (c.toNat % 16)) = c := by
  have h := List.all_eq_true.1 ub_all c.toNat (List.mem_range.2 c.toNat_lt)
  rw [beq_iff_eq] at h
  rw [h, UInt8.ofNat_toNat]
theorem raw_qb (l : List UInt8) : raw (qb l) = l := by
  induction l with
  | nil => rfl
  | cons c l ih =>
    show raw (qt1 c ++ qb l) = _
    unfold qt1
    split
    · rename_i h
      show raw (92 :: c :: qb l) = _
      rw [raw_c, ih]
      · rcases h with rfl | rfl <;> decide
      · left; rcases h with rfl | rfl <;> decide
    · rename_i h
      split
      · rename_i h; subst h; show raw (92 :: 110 :: qb l) = _; rw [raw_n, ih]
      · split
        · show raw (c :: qb l) = _
          rw [raw_a, ih]
          left; intro e; exact h (.inr e)
        · show raw (92 :: 120 :: _ :: _ :: qb l) = _
          rw [raw_x, ih, ub_hx]
end Go.Proofs.YtdjiimblfhbcjaaDoor
