/- Parts PatS, PatI, Qu, LxS, LxD, DrS, DrJ, DrP, DrB, DrT, DrN of this claim, laid one behind the other: walks and the plain laws behind them; each contract states its own conditions. -/
import Derived.Lib.ParseIntB
import Derived.Lib.ItoaNum
import Derived.Lib.Bytealg
import Derived.WalkKit
/- Patterns in plain words: the parts of a pattern, what matches, and why going back to the last star alone is enough. Nothing of the program is imported. -/
namespace Go.Proofs.YtnccndfffmaonaaGreatDoor.Pat

/-- A part of a pattern. -/
inductive Part where
  | star
  | any
  | byte (b : UInt8)
  | cls (neg : Bool) (set : List UInt8)

/-- Whether a set has a byte. -/
def inSet : List UInt8 → UInt8 → Bool
  | a :: 45 :: b :: r, c => (decide (a ≤ c) && decide (c ≤ b)) || inSet r c
  | a :: r, c => a == c || inSet r c
  | [], _ => false

def Part.fits : Part → UInt8 → Bool
  | .star, _ => false
  | .any, _ => true
  | .byte b, c => b == c
  | .cls neg set, c => inSet set c != neg
def Part.isStar : Part → Bool
  | .star => true
  | _ => false

def anySuf (f : List UInt8 → Bool) : List UInt8 → Bool
  | [] => f []
  | c :: s => f (c :: s) || anySuf f s
/-- What matches. -/
def mt : List Part → List UInt8 → Bool
  | [], s => s.isEmpty
  | .star :: ps, s => anySuf (mt ps) s
  | _ :: _, [] => false
  | x :: ps, c :: s => x.fits c && mt ps s

theorem anySuf_iff (f : List UInt8 → Bool) : ∀ s, anySuf f s = true ↔ ∃ k, k ≤ s.length ∧ f (s.drop k) = true
  | [] => by simp [anySuf]
  | c :: s => by
    rw [anySuf, Bool.or_eq_true, anySuf_iff f s]
    constructor
    · rintro (h | ⟨k, hk, h⟩)
      · exact ⟨0, by simp, h⟩
      · exact ⟨k + 1, by simp; omega, by simpa using h⟩
    · rintro ⟨k, hk, h⟩
      cases k with
      | zero => exact .inl (by simpa using h)
      | succ k => exact .inr ⟨k, by simp at hk; omega, by simpa using h⟩

/-- Star-free parts fit the bytes one by one. -/
def fitsAll : List Part → List UInt8 → Bool
  | [], [] => true
  | x :: xs, c :: s => x.fits c && fitsAll xs s
  | _, _ => false
def free (xs : List Part) : Prop := ∀ x ∈ xs, x.isStar = false

theorem mt_append (xs : List Part) (ys : List Part) (hf : free xs) : ∀ s, mt (xs ++ ys) s = (decide (xs.length ≤ s.length) && fitsAll xs (s.take xs.length) && mt ys (s.drop xs.length)) := by
  induction xs with
  | nil => intro s; simp [fitsAll]
  | cons x xs ih =>
    intro s
    have hx : x.isStar = false := hf x (by simp)
    have hf' : free xs := fun y hy => hf y (by simp [hy])
    cases s with
    | nil => cases x <;> simp [mt, Part.isStar] at hx ⊢
    | cons c s =>
      have e : mt (x :: xs ++ ys) (c :: s) = (x.fits c && mt (xs ++ ys) s) := by
        cases x <;> simp [mt, Part.isStar] at hx ⊢
      rw [e, ih hf' s]
      simp only [List.length_cons, List.take_succ_cons, List.drop_succ_cons, fitsAll, Nat.add_le_add_iff_right]
      cases x.fits c <;> cases decide (xs.length ≤ s.length) <;> simp

theorem fitsAll_snoc (xs : List Part) : ∀ (s : List UInt8) (x : Part) (c : UInt8), fitsAll (xs ++ [x]) (s ++ [c]) = (fitsAll xs s && x.fits c) := by
  induction xs with
  | nil =>
    intro s x c
    cases s with
    | nil => simp [fitsAll]
    | cons a s => cases s <;> simp [fitsAll]
  | cons y xs ih =>
    intro s x c
    cases s with
    | nil => cases xs <;> simp [fitsAll]
    | cons a s => simp only [List.cons_append, fitsAll, ih]; cases y.fits a <;> simp

/-- The last star alone: what was matched since it may be tried later, and a later star takes up the rest. -/
theorem star_enough (xs ys : List Part) (s : List UInt8) (again at_ : Nat) (hf : free xs) (hlen : at_ = again + xs.length) (hat : at_ ≤ s.length) (hfit : fitsAll xs ((s.drop again).take xs.length) = true) :
    (∃ k, again ≤ k ∧ k ≤ s.length ∧ mt (xs ++ .star :: ys) (s.drop k) = true) ↔ (∃ k, at_ ≤ k ∧ k ≤ s.length ∧ mt ys (s.drop k) = true) := by
  constructor
  · rintro ⟨k, h1, h2, h3⟩
    rw [mt_append xs _ hf, Bool.and_eq_true, Bool.and_eq_true, decide_eq_true_eq] at h3
    obtain ⟨⟨h4, -⟩, h5⟩ := h3
    rw [mt, anySuf_iff] at h5
    obtain ⟨j, hj, h6⟩ := h5
    simp only [List.length_drop] at h4 hj
    refine ⟨k + xs.length + j, by omega, by omega, ?_⟩
    rw [List.drop_drop, List.drop_drop] at h6
    rw [show k + xs.length + j = k + (xs.length + j) by omega]; first | exact h6 | (rw [Nat.add_comm] at h6; exact h6)
  · rintro ⟨k, h1, h2, h3⟩
    refine ⟨again, Nat.le_refl _, by omega, ?_⟩
    rw [mt_append xs _ hf, hfit, Bool.and_true, Bool.and_eq_true, decide_eq_true_eq]
    refine ⟨by simp; omega, ?_⟩
    rw [mt, anySuf_iff]
    refine ⟨k - at_, by simp; omega, ?_⟩
    rw [List.drop_drop, List.drop_drop, show again + (xs.length + (k - at_)) = k by omega]
    exact h3

/-! ### The parts of a pattern -/
/-- Where the first ] after the first byte stands. -/
def closing (l : List UInt8) : Option Nat := ((l.drop 1).findIdx? (· == 93)).map (· + 1)
/-- The class behind a [: whether it is a negation, its set, and its length with the brackets. -/
def plainCls (r : List UInt8) : Option (Bool × List UInt8 × Nat) := (closing r).map fun j => (false, r.take j, j + 2)
def cls : List UInt8 → Option (Bool × List UInt8 × Nat)
  | 33 :: r => match closing r with
    | some j => some (true, r.take j, j + 3)
    | none => plainCls (33 :: r)
  | r => plainCls r
def headPart : List UInt8 → Part × Nat
  | [] => (.star, 1)
  | a :: r =>
    if a = 42 then (.star, 1)
    else if a = 92 then (match r with | b :: _ => (.byte b, 2) | [] => (.byte 92, 1))
    else if a = 63 then (.any, 1)
    else if a = 91 then (match cls r with | some (neg, set, n) => (.cls neg set, n) | none => (.byte 91, 1))
    else (.byte a, 1)
def partsF : Nat → List UInt8 → List Part
  | 0, _ => []
  | _ + 1, [] => []
  | k + 1, a :: l => (headPart (a :: l)).1 :: partsF k ((a :: l).drop (headPart (a :: l)).2)
def parts (l : List UInt8) : List Part := partsF l.length l

theorem closing_lt {l : List UInt8} {j : Nat} (h : closing l = some j) : 1 ≤ j ∧ j < l.length := by
  unfold closing at h
  obtain ⟨i, hi, rfl⟩ := Option.map_eq_some_iff.1 h
  have := (List.findIdx?_eq_some_iff_getElem.1 hi).1
  simp at this; omega
theorem cls_len {r : List UInt8} {x : Bool × List UInt8 × Nat} (h : cls r = some x) : 3 ≤ x.2.2 ∧ x.2.2 ≤ r.length + 1 := by
  have hp : ∀ r x, plainCls r = some x → 3 ≤ x.2.2 ∧ x.2.2 ≤ r.length + 1 := by
    intro r x h
    obtain ⟨j, hj, rfl⟩ := Option.map_eq_some_iff.1 h
    have := closing_lt hj; dsimp only; omega
  unfold cls at h
  split at h
  · rename_i r
    split at h
    · rename_i j hj
      cases h
      have := closing_lt hj
      simp; omega
    · exact hp _ _ h
  · exact hp _ _ h
theorem headPart_cons (a : UInt8) (r : List UInt8) : headPart (a :: r) =
    if a = 42 then (.star, 1)
    else if a = 92 then (match r with | b :: _ => (.byte b, 2) | [] => (.byte 92, 1))
    else if a = 63 then (.any, 1)
    else if a = 91 then (match cls r with | some (neg, set, n) => (.cls neg set, n) | none => (.byte 91, 1))
    else (.byte a, 1) := rfl
theorem headPart_len (a : UInt8) (r : List UInt8) : 1 ≤ (headPart (a :: r)).2 ∧ (headPart (a :: r)).2 ≤ r.length + 1 := by
  rw [headPart_cons]
  by_cases h1 : a = 42
  · rw [if_pos h1]; simp
  rw [if_neg h1]
  by_cases h2 : a = 92
  · rw [if_pos h2]; cases r <;> simp
  rw [if_neg h2]
  by_cases h3 : a = 63
  · rw [if_pos h3]; simp
  rw [if_neg h3]
  by_cases h4 : a = 91
  · rw [if_pos h4]
    cases hc : cls r with
    | none => simp
    | some x => have := cls_len hc; obtain ⟨x, y, n⟩ := x; dsimp only at this ⊢; omega
  · rw [if_neg h4]; simp
theorem partsF_more : ∀ (k m : Nat) (l : List UInt8), l.length ≤ k → l.length ≤ m → partsF k l = partsF m l := by
  intro k
  induction k with
  | zero =>
    intro m l h1 h2
    obtain rfl : l = [] := List.eq_nil_of_length_eq_zero (by omega)
    cases m <;> rfl
  | succ k ih =>
    intro m l h1 h2
    cases l with
    | nil => cases m <;> rfl
    | cons a l =>
      cases m with
      | zero => simp at h2
      | succ m =>
        have := headPart_len a l
        simp only [partsF]
        rw [ih m _ (by simp at h1 ⊢; omega) (by simp at h2 ⊢; omega)]
theorem parts_nil : parts [] = [] := rfl
theorem parts_cons (a : UInt8) (r : List UInt8) : parts (a :: r) = (headPart (a :: r)).1 :: parts ((a :: r).drop (headPart (a :: r)).2) := by
  have := headPart_len a r
  show (headPart (a :: r)).1 :: partsF r.length ((a :: r).drop (headPart (a :: r)).2) = _
  rw [partsF_more r.length ((a :: r).drop (headPart (a :: r)).2).length _ (by simp; omega) (Nat.le_refl _)]
  rfl
/-- What matches a pattern. -/
def pat (p s : List UInt8) : Bool := mt (parts p) s
end Go.Proofs.YtnccndfffmaonaaGreatDoor.Pat
/- What the loop of Pattern keeps, in plain words. Nothing of the program is imported. -/
namespace Go.Proofs.YtnccndfffmaonaaGreatDoor.Pat

theorem headPart_free {a : UInt8} {r : List UInt8} (h : a ≠ 42) : (headPart (a :: r)).1.isStar = false := by
  rw [headPart_cons, if_neg h]
  by_cases h2 : a = 92
  · rw [if_pos h2]; cases r <;> rfl
  rw [if_neg h2]
  by_cases h3 : a = 63
  · rw [if_pos h3]; rfl
  rw [if_neg h3]
  by_cases h4 : a = 91
  · rw [if_pos h4]; cases cls r <;> rfl
  · rw [if_neg h4]; rfl
theorem headPart_star {r : List UInt8} : headPart (42 :: r) = (.star, 1) := by rw [headPart_cons, if_pos rfl]
theorem parts_drop (P : List UInt8) (i : Nat) (h : i < P.length) : parts (P.drop i) = (headPart (P.drop i)).1 :: parts (P.drop (i + (headPart (P.drop i)).2)) := by
  rw [List.drop_eq_getElem_cons h, parts_cons, ← List.drop_eq_getElem_cons h, List.drop_drop]
theorem mt_cons {x : Part} {ps : List Part} {c : UInt8} {s : List UInt8} (h : x.isStar = false) : mt (x :: ps) (c :: s) = (x.fits c && mt ps s) := by
  cases x <;> simp [mt, Part.isStar] at h ⊢
theorem mt_cons_nil {x : Part} {ps : List Part} (h : x.isStar = false) : mt (x :: ps) [] = false := by
  cases x <;> simp [mt, Part.isStar] at h ⊢
theorem drop_free {P : List UInt8} {i : Nat} (h : i < P.length) (hne : P[i] ≠ 42) : (headPart (P.drop i)).1.isStar = false := by
  rw [List.drop_eq_getElem_cons h]; exact headPart_free hne

def PInv (P S : List UInt8) (G : Bool) (i : Nat) (star : Int) (again at_ : Nat) : Prop :=
  i ≤ P.length ∧ at_ ≤ S.length ∧ again ≤ at_ ∧
  ((star = -1 ∧ again = 0 ∧ G = mt (parts (P.drop i)) (S.drop at_)) ∨
   ∃ k : Nat, star = (k : Int) ∧ k + 1 ≤ P.length ∧ G = anySuf (mt (parts (P.drop (k + 1)))) (S.drop again) ∧ ∃ X, free X ∧ parts (P.drop (k + 1)) = X ++ parts (P.drop i) ∧ at_ = again + X.length ∧ fitsAll X ((S.drop again).take X.length) = true)

variable {P S : List UInt8} {G : Bool} {i : Nat} {star : Int} {again at_ : Nat}
theorem pinv_start : PInv P S (pat P S) 0 (-1) 0 0 := ⟨Nat.zero_le _, Nat.zero_le _, Nat.le_refl _, .inl ⟨rfl, rfl, rfl⟩⟩
theorem anySuf_drop (f : List UInt8 → Bool) (a : Nat) : anySuf f (S.drop a) = true ↔ ∃ k, a ≤ k ∧ k ≤ max a S.length ∧ f (S.drop k) = true := by
  rw [anySuf_iff]
  constructor
  · rintro ⟨k, hk, h⟩
    rw [List.drop_drop] at h
    rw [List.length_drop] at hk
    exact ⟨a + k, by omega, by omega, h⟩
  · rintro ⟨k, h1, h2, h⟩
    refine ⟨k - a, by rw [List.length_drop]; omega, ?_⟩
    rw [List.drop_drop, show a + (k - a) = k by omega]; exact h
theorem pinv_star (h : PInv P S G i star again at_) (hi : i < P.length) (h42 : P[i] = 42) : PInv P S G (i + 1) (i : Int) at_ at_ := by
  obtain ⟨h1, h2, h3, h4⟩ := h
  have hp : parts (P.drop i) = .star :: parts (P.drop (i + 1)) := by
    have := parts_drop P i hi
    rw [List.drop_eq_getElem_cons hi, h42, headPart_star] at this
    rw [List.drop_eq_getElem_cons hi, h42]; exact this
  refine ⟨hi, h2, Nat.le_refl _, .inr ⟨i, rfl, hi, ?_, [], ?_, rfl, rfl, rfl⟩⟩
  · rcases h4 with ⟨-, -, h⟩ | ⟨k, rfl, hk, h, X, hf, hX, hat, hfit⟩
    · rw [h, hp]; rfl
    · rw [h, Bool.eq_iff_iff, anySuf_drop, anySuf_drop, hX, hp, Nat.max_eq_right (by omega), Nat.max_eq_right h2]
      exact star_enough X _ S again at_ hf hat h2 hfit
  · intro x hx; cases hx
theorem pinv_done (h : PInv P S G i star again at_) (hi : i = P.length) (ha : at_ = S.length) : G = true := by
  obtain ⟨h1, h2, h3, h4⟩ := h
  have hp : parts (P.drop i) = [] := by rw [hi, List.drop_length]; rfl
  have hs : S.drop at_ = [] := by rw [ha, List.drop_length]
  rcases h4 with ⟨-, -, h⟩ | ⟨k, rfl, hk, h, X, hf, hX, hat, hfit⟩
  · rw [h, hp, hs]; rfl
  · rw [h, anySuf_drop]
    refine ⟨again, Nat.le_refl _, by omega, ?_⟩
    rw [hX, hp, mt_append X _ hf, hfit, List.drop_drop, ← hat, hs]
    simp [mt]; omega
theorem pinv_step (h : PInv P S G i star again at_) (hi : i < P.length) (ha : at_ < S.length) (hne : P[i] ≠ 42) (hfit : (headPart (P.drop i)).1.fits S[at_] = true) : PInv P S G (i + (headPart (P.drop i)).2) star again (at_ + 1) := by
  obtain ⟨h1, h2, h3, h4⟩ := h
  have hp := parts_drop P i hi
  have hfr := drop_free hi hne
  have hlen : i + (headPart (P.drop i)).2 ≤ P.length := by
    have := headPart_len P[i] (P.drop (i + 1))
    rw [← List.drop_eq_getElem_cons hi, List.length_drop] at this; omega
  refine ⟨hlen, ha, by omega, ?_⟩
  rcases h4 with ⟨e, e2, h⟩ | ⟨k, rfl, hk, h, X, hf, hX, hat, hfitX⟩
  · refine .inl ⟨e, e2, ?_⟩
    rw [h, hp, List.drop_eq_getElem_cons ha, mt_cons hfr, hfit, Bool.true_and]
  · refine .inr ⟨k, rfl, hk, h, X ++ [(headPart (P.drop i)).1], ?_, ?_, ?_, ?_⟩
    · intro x hx
      rcases List.mem_append.1 hx with hx | hx
      · exact hf x hx
      · rw [List.mem_singleton.1 hx]; exact hfr
    · rw [hX, hp, List.append_assoc]; rfl
    · simp; omega
    · have hlt : X.length < (S.drop again).length := by rw [List.length_drop]; omega
      have e : (S.drop again).take (X ++ [(headPart (P.drop i)).1]).length = (S.drop again).take X.length ++ [S[at_]] := by
        rw [List.length_append, List.length_singleton, List.take_succ_eq_append_getElem hlt]
        simp [hat]
      rw [e, fitsAll_snoc, hfitX, hfit]; rfl
theorem pinv_fails (h : PInv P S G i star again at_) (hm : mt (parts (P.drop i)) (S.drop at_) = false) (hx : star = -1 ∨ again = S.length) : G = false := by
  obtain ⟨h1, h2, h3, h4⟩ := h
  rcases h4 with ⟨-, -, h⟩ | ⟨k, rfl, hk, h, X, hf, hX, hat, hfitX⟩
  · rw [h, hm]
  · have ha : again = S.length := by omega
    obtain rfl : X = [] := List.eq_nil_of_length_eq_zero (by omega)
    have hs : S.drop again = [] := by rw [ha, List.drop_length]
    have hs2 : S.drop at_ = [] := by rw [hat]; simpa using hs
    rw [h, hs, anySuf, hX, List.nil_append, ← hs2, hm]
theorem pinv_back {k : Nat} (h : PInv P S G i (k : Int) again at_) (hm : mt (parts (P.drop i)) (S.drop at_) = false) (hlt : again < S.length) : PInv P S G (k + 1) (k : Int) (again + 1) (again + 1) := by
  obtain ⟨h1, h2, h3, h4⟩ := h
  rcases h4 with ⟨e, -, h⟩ | ⟨k', e, hk, h, X, hf, hX, hat, hfitX⟩
  · omega
  · obtain rfl : k = k' := by omega
    refine ⟨hk, hlt, Nat.le_refl _, .inr ⟨k, rfl, hk, ?_, [], (fun x hx => by cases hx), rfl, rfl, rfl⟩⟩
    rw [h, List.drop_eq_getElem_cons hlt, anySuf, ← List.drop_eq_getElem_cons hlt]
    have : mt (parts (P.drop (k + 1))) (S.drop again) = false := by
      rw [hX, mt_append X _ hf, List.drop_drop, ← hat, hm, Bool.and_false]
    rw [this, Bool.false_or]
theorem mm_end (hi : i = P.length) (ha : at_ < S.length) : mt (parts (P.drop i)) (S.drop at_) = false := by
  rw [hi, List.drop_length, List.drop_eq_getElem_cons ha]; rfl
theorem mm_short (hi : i < P.length) (hne : P[i] ≠ 42) (ha : at_ = S.length) : mt (parts (P.drop i)) (S.drop at_) = false := by
  rw [ha, List.drop_length, parts_drop P i hi]; exact mt_cons_nil (drop_free hi hne)
theorem mm_fit (hi : i < P.length) (hne : P[i] ≠ 42) (ha : at_ < S.length) (hf : (headPart (P.drop i)).1.fits S[at_] = false) : mt (parts (P.drop i)) (S.drop at_) = false := by
  rw [parts_drop P i hi, List.drop_eq_getElem_cons ha, mt_cons (drop_free hi hne), hf]; rfl
/-- What is left to do. -/
def left (p s i again : Nat) : Nat := (s - again) * (p + 1) + (p - i)
theorem left_further {p s i again i' again' : Nat} (h : again ≤ again') (hi : i < i') (hi' : i' ≤ p) : left p s i' again' < left p s i again := by
  unfold left
  have := Nat.mul_le_mul_right (p + 1) (show s - again' ≤ s - again by omega)
  omega
theorem left_back {p s i again i' : Nat} (h : again < s) : left p s i' (again + 1) < left p s i again := by
  unfold left
  have : (s - again) * (p + 1) = (s - (again + 1)) * (p + 1) + (p + 1) := by
    rw [show s - again = s - (again + 1) + 1 by omega, Nat.add_mul, Nat.one_mul]
  omega
end Go.Proofs.YtnccndfffmaonaaGreatDoor.Pat
/- Quoted strings and decimals in plain words. -/
namespace Go.Proofs.YtnccndfffmaonaaGreatDoor
open Go.RowKit

def hexA : ByteArray := ⟨#[48, 49, 50, 51, 52, 53, 54, 55, 56, 57, 97, 98, 99, 100, 101, 102]⟩
theorem hexA_size : hexA.size = 16 := rfl
def hxd (n : Nat) : UInt8 := hexA.data.toList.getD n 0
theorem hxd_get (a : Nat) (h : a < 16) : (ByteArray.mk #[48, 49, 50, 51, 52, 53, 54, 55, 56, 57, 97, 98, 99, 100, 101, 102])[a] = hxd a := by
  have : ∀ a : Fin 16, (ByteArray.mk #[48, 49, 50, 51, 52, 53, 54, 55, 56, 57, 97, 98, 99, 100, 101, 102])[a] = hxd a := by decide
  exact this ⟨a, h⟩
/-- A byte, quoted. -/
def qt1 (c : UInt8) : List UInt8 :=
  if c = 34 ∨ c = 92 then [92, c] else if c = 10 then [92, 110] else if 32 ≤ c ∧ c ≤ 126 then [c] else [92, 120, hxd (c.toNat / 16), hxd (c.toNat % 16)]
def qb (l : List UInt8) : List UInt8 := l.flatMap qt1
def quote (l : List UInt8) : List UInt8 := 34 :: (qb l ++ [34])
theorem qt1_len (c : UInt8) : (qt1 c).length ≤ 4 := by unfold qt1; split <;> (try split) <;> (try split) <;> simp
theorem qb_len (l : List UInt8) : (qb l).length ≤ 4 * l.length := by
  induction l with
  | nil => simp [qb]
  | cons a l ih =>
    have := qt1_len a
    simp only [qb, List.flatMap_cons, List.length_append, List.length_cons] at ih ⊢; omega

/-- What two digits make (for the lower-case hexadecimal digits: their value). -/
def ubI (a b : UInt8) : Int := IntKind.u8.wrap (bits BinOp.or IntKind.i64 (IntKind.i64.wrap (Lib.indexByte [48, 49, 50, 51, 52, 53, 54, 55, 56, 57, 97, 98, 99, 100, 101, 102] a * 16)) (Lib.indexByte [48, 49, 50, 51, 52, 53, 54, 55, 56, 57, 97, 98, 99, 100, 101, 102] b))
def ub (a b : UInt8) : UInt8 := (ubI a b).toNat.toUInt8
theorem ubI_eq (a b : UInt8) : ubI a b = ((ub a b).toNat : Int) := by
  have h : ∀ z : Int, 0 ≤ IntKind.u8.wrap z ∧ IntKind.u8.wrap z < 256 := by
    intro z
    have : IntKind.u8.wrap z = z % 256 := by simp [IntKind.wrap, IntKind.bits, IntKind.signed]
    omega
  have h2 := h (bits BinOp.or IntKind.i64 (IntKind.i64.wrap (Lib.indexByte [48, 49, 50, 51, 52, 53, 54, 55, 56, 57, 97, 98, 99, 100, 101, 102] a * 16)) (Lib.indexByte [48, 49, 50, 51, 52, 53, 54, 55, 56, 57, 97, 98, 99, 100, 101, 102] b))
  have h3 : 0 ≤ ubI a b ∧ ubI a b < 256 := h2
  unfold ub
  simp only [Nat.toUInt8, UInt8.toNat_ofNat']
  omega
/-- What a quoted string's inside reads as. -/
def raw : List UInt8 → List UInt8
  | 92 :: 110 :: r => 10 :: raw r
  | 92 :: 120 :: a :: b :: r => ub a b :: raw r
  | 92 :: c :: r => c :: raw r
  | a :: r => a :: raw r
  | [] => []
theorem raw_n (r : List UInt8) : raw (92 :: 110 :: r) = 10 :: raw r := by rw [raw]
theorem raw_x (a b : UInt8) (r : List UInt8) : raw (92 :: 120 :: a :: b :: r) = ub a b :: raw r := by rw [raw]
theorem raw_c (c : UInt8) (r : List UInt8) (h : c ≠ 110) (h2 : c ≠ 120 ∨ r.length < 2) : raw (92 :: c :: r) = c :: raw r := by
  rw [raw]
  · rintro rfl; exact h rfl
  · intro a b r' e1 e2
    subst e2
    rcases h2 with h2 | h2
    · exact h2 e1
    · simp only [List.length_cons] at h2; omega
theorem raw_a (a : UInt8) (r : List UInt8) (h : a ≠ 92 ∨ r = []) : raw (a :: r) = a :: raw r := by
  rcases h with h | h
  · rw [raw]
    · intro r' e1; exact absurd e1 h
    · intro x y r' e1; exact absurd e1 h
    · intro x r' e1; exact absurd e1 h
  · subst h
    rw [raw]
    · intro r' _ e; cases e
    · intro x y r' _ e; cases e
    · intro x r' _ e; cases e
/-- What Int reads. -/
def intOfB (l : List UInt8) : Option Int := match Lib.parseIntB 64 l with | .ok v => if Lib.itoa v = l then some v else none | _ => none

theorem parse_bd {l : List UInt8} {v : Int} (h : Lib.parseIntB 64 l = .ok v) : -9223372036854775808 ≤ v ∧ v ≤ 9223372036854775807 := by
  unfold Lib.parseIntB at h
  cases l with
  | nil => cases h
  | cons c r =>
    dsimp only at h
    split at h
    · cases h
    · cases h
    · rename_i u _
      split at h
      · cases h
      · split at h
        · cases h
        · rename_i h1 h2
          injection h with h
          by_cases hc : c.toNat = 45
          · rw [if_pos hc] at h
            have : u ≤ 2 ^ 63 := by
              apply Nat.le_of_not_lt; intro hh; exact h2 ⟨hc, hh⟩
            omega
          · rw [if_neg hc] at h
            have : u < 2 ^ 63 := by
              apply Nat.lt_of_not_le; intro hh; exact h1 ⟨hc, hh⟩
            omega
theorem parseUintM_append (M : Nat) : ∀ (l r : List UInt8) (acc a : Nat), Lib.parseUintM M acc l = .ok a → Lib.parseUintM M acc (l ++ r) = Lib.parseUintM M a r
  | [], r, acc, a, h => by rw [Lib.parseUintM] at h; injection h with h; subst h; rfl
  | c :: l, r, acc, a, h => by
    rw [List.cons_append, Lib.parseUintM]
    rw [Lib.parseUintM] at h
    split at h
    · rename_i h1
      rw [if_pos h1]
      split at h
      · cases h
      · rename_i h2
        rw [if_neg h2]
        split at h
        · cases h
        · rename_i h3
          rw [if_neg h3]
          exact parseUintM_append M l r _ a h
    · cases h
theorem dig_ofNat (d : Nat) (h : d < 10) : (UInt8.ofNat (48 + d)).toNat = 48 + d := by
  rw [UInt8.toNat_ofNat']; omega
theorem parse_dec (u : Nat) (h : u ≤ 18446744073709551615) : Lib.parseUintM 18446744073709551615 0 (Lib.decDigits u) = .ok u := by
  induction u using Nat.strongRecOn with
  | _ u ih =>
    rw [Lib.decDigits]
    split
    · rename_i h10
      rw [Lib.parseUintM, dig_ofNat u h10, if_pos (by omega), if_neg (by omega), if_neg (by omega), Lib.parseUintM]
      congr 1; omega
    · rename_i h10
      rw [parseUintM_append _ _ _ _ _ (ih (u / 10) (by omega) (by omega))]
      rw [Lib.parseUintM, dig_ofNat (u % 10) (by omega), if_pos (by omega), if_neg (by omega), if_neg (by omega), Lib.parseUintM]
      congr 1; omega
theorem dec_dig (u : Nat) : ∀ c ∈ Lib.decDigits u, 48 ≤ c.toNat ∧ c.toNat ≤ 57 := by
  induction u using Nat.strongRecOn with
  | _ u ih =>
    rw [Lib.decDigits]
    split
    · rename_i h10
      intro c hc
      obtain rfl := List.mem_singleton.1 hc
      rw [dig_ofNat u h10]; omega
    · rename_i h10
      intro c hc
      rcases List.mem_append.1 hc with hc | hc
      · exact ih _ (by omega) c hc
      · obtain rfl := List.mem_singleton.1 hc
        rw [dig_ofNat _ (by omega)]; omega
theorem dec_ne (u : Nat) : Lib.decDigits u ≠ [] := by
  rw [Lib.decDigits]; split <;> simp
theorem parse_itoa (n : Int) (h0 : -9223372036854775808 ≤ n) (h1 : n ≤ 9223372036854775807) : Lib.parseIntB 64 (Lib.itoa n) = .ok n := by
  by_cases hn : n < 0
  · rw [Lib.itoa, if_pos hn]
    have hp : Lib.parseUintB 64 (Lib.decDigits n.natAbs) = .ok n.natAbs := by
      rw [Lib.parseUintB, if_neg (dec_ne _), show 2 ^ 64 - 1 = 18446744073709551615 from rfl, parse_dec _ (by omega)]
    simp only [Lib.parseIntB]
    rw [if_pos (.inr (by decide)), hp]
    dsimp only
    rw [if_neg (by rintro ⟨h, -⟩; exact h (by decide)), if_neg (by rintro ⟨-, h⟩; omega), if_pos (by decide)]
    congr 1; omega
  · rw [Lib.itoa, if_neg hn]
    have hp : Lib.parseUintB 64 (Lib.decDigits n.toNat) = .ok n.toNat := by
      rw [Lib.parseUintB, if_neg (dec_ne _), show 2 ^ 64 - 1 = 18446744073709551615 from rfl, parse_dec _ (by omega)]
    have hd := dec_dig n.toNat
    cases hl : Lib.decDigits n.toNat with
    | nil => exact absurd hl (dec_ne _)
    | cons c r =>
      rw [hl] at hp hd
      have hc := hd c (List.mem_cons_self ..)
      simp only [Lib.parseIntB]
      rw [if_neg (by omega), hp]
      dsimp only
      rw [if_neg (by rintro ⟨-, h⟩; omega), if_neg (by rintro ⟨h, -⟩; omega), if_neg (by omega)]
      congr 1; omega
theorem intOfB_itoa (n : Int) (h0 : -9223372036854775808 ≤ n) (h1 : n ≤ 9223372036854775807) : intOfB (Lib.itoa n) = some n := by
  rw [intOfB, parse_itoa n h0 h1]
  exact if_pos rfl

theorem intOfB_back {l : List UInt8} {v : Int} (h : intOfB l = some v) : Lib.itoa v = l := by
  unfold intOfB at h
  cases hp : Lib.parseIntB 64 l with
  | ok u =>
    rw [hp] at h; dsimp only at h
    split at h
    · rename_i he; injection h with h; subst h; exact he
    · cases h
  | «syntax» => rw [hp] at h; cases h
  | range => rw [hp] at h; cases h
theorem intOfB_bd {l : List UInt8} {v : Int} (h : intOfB l = some v) : -9223372036854775808 ≤ v ∧ v ≤ 9223372036854775807 := by
  unfold intOfB at h
  cases hp : Lib.parseIntB 64 l with
  | ok u =>
    rw [hp] at h; dsimp only at h
    split at h
    · injection h with h; subst h; exact parse_bd hp
    · cases h
  | «syntax» => rw [hp] at h; cases h
  | range => rw [hp] at h; cases h

theorem ub_all : (List.range 256).all (fun n => ub (hxd (n / 16)) (hxd (n % 16)) == UInt8.ofNat n) = true := by decide +kernel
theorem ub_hx (c : UInt8) : ub (hxd (c.toNat / 16)) (hxd (c.toNat % 16)) = c := by
  have h := List.all_eq_true.1 ub_all c.toNat (List.mem_range.2 c.toNat_lt)
  rw [beq_iff_eq] at h
  rw [h, UInt8.ofNat_toNat]
theorem raw_qb (l : List UInt8) : raw (qb l) = l := by
  induction l with
  | nil => rfl
  | cons c l ih =>
    show raw (qt1 c ++ qb l) = _
    unfold qt1
    split
    · rename_i h
      show raw (92 :: c :: qb l) = _
      rw [raw_c, ih]
      · rcases h with rfl | rfl <;> decide
      · left; rcases h with rfl | rfl <;> decide
    · rename_i h
      split
      · rename_i h; subst h; show raw (92 :: 110 :: qb l) = _; rw [raw_n, ih]
      · split
        · show raw (c :: qb l) = _
          rw [raw_a, ih]
          left; intro e; exact h (.inr e)
        · show raw (92 :: 120 :: _ :: _ :: qb l) = _
          rw [raw_x, ih, ub_hx]
end Go.Proofs.YtnccndfffmaonaaGreatDoor
/- The floor language's tokens in plain words, and what the laws of layer 9 say of them. -/
namespace Go.Proofs.YtnccndfffmaonaaGreatDoor
namespace Lx

def letter (c : UInt8) : Bool := c == 95 || (decide (97 ≤ c) && decide (c ≤ 122)) || (decide (65 ≤ c) && decide (c ≤ 90))
def digit (c : UInt8) : Bool := decide (48 ≤ c) && decide (c ≤ 57)
def part (c : UInt8) : Bool := letter c || digit c || c == 45
def word (l : List UInt8) : Bool := l.all part && decide (1 ≤ l.length) && decide (l.length ≤ 20) && letter (l.headD 0)
def white (c : UInt8) : Bool := c == 32 || c == 9 || c == 13
structure Tok where
  kind : Nat
  text : List UInt8
  n : Int
  line : Nat
/-- A word or a number. -/
def tokW (w : List UInt8) : Except Nat (Nat × List UInt8 × Int) :=
  if digit (w.headD 0) then
    if w.all digit then
      if 1 < w.length ∧ w.headD 0 = 48 then .error 11
      else match intOfB w with | some n => .ok (1, w, n) | none => .error 3
    else .error 11
  else if word w then .ok (0, w, 0) else .error 11
/-- White bytes and comments (true: within a comment). -/
def skip : Bool → List UInt8 → List UInt8
  | _, [] => []
  | true, c :: r => if c = 10 then c :: r else skip true r
  | false, c :: r => if white c then skip false r else if c = 35 then skip true r else c :: r
/-- What stands before the closing quote, and what behind it. -/
def qscan : List UInt8 → Option (List UInt8 × List UInt8)
  | [] => none
  | 34 :: r => some ([], r)
  | 92 :: c :: r => (qscan r).map fun x => (92 :: c :: x.1, x.2)
  | [92] => none
  | c :: r => (qscan r).map fun x => (c :: x.1, x.2)
inductive Step where
  | done
  | bad (e : Nat)
  | tok (k : Nat) (t : List UInt8) (n : Int) (rest : List UInt8)
def step : List UInt8 → Step
  | [] => .done
  | c :: r =>
    if letter c || digit c then
      match tokW ((c :: r).takeWhile part) with
      | .error e => .bad e
      | .ok x => .tok x.1 x.2.1 x.2.2 ((c :: r).dropWhile part)
    else if c = 34 then
      match qscan r with
      | none => .bad 11
      | some x => if quote (raw x.1) = 34 :: (x.1 ++ [34]) then .tok 2 (raw x.1) 0 x.2 else .bad 11
    else if c = 10 then .tok 3 [] 0 r
    else .bad 11
def nl (k ln : Nat) : Nat := if k = 3 then ln + 1 else ln
def pre (x : Tok) : Except (Nat × Nat) (List Tok) → Except (Nat × Nat) (List Tok)
  | .ok ts => .ok (x :: ts)
  | .error e => .error e
def go : Nat → List UInt8 → Nat → Except (Nat × Nat) (List Tok)
  | 0, _, ln => .error (0, ln)
  | f + 1, l, ln =>
    match step (skip false l) with
    | .done => .ok [⟨4, [], 0, ln⟩]
    | .bad e => .error (e, ln)
    | .tok k t n rest => pre ⟨k, t, n, ln⟩ (go f rest (nl k ln))
def lex (l : List UInt8) (ln : Nat) : Except (Nat × Nat) (List Tok) := go (l.length + 1) l ln

/-! ### Bytes -/
theorem digit_part {c : UInt8} (h : digit c = true) : part c = true := by simp [part, h]
theorem letter_part {c : UInt8} (h : letter c = true) : part c = true := by simp [part, h]
theorem letter_not_digit {c : UInt8} (h : letter c = true) : digit c = false := by
  have : (List.range 256).all (fun n => !(letter (UInt8.ofNat n)) || !(digit (UInt8.ofNat n))) = true := by decide +kernel
  have h2 := List.all_eq_true.1 this c.toNat (List.mem_range.2 c.toNat_lt)
  rw [UInt8.ofNat_toNat, h] at h2
  simpa using h2
theorem part_not_white {c : UInt8} (h : part c = true) : white c = false ∧ c ≠ 35 ∧ c ≠ 10 ∧ c ≠ 34 := by
  have : (List.range 256).all (fun n => !(part (UInt8.ofNat n)) || (!(white (UInt8.ofNat n)) && UInt8.ofNat n != 35 && UInt8.ofNat n != 10 && UInt8.ofNat n != 34)) = true := by decide +kernel
  have h2 := List.all_eq_true.1 this c.toNat (List.mem_range.2 c.toNat_lt)
  rw [UInt8.ofNat_toNat, h] at h2
  simpa [and_assoc] using h2

/-! ### Lists -/
theorem tw_append {p : UInt8 → Bool} (l : List UInt8) (x : UInt8) (t : List UInt8) (h : p x = false) : (l ++ x :: t).takeWhile p = l.takeWhile p := by
  induction l with
  | nil => simp [h]
  | cons a l ih => rw [List.cons_append, List.takeWhile_cons, List.takeWhile_cons, ih]
theorem dw_append {p : UInt8 → Bool} (l : List UInt8) (x : UInt8) (t : List UInt8) (h : p x = false) : (l ++ x :: t).dropWhile p = l.dropWhile p ++ x :: t := by
  induction l with
  | nil => simp [h]
  | cons a l ih =>
    rw [List.cons_append, List.dropWhile_cons, List.dropWhile_cons, ih]; split <;> rfl
theorem tw_all {p : UInt8 → Bool} (l : List UInt8) (h : l.all p = true) : l.takeWhile p = l ∧ l.dropWhile p = [] := by
  induction l with
  | nil => exact ⟨rfl, rfl⟩
  | cons a l ih =>
    simp only [List.all_cons, Bool.and_eq_true] at h
    rw [List.takeWhile_cons, List.dropWhile_cons, if_pos h.1, if_pos h.1, (ih h.2).1, (ih h.2).2]; exact ⟨rfl, rfl⟩
theorem dw_len {p : UInt8 → Bool} (l : List UInt8) : (l.dropWhile p).length ≤ l.length := by
  induction l with
  | nil => simp
  | cons a l ih =>
    rw [List.dropWhile_cons]; split
    · rw [List.length_cons]; omega
    · simp
theorem tw_dw_len {p : UInt8 → Bool} (l : List UInt8) : (l.takeWhile p).length + (l.dropWhile p).length = l.length := by
  have := congrArg List.length (List.takeWhile_append_dropWhile (p := p) (l := l))
  rwa [List.length_append] at this

/-! ### The scan of a quoted string -/
theorem q_quote (r : List UInt8) : qscan (34 :: r) = some ([], r) := by rw [qscan]
theorem q_back (c : UInt8) (r : List UInt8) : qscan (92 :: c :: r) = (qscan r).map fun x => (92 :: c :: x.1, x.2) := by rw [qscan]
theorem q_last : qscan [92] = none := by rw [qscan]
theorem q_else (c : UInt8) (r : List UInt8) (h1 : c ≠ 34) (h2 : c ≠ 92) : qscan (c :: r) = (qscan r).map fun x => (c :: x.1, x.2) := by
  rw [qscan]
  · exact h1
  · intro a b e1; exact absurd e1 h2
  · intro e1; exact absurd e1 h2
theorem qscan_append (t : List UInt8) : ∀ (f : Nat) (l b r : List UInt8), l.length ≤ f → qscan l = some (b, r) → qscan (l ++ t) = some (b, r ++ t) := by
  intro f
  induction f with
  | zero =>
    intro l b r hl h
    obtain rfl : l = [] := List.eq_nil_of_length_eq_zero (by omega)
    cases h
  | succ f ih =>
    intro l b r hl h
    cases l with
    | nil => cases h
    | cons c l =>
      by_cases h34 : c = 34
      · subst h34; rw [q_quote] at h; injection h with h; injection h with h1 h2; subst h1; subst h2
        rw [List.cons_append, q_quote]
      · by_cases h92 : c = 92
        · subst h92
          cases l with
          | nil => rw [q_last] at h; cases h
          | cons d l =>
            rw [q_back] at h
            cases hq : qscan l with
            | none => rw [hq] at h; cases h
            | some x =>
              rw [hq] at h; injection h with h; injection h with h1 h2; subst h1; subst h2
              rw [List.cons_append, List.cons_append, q_back, ih l x.1 x.2 (by simp at hl; omega) hq]; rfl
        · rw [q_else c l h34 h92] at h
          cases hq : qscan l with
          | none => rw [hq] at h; cases h
          | some x =>
            rw [hq] at h; injection h with h; injection h with h1 h2; subst h1; subst h2
            rw [List.cons_append, q_else c _ h34 h92, ih l x.1 x.2 (by simp at hl; omega) hq]; rfl
theorem qscan_len : ∀ (f : Nat) (l b r : List UInt8), l.length ≤ f → qscan l = some (b, r) → l.length = b.length + 1 + r.length := by
  intro f
  induction f with
  | zero =>
    intro l b r hl h
    obtain rfl : l = [] := List.eq_nil_of_length_eq_zero (by omega)
    cases h
  | succ f ih =>
    intro l b r hl h
    cases l with
    | nil => cases h
    | cons c l =>
      by_cases h34 : c = 34
      · subst h34; rw [q_quote] at h; injection h with h; injection h with h1 h2; subst h1; subst h2
        simp; omega
      · by_cases h92 : c = 92
        · subst h92
          cases l with
          | nil => rw [q_last] at h; cases h
          | cons d l =>
            rw [q_back] at h
            cases hq : qscan l with
            | none => rw [hq] at h; cases h
            | some x =>
              rw [hq] at h; injection h with h; injection h with h1 h2; subst h1; subst h2
              have := ih l x.1 x.2 (by simp at hl; omega) hq
              simp; omega
        · rw [q_else c l h34 h92] at h
          cases hq : qscan l with
          | none => rw [hq] at h; cases h
          | some x =>
            rw [hq] at h; injection h with h; injection h with h1 h2; subst h1; subst h2
            have := ih l x.1 x.2 (by simp at hl; omega) hq
            simp; omega
theorem qscan_qt1 (c : UInt8) (t : List UInt8) : qscan (qt1 c ++ t) = (qscan t).map fun x => (qt1 c ++ x.1, x.2) := by
  unfold qt1
  split
  · exact q_back c t
  · rename_i h
    split
    · exact q_back 110 t
    · split
      · show qscan (c :: t) = _
        rw [q_else]
        · rfl
        · intro e; exact h (.inl e)
        · intro e; exact h (.inr e)
      · show qscan (92 :: 120 :: hxd (c.toNat / 16) :: hxd (c.toNat % 16) :: t) = _
        have hx : ∀ d : Nat, d < 16 → hxd d ≠ 34 ∧ hxd d ≠ 92 := by decide
        have hb := c.toNat_lt
        rw [q_back, q_else _ _ (hx (c.toNat / 16) (by omega)).1 (hx _ (by omega)).2, q_else _ _ (hx (c.toNat % 16) (by omega)).1 (hx _ (by omega)).2]
        cases qscan t <;> rfl
theorem qscan_qb (s t : List UInt8) : qscan (qb s ++ 34 :: t) = some (qb s, t) := by
  induction s with
  | nil => exact q_quote t
  | cons c s ih =>
    show qscan (qt1 c ++ qb s ++ 34 :: t) = _
    rw [List.append_assoc, qscan_qt1, ih]; rfl

/-! ### Steps -/
theorem skip_len (b : Bool) (l : List UInt8) : (skip b l).length ≤ l.length := by
  induction l generalizing b with
  | nil => cases b <;> simp [skip]
  | cons c l ih =>
    cases b
    · rw [skip]; split
      · have := ih false; rw [List.length_cons]; omega
      · split
        · have := ih true; rw [List.length_cons]; omega
        · simp
    · rw [skip]; split
      · simp
      · have := ih true; rw [List.length_cons]; omega
theorem step_len {l : List UInt8} {k : Nat} {t : List UInt8} {n : Int} {rest : List UInt8} (h : step l = .tok k t n rest) : rest.length < l.length := by
  cases l with
  | nil => cases h
  | cons c r =>
    rw [step] at h
    split at h
    · rename_i hc
      split at h
      · cases h
      · injection h with _ _ _ h; subst h
        have hp : part c = true := by
          rcases Bool.or_eq_true .. ▸ hc with hc | hc
          · exact letter_part hc
          · exact digit_part hc
        rw [List.dropWhile_cons, if_pos hp, List.length_cons]
        have := dw_len (p := part) r; omega
    · split at h
      · split at h
        · cases h
        · rename_i x hq
          split at h
          · injection h with _ _ _ h; subst h
            have := qscan_len _ r x.1 x.2 (Nat.le_refl _) hq
            rw [List.length_cons]; omega
          · cases h
      · split at h
        · injection h with _ _ _ h; subst h; simp
        · cases h
theorem go_fuel : ∀ (f f' : Nat) (l : List UInt8) (ln : Nat), l.length < f → l.length < f' → go f l ln = go f' l ln := by
  intro f
  induction f with
  | zero => intro f' l ln h; omega
  | succ f ih =>
    intro f' l ln h h'
    cases f' with
    | zero => omega
    | succ f' =>
      rw [go, go]
      split
      · rfl
      · rfl
      · rename_i k t n rest hs
        have h1 := step_len hs
        have h2 := skip_len false l
        rw [ih f' rest _ (by omega) (by omega)]
def out (r : Step) (ln : Nat) (next : List UInt8 → Nat → Except (Nat × Nat) (List Tok)) : Except (Nat × Nat) (List Tok) :=
  match r with
  | .done => .ok [⟨4, [], 0, ln⟩]
  | .bad e => .error (e, ln)
  | .tok k t n rest => pre ⟨k, t, n, ln⟩ (next rest (nl k ln))
theorem lex_eq (l : List UInt8) (ln : Nat) : lex l ln = out (step (skip false l)) ln lex := by
  unfold lex
  rw [go]
  unfold out
  cases hs : step (skip false l) with
  | done => rfl
  | bad e => rfl
  | tok k t n rest =>
    dsimp only
    have h1 := step_len hs
    have h2 := skip_len false l
    rw [go_fuel l.length (rest.length + 1) rest _ (by omega) (by omega)]
theorem lex_done {l : List UInt8} (ln : Nat) (h : step (skip false l) = .done) : lex l ln = .ok [⟨4, [], 0, ln⟩] := by rw [lex_eq, h]; rfl
theorem lex_bad {l : List UInt8} {e : Nat} (ln : Nat) (h : step (skip false l) = .bad e) : lex l ln = .error (e, ln) := by rw [lex_eq, h]; rfl
theorem lex_tok {l : List UInt8} {k : Nat} {t : List UInt8} {n : Int} {rest : List UInt8} (ln : Nat) (h : step (skip false l) = .tok k t n rest) : lex l ln = pre ⟨k, t, n, ln⟩ (lex rest (nl k ln)) := by rw [lex_eq, h]; rfl

/-! ### A text behind -/
theorem skip_append (t : List UInt8) (ht : skip true t = skip false t) : ∀ (b : Bool) (l : List UInt8), skip b (l ++ t) = if skip b l = [] then skip false t else skip b l ++ t := by
  intro b l
  induction l generalizing b with
  | nil => cases b <;> simp [skip, ht]
  | cons c l ih =>
    rw [List.cons_append]
    cases b
    · rw [skip, skip]; split
      · exact ih false
      · split
        · exact ih true
        · simp
    · rw [skip, skip]; split
      · simp
      · exact ih true
theorem step_append {l : List UInt8} {k : Nat} {tx : List UInt8} {n : Int} {rest : List UInt8} (x : UInt8) (t : List UInt8) (hx : part x = false) (h : step l = .tok k tx n rest) : step (l ++ x :: t) = .tok k tx n (rest ++ x :: t) := by
  cases l with
  | nil => cases h
  | cons c r =>
    rw [List.cons_append, step]
    rw [step] at h
    split at h
    · rename_i hc
      rw [if_pos hc, ← List.cons_append, tw_append _ _ _ hx, dw_append _ _ _ hx]
      split at h
      · cases h
      · rename_i y hy
        injection h with h1 h2 h3 h4
        subst h1; subst h2; subst h3; subst h4
        rfl
    · rename_i hc
      rw [if_neg hc]
      split at h
      · rename_i h34
        rw [if_pos h34]
        split at h
        · cases h
        · rename_i y hq
          rw [qscan_append (x :: t) _ r y.1 y.2 (Nat.le_refl _) hq]
          split at h
          · rename_i hqq
            injection h with h1 h2 h3 h4
            subst h1; subst h2; subst h3; subst h4
            dsimp only
            rw [if_pos hqq]
          · cases h
      · rename_i h34
        rw [if_neg h34]
        split at h
        · rename_i h10
          rw [if_pos h10]
          injection h with h1 h2 h3 h4
          subst h1; subst h2; subst h3; subst h4
          rfl
        · cases h
/-- A text behind one that has tokens: it is lexed where the end stood. -/
theorem lex_append (x : UInt8) (t : List UInt8) (hx : part x = false) (ht : skip true (x :: t) = skip false (x :: t)) :
    ∀ (f : Nat) (l : List UInt8) (ln : Nat) (ts : List Tok), l.length < f → lex l ln = .ok ts →
    ∃ front m, ts = front ++ [⟨4, [], 0, m⟩] ∧ ln ≤ m ∧ lex (l ++ x :: t) ln = match lex (x :: t) m with | .ok us => .ok (front ++ us) | .error e => .error e := by
  intro f
  induction f with
  | zero => intro l ln ts h; omega
  | succ f ih =>
    intro l ln ts hl h
    have hsk := skip_append (x :: t) ht false l
    cases hs : step (skip false l) with
    | done =>
      have he : skip false l = [] := by
        cases hk : skip false l with
        | nil => rfl
        | cons c r =>
          rw [hk, step] at hs
          split at hs
          · split at hs <;> cases hs
          · split at hs
            · split at hs
              · cases hs
              · split at hs <;> cases hs
            · split at hs <;> cases hs
      rw [lex_done ln hs] at h
      injection h with h
      refine ⟨[], ln, by rw [← h]; rfl, Nat.le_refl _, ?_⟩
      rw [if_pos he] at hsk
      rw [lex_eq, hsk, ← lex_eq]
      cases lex (x :: t) ln <;> rfl
    | bad e => rw [lex_bad ln hs] at h; cases h
    | tok k tx n rest =>
      rw [lex_tok ln hs] at h
      have h1 := step_len hs
      have h2 := skip_len false l
      cases hr : lex rest (nl k ln) with
      | error e => rw [hr] at h; cases h
      | ok us =>
        rw [hr] at h
        injection h with h
        obtain ⟨front, m, hf, hm, hj⟩ := ih rest (nl k ln) us (by omega) hr
        refine ⟨⟨k, tx, n, ln⟩ :: front, m, by rw [← h, hf]; rfl, ?_, ?_⟩
        · have : ln ≤ nl k ln := by unfold nl; split <;> omega
          omega
        · have hne : skip false l ≠ [] := by intro e; rw [e] at hs; cases hs
          rw [if_neg hne] at hsk
          have hs2 : step (skip false (l ++ x :: t)) = .tok k tx n (rest ++ x :: t) := by rw [hsk]; exact step_append x t hx hs
          rw [lex_tok ln hs2, hj]
          cases lex (x :: t) m <;> rfl
theorem skip_white (b : List UInt8) (l : List UInt8) (h : b.all white = true) : skip false (b ++ l) = skip false l := by
  induction b with
  | nil => rfl
  | cons c b ih =>
    simp only [List.all_cons, Bool.and_eq_true] at h
    rw [List.cons_append, skip, if_pos h.1, ih h.2]
theorem lex_white (b : List UInt8) (l : List UInt8) (ln : Nat) (h : b.all white = true) : lex (b ++ l) ln = lex l ln := by
  rw [lex_eq, skip_white b l h, ← lex_eq]
theorem skip_comment (l : List UInt8) (h : ∀ c ∈ l, c ≠ 10) : skip true l = [] := by
  induction l with
  | nil => rfl
  | cons c l ih =>
    rw [skip, if_neg (h c (List.mem_cons_self ..)), ih (fun d hd => h d (List.mem_cons_of_mem _ hd))]
/-- White bytes before and behind, and a comment, change nothing. -/
theorem lex_whites (w : List UInt8) (src cm : List UInt8) (ts : List Tok) (hw : w.all white = true) (hne : w ≠ []) (hc : ∀ c ∈ cm, c ≠ 10) (h : lex src 1 = .ok ts) :
    lex (w ++ (src ++ (w ++ 35 :: cm))) 1 = .ok ts := by
  rw [lex_white _ _ _ hw]
  cases w with
  | nil => exact absurd rfl hne
  | cons x w =>
    have hx : white x = true := by simp only [List.all_cons, Bool.and_eq_true] at hw; exact hw.1
    have hpx : part x = false := by
      cases hp : part x with
      | false => rfl
      | true => have := (part_not_white hp).1; rw [hx] at this; cases this
    have hf : skip false ((x :: w) ++ 35 :: cm) = [] := by
      rw [skip_white _ _ hw, skip, if_neg (by decide), if_pos rfl, skip_comment cm hc]
    have hn : ∀ c ∈ (x :: w) ++ 35 :: cm, c ≠ 10 := by
      intro c hm
      rcases List.mem_append.1 hm with hm | hm
      · have := List.all_eq_true.1 hw c hm
        rintro rfl; revert this; decide
      · rcases List.mem_cons.1 hm with rfl | hm
        · decide
        · exact hc c hm
    have ht : skip true ((x :: w) ++ 35 :: cm) = [] := skip_comment _ hn
    obtain ⟨front, m, hfr, _, hj⟩ := lex_append x (w ++ 35 :: cm) hpx (by rw [← List.cons_append, ht, hf]) _ src 1 ts (Nat.lt_succ_self _) h
    have he : lex (x :: (w ++ 35 :: cm)) m = .ok [⟨4, [], 0, m⟩] := lex_done m (by rw [← List.cons_append, hf]; rfl)
    rw [he] at hj
    rw [List.cons_append, hj, hfr]
/-- Lines. -/
def later (d : Nat) (t : Tok) : Tok := { t with line := t.line + d }
theorem nl_add (k ln d : Nat) : nl k (ln + d) = nl k ln + d := by unfold nl; split <;> omega
theorem lex_later (d : Nat) : ∀ (f : Nat) (l : List UInt8) (ln : Nat), l.length < f → lex l (ln + d) = match lex l ln with | .ok ts => .ok (ts.map (later d)) | .error e => .error (e.1, e.2 + d) := by
  intro f
  induction f with
  | zero => intro l ln h; omega
  | succ f ih =>
    intro l ln hl
    cases hs : step (skip false l) with
    | done => rw [lex_done _ hs, lex_done _ hs]; rfl
    | bad e => rw [lex_bad _ hs, lex_bad _ hs]
    | tok k tx n rest =>
      have h1 := step_len hs
      have h2 := skip_len false l
      rw [lex_tok _ hs, lex_tok _ hs, nl_add, ih rest (nl k ln) (by omega)]
      cases lex rest (nl k ln) <;> rfl
theorem step_lf (l : List UInt8) : step (skip false (10 :: l)) = .tok 3 [] 0 l := by
  rw [skip, if_neg (by decide), if_neg (by decide), step, if_neg (by decide), if_neg (by decide), if_pos rfl]
/-- With an LF between them. -/
theorem lex_joins (a b : List UInt8) (x : List Tok) (h : lex a 1 = .ok x) : ∃ front m, x = front ++ [⟨4, [], 0, m⟩] ∧ 1 ≤ m ∧
    lex (a ++ 10 :: b) 1 = match lex b 1 with | .ok ts => .ok (front ++ ⟨3, [], 0, m⟩ :: ts.map (later m)) | .error e => .error (e.1, e.2 + m) := by
  obtain ⟨front, m, hf, hm, hj⟩ := lex_append 10 b (by decide) (by rw [skip, skip, if_pos rfl, if_neg (by decide), if_neg (by decide)]) _ a 1 x (Nat.lt_succ_self _) h
  refine ⟨front, m, hf, hm, ?_⟩
  rw [hj, lex_tok m (step_lf b), show nl 3 m = 1 + m by unfold nl; rw [if_pos rfl]; omega, lex_later m _ b 1 (Nat.lt_succ_self _)]
  cases lex b 1 <;> rfl

/-! ### Written tokens -/
theorem dec_head (u : Nat) (h : 1 ≤ u) : (Lib.decDigits u).headD 0 ≠ 48 := by
  induction u using Nat.strongRecOn with
  | _ u ih =>
    rw [Lib.decDigits]
    split
    · rename_i h10
      intro e
      have := congrArg UInt8.toNat (show UInt8.ofNat (48 + u) = 48 from e)
      rw [dig_ofNat u h10] at this
      have h48 : (48 : UInt8).toNat = 48 := rfl
      omega
    · rename_i h10
      cases hd : Lib.decDigits (u / 10) with
      | nil => exact absurd hd (dec_ne _)
      | cons c r =>
        have := ih (u / 10) (by omega) (by omega)
        rw [hd] at this; exact this
theorem dec_all (u : Nat) : (Lib.decDigits u).all digit = true := by
  rw [List.all_eq_true]
  intro c hc
  have := dec_dig u c hc
  unfold digit
  rw [Bool.and_eq_true, decide_eq_true_iff, decide_eq_true_iff, UInt8.le_iff_toNat_le, UInt8.le_iff_toNat_le]
  exact this
theorem all_mono {p q : UInt8 → Bool} {l : List UInt8} (h : ∀ c, p c = true → q c = true) (hl : l.all p = true) : l.all q = true := by
  rw [List.all_eq_true] at hl ⊢; exact fun c hc => h c (hl c hc)
theorem tokW_num (n : Int) (h0 : 0 ≤ n) (h1 : n ≤ 9223372036854775807) : tokW (Lib.itoa n) = .ok (1, Lib.itoa n, n) := by
  have hi := intOfB_itoa n (by omega) h1
  have he : Lib.itoa n = Lib.decDigits n.toNat := by rw [Lib.itoa, if_neg (by omega)]
  have hd := dec_all n.toNat
  rw [← he] at hd
  unfold tokW
  cases hl : Lib.itoa n with
  | nil => exact absurd (he.symm.trans hl) (dec_ne _)
  | cons c r =>
    rw [hl] at hd hi
    have hc : digit ((c :: r).headD 0) = true := by simp only [List.all_cons, Bool.and_eq_true] at hd; exact hd.1
    rw [if_pos hc, if_pos hd, if_neg, hi]
    rintro ⟨hlen, h48⟩
    by_cases hz : n = 0
    · subst hz
      have : Lib.itoa 0 = [48] := by decide +kernel
      rw [this] at hl; injection hl with _ hr; subst hr; simp at hlen
    · refine dec_head n.toNat (by omega) ?_
      rw [← he, hl]; exact h48
theorem tokW_word (w : List UInt8) (h : word w = true) : tokW w = .ok (0, w, 0) := by
  have h2 := h
  unfold word at h2
  simp only [Bool.and_eq_true] at h2
  unfold tokW
  rw [if_neg (by rw [letter_not_digit h2.2]; simp), if_pos h]
/-- What is a token of a source. -/
def Good (t : Tok) : Prop :=
  (t.kind = 0 ∧ word t.text = true ∧ t.n = 0) ∨ (t.kind = 1 ∧ 0 ≤ t.n ∧ t.n ≤ 9223372036854775807 ∧ t.text = Lib.itoa t.n) ∨ (t.kind = 2 ∧ t.n = 0) ∨ (t.kind = 3 ∧ t.text = [] ∧ t.n = 0)
inductive Goods : Nat → List Tok → Prop where
  | fin (ln : Nat) : Goods ln [⟨4, [], 0, ln⟩]
  | tok (ln : Nat) (t : Tok) (ts : List Tok) : t.line = ln → Good t → Goods (nl t.kind ln) ts → Goods ln (t :: ts)
def write1 (t : Tok) : List UInt8 :=
  if t.kind = 0 ∨ t.kind = 1 then t.text ++ [32] else if t.kind = 2 then quote t.text ++ [32] else if t.kind = 3 then [10] else []
def write (ts : List Tok) : List UInt8 := ts.flatMap write1
theorem tokW_good {w t : List UInt8} {k : Nat} {n : Int} (h : tokW w = .ok (k, t, n)) : t = w ∧ (∀ ln, Good ⟨k, t, n, ln⟩) ∧ w ≠ [] := by
  unfold tokW at h
  split at h
  · rename_i hd
    split at h
    · rename_i ha
      split at h
      · cases h
      · split at h
        · rename_i m hm
          injection h with h; injection h with h1 h; injection h with h2 h3
          subst h1; subst h2; subst h3
          refine ⟨rfl, fun ln => .inr (.inl ⟨rfl, ?_⟩), by rintro rfl; revert hd; decide⟩
          unfold intOfB at hm
          cases hp : Lib.parseIntB 64 w with
          | ok v =>
            rw [hp] at hm; dsimp only at hm
            split at hm
            · rename_i he
              injection hm with hm; subst hm
              have hb : -9223372036854775808 ≤ v ∧ v ≤ 9223372036854775807 := parse_bd hp
              refine ⟨?_, hb.2, he.symm⟩
              rcases Int.lt_or_le v 0 with hv | hv
              · rw [Lib.itoa, if_pos hv] at he
                rw [← he] at hd; exact absurd (show digit 45 = true from hd) (by decide)
              · exact hv
            · cases hm
          | «syntax» => rw [hp] at hm; cases hm
          | range => rw [hp] at hm; cases hm
        · cases h
    · cases h
  · split at h
    · rename_i hw
      injection h with h; injection h with h1 h; injection h with h2 h3
      subst h1; subst h2; subst h3
      exact ⟨rfl, fun ln => .inl ⟨rfl, hw, rfl⟩, by rintro rfl; revert hw; decide⟩
    · cases h
theorem step_good {l : List UInt8} {k : Nat} {t : List UInt8} {n : Int} {rest : List UInt8} (h : step l = .tok k t n rest) : (∀ ln, Good ⟨k, t, n, ln⟩) ∧ (∀ ln, (write1 ⟨k, t, n, ln⟩).length + 2 * rest.length ≤ 2 * l.length) := by
  cases l with
  | nil => cases h
  | cons c r =>
    rw [step] at h
    split at h
    · rename_i hc
      split at h
      · cases h
      · rename_i x hx
        obtain ⟨k', t', n'⟩ := x
        injection h with h1 h2 h3 h4
        dsimp only at h1 h2 h3
        subst h1; subst h2; subst h3; subst h4
        obtain ⟨ht, hg, hn⟩ := tokW_good hx
        refine ⟨hg, fun ln => ?_⟩
        have hlen := tw_dw_len (p := part) (c :: r)
        have hpos : 0 < ((c :: r).takeWhile part).length := List.length_pos_iff.2 hn
        have hk : k' = 0 ∨ k' = 1 := by
          unfold tokW at hx
          split at hx
          · split at hx
            · split at hx
              · cases hx
              · split at hx
                · injection hx with hx; injection hx with h1; right; exact h1.symm
                · cases hx
            · cases hx
          · split at hx
            · injection hx with hx; injection hx with h1; left; exact h1.symm
            · cases hx
        unfold write1
        rw [if_pos hk]
        subst ht
        simp only [List.length_append, List.length_cons, List.length_nil] at *
        omega
    · split at h
      · split at h
        · cases h
        · rename_i x hq
          split at h
          · rename_i hqq
            injection h with h1 h2 h3 h4
            subst h1; subst h2; subst h3; subst h4
            refine ⟨fun ln => .inr (.inr (.inl ⟨rfl, rfl⟩)), fun ln => ?_⟩
            have hlen := qscan_len _ r x.1 x.2 (Nat.le_refl _) hq
            unfold write1
            rw [if_neg (by simp), if_pos rfl]
            show (quote (raw x.1) ++ [32]).length + _ ≤ _
            rw [hqq]
            simp only [List.length_append, List.length_cons, List.length_nil] at *
            omega
          · cases h
      · split at h
        · injection h with h1 h2 h3 h4
          subst h1; subst h2; subst h3; subst h4
          refine ⟨fun ln => .inr (.inr (.inr ⟨rfl, rfl, rfl⟩)), fun ln => ?_⟩
          simp [write1]; omega
        · cases h
theorem lex_good : ∀ (f : Nat) (l : List UInt8) (ln : Nat) (ts : List Tok), l.length < f → lex l ln = .ok ts → Goods ln ts ∧ (write ts).length ≤ 2 * l.length := by
  intro f
  induction f with
  | zero => intro l ln ts h; omega
  | succ f ih =>
    intro l ln ts hl h
    cases hs : step (skip false l) with
    | done =>
      rw [lex_done _ hs] at h
      injection h with h; subst h
      exact ⟨.fin ln, by simp [write, write1]⟩
    | bad e => rw [lex_bad _ hs] at h; cases h
    | tok k tx n rest =>
      have h1 := step_len hs
      have h2 := skip_len false l
      rw [lex_tok _ hs] at h
      cases hr : lex rest (nl k ln) with
      | error e => rw [hr] at h; cases h
      | ok us =>
        rw [hr] at h
        injection h with h; subst h
        obtain ⟨hg, hw⟩ := ih rest (nl k ln) us (by omega) hr
        obtain ⟨h3, h4⟩ := step_good hs
        refine ⟨.tok ln _ us rfl (h3 ln) hg, ?_⟩
        have := h4 ln
        show (write1 ⟨k, tx, n, ln⟩ ++ write us).length ≤ _
        rw [List.length_append]; omega
theorem step_write (t : Tok) (h : Good t) (r : List UInt8) : step (skip false (write1 t ++ r)) = .tok t.kind t.text t.n (if t.kind = 3 then r else 32 :: r) := by
  obtain ⟨k, tx, n, ln⟩ := t
  rcases h with ⟨hk, hw, hn⟩ | ⟨hk, hn0, hn1, ht⟩ | ⟨hk, hn⟩ | ⟨hk, ht, hn⟩ <;> dsimp only at *
  · subst hk; subst hn
    have h2 := hw
    unfold word at h2
    simp only [Bool.and_eq_true] at h2
    obtain ⟨⟨⟨ha, _⟩, _⟩, hlt⟩ := h2
    rw [if_neg (by decide), write1, if_pos (.inl rfl)]
    cases tx with
    | nil => exact absurd hw (by decide)
    | cons c tx =>
      have hc : letter c = true := hlt
      have hp := part_not_white (letter_part hc)
      dsimp only
      rw [List.append_assoc, List.cons_append, skip, if_neg (by rw [hp.1]; simp), if_neg hp.2.1, step, if_pos (by rw [hc]; rfl), ← List.cons_append]
      have e1 : (c :: tx ++ ([32] ++ r)).takeWhile part = c :: tx := by
        rw [show [32] ++ r = 32 :: r from rfl, tw_append _ _ _ (by decide)]; exact (tw_all _ ha).1
      have e2 : (c :: tx ++ ([32] ++ r)).dropWhile part = 32 :: r := by
        rw [show [32] ++ r = 32 :: r from rfl, dw_append _ _ _ (by decide), (tw_all _ ha).2]; rfl
      rw [e1, e2, tokW_word _ hw]
  · subst hk
    rw [if_neg (by decide), write1, if_pos (.inr rfl)]
    have htok := tokW_num n hn0 hn1
    have he : Lib.itoa n = Lib.decDigits n.toNat := by rw [Lib.itoa, if_neg (by omega)]
    have ha := dec_all n.toNat
    rw [← he, ← ht] at ha
    rw [← ht] at htok
    cases tx with
    | nil => exact absurd (he.symm.trans ht.symm) (dec_ne _)
    | cons c tx =>
      have hc : digit c = true := by simp only [List.all_cons, Bool.and_eq_true] at ha; exact ha.1
      have hp := part_not_white (digit_part hc)
      have ha2 := all_mono (fun c => digit_part) ha
      dsimp only
      rw [List.append_assoc, List.cons_append, skip, if_neg (by rw [hp.1]; simp), if_neg hp.2.1, step, if_pos (by rw [hc]; simp), ← List.cons_append]
      have e1 : (c :: tx ++ ([32] ++ r)).takeWhile part = c :: tx := by
        rw [show [32] ++ r = 32 :: r from rfl, tw_append _ _ _ (by decide)]; exact (tw_all _ ha2).1
      have e2 : (c :: tx ++ ([32] ++ r)).dropWhile part = 32 :: r := by
        rw [show [32] ++ r = 32 :: r from rfl, dw_append _ _ _ (by decide), (tw_all _ ha2).2]; rfl
      rw [e1, e2, htok]
  · subst hk; subst hn
    rw [if_neg (by decide), write1, if_neg (by simp), if_pos rfl]
    dsimp only
    show step (skip false (34 :: (qb tx ++ [34]) ++ [32] ++ r)) = _
    rw [List.append_assoc, List.cons_append, skip, if_neg (by decide), if_neg (by decide), step, if_neg (by decide), if_pos rfl]
    rw [show qb tx ++ [34] ++ ([32] ++ r) = qb tx ++ 34 :: (32 :: r) by simp, qscan_qb]
    dsimp only
    rw [raw_qb, if_pos (show quote tx = 34 :: (qb tx ++ [34]) from rfl)]
  · subst hk; subst hn; subst ht
    rw [if_pos rfl, write1, if_neg (by simp), if_neg (by simp), if_pos rfl]
    exact step_lf r
theorem lex_space (l : List UInt8) (ln : Nat) : lex (32 :: l) ln = lex l ln := lex_white [32] l ln (by decide)
theorem lex_write {ln : Nat} {ts : List Tok} (h : Goods ln ts) : lex (write ts) ln = .ok ts := by
  induction h with
  | fin ln => exact lex_done ln (by rfl)
  | tok ln t ts hln hg _ ih =>
    show lex (write1 t ++ write ts) ln = _
    rw [lex_tok ln (step_write t hg (write ts))]
    have : lex (if t.kind = 3 then write ts else 32 :: write ts) (nl t.kind ln) = .ok ts := by
      split
      · exact ih
      · rw [lex_space]; exact ih
    rw [this]
    subst hln; rfl
/-- THE STAGE'S THEOREM in plain words. -/
theorem lex_back (l : List UInt8) (ts : List Tok) (h : lex l 1 = .ok ts) : Goods 1 ts ∧ lex (write ts) 1 = .ok ts ∧ (write ts).length ≤ 2 * l.length := by
  obtain ⟨h1, h2⟩ := lex_good _ l 1 ts (Nat.lt_succ_self _) h
  exact ⟨h1, lex_write h1, h2⟩

/-! ### Single tokens -/
theorem lex_one {l tx : List UInt8} {k : Nat} {n : Int} (h : step (skip false l) = .tok k tx n []) (hk : k ≠ 3) : lex l 1 = .ok [⟨k, tx, n, 1⟩, ⟨4, [], 0, 1⟩] := by
  rw [lex_tok 1 h, nl, if_neg hk, lex_done 1 (by rfl)]; rfl
theorem lex_quote (s : List UInt8) : lex (quote s) 1 = .ok [⟨2, s, 0, 1⟩, ⟨4, [], 0, 1⟩] := by
  refine lex_one ?_ (by decide)
  show step (skip false (34 :: (qb s ++ [34]))) = _
  rw [skip, if_neg (by decide), if_neg (by decide), step, if_neg (by decide), if_pos rfl, qscan_qb]
  dsimp only
  rw [raw_qb, if_pos (show quote s = 34 :: (qb s ++ [34]) from rfl)]
theorem lex_word (s : List UInt8) (h : word s = true) : lex s 1 = .ok [⟨0, s, 0, 1⟩, ⟨4, [], 0, 1⟩] := by
  refine lex_one ?_ (by decide)
  have h2 := h
  unfold word at h2
  simp only [Bool.and_eq_true] at h2
  obtain ⟨⟨⟨ha, _⟩, _⟩, hlt⟩ := h2
  cases s with
  | nil => exact absurd h (by decide)
  | cons c tx =>
    have hc : letter c = true := hlt
    have hp := part_not_white (letter_part hc)
    rw [skip, if_neg (by rw [hp.1]; simp), if_neg hp.2.1, step, if_pos (by rw [hc]; rfl), (tw_all _ ha).1, (tw_all _ ha).2, tokW_word _ h]
theorem lex_num (n : Int) (h0 : 0 ≤ n) (h1 : n ≤ 9223372036854775807) : lex (Lib.itoa n) 1 = .ok [⟨1, Lib.itoa n, n, 1⟩, ⟨4, [], 0, 1⟩] := by
  refine lex_one ?_ (by decide)
  have htok := tokW_num n h0 h1
  have he : Lib.itoa n = Lib.decDigits n.toNat := by rw [Lib.itoa, if_neg (by omega)]
  have ha := dec_all n.toNat
  rw [← he] at ha
  cases hl : Lib.itoa n with
  | nil => exact absurd (he.symm.trans hl) (dec_ne _)
  | cons c tx =>
    rw [hl] at ha htok
    have hc : digit c = true := by simp only [List.all_cons, Bool.and_eq_true] at ha; exact ha.1
    have hp := part_not_white (digit_part hc)
    have ha2 := all_mono (fun c => digit_part) ha
    rw [skip, if_neg (by rw [hp.1]; simp), if_neg hp.2.1, step, if_pos (by rw [hc]; simp), (tw_all _ ha2).1, (tw_all _ ha2).2, htok]
theorem lex_neg (n : Int) (h0 : n < 0) : lex (Lib.itoa n) 1 = .error (11, 1) := by
  refine lex_bad 1 ?_
  rw [Lib.itoa, if_pos h0, skip, if_neg (by decide), if_neg (by decide), step, if_neg (by decide), if_neg (by decide), if_neg (by decide)]
theorem word_more (s : List UInt8) (c : UInt8) (h : word s = true) : word (s ++ [c]) = (part c && decide (s.length < 20)) := by
  unfold word at *
  simp only [Bool.and_eq_true] at h
  obtain ⟨⟨⟨ha, h1⟩, h2⟩, h3⟩ := h
  cases s with
  | nil => exact absurd h1 (by decide)
  | cons d s =>
    have h4 : letter (((d :: s) ++ [c]).headD 0) = true := h3
    rw [h4, List.all_append, ha, List.length_append]
    simp only [List.all_cons, List.all_nil, Bool.and_true, Bool.true_and, List.length_cons, List.length_nil, Nat.zero_add]
    have e1 : decide (1 ≤ s.length + 1 + 1) = true := decide_eq_true (by omega)
    have e2 : decide (s.length + 1 + 1 ≤ 20) = decide (s.length + 1 < 20) := decide_eq_decide.2 (by omega)
    rw [e1, e2, Bool.and_true]
end Lx
end Go.Proofs.YtnccndfffmaonaaGreatDoor
/- More of the tokens in plain words: the errors' numbers, the lines. -/
namespace Go.Proofs.YtnccndfffmaonaaGreatDoor
namespace Lx
theorem step_code {l : List UInt8} {e : Nat} (h : step l = .bad e) : e = 11 ∨ e = 3 := by
  cases l with
  | nil => cases h
  | cons c r =>
    rw [step] at h
    split at h
    · split at h
      · rename_i z hz
        injection h with h; subst h
        unfold tokW at hz
        split at hz
        · split at hz
          · split at hz
            · injection hz with hz; exact .inl hz.symm
            · split at hz
              · cases hz
              · injection hz with hz; exact .inr hz.symm
          · injection hz with hz; exact .inl hz.symm
        · split at hz
          · cases hz
          · injection hz with hz; exact .inl hz.symm
      · cases h
    · split at h
      · split at h
        · injection h with h; exact .inl h.symm
        · split at h
          · cases h
          · injection h with h; exact .inl h.symm
      · split at h
        · cases h
        · injection h with h; exact .inl h.symm
theorem lex_codes : ∀ (f : Nat) (l : List UInt8) (ln : Nat) (e : Nat × Nat), l.length < f → lex l ln = .error e → (e.1 = 11 ∨ e.1 = 3) ∧ ln ≤ e.2 ∧ e.2 ≤ ln + l.length := by
  intro f
  induction f with
  | zero => intro l ln e h; omega
  | succ f ih =>
    intro l ln e hl h
    cases hs : step (skip false l) with
    | done => rw [lex_done _ hs] at h; cases h
    | bad z => rw [lex_bad _ hs] at h; injection h with h; subst h; exact ⟨step_code hs, Nat.le_refl _, Nat.le_add_right _ _⟩
    | tok k t n rest =>
      have h1 := step_len hs
      have h2 := skip_len false l
      rw [lex_tok _ hs] at h
      cases hr : lex rest (nl k ln) with
      | ok us => rw [hr] at h; cases h
      | error e2 =>
        rw [hr] at h; injection h with h; subst h
        have := ih rest (nl k ln) e2 (by omega) hr
        have hn : ln ≤ nl k ln ∧ nl k ln ≤ ln + 1 := by unfold nl; split <;> omega
        exact ⟨this.1, by omega, by omega⟩
theorem lex_lines : ∀ (f : Nat) (l : List UInt8) (ln : Nat) (ts : List Tok), l.length < f → lex l ln = .ok ts → (∀ t ∈ ts, t.line ≤ ln + l.length) ∧ ts.length ≤ l.length + 1 ∧ ts ≠ [] := by
  intro f
  induction f with
  | zero => intro l ln ts h; omega
  | succ f ih =>
    intro l ln ts hl h
    cases hs : step (skip false l) with
    | done =>
      rw [lex_done _ hs] at h; injection h with h; subst h
      refine ⟨?_, by simp, by simp⟩
      intro t ht
      obtain rfl := List.mem_singleton.1 ht
      exact Nat.le_add_right _ _
    | bad z => rw [lex_bad _ hs] at h; cases h
    | tok k t n rest =>
      have h1 := step_len hs
      have h2 := skip_len false l
      rw [lex_tok _ hs] at h
      cases hr : lex rest (nl k ln) with
      | error e2 => rw [hr] at h; cases h
      | ok us =>
        rw [hr] at h; injection h with h; subst h
        have := ih rest (nl k ln) us (by omega) hr
        have hn : ln ≤ nl k ln ∧ nl k ln ≤ ln + 1 := by unfold nl; split <;> omega
        refine ⟨?_, by simp; omega, by simp⟩
        intro x hx
        rcases List.mem_cons.1 hx with rfl | hx
        · exact Nat.le_add_right _ _
        · have := this.1 x hx; omega
theorem later0 (ts : List Tok) : ts.map (later 0) = ts := by
  have : later 0 = id := by funext t; rfl
  rw [this, List.map_id]
theorem white_snoc {w x : List UInt8} (h : w.all white = true) (hx : ∃ c, x = [c] ∧ white c = true) : (w ++ x).all white = true ∧ (w ++ x).length = w.length + 1 := by
  obtain ⟨c, rfl, hc⟩ := hx
  rw [List.all_append, h, List.length_append]; simp [hc]
end Lx
end Go.Proofs.YtnccndfffmaonaaGreatDoor
/- Drafts in plain words: what is read of the tokens, and what follows for joined and for blank texts. -/
namespace Go.Proofs.YtnccndfffmaonaaGreatDoor
namespace Dr
open Lx (Tok)

structure Item where
  kind : Int
  line : Int
  name : List UInt8
  other : List UInt8
  n : List Int
structure Draft where
  decks : List (List (List UInt8))
  items : List Item
def Draft.none : Draft := ⟨[], []⟩

def partsOf : Nat → List UInt8
  | 0 => [119, 110, 110, 110, 110, 110, 110, 110]
  | 1 => [119, 110, 110]
  | 2 => [110, 110, 110, 100]
  | 3 => [119, 119]
  | 4 => [110, 110, 110, 111]
  | 5 => [110, 110, 110, 110]
  | _ => []
def wordOf : Nat → List UInt8
  | 0 => [122, 111, 110, 101]
  | 1 => [115, 104, 105, 102, 116]
  | 2 => [111, 110, 101, 119, 97, 121]
  | 3 => [97, 112, 97, 114, 116]
  | 4 => [115, 104, 101, 108, 102]
  | 5 => [114, 111, 98, 111, 116]
  | _ => []
def wDeck : List UInt8 := [100, 101, 99, 107]
def wRow : List UInt8 := [114, 111, 119]
def kindOf (t : List UInt8) : Option Nat := [0, 1, 2, 3, 4, 5].find? (fun k => wordOf k == t)
def dirs : List (List UInt8) := [[101, 97, 115, 116], [115, 111, 117, 116, 104], [119, 101, 115, 116], [110, 111, 114, 116, 104], [117, 112], [100, 111, 119, 110]]
def dirOf (t : List UInt8) : Option Nat := dirs.findIdx? (· == t)
def setName (x : Item) (j : Nat) (t : List UInt8) : Item := if j = 0 then { x with name := t } else { x with other := t }
def lineOf : List Tok → Nat
  | [] => 0
  | t :: _ => t.line

/-- What the parts of an item's line take of the tokens; else what is left of them. -/
def fields : List UInt8 → Nat → Item → List Tok → Except (List Tok) (Item × List Tok)
  | [], _, x, ts => .ok (x, ts)
  | _ :: _, _, _, [] => .error []
  | p :: ps, j, x, t :: r =>
    if p = 110 then (if t.kind = 1 then fields ps j { x with n := x.n ++ [t.n] } r else .error (t :: r))
    else if p = 100 then
      if t.kind = 0 then (match dirOf t.text with | some k => fields ps j { x with n := x.n ++ [(k : Int)] } r | none => .error r)
      else .error (t :: r)
    else if t.kind = 0 then fields ps (j + 1) (setName x j t.text) r
    else if p = 119 then .error (t :: r) else fields ps j x (t :: r)

/-- A line: what it makes of the draft, and the tokens that are left; else the error, and its line. -/
def line (d : Draft) (t : Tok) (r : List Tok) : Except (Nat × Nat) (Draft × List Tok) :=
  if t.kind = 3 then .ok (d, t :: r)
  else if t.kind ≠ 0 then .error (11, t.line)
  else if t.text = wDeck then
    if 4 ≤ d.decks.length then .error (6, t.line) else .ok ({ d with decks := d.decks ++ [[]] }, r)
  else if t.text = wRow then
    if d.decks = [] then .error (11, t.line)
    else if 4096 ≤ (d.decks.getLastD []).length then .error (6, t.line)
    else match r with
      | [] => .error (11, 0)
      | u :: s => if u.kind ≠ 2 then .error (11, u.line) else if 4096 < u.text.length then .error (6, t.line)
        else .ok ({ d with decks := d.decks.dropLast ++ [d.decks.getLastD [] ++ [u.text]] }, s)
  else match kindOf t.text with
    | none => .error (11, t.line)
    | some k =>
      if 5000 ≤ d.items.length then .error (6, t.line)
      else match fields (partsOf k) 0 ⟨k, t.line, [], [], []⟩ r with
        | .ok (x, us) => .ok ({ d with items := d.items ++ [x] }, us)
        | .error us => .error (11, lineOf us)

def run : Nat → Draft → List Tok → Except (Nat × Nat) Draft
  | 0, _, _ => .error (0, 0)
  | _ + 1, _, [] => .error (0, 0)
  | f + 1, d, t :: r =>
    if t.kind = 4 then .ok d
    else match line d t r with
      | .error e => .error e
      | .ok (_, []) => .error (0, 0)
      | .ok (d', u :: vs) => if u.kind = 4 then .ok d' else if u.kind = 3 then run f d' vs else .error (11, u.line)
def parse (d : Draft) (ts : List Tok) : Except (Nat × Nat) Draft := run (ts.length + 1) d ts

theorem fields_len : ∀ (ps : List UInt8) (j : Nat) (x : Item) (ts : List Tok) (y : Item) (us : List Tok), fields ps j x ts = .ok (y, us) → us.length ≤ ts.length
  | [], j, x, ts, y, us, h => by cases h; exact Nat.le_refl _
  | p :: ps, j, x, [], y, us, h => by cases h
  | p :: ps, j, x, t :: r, y, us, h => by
    rw [fields] at h
    by_cases hp : p = 110
    · rw [if_pos hp] at h
      by_cases hk : t.kind = 1
      · rw [if_pos hk] at h; have := fields_len _ _ _ _ _ _ h; simp; omega
      · rw [if_neg hk] at h; cases h
    rw [if_neg hp] at h
    by_cases hd : p = 100
    · rw [if_pos hd] at h
      by_cases hk : t.kind = 0
      · rw [if_pos hk] at h
        cases he : dirOf t.text with
        | none => rw [he] at h; cases h
        | some k => rw [he] at h; have := fields_len _ _ _ _ _ _ h; simp; omega
      · rw [if_neg hk] at h; cases h
    rw [if_neg hd] at h
    by_cases hk : t.kind = 0
    · rw [if_pos hk] at h; have := fields_len _ _ _ _ _ _ h; simp; omega
    · rw [if_neg hk] at h
      by_cases hw : p = 119
      · rw [if_pos hw] at h; cases h
      · rw [if_neg hw] at h; exact fields_len _ _ _ _ _ _ h
theorem line_len {d : Draft} {t : Tok} {r : List Tok} {d' : Draft} {us : List Tok} (h : line d t r = .ok (d', us)) : us.length ≤ r.length + 1 := by
  unfold line at h
  by_cases h3 : t.kind = 3
  · rw [if_pos h3] at h; cases h; simp
  rw [if_neg h3] at h
  by_cases h0 : t.kind ≠ 0
  · rw [if_pos h0] at h; cases h
  rw [if_neg h0] at h
  by_cases hd : t.text = wDeck
  · rw [if_pos hd] at h
    by_cases h4 : 4 ≤ d.decks.length
    · rw [if_pos h4] at h; cases h
    · rw [if_neg h4] at h; cases h; omega
  rw [if_neg hd] at h
  by_cases hr : t.text = wRow
  · rw [if_pos hr] at h
    by_cases h5 : d.decks = []
    · rw [if_pos h5] at h; cases h
    rw [if_neg h5] at h
    by_cases h6 : 4096 ≤ (d.decks.getLastD []).length
    · rw [if_pos h6] at h; cases h
    rw [if_neg h6] at h
    cases r with
    | nil => cases h
    | cons u s =>
      dsimp only at h
      by_cases h7 : u.kind ≠ 2
      · rw [if_pos h7] at h; cases h
      rw [if_neg h7] at h
      by_cases h8 : 4096 < u.text.length
      · rw [if_pos h8] at h; cases h
      · rw [if_neg h8] at h; cases h; simp; omega
  rw [if_neg hr] at h
  cases hk : kindOf t.text with
  | none => rw [hk] at h; cases h
  | some k =>
    rw [hk] at h
    dsimp only at h
    by_cases h5 : 5000 ≤ d.items.length
    · rw [if_pos h5] at h; cases h
    rw [if_neg h5] at h
    cases hf : fields (partsOf k) 0 ⟨k, t.line, [], [], []⟩ r with
    | error us => rw [hf] at h; cases h
    | ok x =>
      rw [hf] at h
      obtain ⟨x, vs⟩ := x
      cases h
      have := fields_len _ _ _ _ _ _ hf; omega
theorem run_fuel : ∀ (f f' : Nat) (d : Draft) (ts : List Tok), ts.length < f → ts.length < f' → run f d ts = run f' d ts := by
  intro f
  induction f with
  | zero => intro f' d ts h; omega
  | succ f ih =>
    intro f' d ts h h'
    cases f' with
    | zero => omega
    | succ f' =>
      cases ts with
      | nil => rfl
      | cons t r =>
        rw [run, run]
        by_cases h4 : t.kind = 4
        · rw [if_pos h4, if_pos h4]
        rw [if_neg h4, if_neg h4]
        cases hl : line d t r with
        | error e => rfl
        | ok x =>
          obtain ⟨d', us⟩ := x
          cases us with
          | nil => rfl
          | cons u vs =>
            have := line_len hl
            dsimp only
            rw [ih f' d' vs (by simp at this h; omega) (by simp at this h'; omega)]
/-- What follows a line. -/
def after (d : Draft) : List Tok → Except (Nat × Nat) Draft
  | [] => .error (0, 0)
  | u :: vs => if u.kind = 4 then .ok d else if u.kind = 3 then parse d vs else .error (11, u.line)
theorem parse_cons (d : Draft) (t : Tok) (r : List Tok) : parse d (t :: r) = if t.kind = 4 then .ok d else match line d t r with | .error e => .error e | .ok x => after x.1 x.2 := by
  show run ((t :: r).length + 1) d (t :: r) = _
  rw [run]
  by_cases h4 : t.kind = 4
  · rw [if_pos h4, if_pos h4]
  rw [if_neg h4, if_neg h4]
  cases hl : line d t r with
  | error e => rfl
  | ok x =>
    obtain ⟨d', us⟩ := x
    cases us with
    | nil => rfl
    | cons u vs =>
      have := line_len hl
      dsimp only [after]
      by_cases h5 : u.kind = 4
      · rw [if_pos h5, if_pos h5]
      rw [if_neg h5, if_neg h5]
      by_cases h3 : u.kind = 3
      · rw [if_pos h3, if_pos h3]
        exact run_fuel _ _ _ _ (by simp at this ⊢; omega) (by omega)
      · rw [if_neg h3, if_neg h3]
theorem parse_end (d : Draft) (ln : Nat) (r : List Tok) : parse d (⟨4, [], 0, ln⟩ :: r) = .ok d := by rw [parse_cons, if_pos rfl]
theorem parse_line (d : Draft) (t : Tok) (h : t.kind = 3) (r : List Tok) : parse d (t :: r) = parse d r := by
  have hl : line d t r = .ok (d, t :: r) := by unfold line; rw [if_pos h]
  rw [parse_cons, if_neg (by omega), hl]
  dsimp only [after]
  rw [if_neg (by omega), if_pos h]

/-! ### Texts that are joined -/
theorem fields_append (m : Nat) (L : Tok) (hL : L.kind = 3) (rest : List Tok) : ∀ (ps : List UInt8) (j : Nat) (x : Item) (r : List Tok) (y : Item) (us : List Tok), (∀ t ∈ r, t.kind ≠ 4) →
    fields ps j x (r ++ [⟨4, [], 0, m⟩]) = .ok (y, us) → ∃ r', us = r' ++ [⟨4, [], 0, m⟩] ∧ r'.length ≤ r.length ∧ (∀ t ∈ r', t.kind ≠ 4) ∧ fields ps j x (r ++ L :: rest) = .ok (y, r' ++ L :: rest)
  | [], j, x, r, y, us, hr, h => by cases h; exact ⟨r, rfl, Nat.le_refl _, hr, rfl⟩
  | p :: ps, j, x, [], y, us, hr, h => by
    rw [List.nil_append, fields] at h
    rw [List.nil_append, fields]
    by_cases hp : p = 110
    · rw [if_pos hp, if_neg (by simp)] at h; cases h
    rw [if_neg hp] at h ⊢
    by_cases hd : p = 100
    · rw [if_pos hd, if_neg (by simp)] at h; cases h
    rw [if_neg hd, if_neg (by simp)] at h
    rw [if_neg hd, if_neg (by omega)]
    by_cases hw : p = 119
    · rw [if_pos hw] at h; cases h
    · rw [if_neg hw] at h ⊢
      exact fields_append m L hL rest ps j x [] y us hr h
  | p :: ps, j, x, t :: r, y, us, hr, h => by
    have hr' : ∀ u ∈ r, u.kind ≠ 4 := fun u hu => hr u (List.mem_cons_of_mem _ hu)
    have up : ∀ {y us j x}, fields ps j x (r ++ [⟨4, [], 0, m⟩]) = .ok (y, us) → ∃ r', us = r' ++ [⟨4, [], 0, m⟩] ∧ r'.length ≤ (t :: r).length ∧ (∀ t ∈ r', t.kind ≠ 4) ∧ fields ps j x (r ++ L :: rest) = .ok (y, r' ++ L :: rest) := by
      intro y us j x h
      obtain ⟨r', h1, h2, h3, h4⟩ := fields_append m L hL rest ps j x r y us hr' h
      exact ⟨r', h1, by simp; omega, h3, h4⟩
    rw [List.cons_append, fields] at h
    rw [List.cons_append, fields]
    by_cases hp : p = 110
    · rw [if_pos hp] at h ⊢
      by_cases hk : t.kind = 1
      · rw [if_pos hk] at h ⊢; exact up h
      · rw [if_neg hk] at h; cases h
    rw [if_neg hp] at h ⊢
    by_cases hd : p = 100
    · rw [if_pos hd] at h ⊢
      by_cases hk : t.kind = 0
      · rw [if_pos hk] at h ⊢
        cases he : dirOf t.text with
        | none => rw [he] at h; cases h
        | some k => rw [he] at h; exact up h
      · rw [if_neg hk] at h; cases h
    rw [if_neg hd] at h ⊢
    by_cases hk : t.kind = 0
    · rw [if_pos hk] at h ⊢; exact up h
    rw [if_neg hk] at h ⊢
    by_cases hw : p = 119
    · rw [if_pos hw] at h; cases h
    · rw [if_neg hw] at h ⊢
      exact fields_append m L hL rest ps j x (t :: r) y us hr h
theorem line_append (m : Nat) (L : Tok) (hL : L.kind = 3) (rest : List Tok) (d : Draft) (t : Tok) (r : List Tok) (d' : Draft) (us : List Tok) (ht : t.kind ≠ 4) (hr : ∀ t ∈ r, t.kind ≠ 4)
    (h : line d t (r ++ [⟨4, [], 0, m⟩]) = .ok (d', us)) : ∃ r', us = r' ++ [⟨4, [], 0, m⟩] ∧ r'.length ≤ r.length + 1 ∧ (∀ t ∈ r', t.kind ≠ 4) ∧ line d t (r ++ L :: rest) = .ok (d', r' ++ L :: rest) := by
  unfold line at h ⊢
  by_cases h3 : t.kind = 3
  · rw [if_pos h3] at h ⊢; cases h
    exact ⟨t :: r, rfl, by simp, by intro u hu; rcases List.mem_cons.1 hu with rfl | hu; exact ht; exact hr u hu, rfl⟩
  rw [if_neg h3] at h ⊢
  by_cases h0 : t.kind ≠ 0
  · rw [if_pos h0] at h; cases h
  rw [if_neg h0] at h ⊢
  by_cases hd : t.text = wDeck
  · rw [if_pos hd] at h ⊢
    by_cases h4 : 4 ≤ d.decks.length
    · rw [if_pos h4] at h; cases h
    · rw [if_neg h4] at h ⊢; cases h; exact ⟨r, rfl, by omega, hr, rfl⟩
  rw [if_neg hd] at h ⊢
  by_cases hrw : t.text = wRow
  · rw [if_pos hrw] at h ⊢
    by_cases h5 : d.decks = []
    · rw [if_pos h5] at h; cases h
    rw [if_neg h5] at h ⊢
    by_cases h6 : 4096 ≤ (d.decks.getLastD []).length
    · rw [if_pos h6] at h; cases h
    rw [if_neg h6] at h ⊢
    cases r with
    | nil =>
      dsimp only [List.nil_append] at h
      rw [if_pos (by decide)] at h; cases h
    | cons u s =>
      dsimp only [List.cons_append] at h ⊢
      by_cases h7 : u.kind ≠ 2
      · rw [if_pos h7] at h; cases h
      rw [if_neg h7] at h ⊢
      by_cases h8 : 4096 < u.text.length
      · rw [if_pos h8] at h; cases h
      · rw [if_neg h8] at h ⊢; cases h
        exact ⟨s, rfl, by simp; omega, fun v hv => hr v (List.mem_cons_of_mem _ hv), rfl⟩
  rw [if_neg hrw] at h ⊢
  cases hk : kindOf t.text with
  | none => rw [hk] at h; cases h
  | some k =>
    rw [hk] at h
    dsimp only at h ⊢
    by_cases h5 : 5000 ≤ d.items.length
    · rw [if_pos h5] at h; cases h
    rw [if_neg h5] at h ⊢
    cases hf : fields (partsOf k) 0 ⟨k, t.line, [], [], []⟩ (r ++ [⟨4, [], 0, m⟩]) with
    | error us => rw [hf] at h; cases h
    | ok x =>
      rw [hf] at h
      obtain ⟨x, vs⟩ := x
      cases h
      obtain ⟨r', h1, h2, h3, h4⟩ := fields_append m L hL rest _ _ _ _ _ _ hr hf
      rw [h4]
      exact ⟨r', h1, by omega, h3, rfl⟩
theorem parse_append (m : Nat) (L : Tok) (hL : L.kind = 3) (rest : List Tok) : ∀ (k : Nat) (front : List Tok) (d d' : Draft), front.length ≤ k → (∀ t ∈ front, t.kind ≠ 4) →
    parse d (front ++ [⟨4, [], 0, m⟩]) = .ok d' → parse d (front ++ L :: rest) = parse d' rest := by
  intro k
  induction k with
  | zero =>
    intro front d d' hk hf h
    obtain rfl : front = [] := List.eq_nil_of_length_eq_zero (by omega)
    rw [List.nil_append, parse_end] at h
    cases h
    exact parse_line d L hL rest
  | succ k ih =>
    intro front d d' hk hf h
    cases front with
    | nil =>
      rw [List.nil_append, parse_end] at h
      cases h
      exact parse_line d L hL rest
    | cons t r =>
      have ht : t.kind ≠ 4 := hf t (List.mem_cons_self ..)
      rw [List.cons_append, parse_cons, if_neg ht] at h
      rw [List.cons_append, parse_cons, if_neg ht]
      cases hl : line d t (r ++ [⟨4, [], 0, m⟩]) with
      | error e => rw [hl] at h; cases h
      | ok x =>
        rw [hl] at h
        obtain ⟨d1, us⟩ := x
        obtain ⟨r', h1, h2, h3, h4⟩ := line_append m L hL rest d t r d1 us ht (fun u hu => hf u (List.mem_cons_of_mem _ hu)) hl
        rw [h4]
        subst h1
        dsimp only at h ⊢
        cases r' with
        | nil =>
          rw [List.nil_append, after, if_pos rfl] at h
          cases h
          rw [List.nil_append, after, if_neg (by omega), if_pos hL]
        | cons u vs =>
          rw [List.cons_append, after, if_neg (h3 u (List.mem_cons_self ..))] at h ⊢
          by_cases hu : u.kind = 3
          · rw [if_pos hu] at h ⊢
            exact ih vs d1 d' (by simp at hk h2; omega) (fun v hv => h3 v (List.mem_cons_of_mem _ hv)) h
          · rw [if_neg hu] at h; cases h

/-! ### Lines that are later -/
def Item.later (n : Nat) (x : Item) : Item := { x with line := x.line + n }
theorem fields_later (n : Nat) : ∀ (ps : List UInt8) (j : Nat) (x : Item) (ts : List Tok) (y : Item) (us : List Tok), fields ps j x ts = .ok (y, us) → fields ps j (x.later n) (ts.map (Lx.later n)) = .ok (y.later n, us.map (Lx.later n))
  | [], j, x, ts, y, us, h => by cases h; rfl
  | p :: ps, j, x, [], y, us, h => by cases h
  | p :: ps, j, x, t :: r, y, us, h => by
    rw [fields] at h
    rw [List.map_cons, fields]
    have e1 : (Lx.later n t).kind = t.kind := rfl
    have e2 : (Lx.later n t).text = t.text := rfl
    rw [e1, e2]
    by_cases hp : p = 110
    · rw [if_pos hp] at h ⊢
      by_cases hk : t.kind = 1
      · rw [if_pos hk] at h ⊢; exact fields_later n _ _ _ _ _ _ h
      · rw [if_neg hk] at h; cases h
    rw [if_neg hp] at h ⊢
    by_cases hd : p = 100
    · rw [if_pos hd] at h ⊢
      by_cases hk : t.kind = 0
      · rw [if_pos hk] at h ⊢
        cases he : dirOf t.text with
        | none => rw [he] at h; cases h
        | some k => rw [he] at h; exact fields_later n _ _ _ _ _ _ h
      · rw [if_neg hk] at h; cases h
    rw [if_neg hd] at h ⊢
    by_cases hk : t.kind = 0
    · rw [if_pos hk] at h ⊢
      have := fields_later n _ _ _ _ _ _ h
      rw [show (setName x j t.text).later n = setName (x.later n) j t.text by unfold setName; split <;> rfl] at this
      exact this
    rw [if_neg hk] at h ⊢
    by_cases hw : p = 119
    · rw [if_pos hw] at h; cases h
    · rw [if_neg hw] at h ⊢
      exact fields_later n _ _ _ _ _ _ h
/-- A draft D without decks of its own, behind the items I and the decks A. -/
def onto (A : List (List (List UInt8))) (I : List Item) (n : Nat) (d : Draft) : Draft := ⟨A, I ++ d.items.map (Item.later n)⟩
theorem line_onto (A : List (List (List UInt8))) (I : List Item) (n : Nat) (d : Draft) (t : Tok) (r : List Tok) (d' : Draft) (us : List Tok) (hd : d.decks = []) (hd' : d'.decks = []) (hI : I.length + d.items.length < 5000)
    (h : line d t r = .ok (d', us)) : line (onto A I n d) (Lx.later n t) (r.map (Lx.later n)) = .ok (onto A I n d', us.map (Lx.later n)) := by
  unfold line at h ⊢
  have e1 : (Lx.later n t).kind = t.kind := rfl
  have e2 : (Lx.later n t).text = t.text := rfl
  rw [e1, e2]
  by_cases h3 : t.kind = 3
  · rw [if_pos h3] at h ⊢; cases h; rfl
  rw [if_neg h3] at h ⊢
  by_cases h0 : t.kind ≠ 0
  · rw [if_pos h0] at h; cases h
  rw [if_neg h0] at h ⊢
  by_cases hdk : t.text = wDeck
  · rw [if_pos hdk, hd, if_neg (by decide)] at h; cases h; simp at hd'
  rw [if_neg hdk] at h ⊢
  by_cases hrw : t.text = wRow
  · rw [if_pos hrw, if_pos hd] at h; cases h
  rw [if_neg hrw] at h ⊢
  cases hk : kindOf t.text with
  | none => rw [hk] at h; cases h
  | some k =>
    rw [hk] at h
    dsimp only at h ⊢
    rw [if_neg (by omega)] at h
    rw [if_neg (by show ¬ 5000 ≤ (I ++ d.items.map (Item.later n)).length; rw [List.length_append, List.length_map]; omega)]
    cases hf : fields (partsOf k) 0 ⟨k, t.line, [], [], []⟩ r with
    | error us => rw [hf] at h; cases h
    | ok x =>
      rw [hf] at h
      obtain ⟨x, vs⟩ := x
      cases h
      have := fields_later n _ _ _ _ _ _ hf
      have e3 : ((⟨k, t.line, [], [], []⟩ : Item).later n) = ⟨k, ((Lx.later n t).line : Nat), [], [], []⟩ := by simp [Item.later, Lx.later]
      rw [e3] at this
      rw [this]
      simp [onto]
theorem line_mono {d : Draft} {t : Tok} {r : List Tok} {d' : Draft} {us : List Tok} (h : line d t r = .ok (d', us)) : (d'.decks = [] → d.decks = []) ∧ (d'.items.length + us.length ≤ d.items.length + r.length + 1) := by
  unfold line at h
  by_cases h3 : t.kind = 3
  · rw [if_pos h3] at h; cases h; exact ⟨id, by simp; omega⟩
  rw [if_neg h3] at h
  by_cases h0 : t.kind ≠ 0
  · rw [if_pos h0] at h; cases h
  rw [if_neg h0] at h
  by_cases hd : t.text = wDeck
  · rw [if_pos hd] at h
    by_cases h4 : 4 ≤ d.decks.length
    · rw [if_pos h4] at h; cases h
    · rw [if_neg h4] at h; cases h; exact ⟨fun h => by simp at h, by dsimp only; omega⟩
  rw [if_neg hd] at h
  by_cases hr : t.text = wRow
  · rw [if_pos hr] at h
    by_cases h5 : d.decks = []
    · rw [if_pos h5] at h; cases h
    rw [if_neg h5] at h
    by_cases h6 : 4096 ≤ (d.decks.getLastD []).length
    · rw [if_pos h6] at h; cases h
    rw [if_neg h6] at h
    cases r with
    | nil => cases h
    | cons u s =>
      dsimp only at h
      by_cases h7 : u.kind ≠ 2
      · rw [if_pos h7] at h; cases h
      rw [if_neg h7] at h
      by_cases h8 : 4096 < u.text.length
      · rw [if_pos h8] at h; cases h
      · rw [if_neg h8] at h; cases h; exact ⟨fun h => by simp at h, by simp; omega⟩
  rw [if_neg hr] at h
  cases hk : kindOf t.text with
  | none => rw [hk] at h; cases h
  | some k =>
    rw [hk] at h
    dsimp only at h
    by_cases h5 : 5000 ≤ d.items.length
    · rw [if_pos h5] at h; cases h
    rw [if_neg h5] at h
    cases hf : fields (partsOf k) 0 ⟨k, t.line, [], [], []⟩ r with
    | error us => rw [hf] at h; cases h
    | ok x =>
      rw [hf] at h
      obtain ⟨x, vs⟩ := x
      cases h
      have := fields_len _ _ _ _ _ _ hf; exact ⟨id, by simp; omega⟩
theorem parse_mono : ∀ (k : Nat) (ts : List Tok) (d d' : Draft), ts.length ≤ k → parse d ts = .ok d' → (d'.decks = [] → d.decks = []) ∧ d'.items.length + 1 ≤ d.items.length + ts.length := by
  intro k
  induction k with
  | zero =>
    intro ts d d' hk h
    obtain rfl : ts = [] := List.eq_nil_of_length_eq_zero (by omega)
    cases h
  | succ k ih =>
    intro ts d d' hk h
    cases ts with
    | nil => cases h
    | cons t r =>
      rw [parse_cons] at h
      by_cases h4 : t.kind = 4
      · rw [if_pos h4] at h; cases h; exact ⟨id, by simp⟩
      rw [if_neg h4] at h
      cases hl : line d t r with
      | error e => rw [hl] at h; cases h
      | ok x =>
        rw [hl] at h
        obtain ⟨d1, us⟩ := x
        have hm := line_mono hl
        have hln := line_len hl
        dsimp only at h
        cases us with
        | nil => cases h
        | cons u vs =>
          rw [after] at h
          by_cases hu4 : u.kind = 4
          · rw [if_pos hu4] at h; cases h
            refine ⟨hm.1, ?_⟩
            have := hm.2; simp at this ⊢; omega
          rw [if_neg hu4] at h
          by_cases hu : u.kind = 3
          · rw [if_pos hu] at h
            have := ih vs d1 d' (by simp at hk hln; omega) h
            exact ⟨fun e => hm.1 (this.1 e), by have h2 := hm.2; have h3 := this.2; simp at h2 ⊢; omega⟩
          · rw [if_neg hu] at h; cases h
theorem parse_onto (A : List (List (List UInt8))) (I : List Item) (n : Nat) : ∀ (k : Nat) (ts : List Tok) (d d' : Draft), ts.length ≤ k → d'.decks = [] → I.length + d.items.length + ts.length ≤ 5001 → parse d ts = .ok d' →
    parse (onto A I n d) (ts.map (Lx.later n)) = .ok (onto A I n d') := by
  intro k
  induction k with
  | zero =>
    intro ts d d' hk hd hI h
    obtain rfl : ts = [] := List.eq_nil_of_length_eq_zero (by omega)
    cases h
  | succ k ih =>
    intro ts d d' hk hd hI h
    cases ts with
    | nil => cases h
    | cons t r =>
      have hd0 := (parse_mono _ _ _ _ (Nat.le_refl _) h).1 hd
      rw [parse_cons] at h
      rw [List.map_cons, parse_cons]
      have e1 : (Lx.later n t).kind = t.kind := rfl
      rw [e1]
      by_cases h4 : t.kind = 4
      · rw [if_pos h4] at h ⊢; cases h; rfl
      rw [if_neg h4] at h ⊢
      cases hl : line d t r with
      | error e => rw [hl] at h; cases h
      | ok x =>
        rw [hl] at h
        obtain ⟨d1, us⟩ := x
        have hm := line_mono hl
        have hln := line_len hl
        dsimp only at h
        cases us with
        | nil => cases h
        | cons u vs =>
          rw [after] at h
          have hd1 : d1.decks = [] := by
            by_cases hu4 : u.kind = 4
            · rw [if_pos hu4] at h; cases h; exact hd
            rw [if_neg hu4] at h
            by_cases hu : u.kind = 3
            · rw [if_pos hu] at h; exact (parse_mono _ _ _ _ (Nat.le_refl _) h).1 hd
            · rw [if_neg hu] at h; cases h
          have hr1 : 1 ≤ r.length ∨ t.kind = 3 := by
            cases r with
            | cons _ _ => left; simp
            | nil =>
              right
              apply Decidable.byContradiction; intro h3
              have h2 := hm.2
              simp at h2
              unfold line at hl
              rw [if_neg h3] at hl
              by_cases h0 : t.kind ≠ 0
              · rw [if_pos h0] at hl; cases hl
              rw [if_neg h0] at hl
              by_cases hdk : t.text = wDeck
              · rw [if_pos hdk, hd0, if_neg (by decide)] at hl; cases hl
              rw [if_neg hdk] at hl
              by_cases hrw : t.text = wRow
              · rw [if_pos hrw, if_pos hd0] at hl; cases hl
              rw [if_neg hrw] at hl
              cases hk : kindOf t.text with
              | none => rw [hk] at hl; cases hl
              | some k =>
                rw [hk] at hl
                dsimp only at hl
                by_cases h5 : 5000 ≤ d.items.length
                · rw [if_pos h5] at hl; cases hl
                rw [if_neg h5] at hl
                cases hf : fields (partsOf k) 0 ⟨k, t.line, [], [], []⟩ [] with
                | error us => rw [hf] at hl; cases hl
                | ok x =>
                  rw [hf] at hl
                  obtain ⟨x, ws⟩ := x
                  have := fields_len _ _ _ _ _ _ hf
                  cases hl
                  simp at this
          have hlo : line (onto A I n d) (Lx.later n t) (r.map (Lx.later n)) = .ok (onto A I n d1, (u :: vs).map (Lx.later n)) := by
            by_cases h3 : t.kind = 3
            · unfold line at hl ⊢
              rw [if_pos h3] at hl
              rw [e1, if_pos h3]
              cases hl; rfl
            · refine line_onto A I n d t r d1 _ hd0 hd1 ?_ hl
              rcases hr1 with h | h
              · simp at hI; omega
              · exact absurd h h3
          rw [hlo]
          dsimp only
          rw [List.map_cons, after]
          have e2 : (Lx.later n u).kind = u.kind := rfl
          rw [e2]
          by_cases hu4 : u.kind = 4
          · rw [if_pos hu4] at h ⊢; cases h; rfl
          rw [if_neg hu4] at h ⊢
          by_cases hu : u.kind = 3
          · rw [if_pos hu] at h ⊢
            refine ih vs d1 d' (by simp at hk hln; omega) hd ?_ h
            have := hm.2; simp at this hI ⊢; omega
          · rw [if_neg hu] at h; cases h
end Dr
end Go.Proofs.YtnccndfffmaonaaGreatDoor
/- Drafts in plain words: the texts of the laws DraftJoins and DraftBlanks. -/
namespace Go.Proofs.YtnccndfffmaonaaGreatDoor
namespace Dr
open Lx (Tok)

theorem good_kind {t : Tok} (h : Lx.Good t) : t.kind < 4 := by
  rcases h with h | h | h | h <;> omega
theorem goods_front : ∀ (front : List Tok) (ln m : Nat), Lx.Goods ln (front ++ [⟨4, [], 0, m⟩]) → ∀ t ∈ front, t.kind ≠ 4
  | [], ln, m, h, t, ht => by cases ht
  | x :: front, ln, m, h, t, ht => by
    rw [List.cons_append] at h
    generalize hL : x :: (front ++ [⟨4, [], 0, m⟩]) = L at h
    cases h with
    | fin => simp at hL
    | tok _ t0 ts h1 h2 h3 =>
      injection hL with e1 e2
      subst e1; subst e2
      rcases List.mem_cons.1 ht with rfl | ht
      · have := good_kind h2; omega
      · exact goods_front front _ m h3 t ht

def Draft.later (n : Nat) (d : Draft) : Draft := ⟨d.decks, d.items.map (Item.later n)⟩
theorem line_later (n : Nat) (d : Draft) (t : Tok) (r : List Tok) (d' : Draft) (us : List Tok)
    (h : line d t r = .ok (d', us)) : line (d.later n) (Lx.later n t) (r.map (Lx.later n)) = .ok (d'.later n, us.map (Lx.later n)) := by
  unfold line at h ⊢
  have e1 : (Lx.later n t).kind = t.kind := rfl
  have e2 : (Lx.later n t).text = t.text := rfl
  have e0 : (d.later n).decks = d.decks := rfl
  rw [e1, e2, e0]
  by_cases h3 : t.kind = 3
  · rw [if_pos h3] at h ⊢; cases h; rfl
  rw [if_neg h3] at h ⊢
  by_cases h0 : t.kind ≠ 0
  · rw [if_pos h0] at h; cases h
  rw [if_neg h0] at h ⊢
  by_cases hdk : t.text = wDeck
  · rw [if_pos hdk] at h ⊢
    by_cases h4 : 4 ≤ d.decks.length
    · rw [if_pos h4] at h; cases h
    · rw [if_neg h4] at h ⊢; cases h; rfl
  rw [if_neg hdk] at h ⊢
  by_cases hrw : t.text = wRow
  · rw [if_pos hrw] at h ⊢
    by_cases h5 : d.decks = []
    · rw [if_pos h5] at h; cases h
    rw [if_neg h5] at h ⊢
    by_cases h6 : 4096 ≤ (d.decks.getLastD []).length
    · rw [if_pos h6] at h; cases h
    rw [if_neg h6] at h ⊢
    cases r with
    | nil => cases h
    | cons u s =>
      rw [List.map_cons]
      dsimp only at h ⊢
      have e3 : (Lx.later n u).kind = u.kind := rfl
      have e4 : (Lx.later n u).text = u.text := rfl
      rw [e3, e4]
      by_cases h7 : u.kind ≠ 2
      · rw [if_pos h7] at h; cases h
      rw [if_neg h7] at h ⊢
      by_cases h8 : 4096 < u.text.length
      · rw [if_pos h8] at h; cases h
      · rw [if_neg h8] at h ⊢; cases h; rfl
  rw [if_neg hrw] at h ⊢
  cases hk : kindOf t.text with
  | none => rw [hk] at h; cases h
  | some k =>
    rw [hk] at h
    dsimp only at h ⊢
    by_cases h5 : 5000 ≤ d.items.length
    · rw [if_pos h5] at h; cases h
    rw [if_neg h5] at h
    rw [if_neg (by show ¬ 5000 ≤ (d.items.map (Item.later n)).length; rw [List.length_map]; omega)]
    cases hf : fields (partsOf k) 0 ⟨k, t.line, [], [], []⟩ r with
    | error us => rw [hf] at h; cases h
    | ok x =>
      rw [hf] at h
      obtain ⟨x, vs⟩ := x
      cases h
      have := fields_later n _ _ _ _ _ _ hf
      have e3 : ((⟨k, t.line, [], [], []⟩ : Item).later n) = ⟨k, ((Lx.later n t).line : Nat), [], [], []⟩ := by simp [Item.later, Lx.later]
      rw [e3] at this
      rw [this]
      simp [Draft.later]
theorem parse_later (n : Nat) : ∀ (k : Nat) (ts : List Tok) (d d' : Draft), ts.length ≤ k → parse d ts = .ok d' → parse (d.later n) (ts.map (Lx.later n)) = .ok (d'.later n) := by
  intro k
  induction k with
  | zero =>
    intro ts d d' hk h
    obtain rfl : ts = [] := List.eq_nil_of_length_eq_zero (by omega)
    cases h
  | succ k ih =>
    intro ts d d' hk h
    cases ts with
    | nil => cases h
    | cons t r =>
      rw [parse_cons] at h
      rw [List.map_cons, parse_cons]
      have e1 : (Lx.later n t).kind = t.kind := rfl
      rw [e1]
      by_cases h4 : t.kind = 4
      · rw [if_pos h4] at h ⊢; cases h; rfl
      rw [if_neg h4] at h ⊢
      cases hl : line d t r with
      | error e => rw [hl] at h; cases h
      | ok x =>
        rw [hl] at h
        obtain ⟨d1, us⟩ := x
        have hln := line_len hl
        rw [line_later n d t r d1 us hl]
        dsimp only at h ⊢
        cases us with
        | nil => cases h
        | cons u vs =>
          rw [List.map_cons]
          rw [after] at h ⊢
          have e2 : (Lx.later n u).kind = u.kind := rfl
          rw [e2]
          by_cases hu4 : u.kind = 4
          · rw [if_pos hu4] at h ⊢; cases h; rfl
          rw [if_neg hu4] at h ⊢
          by_cases hu : u.kind = 3
          · rw [if_pos hu] at h ⊢
            exact ih vs d1 d' (by simp at hk hln; omega) h
          · rw [if_neg hu] at h; cases h

/-- Two texts with an LF between them. -/
theorem joins (a b : List UInt8) (ta tb : List Tok) (x y : Draft) (ha : a.length ≤ 2500) (hb : b.length ≤ 2500) (hla : Lx.lex a 1 = .ok ta) (hlb : Lx.lex b 1 = .ok tb)
    (hx : parse .none ta = .ok x) (hy : parse .none tb = .ok y) (hd : y.decks = []) :
    ∃ front m tc, ta = front ++ [⟨4, [], 0, m⟩] ∧ Lx.lex (a ++ 10 :: b) 1 = .ok tc ∧ parse .none tc = .ok ⟨x.decks, x.items ++ y.items.map (Item.later m)⟩ := by
  obtain ⟨front, m, h1, h2, h3⟩ := Lx.lex_joins a b ta hla
  rw [hlb] at h3
  refine ⟨front, m, _, h1, h3, ?_⟩
  have hg := (Lx.lex_good _ a 1 ta (Nat.lt_succ_self _) hla).1
  rw [h1] at hg hx
  rw [parse_append m _ rfl _ _ front _ x (Nat.le_refl _) (goods_front front 1 m hg) hx]
  have l1 := (Lx.lex_lines _ a 1 ta (Nat.lt_succ_self _) hla).2.1
  have l2 := (Lx.lex_lines _ b 1 tb (Nat.lt_succ_self _) hlb).2.1
  have m1 := (parse_mono _ _ _ _ (Nat.le_refl _) hx).2
  rw [h1] at l1
  have := parse_onto x.decks x.items m _ tb .none y (Nat.le_refl _) hd (by simp [Draft.none] at m1 l1 ⊢; omega) hy
  have e : onto x.decks x.items m .none = x := by simp [onto, Draft.none]
  rw [e] at this
  exact this

theorem lex_lfs (rest : List UInt8) (ts : List Tok) (h : Lx.lex rest 1 = .ok ts) : ∀ n : Nat, ∃ lfs : List Tok, (∀ t ∈ lfs, t.kind = 3) ∧ Lx.lex (List.replicate n 10 ++ rest) 1 = .ok (lfs ++ ts.map (Lx.later n))
  | 0 => ⟨[], by simp, by rw [List.replicate_zero, List.nil_append, List.nil_append, h, Lx.later0]⟩
  | n + 1 => by
    obtain ⟨lfs, h1, h2⟩ := lex_lfs rest ts h n
    refine ⟨⟨3, [], 0, 1⟩ :: lfs.map (Lx.later 1), ?_, ?_⟩
    · intro t ht
      rcases List.mem_cons.1 ht with rfl | ht
      · rfl
      · obtain ⟨u, hu, rfl⟩ := List.mem_map.1 ht
        exact h1 u hu
    · rw [List.replicate_succ, List.cons_append, Lx.lex_tok 1 (Lx.step_lf _), show Lx.nl 3 1 = 1 + 1 from rfl, Lx.lex_later 1 _ _ 1 (Nat.lt_succ_self _), h2]
      simp [Lx.pre, Lx.later, Function.comp_def, Nat.add_assoc]
theorem parse_lfs (d : Draft) (r : List Tok) : ∀ lfs : List Tok, (∀ t ∈ lfs, t.kind = 3) → parse d (lfs ++ r) = parse d r
  | [], _ => rfl
  | t :: lfs, h => by rw [List.cons_append, parse_line d t (h t (List.mem_cons_self ..)), parse_lfs d r lfs (fun u hu => h u (List.mem_cons_of_mem _ hu))]
/-- Empty lines and comments before and behind. -/
theorem blanks (src c : List UInt8) (n : Nat) (ts : List Tok) (d : Draft) (hc : ∀ x ∈ c, x ≠ 10) (hl : Lx.lex src 1 = .ok ts) (hd : parse .none ts = .ok d) :
    ∃ tc, Lx.lex (35 :: (c ++ 10 :: (List.replicate n 10 ++ (src ++ (32 :: 32 :: 32 :: 35 :: c))))) 1 = .ok tc ∧ parse .none tc = .ok (d.later (n + 1)) := by
  have h1 : Lx.lex (src ++ (32 :: 32 :: 32 :: 35 :: c)) 1 = .ok ts := by
    have := Lx.lex_whites [32, 32, 32] src c ts (by decide) (by simp) hc hl
    rw [Lx.lex_white _ _ _ (by decide)] at this
    exact this
  obtain ⟨lfs, h2, h3⟩ := lex_lfs _ ts h1 n
  have h4 : Lx.lex (35 :: c) 1 = .ok [⟨4, [], 0, 1⟩] := by
    refine Lx.lex_done 1 ?_
    rw [Lx.skip, if_neg (by decide), if_pos rfl, Lx.skip_comment c hc]; rfl
  obtain ⟨front, m, h5, h6, h7⟩ := Lx.lex_joins (35 :: c) (List.replicate n 10 ++ (src ++ (32 :: 32 :: 32 :: 35 :: c))) _ h4
  rw [h3] at h7
  have hf : front = [] ∧ m = 1 := by
    cases front with
    | nil => simp at h5; exact ⟨rfl, h5.symm⟩
    | cons a l => simp at h5
  obtain ⟨rfl, rfl⟩ := hf
  refine ⟨_, h7, ?_⟩
  rw [List.nil_append, parse_line _ _ rfl, List.map_append, parse_lfs]
  · have := parse_later (n + 1) _ ts .none d (Nat.le_refl _) hd
    have e : (ts.map (Lx.later n)).map (Lx.later 1) = ts.map (Lx.later (n + 1)) := by simp [Function.comp_def, Lx.later, Nat.add_assoc]
    rw [e]
    exact this
  · intro t ht
    obtain ⟨u, hu, rfl⟩ := List.mem_map.1 ht
    exact h2 u hu
end Dr
end Go.Proofs.YtnccndfffmaonaaGreatDoor
/- Drafts in plain words: what is right, what is printed, and that what is printed is read again. -/
namespace Go.Proofs.YtnccndfffmaonaaGreatDoor
set_option linter.unusedSimpArgs false
namespace Lx
/-- How a token is written. -/
def srcT (t : Tok) : List UInt8 := if t.kind = 2 then quote t.text else t.text
theorem step_src (t : Tok) (h : Good t) (h3 : t.kind ≠ 3) (x : UInt8) (hx : part x = false) (r : List UInt8) : step (skip false (srcT t ++ x :: r)) = .tok t.kind t.text t.n (x :: r) := by
  obtain ⟨k, tx, n, ln⟩ := t
  rcases h with ⟨hk, hw, hn⟩ | ⟨hk, hn0, hn1, ht⟩ | ⟨hk, hn⟩ | ⟨hk, ht, hn⟩ <;> dsimp only at *
  · subst hk; subst hn
    have h2 := hw
    unfold word at h2
    simp only [Bool.and_eq_true] at h2
    obtain ⟨⟨⟨ha, _⟩, _⟩, hlt⟩ := h2
    rw [srcT, if_neg (by simp)]
    cases tx with
    | nil => exact absurd hw (by decide)
    | cons c tx =>
      have hc : letter c = true := hlt
      have hp := part_not_white (letter_part hc)
      dsimp only
      rw [List.cons_append, skip, if_neg (by rw [hp.1]; simp), if_neg hp.2.1, step, if_pos (by rw [hc]; rfl), ← List.cons_append]
      have e1 : (c :: tx ++ x :: r).takeWhile part = c :: tx := by
        rw [tw_append _ _ _ hx]; exact (tw_all _ ha).1
      have e2 : (c :: tx ++ x :: r).dropWhile part = x :: r := by
        rw [dw_append _ _ _ hx, (tw_all _ ha).2]; rfl
      rw [e1, e2, tokW_word _ hw]
  · subst hk
    rw [srcT, if_neg (by simp)]
    have htok := tokW_num n hn0 hn1
    have he : Lib.itoa n = Lib.decDigits n.toNat := by rw [Lib.itoa, if_neg (by omega)]
    have ha := dec_all n.toNat
    rw [← he, ← ht] at ha
    rw [← ht] at htok
    cases tx with
    | nil => exact absurd (he.symm.trans ht.symm) (dec_ne _)
    | cons c tx =>
      have hc : digit c = true := by simp only [List.all_cons, Bool.and_eq_true] at ha; exact ha.1
      have hp := part_not_white (digit_part hc)
      have ha2 := all_mono (fun c => digit_part) ha
      dsimp only
      rw [List.cons_append, skip, if_neg (by rw [hp.1]; simp), if_neg hp.2.1, step, if_pos (by rw [hc]; simp), ← List.cons_append]
      have e1 : (c :: tx ++ x :: r).takeWhile part = c :: tx := by
        rw [tw_append _ _ _ hx]; exact (tw_all _ ha2).1
      have e2 : (c :: tx ++ x :: r).dropWhile part = x :: r := by
        rw [dw_append _ _ _ hx, (tw_all _ ha2).2]; rfl
      rw [e1, e2, htok]
  · subst hk; subst hn
    rw [srcT, if_pos rfl]
    dsimp only
    show step (skip false (34 :: (qb tx ++ [34]) ++ x :: r)) = _
    rw [List.cons_append, skip, if_neg (by decide), if_neg (by decide), step, if_neg (by decide), if_pos rfl]
    rw [show qb tx ++ [34] ++ x :: r = qb tx ++ 34 :: (x :: r) by simp, qscan_qb]
    dsimp only
    rw [raw_qb, if_pos (show quote tx = 34 :: (qb tx ++ [34]) from rfl)]
  · exact absurd hk h3
def pres (ts : List Tok) : Except (Nat × Nat) (List Tok) → Except (Nat × Nat) (List Tok)
  | .ok us => .ok (ts ++ us)
  | .error e => .error e
theorem pre_pres (t : Tok) (ts : List Tok) (r : Except (Nat × Nat) (List Tok)) : pre t (pres ts r) = pres (t :: ts) r := by cases r <;> rfl
def txt (ts : List Tok) : List UInt8 := ts.flatMap fun t => 32 :: srcT t
theorem lex_txt (ln : Nat) (r : List UInt8) : ∀ ts : List Tok, (∀ t ∈ ts, Good t ∧ t.kind ≠ 3 ∧ t.line = ln) → lex (txt ts ++ 10 :: r) ln = pres (ts ++ [⟨3, [], 0, ln⟩]) (lex r (ln + 1))
  | [], _ => by
    show lex (10 :: r) ln = _
    rw [lex_tok ln (step_lf r), nl, if_pos rfl]; cases lex r (ln + 1) <;> rfl
  | t :: ts, h => by
    obtain ⟨h1, h2, h3⟩ := h t (List.mem_cons_self ..)
    have ih := lex_txt ln r ts (fun u hu => h u (List.mem_cons_of_mem _ hu))
    show lex (32 :: srcT t ++ txt ts ++ 10 :: r) ln = _
    rw [List.append_assoc, List.cons_append, lex_space]
    have hx : ∃ x s, txt ts ++ 10 :: r = x :: s ∧ part x = false := by
      cases ts with
      | nil => exact ⟨10, r, rfl, by decide⟩
      | cons u us => exact ⟨32, _, rfl, by decide⟩
    obtain ⟨x, s, he, hp⟩ := hx
    rw [he, lex_tok ln (step_src t h1 h2 x hp s), nl, if_neg h2, ← he, ih, pre_pres]
    subst h3; rfl
end Lx
namespace Dr
open Lx (Tok)

def words (k : Nat) : Nat := (partsOf k).count 119
def nums (k : Nat) : Nat := (partsOf k).count 110 + (partsOf k).count 100
def nameOk (x : Item) : Bool := (decide (x.name = []) && decide (words x.kind.toNat = 0)) || ((decide (0 < words x.kind.toNat) || (partsOf x.kind.toNat).contains 111) && Lx.word x.name)
def otherOk (x : Item) : Bool := (decide (x.other = []) && decide (words x.kind.toNat < 2)) || (decide (words x.kind.toNat = 2) && Lx.word x.other)
def rightI (x : Item) : Bool :=
  if x.kind < 0 ∨ 6 ≤ x.kind ∨ x.n.any (fun n => decide (n < 0)) = true then false
  else if x.n.length ≠ nums x.kind.toNat then false
  else if x.kind = 2 ∧ 6 ≤ x.n.getD 3 0 then false
  else nameOk x && otherOk x
def rightR (rows : List (List UInt8)) : Bool := decide (rows.length ≤ 4096) && rows.all (fun s => decide (s.length ≤ 4096))
def rightD (d : Draft) : Bool := d.decks.all rightR && (decide (d.decks.length ≤ 4) && (decide (d.items.length ≤ 5000) && d.items.all rightI))

def outs : List UInt8 → List (List UInt8) → List Int → List (List UInt8)
  | [], _, _ => []
  | p :: ps, names, ns =>
    if p = 110 then Lib.itoa (ns.headD 0) :: outs ps names ns.tail
    else if p = 100 then dirs.getD (ns.headD 0).toNat [] :: outs ps names ns.tail
    else if names.headD [] = [] then outs ps names ns else names.headD [] :: outs ps names.tail ns
def spaced (l : List (List UInt8)) : List UInt8 := l.flatMap (32 :: ·)
/-- The line of an item. -/
def lineB (x : Item) : List UInt8 := wordOf x.kind.toNat ++ spaced (outs (partsOf x.kind.toNat) [x.name, x.other] x.n) ++ [10]
def rowB (s : List UInt8) : List UInt8 := wRow ++ (32 :: (quote s ++ [10]))
def deckB (rows : List (List UInt8)) : List UInt8 := wDeck ++ (10 :: rows.flatMap rowB)
def bodyB (d : Draft) : List UInt8 := d.decks.flatMap deckB ++ d.items.flatMap lineB
def printB (d : Draft) : List UInt8 := if rightD d then bodyB d else []

/-- The tokens of an item's line. -/
def ptoks (ln : Nat) : List UInt8 → List (List UInt8) → List Int → List Tok
  | [], _, _ => []
  | p :: ps, names, ns =>
    if p = 110 then ⟨1, Lib.itoa (ns.headD 0), ns.headD 0, ln⟩ :: ptoks ln ps names ns.tail
    else if p = 100 then ⟨0, dirs.getD (ns.headD 0).toNat [], 0, ln⟩ :: ptoks ln ps names ns.tail
    else if names.headD [] = [] then ptoks ln ps names ns else ⟨0, names.headD [], 0, ln⟩ :: ptoks ln ps names.tail ns
theorem ptoks_txt (ln : Nat) : ∀ (ps : List UInt8) (names : List (List UInt8)) (ns : List Int), Lx.txt (ptoks ln ps names ns) = spaced (outs ps names ns)
  | [], _, _ => rfl
  | p :: ps, names, ns => by
    rw [ptoks, outs]
    split
    · show (32 :: Lx.srcT _) ++ Lx.txt _ = (32 :: _) ++ spaced _
      rw [ptoks_txt ln ps]; rfl
    · split
      · show (32 :: Lx.srcT _) ++ Lx.txt _ = (32 :: _) ++ spaced _
        rw [ptoks_txt ln ps]; rfl
      · split
        · exact ptoks_txt ln ps names ns
        · show (32 :: Lx.srcT _) ++ Lx.txt _ = (32 :: _) ++ spaced _
          rw [ptoks_txt ln ps]; rfl

theorem kind_cases {k : Int} (h0 : 0 ≤ k) (h1 : k < 6) : k = 0 ∨ k = 1 ∨ k = 2 ∨ k = 3 ∨ k = 4 ∨ k = 5 := by omega
/-- What a right item has. -/
theorem right_parts {x : Item} (h : rightI x = true) : 0 ≤ x.kind ∧ x.kind < 6 ∧ (∀ n ∈ x.n, 0 ≤ n) ∧ x.n.length = nums x.kind.toNat ∧ (x.kind = 2 → x.n.getD 3 0 < 6) ∧ nameOk x = true ∧ otherOk x = true := by
  unfold rightI at h
  by_cases h1 : x.kind < 0 ∨ 6 ≤ x.kind ∨ x.n.any (fun n => decide (n < 0)) = true
  · rw [if_pos h1] at h; cases h
  rw [if_neg h1] at h
  by_cases h2 : x.n.length ≠ nums x.kind.toNat
  · rw [if_pos h2] at h; cases h
  rw [if_neg h2] at h
  by_cases h3 : x.kind = 2 ∧ 6 ≤ x.n.getD 3 0
  · rw [if_pos h3] at h; cases h
  rw [if_neg h3, Bool.and_eq_true] at h
  rw [not_or, not_or] at h1
  refine ⟨by omega, by omega, ?_, by omega, fun e => ?_, h.1, h.2⟩
  · intro n hn
    apply Decidable.byContradiction; intro hc
    exact h1.2.2 (List.any_eq_true.2 ⟨n, hn, by simpa using hc⟩)
  · apply Decidable.byContradiction; intro hc
    exact h3 ⟨e, by omega⟩
theorem len_0 {l : List Int} (h : l.length = 0) : l = [] := List.eq_nil_of_length_eq_zero h
theorem len_s {l : List Int} {n : Nat} (h : l.length = n + 1) : ∃ a r, l = a :: r ∧ r.length = n := by
  cases l with
  | nil => simp at h
  | cons a r => exact ⟨a, r, rfl, by simpa using h⟩
theorem dir_of {d : Int} (h0 : 0 ≤ d) (h : d < 6) : dirOf (dirs.getD d.toNat []) = some d.toNat ∧ Lx.word (dirs.getD d.toNat []) = true := by
  have h6 : d.toNat < 6 := by omega
  have : ∀ k, k < 6 → dirOf (dirs.getD k []) = some k ∧ Lx.word (dirs.getD k []) = true := by decide
  exact this _ h6
theorem word_kind : ∀ k, k < 6 → kindOf (wordOf k) = some k ∧ Lx.word (wordOf k) = true ∧ wordOf k ≠ wDeck ∧ wordOf k ≠ wRow := by decide
theorem word_ne {l : List UInt8} (h : Lx.word l = true) : l ≠ [] := by rintro rfl; exact absurd h (by decide)
/-- A right item, in its form. -/
inductive Shape : Item → Prop where
  | zone (ln : Int) (nm : List UInt8) (a b c d e f g : Int) (h : Lx.word nm = true) : Shape ⟨0, ln, nm, [], [a, b, c, d, e, f, g]⟩
  | shift (ln : Int) (nm : List UInt8) (a b : Int) (h : Lx.word nm = true) : Shape ⟨1, ln, nm, [], [a, b]⟩
  | oneway (ln : Int) (a b c d : Int) (h : d < 6) : Shape ⟨2, ln, [], [], [a, b, c, d]⟩
  | apart (ln : Int) (nm ot : List UInt8) (h : Lx.word nm = true) (h2 : Lx.word ot = true) : Shape ⟨3, ln, nm, ot, []⟩
  | shelf (ln : Int) (nm : List UInt8) (a b c : Int) (h : nm = [] ∨ Lx.word nm = true) : Shape ⟨4, ln, nm, [], [a, b, c]⟩
  | robot (ln : Int) (a b c d : Int) : Shape ⟨5, ln, [], [], [a, b, c, d]⟩
theorem right_shape {x : Item} (h : rightI x = true) : Shape x := by
  obtain ⟨h0, h1, h2, h3, h4, h5, h6⟩ := right_parts h
  obtain ⟨k, ln, nm, ot, n⟩ := x
  dsimp only at *
  unfold nameOk at h5
  unfold otherOk at h6
  dsimp only at h5 h6
  rcases kind_cases h0 h1 with rfl | rfl | rfl | rfl | rfl | rfl
  · have e1 : words 0 = 1 := by decide
    have e2 : nums 0 = 7 := by decide
    simp only [Int.toNat_zero] at *
    simp only [e1] at h5 h6; rw [e2] at h3
    obtain ⟨a, n1, rfl, g1⟩ := len_s h3
    obtain ⟨b, n2, rfl, g2⟩ := len_s g1
    obtain ⟨c, n3, rfl, g3⟩ := len_s g2
    obtain ⟨d, n4, rfl, g4⟩ := len_s g3
    obtain ⟨e, n5, rfl, g5⟩ := len_s g4
    obtain ⟨f, n6, rfl, g6⟩ := len_s g5
    obtain ⟨g, n7, rfl, g7⟩ := len_s g6
    obtain rfl := len_0 g7
    simp at h5 h6; subst h6
    exact .zone ln nm a b c d e f g h5
  · have e1 : words 1 = 1 := by decide
    have e2 : nums 1 = 2 := by decide
    simp only [Int.toNat_one] at *
    simp only [e1] at h5 h6; rw [e2] at h3
    obtain ⟨a, n8, rfl, g8⟩ := len_s h3
    obtain ⟨b, n9, rfl, g9⟩ := len_s g8
    obtain rfl := len_0 g9
    simp at h5 h6; subst h6
    exact .shift ln nm a b h5
  · have e1 : words 2 = 0 := by decide
    have e2 : nums 2 = 4 := by decide
    have e3 : (partsOf 2).contains 111 = false := by decide
    have e4 : (2 : Int).toNat = 2 := rfl
    rw [e4] at h3 h5 h6
    simp only [e1, e3] at h5 h6; rw [e2] at h3
    obtain ⟨a, n10, rfl, g10⟩ := len_s h3
    obtain ⟨b, n11, rfl, g11⟩ := len_s g10
    obtain ⟨c, n12, rfl, g12⟩ := len_s g11
    obtain ⟨d, n13, rfl, g13⟩ := len_s g12
    obtain rfl := len_0 g13
    simp at h5 h6 h4; subst h5; subst h6
    exact .oneway ln a b c d h4
  · have e1 : words 3 = 2 := by decide
    have e2 : nums 3 = 0 := by decide
    have e4 : (3 : Int).toNat = 3 := rfl
    rw [e4] at h3 h5 h6
    simp only [e1] at h5 h6; rw [e2] at h3
    obtain rfl := len_0 h3
    simp at h5 h6
    exact .apart ln nm ot h5 h6
  · have e1 : words 4 = 0 := by decide
    have e2 : nums 4 = 3 := by decide
    have e3 : (partsOf 4).contains 111 = true := by decide
    have e4 : (4 : Int).toNat = 4 := rfl
    rw [e4] at h3 h5 h6
    simp only [e1, e3] at h5 h6; rw [e2] at h3
    obtain ⟨a, n14, rfl, g14⟩ := len_s h3
    obtain ⟨b, n15, rfl, g15⟩ := len_s g14
    obtain ⟨c, n16, rfl, g16⟩ := len_s g15
    obtain rfl := len_0 g16
    simp at h5 h6; subst h6
    exact .shelf ln nm a b c h5
  · have e1 : words 5 = 0 := by decide
    have e2 : nums 5 = 4 := by decide
    have e3 : (partsOf 5).contains 111 = false := by decide
    have e4 : (5 : Int).toNat = 5 := rfl
    rw [e4] at h3 h5 h6
    simp only [e1, e3] at h5 h6; rw [e2] at h3
    obtain ⟨a, n17, rfl, g17⟩ := len_s h3
    obtain ⟨b, n18, rfl, g18⟩ := len_s g17
    obtain ⟨c, n19, rfl, g19⟩ := len_s g18
    obtain ⟨d, n20, rfl, g20⟩ := len_s g19
    obtain rfl := len_0 g20
    simp at h5 h6; subst h5; subst h6
    exact .robot ln a b c d

theorem good_word {w : List UInt8} (h : Lx.word w = true) (ln : Nat) : Lx.Good ⟨0, w, 0, ln⟩ := .inl ⟨rfl, h, rfl⟩
theorem good_num {a : Int} (h0 : 0 ≤ a) (h1 : a ≤ 9223372036854775807) (ln : Nat) : Lx.Good ⟨1, Lib.itoa a, a, ln⟩ := .inr (.inl ⟨rfl, h0, h1, rfl⟩)
/-- Each token of an item's line is good. -/
theorem ptoks_good (ln : Nat) : ∀ (ps : List UInt8) (names : List (List UInt8)) (ns : List Int), (∀ n ∈ ns, 0 ≤ n ∧ n ≤ 9223372036854775807) → (∀ nm ∈ names, nm = [] ∨ Lx.word nm = true) →
    (ps.count 110 + ps.count 100 ≤ ns.length) → (∀ i, ps[i]? = some 100 → (ns.getD ((ps.take i).count 110 + (ps.take i).count 100) 0) < 6) → ∀ t ∈ ptoks ln ps names ns, Lx.Good t ∧ t.kind ≠ 3 ∧ t.line = ln
  | [], _, _, _, _, _, _ => by intro t ht; cases ht
  | p :: ps, names, ns, hn, hm, hc, hd => by
    rw [ptoks]
    by_cases hp : p = 110
    · subst hp
      rw [if_pos rfl]
      rw [List.count_cons_self, List.count_cons_of_ne (by decide)] at hc
      cases ns with
      | nil => simp at hc
      | cons a ns =>
        intro t ht
        rcases List.mem_cons.1 ht with rfl | ht
        · have := hn a (List.mem_cons_self ..)
          exact ⟨good_num this.1 this.2 ln, by simp, rfl⟩
        · refine ptoks_good ln ps names ns (fun n h => hn n (List.mem_cons_of_mem _ h)) hm (by simp at hc; omega) ?_ t ht
          intro i hi
          have := hd (i + 1) (by simpa using hi)
          rw [List.take_succ_cons, List.count_cons_self, List.count_cons_of_ne (by decide)] at this
          rw [show (ps.take i).count 110 + 1 + (ps.take i).count 100 = ((ps.take i).count 110 + (ps.take i).count 100) + 1 by omega] at this
          simpa using this
    rw [if_neg hp]
    by_cases hp2 : p = 100
    · subst hp2
      rw [if_pos rfl]
      rw [List.count_cons_self, List.count_cons_of_ne (by decide)] at hc
      cases ns with
      | nil => simp at hc
      | cons a ns =>
        intro t ht
        rcases List.mem_cons.1 ht with rfl | ht
        · have h1 := hn a (List.mem_cons_self ..)
          have h2 := hd 0 (by simp)
          simp at h2
          exact ⟨good_word (dir_of h1.1 h2).2 ln, by simp, rfl⟩
        · refine ptoks_good ln ps names ns (fun n h => hn n (List.mem_cons_of_mem _ h)) hm (by simp at hc; omega) ?_ t ht
          intro i hi
          have := hd (i + 1) (by simpa using hi)
          rw [List.take_succ_cons, List.count_cons_self, List.count_cons_of_ne (by decide)] at this
          rw [show (ps.take i).count 110 + ((ps.take i).count 100 + 1) = ((ps.take i).count 110 + (ps.take i).count 100) + 1 by omega] at this
          simpa using this
    rw [if_neg hp2]
    have hc' : ps.count 110 + ps.count 100 ≤ ns.length := by
      rw [List.count_cons_of_ne (fun e => hp e), List.count_cons_of_ne (fun e => hp2 e)] at hc; exact hc
    have hd' : ∀ i, ps[i]? = some 100 → (ns.getD ((ps.take i).count 110 + (ps.take i).count 100) 0) < 6 := by
      intro i hi
      have := hd (i + 1) (by simpa using hi)
      rw [List.take_succ_cons, List.count_cons_of_ne (fun e => hp e), List.count_cons_of_ne (fun e => hp2 e)] at this
      exact this
    by_cases he : names.headD [] = []
    · rw [if_pos he]; exact ptoks_good ln ps names ns hn hm hc' hd'
    rw [if_neg he]
    intro t ht
    rcases List.mem_cons.1 ht with rfl | ht
    · cases names with
      | nil => exact absurd rfl he
      | cons nm names =>
        rcases hm nm (List.mem_cons_self ..) with h | h
        · exact absurd h he
        · exact ⟨good_word h ln, by simp, rfl⟩
    · exact ptoks_good ln ps names.tail ns hn (fun nm h => hm nm (List.mem_of_mem_tail h)) hc' hd' t ht

/-- A right item's line is read as this item. -/
theorem fields_right {x : Item} (h : rightI x = true) (ln : Nat) (L : Tok) (hL : L.kind = 3) (rest : List Tok) :
    fields (partsOf x.kind.toNat) 0 ⟨x.kind.toNat, ln, [], [], []⟩ (ptoks ln (partsOf x.kind.toNat) [x.name, x.other] x.n ++ L :: rest) = .ok ({ x with line := ln }, L :: rest) := by
  have hp := (right_parts h).2.2.1
  cases right_shape h with
  | zone _ nm a b c d e f g hw => simp [partsOf, ptoks, fields, setName, word_ne hw]
  | shift _ nm a b hw => simp [partsOf, ptoks, fields, setName, word_ne hw]
  | oneway _ a b c d hw =>
    have h0 := hp d (by simp)
    have := (dir_of h0 hw).1
    have e : ((d.toNat : Nat) : Int) = d := by omega
    simp only [partsOf, ptoks, fields, setName, show (2 : Int).toNat = 2 from rfl, List.headD_cons, List.tail_cons, if_true, List.cons_append, List.nil_append, List.append_nil, if_neg (show ¬ (100 : UInt8) = 110 by decide)]
    rw [this]
    simp [e]
  | apart _ nm ot hw h2 => simp [partsOf, ptoks, fields, setName, word_ne hw, word_ne h2]
  | shelf _ nm a b c hw =>
    rcases hw with rfl | hw
    · simp [partsOf, ptoks, fields, setName, hL]
    · simp [partsOf, ptoks, fields, setName, word_ne hw]
  | robot _ a b c d => simp [partsOf, ptoks, fields, setName]
end Dr
end Go.Proofs.YtnccndfffmaonaaGreatDoor
/- Drafts in plain words: what is printed is read as it was; what is read is right. -/
namespace Go.Proofs.YtnccndfffmaonaaGreatDoor
namespace Dr
open Lx (Tok)

/-- A text from a line on, read onto a draft. -/
def P (d : Draft) (l : List UInt8) (ln : Nat) : Except (Nat × Nat) Draft := match Lx.lex l ln with | .ok ts => parse d ts | .error e => .error e
theorem P_pres {d : Draft} {l r : List UInt8} {ln ln' : Nat} {ts : List Tok} {d' : Draft} (h : Lx.lex l ln = Lx.pres ts (Lx.lex r ln')) (hp : ∀ us, parse d (ts ++ us) = parse d' us) : P d l ln = P d' r ln' := by
  unfold P; rw [h]
  cases Lx.lex r ln' with
  | ok us => exact hp us
  | error e => rfl
theorem P_nil (d : Draft) (ln : Nat) : P d [] ln = .ok d := by
  unfold P; rw [Lx.lex_done ln (by rfl)]; exact parse_end d ln []
theorem P_ok {d d' : Draft} {l : List UInt8} {ln : Nat} (h : P d l ln = .ok d') : ∃ ts, Lx.lex l ln = .ok ts ∧ parse d ts = .ok d' := by
  unfold P at h
  cases hl : Lx.lex l ln with
  | ok ts => rw [hl] at h; exact ⟨ts, rfl, h⟩
  | error e => rw [hl] at h; cases h

theorem ptoks_right {x : Item} (h : rightI x = true) (hn : ∀ n ∈ x.n, n ≤ 9223372036854775807) (ln : Nat) : ∀ t ∈ ptoks ln (partsOf x.kind.toNat) [x.name, x.other] x.n, Lx.Good t ∧ t.kind ≠ 3 ∧ t.line = ln := by
  have hp := (right_parts h).2.2.1
  have g := fun (a : Int) (ha : a ∈ x.n) => (⟨good_num (hp a ha) (hn a ha) ln, by simp, rfl⟩ : Lx.Good ⟨1, Lib.itoa a, a, ln⟩ ∧ (⟨1, Lib.itoa a, a, ln⟩ : Tok).kind ≠ 3 ∧ (⟨1, Lib.itoa a, a, ln⟩ : Tok).line = ln)
  have gw := fun (w : List UInt8) (hw : Lx.word w = true) => (⟨good_word hw ln, by simp, rfl⟩ : Lx.Good ⟨0, w, 0, ln⟩ ∧ (⟨0, w, 0, ln⟩ : Tok).kind ≠ 3 ∧ (⟨0, w, 0, ln⟩ : Tok).line = ln)
  intro t ht
  cases right_shape h with
  | zone _ nm a b c d e f k hw =>
    simp [partsOf, ptoks, word_ne hw] at ht
    rcases ht with rfl | rfl | rfl | rfl | rfl | rfl | rfl | rfl
    · exact gw _ hw
    all_goals exact g _ (by simp)
  | shift _ nm a b hw =>
    simp [partsOf, ptoks, word_ne hw] at ht
    rcases ht with rfl | rfl | rfl
    · exact gw _ hw
    all_goals exact g _ (by simp)
  | oneway _ a b c d hw =>
    simp only [partsOf, ptoks, show (2 : Int).toNat = 2 from rfl, List.headD_cons, List.tail_cons, if_true, if_neg (show ¬ (100 : UInt8) = 110 by decide), List.mem_cons, List.not_mem_nil, or_false] at ht
    rcases ht with rfl | rfl | rfl | rfl
    · exact g _ (by simp)
    · exact g _ (by simp)
    · exact g _ (by simp)
    · exact gw _ (dir_of (hp d (by simp)) hw).2
  | apart _ nm ot hw h2 =>
    simp [partsOf, ptoks, word_ne hw, word_ne h2] at ht
    rcases ht with rfl | rfl
    · exact gw _ hw
    · exact gw _ h2
  | shelf _ nm a b c hw =>
    rcases hw with rfl | hw
    · simp [partsOf, ptoks] at ht
      rcases ht with rfl | rfl | rfl
      all_goals exact g _ (by simp)
    · simp [partsOf, ptoks, word_ne hw] at ht
      rcases ht with rfl | rfl | rfl | rfl
      · exact g _ (by simp)
      · exact g _ (by simp)
      · exact g _ (by simp)
      · exact gw _ hw
  | robot _ a b c d =>
    simp [partsOf, ptoks] at ht
    rcases ht with rfl | rfl | rfl | rfl
    all_goals exact g _ (by simp)

theorem lex_item {x : Item} (h : rightI x = true) (hn : ∀ n ∈ x.n, n ≤ 9223372036854775807) (ln : Nat) (r : List UInt8) :
    Lx.lex (lineB x ++ r) ln = Lx.pres (⟨0, wordOf x.kind.toNat, 0, ln⟩ :: (ptoks ln (partsOf x.kind.toNat) [x.name, x.other] x.n ++ [⟨3, [], 0, ln⟩])) (Lx.lex r (ln + 1)) := by
  have hk := right_parts h
  have hw := word_kind x.kind.toNat (by omega)
  have hg := ptoks_right h hn ln
  have := Lx.lex_txt ln r (⟨0, wordOf x.kind.toNat, 0, ln⟩ :: ptoks ln (partsOf x.kind.toNat) [x.name, x.other] x.n) (by
    intro t ht
    rcases List.mem_cons.1 ht with rfl | ht
    · exact ⟨good_word hw.2.1 ln, by simp, rfl⟩
    · exact hg t ht)
  rw [List.cons_append] at this
  rw [← this, ← Lx.lex_space]
  congr 1
  show _ = (32 :: Lx.srcT _ ++ Lx.txt _) ++ 10 :: r
  rw [ptoks_txt]
  simp [lineB, Lx.srcT]
theorem parse_item {x : Item} (h : rightI x = true) (ln : Nat) (d : Draft) (hd : d.items.length < 5000) (us : List Tok) :
    parse d ((⟨0, wordOf x.kind.toNat, 0, ln⟩ :: (ptoks ln (partsOf x.kind.toNat) [x.name, x.other] x.n ++ [⟨3, [], 0, ln⟩])) ++ us) = parse ⟨d.decks, d.items ++ [{ x with line := ln }]⟩ us := by
  have hk := right_parts h
  obtain ⟨h1, h2, h3, h4⟩ := word_kind x.kind.toNat (by omega)
  have hf := fields_right h ln ⟨3, [], 0, ln⟩ rfl us
  rw [List.cons_append, List.append_assoc, parse_cons, if_neg (by simp)]
  have hl : line d ⟨0, wordOf x.kind.toNat, 0, ln⟩ (ptoks ln (partsOf x.kind.toNat) [x.name, x.other] x.n ++ ([⟨3, [], 0, ln⟩] ++ us)) = .ok (⟨d.decks, d.items ++ [{ x with line := ln }]⟩, ⟨3, [], 0, ln⟩ :: us) := by
    unfold line
    rw [if_neg (by simp), if_neg (by simp), if_neg h3, if_neg h4, h1]
    dsimp only [List.cons_append, List.nil_append]
    rw [if_neg (by omega), hf]
  rw [hl]
  dsimp only [after]
  rw [if_neg (by simp), if_pos rfl]
theorem P_item {x : Item} (h : rightI x = true) (hn : ∀ n ∈ x.n, n ≤ 9223372036854775807) (ln : Nat) (d : Draft) (hd : d.items.length < 5000) (r : List UInt8) :
    P d (lineB x ++ r) ln = P ⟨d.decks, d.items ++ [{ x with line := ln }]⟩ r (ln + 1) := P_pres (lex_item h hn ln r) (parse_item h ln d hd)

theorem word_deck : Lx.word wDeck = true ∧ Lx.word wRow = true := by decide
theorem P_deck (ln : Nat) (d : Draft) (hd : d.decks.length < 4) (r : List UInt8) : P d (wDeck ++ 10 :: r) ln = P ⟨d.decks ++ [[]], d.items⟩ r (ln + 1) := by
  refine P_pres (ts := [⟨0, wDeck, 0, ln⟩, ⟨3, [], 0, ln⟩]) ?_ ?_
  · have := Lx.lex_txt ln r [⟨0, wDeck, 0, ln⟩] (by
      intro t ht; obtain rfl := List.mem_singleton.1 ht
      exact ⟨good_word word_deck.1 ln, by simp, rfl⟩)
    rw [← Lx.lex_space]; exact this
  · intro us
    show parse d (⟨0, wDeck, 0, ln⟩ :: ⟨3, [], 0, ln⟩ :: us) = _
    have hl : line d ⟨0, wDeck, 0, ln⟩ (⟨3, [], 0, ln⟩ :: us) = .ok (⟨d.decks ++ [[]], d.items⟩, ⟨3, [], 0, ln⟩ :: us) := by
      unfold line; rw [if_neg (by simp), if_neg (by simp), if_pos rfl, if_neg (by omega)]
    rw [parse_cons, if_neg (by simp), hl]
    dsimp only [after]
    rw [if_neg (by simp), if_pos rfl]
theorem P_row (ln : Nat) (D : List (List (List UInt8))) (rs : List (List UInt8)) (I : List Item) (s : List UInt8) (hr : rs.length < 4096) (hs : s.length ≤ 4096) (r : List UInt8) :
    P ⟨D ++ [rs], I⟩ (rowB s ++ r) ln = P ⟨D ++ [rs ++ [s]], I⟩ r (ln + 1) := by
  refine P_pres (ts := [⟨0, wRow, 0, ln⟩, ⟨2, s, 0, ln⟩, ⟨3, [], 0, ln⟩]) ?_ ?_
  · have := Lx.lex_txt ln r [⟨0, wRow, 0, ln⟩, ⟨2, s, 0, ln⟩] (by
      intro t ht
      rcases List.mem_cons.1 ht with rfl | ht
      · exact ⟨good_word word_deck.2 ln, by simp, rfl⟩
      · obtain rfl := List.mem_singleton.1 ht
        exact ⟨.inr (.inr (.inl ⟨rfl, rfl⟩)), by simp, rfl⟩)
    rw [← Lx.lex_space]
    have e : 32 :: (rowB s ++ r) = Lx.txt [⟨0, wRow, 0, ln⟩, ⟨2, s, 0, ln⟩] ++ 10 :: r := by simp [rowB, Lx.txt, Lx.srcT]
    rw [e]; exact this
  · intro us
    show parse _ (⟨0, wRow, 0, ln⟩ :: ⟨2, s, 0, ln⟩ :: ⟨3, [], 0, ln⟩ :: us) = _
    have hl : line ⟨D ++ [rs], I⟩ ⟨0, wRow, 0, ln⟩ (⟨2, s, 0, ln⟩ :: ⟨3, [], 0, ln⟩ :: us) = .ok (⟨D ++ [rs ++ [s]], I⟩, ⟨3, [], 0, ln⟩ :: us) := by
      have e : (D ++ [rs]).getLastD [] = rs := by simp
      unfold line
      rw [if_neg (by simp), if_neg (by simp), if_neg (show ¬ wRow = wDeck by decide), if_pos rfl, if_neg (by simp)]
      dsimp only
      rw [e, if_neg (by omega), if_neg (by simp), if_neg (by omega), List.dropLast_concat]
    rw [parse_cons, if_neg (by simp), hl]
    dsimp only [after]
    rw [if_neg (by simp), if_pos rfl]
theorem P_rows (D : List (List (List UInt8))) (I : List Item) (r : List UInt8) : ∀ (rows rs : List (List UInt8)) (ln : Nat), rs.length + rows.length ≤ 4096 → (∀ s ∈ rows, s.length ≤ 4096) →
    P ⟨D ++ [rs], I⟩ (rows.flatMap rowB ++ r) ln = P ⟨D ++ [rs ++ rows], I⟩ r (ln + rows.length)
  | [], rs, ln, _, _ => by simp
  | s :: rows, rs, ln, h, hs => by
    rw [List.flatMap_cons, List.append_assoc, P_row ln D rs I s (by simp at h; omega) (hs s (List.mem_cons_self ..)), P_rows D I r rows (rs ++ [s]) (ln + 1) (by simp at h ⊢; omega) (fun u hu => hs u (List.mem_cons_of_mem _ hu))]
    rw [List.append_assoc, List.length_cons, show ln + 1 + rows.length = ln + (rows.length + 1) by omega]; rfl
theorem P_decks (I : List Item) (r : List UInt8) : ∀ (decks D : List (List (List UInt8))) (ln : Nat), D.length + decks.length ≤ 4 → (∀ rows ∈ decks, rightR rows = true) →
    ∃ ln', P ⟨D, I⟩ (decks.flatMap deckB ++ r) ln = P ⟨D ++ decks, I⟩ r ln'
  | [], D, ln, _, _ => ⟨ln, by simp⟩
  | rows :: decks, D, ln, h, hs => by
    have hr := hs rows (List.mem_cons_self ..)
    unfold rightR at hr
    rw [Bool.and_eq_true, decide_eq_true_eq, List.all_eq_true] at hr
    have h1 : P ⟨D, I⟩ (deckB rows ++ (decks.flatMap deckB ++ r)) ln = P ⟨D ++ [rows], I⟩ (decks.flatMap deckB ++ r) (ln + 1 + rows.length) := by
      show P ⟨D, I⟩ ((wDeck ++ (10 :: rows.flatMap rowB)) ++ (decks.flatMap deckB ++ r)) ln = _
      rw [List.append_assoc, List.cons_append, P_deck ln ⟨D, I⟩ (by simp at h ⊢; omega), P_rows D I _ rows [] (ln + 1) (by simp; omega) (fun s hs => by simpa using hr.2 s hs)]
      rfl
    obtain ⟨ln', h2⟩ := P_decks I r decks (D ++ [rows]) (ln + 1 + rows.length) (by simp at h ⊢; omega) (fun u hu => hs u (List.mem_cons_of_mem _ hu))
    refine ⟨ln', ?_⟩
    rw [List.flatMap_cons, List.append_assoc, h1, h2]; simp
/-- An item without its line. -/
def bare (x : Item) : Item := { x with line := 0 }
theorem P_items (D : List (List (List UInt8))) : ∀ (items I : List Item) (ln : Nat), I.length + items.length ≤ 5000 → (∀ x ∈ items, rightI x = true ∧ ∀ n ∈ x.n, n ≤ 9223372036854775807) →
    ∃ J, P ⟨D, I⟩ (items.flatMap lineB) ln = .ok ⟨D, I ++ J⟩ ∧ J.map bare = items.map bare
  | [], I, ln, _, _ => ⟨[], by rw [List.flatMap_nil, P_nil, List.append_nil], rfl⟩
  | x :: items, I, ln, h, hs => by
    obtain ⟨h1, h2⟩ := hs x (List.mem_cons_self ..)
    obtain ⟨J, h3, h4⟩ := P_items D items (I ++ [{ x with line := ln }]) (ln + 1) (by simp at h ⊢; omega) (fun u hu => hs u (List.mem_cons_of_mem _ hu))
    refine ⟨{ x with line := ln } :: J, ?_, by rw [List.map_cons, List.map_cons, h4]; rfl⟩
    rw [List.flatMap_cons, P_item h1 h2 ln ⟨D, I⟩ (by simp at h ⊢; omega), h3]; simp
/-- What is printed of a right draft is read as it was, but for the lines. -/
theorem print_back (d : Draft) (h : rightD d = true) (hn : ∀ x ∈ d.items, ∀ n ∈ x.n, n ≤ 9223372036854775807) : ∃ ts J, Lx.lex (bodyB d) 1 = .ok ts ∧ parse .none ts = .ok ⟨d.decks, J⟩ ∧ J.map bare = d.items.map bare := by
  unfold rightD at h
  simp only [Bool.and_eq_true, decide_eq_true_eq, List.all_eq_true] at h
  obtain ⟨h1, h2, h3, h4⟩ := h
  obtain ⟨ln', h5⟩ := P_decks [] (d.items.flatMap lineB) d.decks [] 1 (by simpa using h2) h1
  obtain ⟨J, h6, h7⟩ := P_items d.decks d.items [] ln' (by simpa using h3) (fun x hx => ⟨h4 x hx, hn x hx⟩)
  rw [List.nil_append] at h5 h6
  rw [h6] at h5
  obtain ⟨ts, h8, h9⟩ := P_ok (d := .none) h5
  exact ⟨ts, J, h8, h9, h7⟩
theorem bodyB_nil (d : Draft) : bodyB d = [] ↔ d.decks = [] ∧ d.items = [] := by
  unfold bodyB
  rw [List.append_eq_nil_iff]
  constructor
  · rintro ⟨h1, h2⟩
    constructor
    · cases hd : d.decks with
      | nil => rfl
      | cons a l => rw [hd] at h1; simp [deckB, wDeck] at h1
    · cases hd : d.items with
      | nil => rfl
      | cons a l => rw [hd] at h2; simp [lineB] at h2
  · rintro ⟨h1, h2⟩
    rw [h1, h2]; exact ⟨rfl, rfl⟩
end Dr
end Go.Proofs.YtnccndfffmaonaaGreatDoor
/- Drafts in plain words: what a line leaves of the tokens. -/
namespace Go.Proofs.YtnccndfffmaonaaGreatDoor
namespace Dr
open Lx (Tok)

theorem fields_suffix : ∀ (ps : List UInt8) (j : Nat) (x : Item) (ts : List Tok) (y : Item) (us : List Tok), fields ps j x ts = .ok (y, us) → ∃ f, ts = f ++ us
  | [], j, x, ts, y, us, h => by cases h; exact ⟨[], rfl⟩
  | p :: ps, j, x, [], y, us, h => by cases h
  | p :: ps, j, x, t :: r, y, us, h => by
    rw [fields] at h
    have go : ∀ (j' : Nat) (x' : Item), fields ps j' x' r = .ok (y, us) → ∃ f, t :: r = f ++ us := fun j' x' h' => by
      obtain ⟨f, hf⟩ := fields_suffix _ _ _ _ _ _ h'
      exact ⟨t :: f, by rw [hf]; rfl⟩
    by_cases hp : p = 110
    · rw [if_pos hp] at h
      by_cases hk : t.kind = 1
      · rw [if_pos hk] at h; exact go _ _ h
      · rw [if_neg hk] at h; cases h
    rw [if_neg hp] at h
    by_cases hd : p = 100
    · rw [if_pos hd] at h
      by_cases hk : t.kind = 0
      · rw [if_pos hk] at h
        cases he : dirOf t.text with
        | none => rw [he] at h; cases h
        | some k => rw [he] at h; exact go _ _ h
      · rw [if_neg hk] at h; cases h
    rw [if_neg hd] at h
    by_cases hk : t.kind = 0
    · rw [if_pos hk] at h; exact go _ _ h
    · rw [if_neg hk] at h
      by_cases hw : p = 119
      · rw [if_pos hw] at h; cases h
      · rw [if_neg hw] at h; exact fields_suffix _ _ _ _ _ _ h
/-- A line leaves the whole (an LF), or less. -/
theorem line_left {d : Draft} {t : Tok} {r : List Tok} {d' : Draft} {us : List Tok} (h : line d t r = .ok (d', us)) : (us = t :: r ∧ t.kind = 3) ∨ ∃ f, r = f ++ us := by
  unfold line at h
  by_cases h3 : t.kind = 3
  · rw [if_pos h3] at h; cases h; exact .inl ⟨rfl, h3⟩
  rw [if_neg h3] at h
  refine .inr ?_
  by_cases h0 : t.kind ≠ 0
  · rw [if_pos h0] at h; cases h
  rw [if_neg h0] at h
  by_cases hd : t.text = wDeck
  · rw [if_pos hd] at h
    by_cases h4 : 4 ≤ d.decks.length
    · rw [if_pos h4] at h; cases h
    · rw [if_neg h4] at h; cases h; exact ⟨[], rfl⟩
  rw [if_neg hd] at h
  by_cases hr : t.text = wRow
  · rw [if_pos hr] at h
    by_cases h5 : d.decks = []
    · rw [if_pos h5] at h; cases h
    rw [if_neg h5] at h
    by_cases h6 : 4096 ≤ (d.decks.getLastD []).length
    · rw [if_pos h6] at h; cases h
    rw [if_neg h6] at h
    cases r with
    | nil => cases h
    | cons u s =>
      dsimp only at h
      by_cases h7 : u.kind ≠ 2
      · rw [if_pos h7] at h; cases h
      rw [if_neg h7] at h
      by_cases h8 : 4096 < u.text.length
      · rw [if_pos h8] at h; cases h
      · rw [if_neg h8] at h; cases h; exact ⟨[u], rfl⟩
  rw [if_neg hr] at h
  cases hk : kindOf t.text with
  | none => rw [hk] at h; cases h
  | some k =>
    rw [hk] at h
    dsimp only at h
    by_cases h5 : 5000 ≤ d.items.length
    · rw [if_pos h5] at h; cases h
    rw [if_neg h5] at h
    cases hf : fields (partsOf k) 0 ⟨k, t.line, [], [], []⟩ r with
    | error us => rw [hf] at h; cases h
    | ok x =>
      rw [hf] at h
      obtain ⟨x, vs⟩ := x
      cases h
      exact fields_suffix _ _ _ _ _ _ hf
theorem line_left2 {d : Draft} {t : Tok} {r : List Tok} {d' : Draft} {us : List Tok} (h : line d t r = .ok (d', us)) : (∃ f, t :: r = f ++ us) ∧ (us.length ≤ r.length ∨ ∃ u vs, us = u :: vs ∧ u.kind = 3) := by
  rcases line_left h with ⟨rfl, h3⟩ | ⟨f, rfl⟩
  · exact ⟨⟨[], rfl⟩, .inr ⟨t, r, rfl, h3⟩⟩
  · exact ⟨⟨t :: f, rfl⟩, .inl (by simp)⟩
theorem parse_err {d : Draft} {t : Tok} {r : List Tok} (h4 : t.kind ≠ 4) {x : Nat × Nat} (h : line d t r = .error x) : parse d (t :: r) = .error x := by rw [parse_cons, if_neg h4, h]
theorem parse_on {d : Draft} {t : Tok} {r : List Tok} (h4 : t.kind ≠ 4) {x : Draft × List Tok} (h : line d t r = .ok x) : parse d (t :: r) = after x.1 x.2 := by rw [parse_cons, if_neg h4, h]
theorem after_end (d : Draft) (u : Tok) (vs : List Tok) (h : u.kind = 4) : after d (u :: vs) = .ok d := by rw [after, if_pos h]
theorem after_line (d : Draft) (u : Tok) (vs : List Tok) (h : u.kind = 3) : after d (u :: vs) = parse d vs := by rw [after, if_neg (by omega), if_pos h]
theorem after_bad (d : Draft) (u : Tok) (vs : List Tok) (h : u.kind ≠ 3) (h4 : u.kind ≠ 4) : after d (u :: vs) = .error (11, u.line) := by rw [after, if_neg h4, if_neg h]
theorem parse_done (d : Draft) (t : Tok) (r : List Tok) (h : t.kind = 4) : parse d (t :: r) = .ok d := by rw [parse_cons, if_pos h]
theorem qb_more : ∀ s : List UInt8, s.length ≤ (qb s).length
  | [] => Nat.zero_le _
  | c :: s => by
    have h1 := qb_more s
    have h2 : 1 ≤ (qt1 c).length := by unfold qt1; split <;> (try split) <;> (try split) <;> simp
    unfold qb at h1 ⊢
    rw [List.flatMap_cons, List.length_append, List.length_cons]
    omega
theorem goods_text {ln : Nat} {ts : List Tok} (h : Lx.Goods ln ts) : ∀ t ∈ ts, t.text.length ≤ (Lx.write1 t).length := by
  induction h with
  | fin ln => intro t ht; simp at ht; subst ht; simp
  | tok ln t ts h1 h2 h3 ih =>
    intro u hu
    rcases List.mem_cons.1 hu with rfl | hu
    · unfold Lx.write1
      rcases h2 with ⟨h2, -⟩ | ⟨h2, -⟩ | ⟨h2, -⟩ | ⟨-, h2, -⟩
      · rw [if_pos (.inl h2)]; simp
      · rw [if_pos (.inr h2)]; simp
      · rw [if_neg (by omega), if_pos h2]
        have := qb_more u.text
        unfold quote; simp; omega
      · rw [h2]; simp
    · exact ih u hu
/-- What the lexer gives: few tokens, short texts, an end behind. -/
theorem lexed {l : List UInt8} {ts : List Tok} (h : Lx.lex l 1 = .ok ts) : ts.length ≤ l.length + 1 ∧ (∃ front m, ts = front ++ [⟨4, [], 0, m⟩]) ∧ (∀ t ∈ ts, t.text.length ≤ 2 * l.length) ∧ ∀ t ∈ ts, t.line ≤ 1 + l.length := by
  obtain ⟨h1, h2, h3⟩ := Lx.lex_lines (l.length + 1) l 1 ts (by omega) h
  obtain ⟨front, m, h4, -⟩ := Lx.lex_joins l [] ts h
  refine ⟨h2, ⟨front, m, h4⟩, fun t ht => ?_, h1⟩
  have h5 := (Lx.lex_back l ts h).2.2
  have h6 : (Lx.write1 t).length ≤ (Lx.write ts).length := by
    clear h h1 h2 h3 h4 h5
    induction ts with
    | nil => cases ht
    | cons a ts ih =>
      rw [Lx.write, List.flatMap_cons, List.length_append]
      rcases List.mem_cons.1 ht with rfl | ht
      · omega
      · have := ih ht; unfold Lx.write at this; omega
  have h7 := goods_text (Lx.lex_back l ts h).1 t ht
  omega
end Dr
end Go.Proofs.YtnccndfffmaonaaGreatDoor
/- Drafts in plain words: what is read is right. -/
namespace Go.Proofs.YtnccndfffmaonaaGreatDoor
namespace Dr
open Lx (Tok)

def TokOk (t : Tok) : Prop := (t.kind = 0 → Lx.word t.text = true) ∧ (t.kind = 1 → 0 ≤ t.n ∧ t.n ≤ 9223372036854775807)
theorem goods_ok : ∀ (ts : List Tok) (ln : Nat), Lx.Goods ln ts → ∀ t ∈ ts, TokOk t := by
  intro ts ln h
  induction h with
  | fin ln => intro t ht; obtain rfl := List.mem_singleton.1 ht; exact ⟨fun h => (by cases h), fun h => (by cases h)⟩
  | tok ln t ts _ hg _ ih =>
    intro u hu
    rcases List.mem_cons.1 hu with rfl | hu
    · rcases hg with ⟨h1, h2, h3⟩ | ⟨h1, h2, h3, h4⟩ | ⟨h1, h2⟩ | ⟨h1, h2⟩
      · exact ⟨fun _ => h2, fun h => by omega⟩
      · exact ⟨fun h => by omega, fun _ => ⟨h2, h3⟩⟩
      · exact ⟨fun h => by omega, fun h => by omega⟩
      · exact ⟨fun h => by omega, fun h => by omega⟩
    · exact ih u hu
def ItOk (x : Item) : Prop := rightI x = true ∧ ∀ n ∈ x.n, n ≤ 9223372036854775807
theorem inv_n {ps : List UInt8} {j : Nat} {x : Item} {ts : List Tok} {r : Item × List Tok} (h : fields (110 :: ps) j x ts = .ok r) : ∃ t s, ts = t :: s ∧ t.kind = 1 ∧ fields ps j { x with n := x.n ++ [t.n] } s = .ok r := by
  cases ts with
  | nil => cases h
  | cons t s =>
    rw [fields, if_pos rfl] at h
    by_cases hk : t.kind = 1
    · rw [if_pos hk] at h; exact ⟨t, s, rfl, hk, h⟩
    · rw [if_neg hk] at h; cases h
theorem inv_w {ps : List UInt8} {j : Nat} {x : Item} {ts : List Tok} {r : Item × List Tok} (h : fields (119 :: ps) j x ts = .ok r) : ∃ t s, ts = t :: s ∧ t.kind = 0 ∧ fields ps (j + 1) (setName x j t.text) s = .ok r := by
  cases ts with
  | nil => cases h
  | cons t s =>
    rw [fields, if_neg (by decide), if_neg (by decide)] at h
    by_cases hk : t.kind = 0
    · rw [if_pos hk] at h; exact ⟨t, s, rfl, hk, h⟩
    · rw [if_neg hk, if_pos rfl] at h; cases h
theorem inv_o {ps : List UInt8} {j : Nat} {x : Item} {ts : List Tok} {r : Item × List Tok} (h : fields (111 :: ps) j x ts = .ok r) : ∃ t s, ts = t :: s ∧ ((t.kind = 0 ∧ fields ps (j + 1) (setName x j t.text) s = .ok r) ∨ fields ps j x (t :: s) = .ok r) := by
  cases ts with
  | nil => cases h
  | cons t s =>
    rw [fields, if_neg (by decide), if_neg (by decide)] at h
    by_cases hk : t.kind = 0
    · rw [if_pos hk] at h; exact ⟨t, s, rfl, .inl ⟨hk, h⟩⟩
    · rw [if_neg hk, if_neg (by decide)] at h; exact ⟨t, s, rfl, .inr h⟩
theorem dirOf_lt {t : List UInt8} {k : Nat} (h : dirOf t = some k) : k < 6 := by
  unfold dirOf at h
  obtain ⟨h1, -⟩ := List.findIdx?_eq_some_iff_getElem.1 h
  exact h1
theorem inv_d {ps : List UInt8} {j : Nat} {x : Item} {ts : List Tok} {r : Item × List Tok} (h : fields (100 :: ps) j x ts = .ok r) : ∃ (t : Tok) (s : List Tok) (k : Nat), ts = t :: s ∧ t.kind = 0 ∧ k < 6 ∧ fields ps j { x with n := x.n ++ [(k : Int)] } s = .ok r := by
  cases ts with
  | nil => cases h
  | cons t s =>
    rw [fields, if_neg (by decide), if_pos rfl] at h
    by_cases hk : t.kind = 0
    · rw [if_pos hk] at h
      cases hd : dirOf t.text with
      | none => rw [hd] at h; cases h
      | some k => rw [hd] at h; exact ⟨t, s, k, rfl, hk, dirOf_lt hd, h⟩
    · rw [if_neg hk] at h; cases h
theorem inv_nil {j : Nat} {x : Item} {ts : List Tok} {y : Item} {us : List Tok} (h : fields [] j x ts = .ok (y, us)) : y = x := by cases h; rfl
theorem shape_right {x : Item} (h : Shape x) (hn : ∀ n ∈ x.n, 0 ≤ n) : rightI x = true := by
  have ha : x.n.any (fun n => decide (n < 0)) = false := by
    rw [List.any_eq_false]
    intro n h; have := hn n h; simp; omega
  unfold rightI
  cases h with
  | zone ln nm a b c d e f g h =>
    rw [if_neg (by rw [ha]; simp), if_neg (by simp; decide), if_neg (by simp)]
    simp [nameOk, otherOk, words, partsOf, h]
  | shift ln nm a b h =>
    rw [if_neg (by rw [ha]; simp), if_neg (by simp; decide), if_neg (by simp)]
    simp [nameOk, otherOk, words, partsOf, h]
  | oneway ln a b c d h =>
    rw [if_neg (by rw [ha]; simp), if_neg (by simp; decide), if_neg (by simp; omega)]
    have e4 : (2 : Int).toNat = 2 := rfl
    simp [nameOk, otherOk, words, partsOf, e4]
  | apart ln nm ot h h2 =>
    rw [if_neg (by rw [ha]; simp), if_neg (by simp; decide), if_neg (by simp)]
    have e4 : (3 : Int).toNat = 3 := rfl
    simp [nameOk, otherOk, words, partsOf, e4, h, h2]
  | shelf ln nm a b c h =>
    rw [if_neg (by rw [ha]; simp), if_neg (by simp; decide), if_neg (by simp)]
    have e4 : (4 : Int).toNat = 4 := rfl
    rcases h with rfl | h
    · simp [nameOk, otherOk, words, partsOf, e4]
    · simp [nameOk, otherOk, words, partsOf, e4, h]
  | robot ln a b c d =>
    rw [if_neg (by rw [ha]; simp), if_neg (by simp; decide), if_neg (by simp)]
    have e4 : (5 : Int).toNat = 5 := rfl
    simp [nameOk, otherOk, words, partsOf, e4]
theorem ok_n {t : Tok} {s ts : List Tok} (hts : ∀ u ∈ ts, TokOk u) (e : ts = t :: s) (hk : t.kind = 1) : (0 ≤ t.n ∧ t.n ≤ 9223372036854775807) ∧ ∀ u ∈ s, TokOk u := by
  subst e; exact ⟨(hts t (List.mem_cons_self ..)).2 hk, fun u hu => hts u (List.mem_cons_of_mem _ hu)⟩
theorem ok_w {t : Tok} {s ts : List Tok} (hts : ∀ u ∈ ts, TokOk u) (e : ts = t :: s) (hk : t.kind = 0) : Lx.word t.text = true ∧ ∀ u ∈ s, TokOk u := by
  subst e; exact ⟨(hts t (List.mem_cons_self ..)).1 hk, fun u hu => hts u (List.mem_cons_of_mem _ hu)⟩
theorem itok {x : Item} (h : Shape x) (hn : ∀ n ∈ x.n, 0 ≤ n ∧ n ≤ 9223372036854775807) : ItOk x := ⟨shape_right h fun n hm => (hn n hm).1, fun n hm => (hn n hm).2⟩
theorem fields_itok (k : Nat) (hk : k < 6) (ln : Int) (ts : List Tok) (hts : ∀ t ∈ ts, TokOk t) (y : Item) (us : List Tok) (h : fields (partsOf k) 0 ⟨k, ln, [], [], []⟩ ts = .ok (y, us)) : ItOk y := by
  match k, hk with
  | 0, _ =>
    obtain ⟨t0, s0, e0, k0, h⟩ := inv_w h
    obtain ⟨g0, hts⟩ := ok_w hts e0 k0
    obtain ⟨t1, s1, e1, k1, h⟩ := inv_n h
    obtain ⟨g1, hts⟩ := ok_n hts e1 k1
    obtain ⟨t2, s2, e2, k2, h⟩ := inv_n h
    obtain ⟨g2, hts⟩ := ok_n hts e2 k2
    obtain ⟨t3, s3, e3, k3, h⟩ := inv_n h
    obtain ⟨g3, hts⟩ := ok_n hts e3 k3
    obtain ⟨t4, s4, e4, k4, h⟩ := inv_n h
    obtain ⟨g4, hts⟩ := ok_n hts e4 k4
    obtain ⟨t5, s5, e5, k5, h⟩ := inv_n h
    obtain ⟨g5, hts⟩ := ok_n hts e5 k5
    obtain ⟨t6, s6, e6, k6, h⟩ := inv_n h
    obtain ⟨g6, hts⟩ := ok_n hts e6 k6
    obtain ⟨t7, s7, e7, k7, h⟩ := inv_n h
    obtain ⟨g7, hts⟩ := ok_n hts e7 k7
    obtain rfl := inv_nil h
    refine itok (Shape.zone ln t0.text t1.n t2.n t3.n t4.n t5.n t6.n t7.n g0) ?_
    intro n hn
    simp only [setName, List.nil_append, List.cons_append, if_true, List.mem_cons, List.not_mem_nil, or_false] at hn
    rcases hn with rfl | rfl | rfl | rfl | rfl | rfl | rfl <;> assumption
  | 1, _ =>
    obtain ⟨t0, s0, e0, k0, h⟩ := inv_w h
    obtain ⟨g0, hts⟩ := ok_w hts e0 k0
    obtain ⟨t1, s1, e1, k1, h⟩ := inv_n h
    obtain ⟨g1, hts⟩ := ok_n hts e1 k1
    obtain ⟨t2, s2, e2, k2, h⟩ := inv_n h
    obtain ⟨g2, hts⟩ := ok_n hts e2 k2
    obtain rfl := inv_nil h
    refine itok (Shape.shift ln t0.text t1.n t2.n g0) ?_
    intro n hn
    simp only [setName, List.nil_append, List.cons_append, if_true, List.mem_cons, List.not_mem_nil, or_false] at hn
    rcases hn with rfl | rfl <;> assumption
  | 2, _ =>
    obtain ⟨t1, s1, e1, k1, h⟩ := inv_n h
    obtain ⟨g1, hts⟩ := ok_n hts e1 k1
    obtain ⟨t2, s2, e2, k2, h⟩ := inv_n h
    obtain ⟨g2, hts⟩ := ok_n hts e2 k2
    obtain ⟨t3, s3, e3, k3, h⟩ := inv_n h
    obtain ⟨g3, hts⟩ := ok_n hts e3 k3
    obtain ⟨t4, s4, q, e4, k4, hq, h⟩ := inv_d h
    obtain rfl := inv_nil h
    refine itok (Shape.oneway ln t1.n t2.n t3.n q (by omega)) ?_
    intro n hn
    simp only [List.nil_append, List.cons_append, List.mem_cons, List.not_mem_nil, or_false] at hn
    rcases hn with rfl | rfl | rfl | hn
    · assumption
    · assumption
    · assumption
    · omega
  | 3, _ =>
    obtain ⟨t0, s0, e0, k0, h⟩ := inv_w h
    obtain ⟨g0, hts⟩ := ok_w hts e0 k0
    obtain ⟨t1, s1, e1, k1, h⟩ := inv_w h
    obtain ⟨g1, hts⟩ := ok_w hts e1 k1
    obtain rfl := inv_nil h
    exact itok (Shape.apart ln t0.text t1.text g0 g1) (fun n hn => by cases hn)
  | 4, _ =>
    obtain ⟨t1, s1, e1, k1, h⟩ := inv_n h
    obtain ⟨g1, hts⟩ := ok_n hts e1 k1
    obtain ⟨t2, s2, e2, k2, h⟩ := inv_n h
    obtain ⟨g2, hts⟩ := ok_n hts e2 k2
    obtain ⟨t3, s3, e3, k3, h⟩ := inv_n h
    obtain ⟨g3, hts⟩ := ok_n hts e3 k3
    obtain ⟨t4, s4, e4, h⟩ := inv_o h
    rcases h with ⟨k4, h⟩ | h
    · obtain ⟨g4, hts⟩ := ok_w hts e4 k4
      obtain rfl := inv_nil h
      refine itok (Shape.shelf ln t4.text t1.n t2.n t3.n (.inr g4)) ?_
      intro n hn
      simp only [setName, List.nil_append, List.cons_append, if_true, List.mem_cons, List.not_mem_nil, or_false] at hn
      rcases hn with rfl | rfl | rfl <;> assumption
    · obtain rfl := inv_nil h
      refine itok (Shape.shelf ln [] t1.n t2.n t3.n (.inl rfl)) ?_
      intro n hn
      simp only [List.nil_append, List.cons_append, List.mem_cons, List.not_mem_nil, or_false] at hn
      rcases hn with rfl | rfl | rfl <;> assumption
  | 5, _ =>
    obtain ⟨t1, s1, e1, k1, h⟩ := inv_n h
    obtain ⟨g1, hts⟩ := ok_n hts e1 k1
    obtain ⟨t2, s2, e2, k2, h⟩ := inv_n h
    obtain ⟨g2, hts⟩ := ok_n hts e2 k2
    obtain ⟨t3, s3, e3, k3, h⟩ := inv_n h
    obtain ⟨g3, hts⟩ := ok_n hts e3 k3
    obtain ⟨t4, s4, e4, k4, h⟩ := inv_n h
    obtain ⟨g4, hts⟩ := ok_n hts e4 k4
    obtain rfl := inv_nil h
    refine itok (Shape.robot ln t1.n t2.n t3.n t4.n) ?_
    intro n hn
    simp only [List.nil_append, List.cons_append, List.mem_cons, List.not_mem_nil, or_false] at hn
    rcases hn with rfl | rfl | rfl | rfl <;> assumption

def DOk (d : Draft) : Prop := (∀ rows ∈ d.decks, rightR rows = true) ∧ d.decks.length ≤ 4 ∧ d.items.length ≤ 5000 ∧ ∀ x ∈ d.items, ItOk x
theorem kindOf_lt {t : List UInt8} {k : Nat} (h : kindOf t = some k) : k < 6 := by
  unfold kindOf at h
  have := List.mem_of_find?_eq_some h
  simp at this; omega
theorem line_dok {d : Draft} {t : Tok} {r : List Tok} {d' : Draft} {us : List Tok} (hd : DOk d) (ht : ∀ u ∈ t :: r, TokOk u) (h : line d t r = .ok (d', us)) : DOk d' := by
  have hr : ∀ u ∈ r, TokOk u := fun u hu => ht u (List.mem_cons_of_mem _ hu)
  unfold line at h
  by_cases h3 : t.kind = 3
  · rw [if_pos h3] at h; cases h; exact hd
  rw [if_neg h3] at h
  by_cases h0 : t.kind ≠ 0
  · rw [if_pos h0] at h; cases h
  rw [if_neg h0] at h
  obtain ⟨d1, d2, d3, d4⟩ := hd
  by_cases hdk : t.text = wDeck
  · rw [if_pos hdk] at h
    by_cases h4 : 4 ≤ d.decks.length
    · rw [if_pos h4] at h; cases h
    · rw [if_neg h4] at h; cases h
      refine ⟨fun rows hm => ?_, by simp; omega, d3, d4⟩
      rcases List.mem_append.1 hm with hm | hm
      · exact d1 rows hm
      · obtain rfl := List.mem_singleton.1 hm; rfl
  rw [if_neg hdk] at h
  by_cases hrw : t.text = wRow
  · rw [if_pos hrw] at h
    by_cases h5 : d.decks = []
    · rw [if_pos h5] at h; cases h
    rw [if_neg h5] at h
    by_cases h6 : 4096 ≤ (d.decks.getLastD []).length
    · rw [if_pos h6] at h; cases h
    rw [if_neg h6] at h
    cases r with
    | nil => cases h
    | cons u s =>
      dsimp only at h
      by_cases h7 : u.kind ≠ 2
      · rw [if_pos h7] at h; cases h
      rw [if_neg h7] at h
      by_cases h8 : 4096 < u.text.length
      · rw [if_pos h8] at h; cases h
      · rw [if_neg h8] at h; cases h
        refine ⟨fun rows hm => ?_, ?_, d3, d4⟩
        · rcases List.mem_append.1 hm with hm | hm
          · exact d1 rows (List.dropLast_subset _ hm)
          · obtain rfl := List.mem_singleton.1 hm
            have hl : d.decks.getLastD [] ∈ d.decks := by
              rw [List.getLastD_eq_getLast?, List.getLast?_eq_some_getLast h5]; exact List.getLast_mem h5
            have := d1 _ hl
            unfold rightR at this ⊢
            simp only [Bool.and_eq_true, decide_eq_true_eq, List.all_eq_true] at this ⊢
            refine ⟨by rw [List.length_append, List.length_singleton]; omega, fun s hs => ?_⟩
            rcases List.mem_append.1 hs with hs | hs
            · exact this.2 s hs
            · obtain rfl := List.mem_singleton.1 hs; omega
        · have : 1 ≤ d.decks.length := by cases hx : d.decks with | nil => exact absurd hx h5 | cons _ _ => simp
          simp; omega
  rw [if_neg hrw] at h
  cases hk : kindOf t.text with
  | none => rw [hk] at h; cases h
  | some k =>
    rw [hk] at h
    dsimp only at h
    by_cases h5 : 5000 ≤ d.items.length
    · rw [if_pos h5] at h; cases h
    rw [if_neg h5] at h
    cases hf : fields (partsOf k) 0 ⟨k, t.line, [], [], []⟩ r with
    | error us => rw [hf] at h; cases h
    | ok x =>
      rw [hf] at h
      obtain ⟨x, vs⟩ := x
      cases h
      have hx := fields_itok k (kindOf_lt hk) t.line r hr x us hf
      refine ⟨d1, d2, by simp; omega, fun y hy => ?_⟩
      rcases List.mem_append.1 hy with hy | hy
      · exact d4 y hy
      · obtain rfl := List.mem_singleton.1 hy; exact hx
theorem parse_dok : ∀ (k : Nat) (ts : List Tok) (d d' : Draft), ts.length ≤ k → DOk d → (∀ t ∈ ts, TokOk t) → parse d ts = .ok d' → DOk d' := by
  intro k
  induction k with
  | zero =>
    intro ts d d' hk _ _ h
    obtain rfl : ts = [] := List.eq_nil_of_length_eq_zero (by omega)
    cases h
  | succ k ih =>
    intro ts d d' hk hd ht h
    cases ts with
    | nil => cases h
    | cons t r =>
      rw [parse_cons] at h
      by_cases h4 : t.kind = 4
      · rw [if_pos h4] at h; cases h; exact hd
      rw [if_neg h4] at h
      cases hl : line d t r with
      | error e => rw [hl] at h; cases h
      | ok x =>
        rw [hl] at h
        obtain ⟨d1, us⟩ := x
        have hln := line_len hl
        have hd1 := line_dok hd ht hl
        obtain ⟨⟨f, hf⟩, -⟩ := line_left2 hl
        have hus : ∀ u ∈ us, TokOk u := fun u hu => ht u (by rw [hf]; exact List.mem_append.2 (.inr hu))
        dsimp only at h
        cases us with
        | nil => cases h
        | cons u vs =>
          rw [after] at h
          by_cases hu4 : u.kind = 4
          · rw [if_pos hu4] at h; cases h; exact hd1
          rw [if_neg hu4] at h
          by_cases hu : u.kind = 3
          · rw [if_pos hu] at h
            exact ih vs d1 d' (by simp at hk hln; omega) hd1 (fun v hv => hus v (List.mem_cons_of_mem _ hv)) h
          · rw [if_neg hu] at h; cases h
/-- What is read is right. -/
theorem read_right {s : List UInt8} {ts : List Tok} {d : Draft} (hl : Lx.lex s 1 = .ok ts) (h : parse .none ts = .ok d) : rightD d = true ∧ ∀ x ∈ d.items, ∀ n ∈ x.n, n ≤ 9223372036854775807 := by
  have hg := goods_ok ts 1 (Lx.lex_good _ s 1 ts (Nat.lt_succ_self _) hl).1
  obtain ⟨h1, h2, h3, h4⟩ := parse_dok _ ts .none d (Nat.le_refl _) ⟨fun _ h => (by cases h), (by simp [Draft.none]), (by simp [Draft.none]), fun _ h => (by cases h)⟩ hg h
  refine ⟨?_, fun x hx => (h4 x hx).2⟩
  unfold rightD
  simp only [Bool.and_eq_true, decide_eq_true_eq, List.all_eq_true]
  exact ⟨h1, h2, h3, fun x hx => (h4 x hx).1⟩
end Dr
end Go.Proofs.YtnccndfffmaonaaGreatDoor
