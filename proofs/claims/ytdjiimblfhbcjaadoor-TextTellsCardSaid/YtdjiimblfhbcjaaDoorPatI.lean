/- What the loop of Pattern keeps, in plain words. Nothing of the program is imported. -/
import Derived.Test.YtdjiimblfhbcjaaDoorPatS
namespace Go.Proofs.YtdjiimblfhbcjaaDoor.Pat

theorem headPart_free {a : UInt8} {r : List UInt8} (h : a ≠ 42) : (headPart (a :: r)).1.isStar = false := by
  rw [headPart_cons, if_neg h]
  by_cases h2 : a = 92
  · rw [if_pos h2]; cases r <;> rfl
  rw [if_neg h2]
  by_cases h3 : a = 63
  · rw [if_pos h3]; rfl
  rw [if_neg h3]
  by_cases h4 : a = 91
  · rw [if_pos h4]; cases cls r <;> rfl
  · rw [if_neg h4]; rfl
theorem headPart_star {r : List UInt8} : headPart (42 :: r) = (.star, 1) := by rw [headPart_cons, if_pos rfl]
theorem parts_drop (P : List UInt8) (i : Nat) (h : i < P.length) : parts (P.drop i) = (headPart (P.drop i)).1 :: parts (P.drop (i + (headPart (P.drop i)).2)) := by
  rw [List.drop_eq_getElem_cons h, parts_cons, ← List.drop_eq_getElem_cons h, List.drop_drop]
theorem mt_cons {x : Part} {ps : List Part} {c : UInt8} {s : List UInt8} (h : x.isStar = false) : mt (x :: ps) (c :: s) = (x.fits c && mt ps s) := by
  cases x <;> simp [mt, Part.isStar] at h ⊢
theorem mt_cons_nil {x : Part} {ps : List Part} (h : x.isStar = false) : mt (x :: ps) [] = false := by
  cases x <;> simp [mt, Part.isStar] at h ⊢
theorem drop_free {P : List UInt8} {i : Nat} (h : i < P.length) (hne : P[i] ≠ 42) : (headPart (P.drop i)).1.isStar = false := by
  rw [List.drop_eq_getElem_cons h]; exact headPart_free hne

def PInv (P S : List UInt8) (G : Bool) (i : Nat) (star : Int) (again at_ : Nat) : Prop :=
  i ≤ P.length ∧ at_ ≤ S.length ∧ again ≤ at_ ∧
  ((star = -1 ∧ again = 0 ∧ G = mt (parts (P.drop i)) (S.drop at_)) ∨
   ∃ k : Nat, star = (k : Int) ∧ k + 1 ≤ P.length ∧ G = anySuf (mt (parts (P.drop (k + 1)))) (S.drop again) ∧ ∃ X, free X ∧ parts (P.drop (k + 1)) = X ++ parts (P.drop i) ∧ at_ = again + X.length ∧ fitsAll X ((S.drop again).take X.length) = true)

variable {P S : List UInt8} {G : Bool} {i : Nat} {star : Int} {again at_ : Nat}
theorem pinv_start : PInv P S (pat P S) 0 (-1) 0 0 := ⟨Nat.zero_le _, Nat.zero_le _, Nat.le_refl _, .inl ⟨rfl, rfl, rfl⟩⟩
theorem anySuf_drop (f : List UInt8 → Bool) (a : Nat) : anySuf f (S.drop a) = true ↔ ∃ k, a ≤ k ∧ k ≤ max a S.length ∧ f (S.drop k) = true := by
  rw [anySuf_iff]
  constructor
  · rintro ⟨k, hk, h⟩
    rw [List.drop_drop] at h
    rw [List.length_drop] at hk
    exact ⟨a + k, by omega, by omega, h⟩
  · rintro ⟨k, h1, h2, h⟩
    refine ⟨k - a, by rw [List.length_drop]; omega, ?_⟩
    rw [List.drop_drop, show a + (k - a) = k by omega]; exact h
theorem pinv_star (h : PInv P S G i star again at_) (hi : i < P.length) (h42 : P[i] = 42) : PInv P S G (i + 1) (i : Int) at_ at_ := by
  obtain ⟨h1, h2, h3, h4⟩ := h
  have hp : parts (P.drop i) = .star :: parts (P.drop (i + 1)) := by
    have := parts_drop P i hi
    rw [List.drop_eq_getElem_cons hi, h42, headPart_star] at this
    rw [List.drop_eq_getElem_cons hi, h42]; exact this
  refine ⟨hi, h2, Nat.le_refl _, .inr ⟨i, rfl, hi, ?_, [], ?_, rfl, rfl, rfl⟩⟩
  · rcases h4 with ⟨-, -, h⟩ | ⟨k, rfl, hk, h, X, hf, hX, hat, hfit⟩
    · rw [h, hp]; rfl
    · rw [h, Bool.eq_iff_iff, anySuf_drop, anySuf_drop, hX, hp, Nat.max_eq_right (by omega), Nat.max_eq_right h2]
      exact star_enough X _ S again at_ hf hat h2 hfit
  · intro x hx; cases hx
theorem pinv_done (h : PInv P S G i star again at_) (hi : i = P.length) (ha : at_ = S.length) : G = true := by
  obtain ⟨h1, h2, h3, h4⟩ := h
  have hp : parts (P.drop i) = [] := by rw [hi, List.drop_length]; rfl
  have hs : S.drop at_ = [] := by rw [ha, List.drop_length]
  rcases h4 with ⟨-, -, h⟩ | ⟨k, rfl, hk, h, X, hf, hX, hat, hfit⟩
  · rw [h, hp, hs]; rfl
  · rw [h, anySuf_drop]
    refine ⟨again, Nat.le_refl _, by omega, ?_⟩
    rw [hX, hp, mt_append X _ hf, hfit, List.drop_drop, ← hat, hs]
    simp [mt]; omega
theorem pinv_step (h : PInv P S G i star again at_) (hi : i < P.length) (ha : at_ < S.length) (hne : P[i] ≠ 42) (hfit : (headPart (P.drop i)).1.fits S[at_] = true) : PInv P S G (i + (headPart (P.drop i)).2) star again (at_ + 1) := by
  obtain ⟨h1, h2, h3, h4⟩ := h
  have hp := parts_drop P i hi
  have hfr := drop_free hi hne
  have hlen : i + (headPart (P.drop i)).2 ≤ P.length := by
    have := headPart_len P[i] (P.drop (i + 1))
    rw [← List.drop_eq_getElem_cons hi, List.length_drop] at this; omega
  refine ⟨hlen, ha, by omega, ?_⟩
  rcases h4 with ⟨e, e2, h⟩ | ⟨k, rfl, hk, h, X, hf, hX, hat, hfitX⟩
  · refine .inl ⟨e, e2, ?_⟩
    rw [h, hp, List.drop_eq_getElem_cons ha, mt_cons hfr, hfit, Bool.true_and]
  · refine .inr ⟨k, rfl, hk, h, X ++ [(headPart (P.drop i)).1], ?_, ?_, ?_, ?_⟩
    · intro x hx
      rcases List.mem_append.1 hx with hx | hx
      · exact hf x hx
      · rw [List.mem_singleton.1 hx]; exact hfr
    · rw [hX, hp, List.append_assoc]; rfl
    · simp; omega
    · have hlt : X.length < (S.drop again).length := by rw [List.length_drop]; omega
      have e : (S.drop again).take (X ++ [(headPart (P.drop i)).1]).length = (S.drop again).take X.length ++ [S[at_]] := by
        rw [List.length_append, List.length_singleton, List.take_succ_eq_append_getElem hlt]
        simp [hat]
      rw [e, fitsAll_snoc, hfitX, hfit]; rfl
theorem pinv_fails (h : PInv P S G i star again at_) (hm : mt (parts (P.drop i)) (S.drop at_) = false) (hx : star = -1 ∨ again = S.length) : G = false := by
  obtain ⟨h1, h2, h3, h4⟩ := h
  rcases h4 with ⟨-, -, h⟩ | ⟨k, rfl, hk, h, X, hf, hX, hat, hfitX⟩
  · rw [h, hm]
  · have ha : again = S.length := by omega
    obtain rfl : X = [] := List.eq_nil_of_length_eq_zero (by omega)
    have hs : S.drop again = [] := by rw [ha, List.drop_length]
    have hs2 : S.drop at_ = [] := by rw [hat]; simpa using hs
    rw [h, hs, anySuf, hX, List.nil_append, ← hs2, hm]
theorem pinv_back {k : Nat} (h : PInv P S G i (k : Int) again at_) (hm : mt (parts (P.drop i)) (S.drop at_) = false) (hlt : again < S.length) : PInv P S G (k + 1) (k : Int) (again + 1) (again + 1) := by
  obtain ⟨h1, h2, h3, h4⟩ := h
  rcases h4 with ⟨e, -, h⟩ | ⟨k', e, hk, h, X, hf, hX, hat, hfitX⟩
  · omega
  · obtain rfl : k = k' := by omega
    refine ⟨hk, hlt, Nat.le_refl _, .inr ⟨k, rfl, hk, ?_, [], (fun x hx => by cases hx), rfl, rfl, rfl⟩⟩
    rw [h, List.drop_eq_getElem_cons hlt, anySuf, ← List.drop_eq_getElem_cons hlt]
    have : mt (parts (P.drop (k + 1))) (S.drop again) = false := by
      rw [hX, mt_append X _ hf, List.drop_drop, ← hat, hm, Bool.and_false]
    rw [this, Bool.false_or]
theorem mm_end (hi : i = P.length) (ha : at_ < S.length) : mt (parts (P.drop i)) (S.drop at_) = false := by
  rw [hi, List.drop_length, List.drop_eq_getElem_cons ha]; rfl
theorem mm_short (hi : i < P.length) (hne : P[i] ≠ 42) (ha : at_ = S.length) : mt (parts (P.drop i)) (S.drop at_) = false := by
  rw [ha, List.drop_length, parts_drop P i hi]; exact mt_cons_nil (drop_free hi hne)
theorem mm_fit (hi : i < P.length) (hne : P[i] ≠ 42) (ha : at_ < S.length) (hf : (headPart (P.drop i)).1.fits S[at_] = false) : mt (parts (P.drop i)) (S.drop at_) = false := by
  rw [parts_drop P i hi, List.drop_eq_getElem_cons ha, mt_cons (drop_free hi hne), hf]; rfl
/-- What is left to do. -/
def left (p s i again : Nat) : Nat := (s - again) * (p + 1) + (p - i)
theorem left_further {p s i again i' again' : Nat} (h : again ≤ again') (hi : i < i') (hi' : i' ≤ p) : left p s i' again' < left p s i again := by
  unfold left
  have := Nat.mul_le_mul_right (p + 1) (show s - again' ≤ s - again by omega)
  omega
theorem left_back {p s i again i' : Nat} (h : again < s) : left p s i' (again + 1) < left p s i again := by
  unfold left
  have : (s - again) * (p + 1) = (s - (again + 1)) * (p + 1) + (p + 1) := by
    rw [show s - again = s - (again + 1) + 1 by omega, Nat.add_mul, Nat.one_mul]
  omega
end Go.Proofs.YtdjiimblfhbcjaaDoor.Pat
