/- Patterns in plain words: the parts of a pattern, what matches, and why going back to the last star alone is enough. Nothing of the program is imported. -/
namespace Go.Proofs.YtdjiimblfhbcjaaDoor.Pat

/-- A part of a pattern. -/
inductive Part where
  | star
  | any
  | byte (b : UInt8)
  | cls (neg : Bool) (set : List UInt8)

/-- Whether a set has a byte. -/
def inSet : List UInt8 → UInt8 → Bool
  | a :: 45 :: b :: r, c => (decide (a ≤ c) && decide (c ≤ b)) || inSet r c
  | a :: r, c => a == c || inSet r c
  | [], _ => false

def Part.fits : Part → UInt8 → Bool
  | .star, _ => false
  | .any, _ => true
  | .byte b, c => b == c
  | .cls neg set, c => inSet set c != neg
def Part.isStar : Part → Bool
  | .star => true
  | _ => false

def anySuf (f : List UInt8 → Bool) : List UInt8 → Bool
  | [] => f []
  | c :: s => f (c :: s) || anySuf f s
/-- What matches. -/
def mt : List Part → List UInt8 → Bool
  | [], s => s.isEmpty
  | .star :: ps, s => anySuf (mt ps) s
  | _ :: _, [] => false
  | x :: ps, c :: s => x.fits c && mt ps s

theorem anySuf_iff (f : List UInt8 → Bool) : ∀ s, anySuf f s = true ↔ ∃ k, k ≤ s.length ∧ f (s.drop k) = true
  | [] => by simp [anySuf]
  | c :: s => by
    rw [anySuf, Bool.or_eq_true, anySuf_iff f s]
    constructor
    · rintro (h | ⟨k, hk, h⟩)
      · exact ⟨0, by simp, h⟩
      · exact ⟨k + 1, by simp; omega, by simpa using h⟩
    · rintro ⟨k, hk, h⟩
      cases k with
      | zero => exact .inl (by simpa using h)
      | succ k => exact .inr ⟨k, by simp at hk; omega, by simpa using h⟩

/-- Star-free parts fit the bytes one by one. -/
def fitsAll : List Part → List UInt8 → Bool
  | [], [] => true
  | x :: xs, c :: s => x.fits c && fitsAll xs s
  | _, _ => false
def free (xs : List Part) : Prop := ∀ x ∈ xs, x.isStar = false

theorem mt_append (xs : List Part) (ys : List Part) (hf : free xs) : ∀ s, mt (xs ++ ys) s = (decide (xs.length ≤ s.length) && fitsAll xs (s.take xs.length) && mt ys (s.drop xs.length)) := by
  induction xs with
  | nil => intro s; simp [fitsAll]
  | cons x xs ih =>
    intro s
    have hx : x.isStar = false := hf x (by simp)
    have hf' : free xs := fun y hy => hf y (by simp [hy])
    cases s with
    | nil => cases x <;> simp [mt, Part.isStar] at hx ⊢
    | cons c s =>
      have e : mt (x :: xs ++ ys) (c :: s) = (x.fits c && mt (xs ++ ys) s) := by
        cases x <;> simp [mt, Part.isStar] at hx ⊢
      rw [e, ih hf' s]
      simp only [List.length_cons, List.take_succ_cons, List.drop_succ_cons, fitsAll, Nat.add_le_add_iff_right]
      cases x.fits c <;> cases decide (xs.length ≤ s.length) <;> simp

theorem fitsAll_snoc (xs : List Part) : ∀ (s : List UInt8) (x : Part) (c : UInt8), fitsAll (xs ++ [x]) (s ++ [c]) = (fitsAll xs s && x.fits c) := by
  induction xs with
  | nil =>
    intro s x c
    cases s with
    | nil => simp [fitsAll]
    | cons a s => cases s <;> simp [fitsAll]
  | cons y xs ih =>
    intro s x c
    cases s with
    | nil => cases xs <;> simp [fitsAll]
    | cons a s => simp only [List.cons_append, fitsAll, ih]; cases y.fits a <;> simp

/-- The last star alone: what was matched since it may be tried later, and a later star takes up the rest. -/
theorem star_enough (xs ys : List Part) (s : List UInt8) (again at_ : Nat) (hf : free xs) (hlen : at_ = again + xs.length) (hat : at_ ≤ s.length) (hfit : fitsAll xs ((s.drop again).take xs.length) = true) :
    (∃ k, again ≤ k ∧ k ≤ s.length ∧ mt (xs ++ .star :: ys) (s.drop k) = true) ↔ (∃ k, at_ ≤ k ∧ k ≤ s.length ∧ mt ys (s.drop k) = true) := by
  constructor
  · rintro ⟨k, h1, h2, h3⟩
    rw [mt_append xs _ hf, Bool.and_eq_true, Bool.and_eq_true, decide_eq_true_eq] at h3
    obtain ⟨⟨h4, -⟩, h5⟩ := h3
    rw [mt, anySuf_iff] at h5
    obtain ⟨j, hj, h6⟩ := h5
    simp only [List.length_drop] at h4 hj
    refine ⟨k + xs.length + j, by omega, by omega, ?_⟩
    rw [List.drop_drop, List.drop_drop] at h6
    rw [show k + xs.length + j = k + (xs.length + j) by omega]; first | exact h6 | (rw [Nat.add_comm] at h6; exact h6)
  · rintro ⟨k, h1, h2, h3⟩
    refine ⟨again, Nat.le_refl _, by omega, ?_⟩
    rw [mt_append xs _ hf, hfit, Bool.and_true, Bool.and_eq_true, decide_eq_true_eq]
    refine ⟨by simp; omega, ?_⟩
    rw [mt, anySuf_iff]
    refine ⟨k - at_, by simp; omega, ?_⟩
    rw [List.drop_drop, List.drop_drop, show again + (xs.length + (k - at_)) = k by omega]
    exact h3

/-! ### The parts of a pattern -/
/-- Where the first ] after the first byte stands. -/
def closing (l : List UInt8) : Option Nat := ((l.drop 1).findIdx? (· == 93)).map (· + 1)
/-- The class behind a [: whether it is a negation, its set, and its length with the brackets. -/
def plainCls (r : List UInt8) : Option (Bool × List UInt8 × Nat) := (closing r).map fun j => (false, r.take j, j + 2)
def cls : List UInt8 → Option (Bool × List UInt8 × Nat)
  | 33 :: r => match closing r with
    | some j => some (true, r.take j, j + 3)
    | none => plainCls (33 :: r)
  | r => plainCls r
def headPart : List UInt8 → Part × Nat
  | [] => (.star, 1)
  | a :: r =>
    if a = 42 then (.star, 1)
    else if a = 92 then (match r with | b :: _ => (.byte b, 2) | [] => (.byte 92, 1))
    else if a = 63 then (.any, 1)
    else if a = 91 then (match cls r with | some (neg, set, n) => (.cls neg set, n) | none => (.byte 91, 1))
    else (.byte a, 1)
def partsF : Nat → List UInt8 → List Part
  | 0, _ => []
  | _ + 1, [] => []
  | k + 1, a :: l => (headPart (a :: l)).1 :: partsF k ((a :: l).drop (headPart (a :: l)).2)
def parts (l : List UInt8) : List Part := partsF l.length l

theorem closing_lt {l : List UInt8} {j : Nat} (h : closing l = some j) : 1 ≤ j ∧ j < l.length := by
  unfold closing at h
  obtain ⟨i, hi, rfl⟩ := Option.map_eq_some_iff.1 h
  have := (List.findIdx?_eq_some_iff_getElem.1 hi).1
  simp at this; omega
theorem cls_len {r : List UInt8} {x : Bool × List UInt8 × Nat} (h : cls r = some x) : 3 ≤ x.2.2 ∧ x.2.2 ≤ r.length + 1 := by
  have hp : ∀ r x, plainCls r = some x → 3 ≤ x.2.2 ∧ x.2.2 ≤ r.length + 1 := by
    intro r x h
    obtain ⟨j, hj, rfl⟩ := Option.map_eq_some_iff.1 h
    have := closing_lt hj; dsimp only; omega
  unfold cls at h
  split at h
  · rename_i r
    split at h
    · rename_i j hj
      cases h
      have := closing_lt hj
      simp; omega
    · exact hp _ _ h
  · exact hp _ _ h
theorem headPart_cons (a : UInt8) (r : List UInt8) : headPart (a :: r) =
    if a = 42 then (.star, 1)
    else if a = 92 then (match r with | b :: _ => (.byte b, 2) | [] => (.byte 92, 1))
    else if a = 63 then (.any, 1)
    else if a = 91 then (match cls r with | some (neg, set, n) => (.cls neg set, n) | none => (.byte 91, 1))
    else (.byte a, 1) := rfl
theorem headPart_len (a : UInt8) (r : List UInt8) : 1 ≤ (headPart (a :: r)).2 ∧ (headPart (a :: r)).2 ≤ r.length + 1 := by
  rw [headPart_cons]
  by_cases h1 : a = 42
  · rw [if_pos h1]; simp
  rw [if_neg h1]
  by_cases h2 : a = 92
  · rw [if_pos h2]; cases r <;> simp
  rw [if_neg h2]
  by_cases h3 : a = 63
  · rw [if_pos h3]; simp
  rw [if_neg h3]
  by_cases h4 : a = 91
  · rw [if_pos h4]
    cases hc : cls r with
    | none => simp
    | some x => have := cls_len hc; obtain ⟨x, y, n⟩ := x; dsimp only at this ⊢; omega
  · rw [if_neg h4]; simp
theorem partsF_more : ∀ (k m : Nat) (l : List UInt8), l.length ≤ k → l.length ≤ m → partsF k l = partsF m l := by
  intro k
  induction k with
  | zero =>
    intro m l h1 h2
    obtain rfl : l = [] := List.eq_nil_of_length_eq_zero (by omega)
    cases m <;> rfl
  | succ k ih =>
    intro m l h1 h2
    cases l with
    | nil => cases m <;> rfl
    | cons a l =>
      cases m with
      | zero => simp at h2
      | succ m =>
        have := headPart_len a l
        simp only [partsF]
        rw [ih m _ (by simp at h1 ⊢; omega) (by simp at h2 ⊢; omega)]
theorem parts_nil : parts [] = [] := rfl
theorem parts_cons (a : UInt8) (r : List UInt8) : parts (a :: r) = (headPart (a :: r)).1 :: parts ((a :: r).drop (headPart (a :: r)).2) := by
  have := headPart_len a r
  show (headPart (a :: r)).1 :: partsF r.length ((a :: r).drop (headPart (a :: r)).2) = _
  rw [partsF_more r.length ((a :: r).drop (headPart (a :: r)).2).length _ (by simp; omega) (Nat.le_refl _)]
  rfl
/-- What matches a pattern. -/
def pat (p s : List UInt8) : Bool := mt (parts p) s
end Go.Proofs.YtdjiimblfhbcjaaDoor.Pat
