/- Magic, Plain and Escape in plain words. Nothing of the program is imported. -/
import Derived.Test.YtdjiimblfhbcjaaDoorPatI
namespace Go.Proofs.YtdjiimblfhbcjaaDoor.Pat

def Part.isByte : Part → Bool
  | .byte _ => true
  | _ => false
def mg (l : List UInt8) : Bool := (parts l).any fun x => !x.isByte
def piece (x : Part) (raw : List UInt8) : List UInt8 := match x with | .byte b => [b] | _ => raw
def plF : Nat → List UInt8 → List UInt8
  | 0, _ => []
  | _ + 1, [] => []
  | k + 1, a :: l => piece (headPart (a :: l)).1 ((a :: l).take (headPart (a :: l)).2) ++ plF k ((a :: l).drop (headPart (a :: l)).2)
def pl (l : List UInt8) : List UInt8 := plF l.length l
theorem plF_more : ∀ (k m : Nat) (l : List UInt8), l.length ≤ k → l.length ≤ m → plF k l = plF m l := by
  intro k
  induction k with
  | zero =>
    intro m l h1 h2
    obtain rfl : l = [] := List.eq_nil_of_length_eq_zero (by omega)
    cases m <;> rfl
  | succ k ih =>
    intro m l h1 h2
    cases l with
    | nil => cases m <;> rfl
    | cons a l =>
      cases m with
      | zero => simp at h2
      | succ m =>
        have := headPart_len a l
        simp only [plF]
        rw [ih m _ (by simp at h1 ⊢; omega) (by simp at h2 ⊢; omega)]
theorem pl_nil : pl [] = [] := rfl
theorem pl_cons (a : UInt8) (r : List UInt8) : pl (a :: r) = piece (headPart (a :: r)).1 ((a :: r).take (headPart (a :: r)).2) ++ pl ((a :: r).drop (headPart (a :: r)).2) := by
  have := headPart_len a r
  show piece (headPart (a :: r)).1 ((a :: r).take (headPart (a :: r)).2) ++ plF r.length ((a :: r).drop (headPart (a :: r)).2) = _
  rw [plF_more r.length ((a :: r).drop (headPart (a :: r)).2).length _ (by simp; omega) (Nat.le_refl _)]
  rfl
theorem pl_drop (P : List UInt8) (i : Nat) (h : i < P.length) : pl (P.drop i) = piece (headPart (P.drop i)).1 ((P.drop i).take (headPart (P.drop i)).2) ++ pl (P.drop (i + (headPart (P.drop i)).2)) := by
  rw [List.drop_eq_getElem_cons h, pl_cons, ← List.drop_eq_getElem_cons h, List.drop_drop]
theorem mg_drop (P : List UInt8) (i : Nat) (h : i < P.length) : mg (P.drop i) = (!(headPart (P.drop i)).1.isByte || mg (P.drop (i + (headPart (P.drop i)).2))) := by
  unfold mg; rw [parts_drop P i h, List.any_cons]
theorem mg_nil : mg [] = false := rfl

theorem pl_len : ∀ (k : Nat) (l : List UInt8), l.length ≤ k → (pl l).length ≤ l.length := by
  intro k
  induction k with
  | zero => intro l h; rw [List.eq_nil_of_length_eq_zero (by omega : l.length = 0)]; simp [pl_nil]
  | succ k ih =>
    intro l h
    cases l with
    | nil => simp [pl_nil]
    | cons a r =>
      have hl := headPart_len a r
      rw [pl_cons, List.length_append]
      have h2 := ih ((a :: r).drop (headPart (a :: r)).2) (by simp at h ⊢; omega)
      rw [List.length_drop] at h2
      have h3 : (piece (headPart (a :: r)).1 ((a :: r).take (headPart (a :: r)).2)).length ≤ (headPart (a :: r)).2 := by
        unfold piece; split
        · exact hl.1
        · rw [List.length_take]; omega
      simp only [List.length_cons] at h2 ⊢; omega
/-- Without magic the parts are the bytes of pl. -/
theorem plain_parts : ∀ (k : Nat) (l : List UInt8), l.length ≤ k → mg l = false → parts l = (pl l).map .byte := by
  intro k
  induction k with
  | zero => intro l h _; rw [List.eq_nil_of_length_eq_zero (by omega : l.length = 0)]; rfl
  | succ k ih =>
    intro l h hm
    cases l with
    | nil => rfl
    | cons a r =>
      have hlen := headPart_len a r
      have hd := mg_drop (a :: r) 0 (by simp)
      rw [List.drop_zero, hm] at hd
      simp only [Nat.zero_add] at hd
      cases hx : (headPart (a :: r)).1 with
      | byte b =>
        rw [hx] at hd
        have h2 : mg ((a :: r).drop (headPart (a :: r)).2) = false := by
          rw [show Part.isByte (.byte b) = true from rfl] at hd
          simpa using hd.symm
        rw [parts_cons, pl_cons, hx, ih _ (by simp at h ⊢; omega) h2]; rfl
      | star => rw [hx] at hd; simp [Part.isByte] at hd
      | any => rw [hx] at hd; simp [Part.isByte] at hd
      | cls n s => rw [hx] at hd; simp [Part.isByte] at hd
theorem mt_bytes (ys : List Part) : ∀ (t s : List UInt8), mt (t.map .byte ++ ys) (t ++ s) = mt ys s
  | [], s => rfl
  | c :: t, s => by
    show mt (.byte c :: (t.map .byte ++ ys)) (c :: (t ++ s)) = _
    rw [mt_cons rfl, mt_bytes ys t s]; simp [Part.fits]
theorem mt_bytes_only : ∀ (t s : List UInt8), mt (t.map .byte) s = decide (s = t)
  | [], [] => rfl
  | [], a :: s => by simp [mt]
  | c :: t, [] => rfl
  | c :: t, a :: s => by
    show mt (.byte c :: t.map .byte) (a :: s) = _
    rw [mt_cons rfl, mt_bytes_only t s]
    simp only [Part.fits]
    rw [Bool.eq_iff_iff]; simp [eq_comm (a := a) (b := c)]
theorem pat_plain {p : List UInt8} (h : mg p = false) (s : List UInt8) : pat p s = decide (s = pl p) := by
  unfold pat; rw [plain_parts _ p (Nat.le_refl _) h, mt_bytes_only]

/-! ### Escape -/
def sp (c : UInt8) : Bool := c == 42 || c == 63 || c == 91 || c == 92
def es1 (c : UInt8) : List UInt8 := if sp c then [92, c] else [c]
def es (l : List UInt8) : List UInt8 := l.flatMap es1
theorem headPart_es (c : UInt8) (r : List UInt8) : headPart (es1 c ++ r) = (.byte c, (es1 c).length) := by
  unfold es1
  cases h : sp c with
  | true => rfl
  | false =>
    have h' : ¬ c = 42 ∧ ¬ c = 63 ∧ ¬ c = 91 ∧ ¬ c = 92 := by simpa [sp, not_or, and_assoc] using h
    obtain ⟨h1, h2, h3, h4⟩ := h'
    show headPart (c :: r) = _
    rw [headPart_cons, if_neg h1, if_neg h4, if_neg h2, if_neg h3]; rfl
theorem es1_cons (c : UInt8) : ∃ a r, es1 c = a :: r := by unfold es1; split <;> exact ⟨_, _, rfl⟩
theorem parts_es (p : List UInt8) : ∀ t : List UInt8, parts (es t ++ p) = t.map .byte ++ parts p
  | [] => rfl
  | c :: t => by
    have e : es (c :: t) ++ p = es1 c ++ (es t ++ p) := by simp [es]
    obtain ⟨a, r, hr⟩ := es1_cons c
    have hh := headPart_es c (es t ++ p)
    rw [e, hr, List.cons_append, parts_cons]
    rw [hr, List.cons_append] at hh
    rw [hh]
    have : (a :: (r ++ (es t ++ p))).drop (a :: r).length = es t ++ p := by
      rw [← List.cons_append]; exact List.drop_left
    dsimp only
    rw [this, parts_es p t]; rfl
theorem pl_es : ∀ t : List UInt8, pl (es t) = t
  | [] => rfl
  | c :: t => by
    have e : es (c :: t) = es1 c ++ es t := by simp [es]
    obtain ⟨a, r, hr⟩ := es1_cons c
    have hh := headPart_es c (es t)
    rw [e, hr, List.cons_append, pl_cons]
    rw [hr, List.cons_append] at hh
    rw [hh]
    have : (a :: (r ++ es t)).drop (a :: r).length = es t := by
      rw [← List.cons_append]; exact List.drop_left
    dsimp only
    rw [this, pl_es t]; rfl
theorem mg_es (t : List UInt8) : mg (es t) = false := by
  have := parts_es [] t
  rw [List.append_nil, show parts [] = [] from rfl, List.append_nil] at this
  unfold mg; rw [this]; simp [Part.isByte]

/-! ### Stars -/
theorem pat_starred (p s : List UInt8) : pat (42 :: p) s = anySuf (pat p) s := by
  unfold pat
  rw [parts_cons, headPart_star]; rfl
theorem pat_question (p s : List UInt8) : pat (63 :: p) s = match s with | [] => false | _ :: s => pat p s := by
  unfold pat
  rw [parts_cons, show headPart (63 :: p) = (.any, 1) by rw [headPart_cons]; rfl]
  cases s with
  | nil => rfl
  | cons c s => show (true && _) = _; rw [Bool.true_and]; rfl
theorem pat_escaped (t p s : List UInt8) : pat (es t ++ p) (t ++ s) = pat p s := by
  unfold pat; rw [parts_es, mt_bytes]

theorem closing_more (r : List UInt8) : closing (r ++ [42]) = closing r := by
  unfold closing
  cases r with
  | nil => rfl
  | cons a r =>
    rw [List.cons_append, List.drop_succ_cons, List.drop_zero, List.drop_succ_cons, List.drop_zero, List.findIdx?_append]
    cases (r.findIdx? (· == 93)) with
    | some n => rfl
    | none => rfl
theorem plainCls_more (r : List UInt8) : plainCls (r ++ [42]) = plainCls r := by
  unfold plainCls
  rw [closing_more]
  cases h : closing r with
  | none => rfl
  | some j =>
    have := closing_lt h
    simp only [Option.map_some]
    rw [List.take_append_of_le_length (by omega)]
theorem cls_more (r : List UInt8) : cls (r ++ [42]) = cls r := by
  cases r with
  | nil => rfl
  | cons a r =>
    by_cases h : a = 33
    · subst h
      show (match closing (r ++ [42]) with | some j => some (true, (r ++ [42]).take j, j + 3) | none => plainCls (33 :: r ++ [42])) = (match closing r with | some j => some (true, r.take j, j + 3) | none => plainCls (33 :: r))
      rw [closing_more, plainCls_more]
      cases h : closing r with
      | none => rfl
      | some j =>
        have := closing_lt h
        dsimp only
        rw [List.take_append_of_le_length (by omega)]
    · have h1 : cls (a :: r) = plainCls (a :: r) := by unfold cls; split <;> first | (rename_i e; exact absurd (List.cons.inj e).1 h) | rfl
      have h2 : cls (a :: r ++ [42]) = plainCls (a :: r ++ [42]) := by unfold cls; split <;> first | (rename_i e; exact absurd (List.cons.inj e).1 h) | rfl
      rw [h1, h2, plainCls_more]
theorem headPart_more (a : UInt8) (r : List UInt8) (h : (a :: r).getLast? ≠ some 92) : headPart (a :: r ++ [42]) = headPart (a :: r) := by
  rw [List.cons_append, headPart_cons, headPart_cons, cls_more]
  by_cases h1 : a = 92
  · subst h1
    cases r with
    | nil => exact absurd rfl h
    | cons b r => rfl
  · rw [if_neg h1, if_neg h1]
theorem parts_more : ∀ (k : Nat) (l : List UInt8), l.length ≤ k → l.getLast? ≠ some 92 → parts (l ++ [42]) = parts l ++ [.star] := by
  intro k
  induction k with
  | zero => intro l h _; rw [List.eq_nil_of_length_eq_zero (by omega : l.length = 0)]; rfl
  | succ k ih =>
    intro l h hl
    cases l with
    | nil => rfl
    | cons a r =>
      have hlen := headPart_len a r
      rw [List.cons_append, parts_cons, show a :: (r ++ [42]) = (a :: r) ++ [42] from rfl, headPart_more a r hl, parts_cons a r, List.cons_append, show a :: (r ++ [42]) = (a :: r) ++ [42] from rfl]
      rw [List.drop_append_of_le_length (by rw [List.length_cons]; omega)]
      have hl2 : ((a :: r).drop (headPart (a :: r)).2).getLast? ≠ some 92 := by
        rw [List.getLast?_drop]
        split
        · simp
        · exact hl
      rw [ih _ (by simp at h ⊢; omega) hl2]; rfl
theorem mt_prefix : ∀ (X : List Part) (s : List UInt8), mt (X ++ [.star]) s = true ↔ ∃ j, j ≤ s.length ∧ mt X (s.take j) = true
  | [], s => by
    constructor
    · intro _; exact ⟨0, Nat.zero_le _, rfl⟩
    · intro _
      show anySuf (mt []) s = true
      rw [anySuf_iff]; exact ⟨s.length, Nat.le_refl _, by rw [List.drop_length]; rfl⟩
  | .star :: X, s => by
    show anySuf (mt (X ++ [.star])) s = true ↔ ∃ j, j ≤ s.length ∧ anySuf (mt X) (s.take j) = true
    rw [anySuf_iff]
    constructor
    · rintro ⟨k, hk, h⟩
      obtain ⟨j, hj, h⟩ := (mt_prefix X _).1 h
      rw [List.length_drop] at hj
      refine ⟨k + j, by omega, (anySuf_iff _ _).2 ⟨k, by simp; omega, ?_⟩⟩
      rw [List.drop_take, Nat.add_sub_cancel_left]; exact h
    · rintro ⟨j, hj, h⟩
      obtain ⟨k, hk, h⟩ := (anySuf_iff _ _).1 h
      rw [List.length_take] at hk
      refine ⟨k, by omega, (mt_prefix X _).2 ⟨j - k, by rw [List.length_drop]; omega, ?_⟩⟩
      rw [List.drop_take] at h; exact h
  | .any :: X, s => mt_prefix_one .any rfl X s (mt_prefix X)
  | .byte b :: X, s => mt_prefix_one (.byte b) rfl X s (mt_prefix X)
  | .cls n t :: X, s => mt_prefix_one (.cls n t) rfl X s (mt_prefix X)
where
  mt_prefix_one (x : Part) (hx : x.isStar = false) (X : List Part) (s : List UInt8) (ih : ∀ s, mt (X ++ [.star]) s = true ↔ ∃ j, j ≤ s.length ∧ mt X (s.take j) = true) : mt (x :: X ++ [.star]) s = true ↔ ∃ j, j ≤ s.length ∧ mt (x :: X) (s.take j) = true := by
    cases s with
    | nil =>
      constructor
      · intro h; rw [List.cons_append, mt_cons_nil hx] at h; cases h
      · rintro ⟨j, -, h⟩; rw [List.take_nil, mt_cons_nil hx] at h; cases h
    | cons c s =>
      rw [List.cons_append, mt_cons hx, Bool.and_eq_true, ih s]
      constructor
      · rintro ⟨h1, j, hj, h2⟩
        exact ⟨j + 1, by simpa using hj, by rw [List.take_succ_cons, mt_cons hx, h1, h2]; rfl⟩
      · rintro ⟨j, hj, h⟩
        cases j with
        | zero => rw [List.take_zero, mt_cons_nil hx] at h; cases h
        | succ j =>
          rw [List.take_succ_cons, mt_cons hx, Bool.and_eq_true] at h
          exact ⟨h.1, j, by simpa using hj, h.2⟩
theorem pat_more (p s : List UInt8) (h : p.getLast? ≠ some 92) : pat (p ++ [42]) s = true ↔ ∃ j, j ≤ s.length ∧ pat p (s.take j) = true := by
  unfold pat; rw [parts_more _ p (Nat.le_refl _) h]; exact mt_prefix _ _
end Go.Proofs.YtdjiimblfhbcjaaDoor.Pat
