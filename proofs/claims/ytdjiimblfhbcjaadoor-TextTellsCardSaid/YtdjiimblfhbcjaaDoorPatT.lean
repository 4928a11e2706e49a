/- The reference's way of matching in plain words: a table over the parts and the bytes; the parts with how they are written. Nothing of the program is imported. -/
import Derived.Test.YtdjiimblfhbcjaaDoorPatP
namespace Go.Proofs.YtdjiimblfhbcjaaDoor.Pat

theorem mt_snoc_nil (x : Part) (hx : x.isStar = false) : ∀ X : List Part, mt (X ++ [x]) [] = false
  | [] => by show mt (x :: []) [] = false; exact mt_cons_nil hx
  | .star :: X => by show anySuf (mt (X ++ [x])) [] = false; rw [anySuf]; exact mt_snoc_nil x hx X
  | .any :: X => rfl
  | .byte b :: X => rfl
  | .cls n t :: X => rfl
theorem anySuf_snoc (f g : List UInt8 → Bool) (b : Bool) (c : UInt8) (h0 : f [] = false) (h : ∀ t, f (t ++ [c]) = (g t && b)) : ∀ s, anySuf f (s ++ [c]) = (anySuf g s && b)
  | [] => by
    have := h []
    rw [List.nil_append] at this ⊢
    rw [anySuf, anySuf, anySuf, h0, this, Bool.or_false]
  | a :: s => by
    have := h (a :: s)
    rw [List.cons_append] at this ⊢
    rw [anySuf, anySuf, this, anySuf_snoc f g b c h0 h s]
    cases g (a :: s) <;> cases anySuf g s <;> cases b <;> rfl
theorem mt_snoc (x : Part) (c : UInt8) (hx : x.isStar = false) : ∀ (X : List Part) (s : List UInt8), mt (X ++ [x]) (s ++ [c]) = (mt X s && x.fits c)
  | [], [] => by show mt (x :: []) (c :: []) = _; rw [mt_cons hx]; simp [mt]
  | [], a :: s => by show mt (x :: []) (a :: (s ++ [c])) = _; rw [mt_cons hx]; simp [mt]
  | .star :: X, s => by
    show anySuf (mt (X ++ [x])) (s ++ [c]) = (anySuf (mt X) s && x.fits c)
    exact anySuf_snoc _ _ _ _ (mt_snoc_nil x hx X) (mt_snoc x c hx X) s
  | .any :: X, s => one .any rfl X s (mt_snoc x c hx X)
  | .byte b :: X, s => one (.byte b) rfl X s (mt_snoc x c hx X)
  | .cls n t :: X, s => one (.cls n t) rfl X s (mt_snoc x c hx X)
where
  one (y : Part) (hy : y.isStar = false) (X : List Part) (s : List UInt8) (ih : ∀ s, mt (X ++ [x]) (s ++ [c]) = (mt X s && x.fits c)) : mt (y :: X ++ [x]) (s ++ [c]) = (mt (y :: X) s && x.fits c) := by
    cases s with
    | nil =>
      rw [List.nil_append, List.cons_append, mt_cons hy, mt_cons_nil hy, mt_snoc_nil x hx X]; simp
    | cons a s =>
      rw [List.cons_append, List.cons_append, mt_cons hy, mt_cons hy, ih s]
      cases y.fits a <;> simp

/-- Whether the first i parts match the first k bytes. -/
def tb (ps : List Part) (s : List UInt8) (i k : Nat) : Bool := mt (ps.take i) (s.take k)
theorem tb_zero (ps : List Part) (s : List UInt8) (k : Nat) (hk : k ≤ s.length) : tb ps s 0 k = decide (k = 0) := by
  unfold tb; rw [List.take_zero, mt]
  cases k with
  | zero => simp
  | succ k => cases s with
    | nil => simp at hk
    | cons a s => simp
theorem tb_all (ps : List Part) (s : List UInt8) : tb ps s ps.length s.length = mt ps s := by unfold tb; rw [List.take_length, List.take_length]
theorem tb_one (ps : List Part) (s : List UInt8) (i k : Nat) (hi : i < ps.length) (hs : ps[i].isStar = false) (hk : k < s.length) : tb ps s (i + 1) (k + 1) = (tb ps s i k && ps[i].fits s[k]) := by
  unfold tb; rw [List.take_succ_eq_append_getElem hi, List.take_succ_eq_append_getElem hk, mt_snoc _ _ hs]
theorem tb_one_zero (ps : List Part) (s : List UInt8) (i : Nat) (hi : i < ps.length) (hs : ps[i].isStar = false) : tb ps s (i + 1) 0 = false := by
  unfold tb; rw [List.take_succ_eq_append_getElem hi, List.take_zero, mt_snoc_nil _ hs]
theorem tb_star_iff (ps : List Part) (s : List UInt8) (i k : Nat) (hi : i < ps.length) (hs : ps[i].isStar = true) (hk : k ≤ s.length) : tb ps s (i + 1) k = true ↔ ∃ j, j ≤ k ∧ tb ps s i j = true := by
  have he : ps[i] = .star := by revert hs; cases ps[i] <;> simp [Part.isStar]
  unfold tb; rw [List.take_succ_eq_append_getElem hi, he, mt_prefix]
  constructor
  · rintro ⟨j, hj, h⟩
    rw [List.length_take] at hj
    exact ⟨j, by omega, by rw [List.take_take, Nat.min_eq_left (by omega)] at h; exact h⟩
  · rintro ⟨j, hj, h⟩
    exact ⟨j, by rw [List.length_take]; omega, by rw [List.take_take, Nat.min_eq_left (by omega)]; exact h⟩
theorem tb_star_zero (ps : List Part) (s : List UInt8) (i : Nat) (hi : i < ps.length) (hs : ps[i].isStar = true) : tb ps s (i + 1) 0 = tb ps s i 0 := by
  rw [Bool.eq_iff_iff, tb_star_iff ps s i 0 hi hs (Nat.zero_le _)]
  constructor
  · rintro ⟨j, hj, h⟩; obtain rfl : j = 0 := by omega
    exact h
  · intro h; exact ⟨0, Nat.le_refl _, h⟩
theorem tb_star (ps : List Part) (s : List UInt8) (i k : Nat) (hi : i < ps.length) (hs : ps[i].isStar = true) (hk : k < s.length) : tb ps s (i + 1) (k + 1) = (tb ps s i (k + 1) || tb ps s (i + 1) k) := by
  rw [Bool.eq_iff_iff, Bool.or_eq_true, tb_star_iff ps s i (k + 1) hi hs (by omega), tb_star_iff ps s i k hi hs (by omega)]
  constructor
  · rintro ⟨j, hj, h⟩
    by_cases e : j = k + 1
    · subst e; exact .inl h
    · exact .inr ⟨j, by omega, h⟩
  · rintro (h | ⟨j, hj, h⟩)
    · exact ⟨k + 1, Nat.le_refl _, h⟩
    · exact ⟨j, by omega, h⟩

/-! ### The parts, and how they are written -/
def ptsF : Nat → List UInt8 → List (Part × List UInt8)
  | 0, _ => []
  | _ + 1, [] => []
  | k + 1, a :: l => ((headPart (a :: l)).1, (a :: l).take (headPart (a :: l)).2) :: ptsF k ((a :: l).drop (headPart (a :: l)).2)
def pts (l : List UInt8) : List (Part × List UInt8) := ptsF l.length l
theorem ptsF_more : ∀ (k m : Nat) (l : List UInt8), l.length ≤ k → l.length ≤ m → ptsF k l = ptsF m l := by
  intro k
  induction k with
  | zero =>
    intro m l h1 h2
    obtain rfl : l = [] := List.eq_nil_of_length_eq_zero (by omega)
    cases m <;> rfl
  | succ k ih =>
    intro m l h1 h2
    cases l with
    | nil => cases m <;> rfl
    | cons a l =>
      cases m with
      | zero => simp at h2
      | succ m =>
        have := headPart_len a l
        simp only [ptsF]
        rw [ih m _ (by simp at h1 ⊢; omega) (by simp at h2 ⊢; omega)]
theorem pts_nil : pts [] = [] := rfl
theorem pts_cons (a : UInt8) (r : List UInt8) : pts (a :: r) = ((headPart (a :: r)).1, (a :: r).take (headPart (a :: r)).2) :: pts ((a :: r).drop (headPart (a :: r)).2) := by
  have := headPart_len a r
  show ((headPart (a :: r)).1, (a :: r).take (headPart (a :: r)).2) :: ptsF r.length ((a :: r).drop (headPart (a :: r)).2) = _
  rw [ptsF_more r.length ((a :: r).drop (headPart (a :: r)).2).length _ (by simp; omega) (Nat.le_refl _)]
  rfl
theorem pts_drop (P : List UInt8) (i : Nat) (h : i < P.length) : pts (P.drop i) = ((headPart (P.drop i)).1, (P.drop i).take (headPart (P.drop i)).2) :: pts (P.drop (i + (headPart (P.drop i)).2)) := by
  rw [List.drop_eq_getElem_cons h, pts_cons, ← List.drop_eq_getElem_cons h, List.drop_drop]
theorem ptsF_parts : ∀ (k : Nat) (l : List UInt8), (ptsF k l).map (·.1) = partsF k l
  | 0, _ => rfl
  | _ + 1, [] => rfl
  | k + 1, a :: l => by simp only [ptsF, partsF, List.map_cons]; rw [ptsF_parts k]
theorem pts_parts (l : List UInt8) : (pts l).map (·.1) = parts l := ptsF_parts _ _
theorem pts_pl_aux : ∀ (k : Nat) (l : List UInt8), (ptsF k l).flatMap (fun x => piece x.1 x.2) = plF k l
  | 0, _ => rfl
  | _ + 1, [] => rfl
  | k + 1, a :: l => by simp only [ptsF, plF, List.flatMap_cons]; rw [pts_pl_aux k]
theorem pts_pl (l : List UInt8) : (pts l).flatMap (fun x => piece x.1 x.2) = pl l := pts_pl_aux _ _
theorem pts_mg (l : List UInt8) : (pts l).any (fun x => !x.1.isByte) = mg l := by
  unfold mg; rw [← pts_parts, List.any_map]; rfl
theorem pts_len (l : List UInt8) : (pts l).length ≤ l.length := by
  have : ∀ (k : Nat) (l : List UInt8), (ptsF k l).length ≤ l.length := by
    intro k
    induction k with
    | zero => intro l; simp [ptsF]
    | succ k ih =>
      intro l
      cases l with
      | nil => simp [ptsF]
      | cons a r =>
        have h1 := headPart_len a r
        have h2 := ih ((a :: r).drop (headPart (a :: r)).2)
        rw [ptsF, List.length_cons]; rw [List.length_drop] at h2; simp at h2 ⊢; omega
  exact this _ _
/-- A part's text is a piece of the pattern; a byte's text has one byte, that byte, or two, of which it is the second one. -/
def okText (x : Part × List UInt8) : Prop := match x.1 with
  | .byte b => x.2 = [b] ∨ x.2 = [92, b]
  | _ => True
theorem head_ok (a : UInt8) (r : List UInt8) : okText ((headPart (a :: r)).1, (a :: r).take (headPart (a :: r)).2) := by
  rw [headPart_cons]
  by_cases h1 : a = 42
  · rw [if_pos h1]; trivial
  rw [if_neg h1]
  by_cases h2 : a = 92
  · rw [if_pos h2]
    cases r with
    | nil => left; simp [h2]
    | cons b r => right; simp [h2]
  rw [if_neg h2]
  by_cases h3 : a = 63
  · rw [if_pos h3]; trivial
  rw [if_neg h3]
  by_cases h4 : a = 91
  · rw [if_pos h4]
    cases hc : cls r with
    | none => left; simp [h4]
    | some x => trivial
  · rw [if_neg h4]; left; simp
theorem pts_ok (l : List UInt8) : ∀ x ∈ pts l, okText x ∧ x.2.length ≤ l.length := by
  have : ∀ (k : Nat) (l : List UInt8), ∀ x ∈ ptsF k l, okText x ∧ x.2.length ≤ l.length := by
    intro k
    induction k with
    | zero => intro l x hx; cases hx
    | succ k ih =>
      intro l x hx
      cases l with
      | nil => cases hx
      | cons a r =>
        rw [ptsF] at hx
        rcases List.mem_cons.1 hx with rfl | hx
        · exact ⟨head_ok a r, by dsimp only; rw [List.length_take]; omega⟩
        · have := ih _ x hx
          exact ⟨this.1, by have h2 := this.2; rw [List.length_drop] at h2; omega⟩
  exact this _ _
end Go.Proofs.YtdjiimblfhbcjaaDoor.Pat
