/- Parts DtR, DtK, DtF, DtG, DtT, DtJ of this claim, laid one behind the other: walks and the plain laws behind them; each contract states its own conditions. -/
import Derived.Test.YtnccndfffmaonaaGreatDoorZA
import Derived.Test.YtnccndfffmaonaaGreatDoorZI
import Derived.Test.YtnccndfffmaonaaGreatDoorZF
/- The reference of layer 10 in plain words: what its reader takes. -/
namespace Go.Proofs.YtnccndfffmaonaaGreatDoor
namespace Dr
open Lx (Tok)
/-- Of two neighbours, where the first is no line token, the lines are equal. -/
def LN : List Tok → Prop
  | [] => True
  | t :: r => (t.kind ≠ 3 → r = [] ∨ lineOf r = t.line) ∧ LN r
theorem go_ln : ∀ (f : Nat) (l : List UInt8) (ln : Nat) (ts : List Tok), Lx.go f l ln = .ok ts → LN ts ∧ lineOf ts = ln
  | 0, _, _, _, h => by cases h
  | f + 1, l, ln, ts, h => by
    rw [Lx.go] at h
    cases hs : Lx.step (Lx.skip false l) with
    | done =>
      rw [hs] at h
      cases h
      exact ⟨⟨fun _ => .inl rfl, trivial⟩, rfl⟩
    | bad e => rw [hs] at h; cases h
    | tok k t n rest =>
      rw [hs] at h
      dsimp only at h
      cases hg : Lx.go f rest (Lx.nl k ln) with
      | error e => rw [hg] at h; cases h
      | ok us =>
        rw [hg] at h
        cases h
        have ih := go_ln f rest (Lx.nl k ln) us hg
        refine ⟨⟨fun h3 => .inr ?_, ih.1⟩, rfl⟩
        rw [ih.2]
        unfold Lx.nl
        rw [if_neg h3]
theorem lex_ln {l : List UInt8} {ln : Nat} {ts : List Tok} (h : Lx.lex l ln = .ok ts) : LN ts := (go_ln _ _ _ _ h).1
theorem LN.drop {ts : List Tok} (h : LN ts) : ∀ p, LN (ts.drop p) := by
  intro p
  induction ts generalizing p with
  | nil => simp [LN]
  | cons t r ih =>
    cases p with
    | zero => exact h
    | succ p => exact ih h.2 p
theorem fields_at (a : Int) : ∀ (ps : List UInt8) (j : Nat) (x : Item) (ts : List Tok), fields ps j { x with line := a } ts = match fields ps j x ts with | .ok (y, us) => .ok ({ y with line := a }, us) | .error us => .error us
  | [], _, _, _ => rfl
  | _ :: _, _, _, [] => rfl
  | p :: ps, j, x, t :: r => by
    rw [fields, fields]
    by_cases hp : p = 110
    · rw [if_pos hp, if_pos hp]
      by_cases hk : t.kind = 1
      · rw [if_pos hk, if_pos hk]; exact fields_at a ps j { x with n := x.n ++ [t.n] } r
      · rw [if_neg hk, if_neg hk]
    rw [if_neg hp, if_neg hp]
    by_cases hd : p = 100
    · rw [if_pos hd, if_pos hd]
      by_cases hk : t.kind = 0
      · rw [if_pos hk, if_pos hk]
        cases dirOf t.text with
        | none => rfl
        | some k => exact fields_at a ps j { x with n := x.n ++ [(k : Int)] } r
      · rw [if_neg hk, if_neg hk]
    rw [if_neg hd, if_neg hd]
    by_cases hk : t.kind = 0
    · rw [if_pos hk, if_pos hk]
      have e : setName { x with line := a } j t.text = { setName x j t.text with line := a } := by unfold setName; split <;> rfl
      rw [e]
      exact fields_at a ps (j + 1) (setName x j t.text) r
    · rw [if_neg hk, if_neg hk]
      by_cases hw : p = 119
      · rw [if_pos hw, if_pos hw]
      · rw [if_neg hw, if_neg hw]; exact fields_at a ps j x (t :: r)

/-- What take of a kind gives at the place p: the text, the number, the next place, whether it did not fit. -/
def TakeR (toks : List Tok) (p : Nat) (bad : Bool) (kd : Nat) (T : List UInt8) (N : Int) (q : Nat) (bad' : Bool) : Prop :=
  (bad = false ∧ (∃ t, toks[p]? = some t ∧ t.kind = kd ∧ T = t.text ∧ N = t.n) ∧ q = p + 1 ∧ bad' = false) ∨ ((bad = true ∨ ∃ t, toks[p]? = some t ∧ t.kind ≠ kd) ∧ T = [] ∧ N = 0 ∧ q = p ∧ bad' = true)
/-- What the reader has read of an item's line so far, against what is to be read of it. -/
def St (toks : List Tok) (F : Except (List Tok) (Item × List Tok)) (ps : List UInt8) (j : Nat) (x : Item) (p : Nat) (bad : Bool) : Prop :=
  p < toks.length ∧ ((bad = false ∧ F = fields ps j x (toks.drop p)) ∨ (bad = true ∧ ∃ us, F = .error us ∧ lineOf (toks.drop p) = lineOf us))
theorem more_toks {toks : List Tok} {p : Nat} {t : Tok} (hE : ∃ front e, toks = front ++ [e] ∧ e.kind = 4) (h : toks[p]? = some t) (hk : t.kind ≠ 4) : p + 1 < toks.length := by
  obtain ⟨front, e, rfl, he⟩ := hE
  obtain ⟨hp, ht⟩ := List.getElem?_eq_some_iff.1 h
  rw [List.length_append, List.length_singleton] at hp ⊢
  apply Decidable.byContradiction
  intro hc
  have hpf : p = front.length := by omega
  subst hpf
  rw [List.getElem_append_right (Nat.le_refl _)] at ht
  simp at ht
  subst ht
  exact hk he
theorem drop_at {toks : List Tok} {p : Nat} {t : Tok} (h : toks[p]? = some t) : toks.drop p = t :: toks.drop (p + 1) := by
  obtain ⟨hp, ht⟩ := List.getElem?_eq_some_iff.1 h
  rw [List.drop_eq_getElem_cons hp, ht]
theorem St.word {toks : List Tok} {F : Except (List Tok) (Item × List Tok)} {ps : List UInt8} {j p q : Nat} {x : Item} {bad bad' : Bool} {T : List UInt8} {N : Int} (hE : ∃ front e, toks = front ++ [e] ∧ e.kind = 4)
    (h : St toks F (119 :: ps) j x p bad) (hr : TakeR toks p bad 0 T N q bad') : St toks F ps (j + 1) (setName x j T) q bad' := by
  obtain ⟨hp, h⟩ := h
  rcases hr with ⟨rfl, ⟨t, ht, hk, rfl, rfl⟩, rfl, rfl⟩ | ⟨hb, rfl, rfl, rfl, rfl⟩
  · refine ⟨more_toks hE ht (by omega), .inl ⟨rfl, ?_⟩⟩
    rcases h with ⟨-, h⟩ | ⟨h, -⟩
    · rw [h, drop_at ht, fields, if_neg (by decide), if_neg (by decide), if_pos hk]
    · cases h
  · refine ⟨hp, .inr ⟨rfl, ?_⟩⟩
    rcases h with ⟨rfl, h⟩ | ⟨rfl, h⟩
    · rcases hb with hb | ⟨t, ht, hk⟩
      · cases hb
      · rw [h, drop_at ht, fields, if_neg (by decide), if_neg (by decide), if_neg hk, if_pos rfl]
        exact ⟨_, rfl, rfl⟩
    · exact h
theorem St.num {toks : List Tok} {F : Except (List Tok) (Item × List Tok)} {ps : List UInt8} {j p q : Nat} {x : Item} {bad bad' : Bool} {T : List UInt8} {N : Int} (hE : ∃ front e, toks = front ++ [e] ∧ e.kind = 4)
    (h : St toks F (110 :: ps) j x p bad) (hr : TakeR toks p bad 1 T N q bad') : St toks F ps j { x with n := x.n ++ [N] } q bad' := by
  obtain ⟨hp, h⟩ := h
  rcases hr with ⟨rfl, ⟨t, ht, hk, rfl, rfl⟩, rfl, rfl⟩ | ⟨hb, rfl, rfl, rfl, rfl⟩
  · refine ⟨more_toks hE ht (by omega), .inl ⟨rfl, ?_⟩⟩
    rcases h with ⟨-, h⟩ | ⟨h, -⟩
    · rw [h, drop_at ht, fields, if_pos rfl, if_pos hk]
    · cases h
  · refine ⟨hp, .inr ⟨rfl, ?_⟩⟩
    rcases h with ⟨rfl, h⟩ | ⟨rfl, h⟩
    · rcases hb with hb | ⟨t, ht, hk⟩
      · cases hb
      · rw [h, drop_at ht, fields, if_pos rfl, if_neg hk]
        exact ⟨_, rfl, rfl⟩
    · exact h
/-- A direction that does not fit. -/
theorem St.dir_no {toks : List Tok} {F : Except (List Tok) (Item × List Tok)} {ps : List UInt8} {j p : Nat} {x y : Item} {bad : Bool} {t : Tok} (hE : ∃ front e, toks = front ++ [e] ∧ e.kind = 4) (hL : LN toks)
    (h : St toks F (100 :: ps) j x p bad) (ht : toks[p]? = some t) (hd : dirOf t.text = none ∨ t.kind ≠ 0) : St toks F ps j y p true := by
  obtain ⟨hp, h⟩ := h
  refine ⟨hp, .inr ⟨rfl, ?_⟩⟩
  rcases h with ⟨rfl, h⟩ | ⟨rfl, h⟩
  · rw [drop_at ht] at h ⊢
    rw [fields, if_neg (by decide), if_pos rfl] at h
    by_cases hk : t.kind = 0
    · rw [if_pos hk] at h
      rcases hd with hd | hd
      · rw [hd] at h
        refine ⟨_, h, ?_⟩
        have hm := more_toks hE ht (by omega)
        have hl := hL.drop p
        rw [drop_at ht] at hl
        rcases hl.1 (by omega) with e | e
        · exact absurd (congrArg List.length e) (by rw [List.length_drop, List.length_nil]; omega)
        · rw [e]; rfl
      · exact absurd hk hd
    · rw [if_neg hk] at h
      exact ⟨_, h, rfl⟩
  · exact h
/-- A direction that fits. -/
theorem St.dir_yes {toks : List Tok} {F : Except (List Tok) (Item × List Tok)} {ps : List UInt8} {j p q k : Nat} {x : Item} {bad bad' : Bool} {T : List UInt8} {N : Int} {t : Tok} (hE : ∃ front e, toks = front ++ [e] ∧ e.kind = 4)
    (h : St toks F (100 :: ps) j x p bad) (ht : toks[p]? = some t) (hk : t.kind = 0) (hd : dirOf t.text = some k) (hr : TakeR toks p bad 0 T N q bad') : St toks F ps j { x with n := x.n ++ [(k : Int)] } q bad' := by
  obtain ⟨hp, h⟩ := h
  rcases hr with ⟨rfl, ⟨u, hu, hk2, rfl, rfl⟩, rfl, rfl⟩ | ⟨hb, rfl, rfl, rfl, rfl⟩
  · refine ⟨more_toks hE ht (by omega), .inl ⟨rfl, ?_⟩⟩
    rcases h with ⟨-, h⟩ | ⟨h, -⟩
    · rw [h, drop_at ht, fields, if_neg (by decide), if_pos rfl, if_pos hk, hd]
    · cases h
  · refine ⟨hp, .inr ⟨rfl, ?_⟩⟩
    rcases h with ⟨rfl, h⟩ | ⟨rfl, h⟩
    · rcases hb with hb | ⟨u, hu, hk2⟩
      · cases hb
      · rw [ht] at hu
        injection hu with hu
        subst hu
        exact absurd hk hk2
    · exact h
theorem fields_opt (ps : List UInt8) (j : Nat) (x : Item) (t : Tok) (r : List Tok) : fields (111 :: ps) j x (t :: r) = if t.kind = 0 then fields ps (j + 1) (setName x j t.text) r else fields ps j x (t :: r) := by
  rw [fields, if_neg (by decide), if_neg (by decide)]
  by_cases hk : t.kind = 0
  · rw [if_pos hk, if_pos hk]
  · rw [if_neg hk, if_neg hk, if_neg (by decide)]
/-- A last word that may follow. -/
theorem St.opt_no {toks : List Tok} {F : Except (List Tok) (Item × List Tok)} {j p : Nat} {x : Item} {bad : Bool} {t : Tok} (h : St toks F [111] j x p bad) (ht : toks[p]? = some t) (hk : bad = true ∨ t.kind ≠ 0) : St toks F [] j x p bad := by
  obtain ⟨hp, h⟩ := h
  refine ⟨hp, ?_⟩
  rcases h with ⟨rfl, h⟩ | h
  · rcases hk with hk | hk
    · cases hk
    · exact .inl ⟨rfl, by rw [h, drop_at ht, fields_opt, if_neg hk]⟩
  · exact .inr h
theorem St.opt_yes {toks : List Tok} {F : Except (List Tok) (Item × List Tok)} {j p q : Nat} {x : Item} {bad' : Bool} {T : List UInt8} {N : Int} {t : Tok} (hE : ∃ front e, toks = front ++ [e] ∧ e.kind = 4)
    (h : St toks F [111] j x p false) (ht : toks[p]? = some t) (hk : t.kind = 0) (hr : TakeR toks p false 0 T N q bad') : St toks F [] (j + 1) (setName x j T) q bad' := by
  obtain ⟨hp, h⟩ := h
  rcases hr with ⟨-, ⟨u, hu, hk2, rfl, rfl⟩, rfl, rfl⟩ | ⟨hb, rfl, rfl, rfl, rfl⟩
  · refine ⟨more_toks hE ht (by omega), .inl ⟨rfl, ?_⟩⟩
    rcases h with ⟨-, h⟩ | ⟨h, -⟩
    · rw [ht] at hu
      injection hu with hu
      subst hu
      rw [h, drop_at ht, fields_opt, if_pos hk]
    · cases h
  · rcases hb with hb | ⟨u, hu, hk2⟩
    · cases hb
    · rw [ht] at hu
      injection hu with hu
      subst hu
      exact absurd hk hk2
end Dr
end Go.Proofs.YtnccndfffmaonaaGreatDoor
/- The reference of layer 10 in plain words: what a line does to what is read. -/
namespace Go.Proofs.YtnccndfffmaonaaGreatDoor
namespace Dr
open Lx (Tok)

/-- What is left to be read behind a line: the draft d, the place p, whether something did not fit. -/
def Mid (toks : List Tok) (G : Except (Nat × Nat) Draft) (d : Draft) (p : Nat) (bad : Bool) : Prop :=
  p < toks.length ∧ G = if bad = true then .error (11, lineOf (toks.drop p)) else after d (toks.drop p)
section
variable {toks : List Tok} {G : Except (Nat × Nat) Draft} {d : Draft} {p : Nat} {t : Tok}
theorem of_line (hG : G = parse d (toks.drop p)) (ht : toks[p]? = some t) (hk : t.kind = 0) : G = match line d t (toks.drop (p + 1)) with | .error e => .error e | .ok x => after x.1 x.2 := by
  rw [hG, drop_at ht, parse_cons, if_neg (by omega)]; rfl
theorem of_err (hG : G = parse d (toks.drop p)) (ht : toks[p]? = some t) (hk : t.kind ≠ 4) {e : Nat × Nat} (h : line d t (toks.drop (p + 1)) = .error e) : G = .error e := by
  rw [hG, drop_at ht, parse_cons, if_neg hk, h]
theorem of_ok (hG : G = parse d (toks.drop p)) (ht : toks[p]? = some t) (hk : t.kind ≠ 4) {x : Draft × List Tok} (h : line d t (toks.drop (p + 1)) = .ok x) : G = after x.1 x.2 := by
  rw [hG, drop_at ht, parse_cons, if_neg hk, h]
theorem row_ne : wRow ≠ wDeck := by decide
theorem line_row_eq (d : Draft) (r : List Tok) (hk : t.kind = 0) (hd : t.text = wRow) (h : d.decks ≠ []) (hf : (d.decks.getLastD []).length < 4096) : line d t r = match r with
      | [] => .error (11, 0)
      | u :: s => if u.kind ≠ 2 then .error (11, u.line) else if 4096 < u.text.length then .error (6, t.line)
        else .ok ({ d with decks := d.decks.dropLast ++ [d.decks.getLastD [] ++ [u.text]] }, s) := by
  unfold line; rw [if_neg (by omega), if_neg (by omega), if_neg (by rw [hd]; exact row_ne), if_pos hd, if_neg h, if_neg (by omega)]; rfl
theorem line_item_eq (d : Draft) (r : List Tok) (hk : t.kind = 0) (h1 : t.text ≠ wDeck) (h2 : t.text ≠ wRow) {k : Nat} (h : kindOf t.text = some k) (hf : d.items.length < 5000) : line d t r = match fields (partsOf k) 0 ⟨k, t.line, [], [], []⟩ r with
        | .ok (x, us) => .ok ({ d with items := d.items ++ [x] }, us)
        | .error us => .error (11, lineOf us) := by
  unfold line; rw [if_neg (by omega), if_neg (by omega), if_neg h1, if_neg h2, h]; dsimp only; rw [if_neg (by omega)]; rfl
theorem mid_other (hG : G = parse d (toks.drop p)) (ht : toks[p]? = some t) (h3 : t.kind ≠ 3) (h4 : t.kind ≠ 4) (hk : t.kind ≠ 0) : G = .error (11, t.line) := by
  exact of_err hG ht h4 (by unfold line; rw [if_neg h3, if_pos hk])
theorem mid_lf (hG : G = parse d (toks.drop p)) (ht : toks[p]? = some t) (h3 : t.kind = 3) : G = parse d (toks.drop (p + 1)) := by
  rw [hG, drop_at ht, parse_line d t h3]
theorem mid_done (hG : G = parse d (toks.drop p)) (ht : toks[p]? = some t) (h4 : t.kind = 4) : G = .ok d := by
  rw [hG, drop_at ht, parse_cons, if_pos h4]
theorem mid_deck_full (hG : G = parse d (toks.drop p)) (ht : toks[p]? = some t) (hk : t.kind = 0) (hd : t.text = wDeck) (h4 : 4 ≤ d.decks.length) : G = .error (6, t.line) := by
  exact of_err hG ht (by omega) (by unfold line; rw [if_neg (by omega), if_neg (by omega), if_pos hd, if_pos h4])
theorem mid_deck (hE : ∃ front e, toks = front ++ [e] ∧ e.kind = 4) (hG : G = parse d (toks.drop p)) (ht : toks[p]? = some t) (hk : t.kind = 0) (hd : t.text = wDeck) (h4 : d.decks.length < 4) : Mid toks G { d with decks := d.decks ++ [[]] } (p + 1) false := by
  refine ⟨more_toks hE ht (by omega), ?_⟩
  rw [of_ok (x := ({ d with decks := d.decks ++ [[]] }, toks.drop (p + 1))) hG ht (by omega) (by unfold line; rw [if_neg (by omega), if_neg (by omega), if_pos hd, if_neg (by omega)])]; rfl
theorem mid_row_none (hG : G = parse d (toks.drop p)) (ht : toks[p]? = some t) (hk : t.kind = 0) (hd : t.text = wRow) (h : d.decks = []) : G = .error (11, t.line) := by
  exact of_err hG ht (by omega) (by unfold line; rw [if_neg (by omega), if_neg (by omega), if_neg (by rw [hd]; exact row_ne), if_pos hd, if_pos h])
theorem mid_row_full (hG : G = parse d (toks.drop p)) (ht : toks[p]? = some t) (hk : t.kind = 0) (hd : t.text = wRow) (h : d.decks ≠ []) (hf : 4096 ≤ (d.decks.getLastD []).length) : G = .error (6, t.line) := by
  exact of_err hG ht (by omega) (by unfold line; rw [if_neg (by omega), if_neg (by omega), if_neg (by rw [hd]; exact row_ne), if_pos hd, if_neg h, if_pos hf])
theorem mid_row (hE : ∃ front e, toks = front ++ [e] ∧ e.kind = 4) (hG : G = parse d (toks.drop p)) (ht : toks[p]? = some t) (hk : t.kind = 0) (hd : t.text = wRow) (h : d.decks ≠ []) (hf : (d.decks.getLastD []).length < 4096)
    {T : List UInt8} {N : Int} {q : Nat} {bad : Bool} (hr : TakeR toks (p + 1) false 2 T N q bad) :
    (4096 < T.length → G = .error (6, t.line)) ∧ (T.length ≤ 4096 → Mid toks G { d with decks := d.decks.dropLast ++ [d.decks.getLastD [] ++ [T]] } q bad) := by
  have hp1 := more_toks hE ht (by omega)
  have h0 := of_line hG ht hk
  rw [line_row_eq d _ hk hd h hf] at h0
  rcases hr with ⟨-, ⟨u, hu, hk2, rfl, rfl⟩, rfl, rfl⟩ | ⟨hb, rfl, rfl, rfl, rfl⟩
  · rw [drop_at hu] at h0
    dsimp only at h0
    rw [if_neg (by omega)] at h0
    constructor
    · intro h6
      rw [if_pos h6] at h0
      exact h0
    · intro h6
      rw [if_neg (by omega)] at h0
      refine ⟨more_toks hE hu (by omega), ?_⟩
      rw [h0]; rfl
  · refine ⟨fun h6 => by simp at h6, fun _ => ⟨hp1, ?_⟩⟩
    rcases hb with hb | ⟨u, hu, hk2⟩
    · cases hb
    · rw [drop_at hu] at h0
      dsimp only at h0
      rw [if_pos hk2] at h0
      rw [h0, drop_at hu]; rfl
theorem mid_none (hG : G = parse d (toks.drop p)) (ht : toks[p]? = some t) (hk : t.kind = 0) (h1 : t.text ≠ wDeck) (h2 : t.text ≠ wRow) (h : kindOf t.text = none) : G = .error (11, t.line) := by
  exact of_err hG ht (by omega) (by unfold line; rw [if_neg (by omega), if_neg (by omega), if_neg h1, if_neg h2, h])
theorem mid_item_full (hG : G = parse d (toks.drop p)) (ht : toks[p]? = some t) (hk : t.kind = 0) (h1 : t.text ≠ wDeck) (h2 : t.text ≠ wRow) {k : Nat} (h : kindOf t.text = some k) (hf : 5000 ≤ d.items.length) : G = .error (6, t.line) := by
  exact of_err hG ht (by omega) (by unfold line; rw [if_neg (by omega), if_neg (by omega), if_neg h1, if_neg h2, h]; dsimp only; rw [if_pos hf])
theorem mid_item (hG : G = parse d (toks.drop p)) (ht : toks[p]? = some t) (hk : t.kind = 0) (h1 : t.text ≠ wDeck) (h2 : t.text ≠ wRow) {k : Nat} (h : kindOf t.text = some k) (hf : d.items.length < 5000)
    {j q : Nat} {x : Item} {bad : Bool} (hs : St toks (fields (partsOf k) 0 ⟨k, 0, [], [], []⟩ (toks.drop (p + 1))) [] j x q bad) : Mid toks G { d with items := d.items ++ [{ x with line := t.line }] } q bad := by
  have h0 := of_line hG ht hk
  rw [line_item_eq d _ hk h1 h2 h hf] at h0
  have hf2 := fields_at t.line (partsOf k) 0 ⟨k, 0, [], [], []⟩ (toks.drop (p + 1))
  dsimp only at hf2
  rw [hf2] at h0
  obtain ⟨hq, h3⟩ := hs
  refine ⟨hq, ?_⟩
  rcases h3 with ⟨rfl, h3⟩ | ⟨rfl, us, h3, h4⟩
  · rw [h3] at h0
    exact h0
  · rw [h3] at h0
    rw [h0, h4]; rfl
theorem mid_bad {u : Tok} (h : Mid toks G d p true) (hu : toks[p]? = some u) : G = .error (11, u.line) := by
  rw [h.2, drop_at hu]; rfl
theorem mid_wrong {u : Tok} (h : Mid toks G d p false) (hu : toks[p]? = some u) (h3 : u.kind ≠ 3) (h4 : u.kind ≠ 4) : G = .error (11, u.line) := by
  rw [h.2, drop_at hu, if_neg (by simp), after, if_neg h4, if_neg h3]
theorem mid_on {u : Tok} (h : Mid toks G d p false) (hu : toks[p]? = some u) (h3 : u.kind = 3 ∨ u.kind = 4) : G = parse d (toks.drop p) := by
  rw [h.2, drop_at hu, if_neg (by simp), after]
  rcases h3 with h3 | h3
  · rw [if_neg (by omega), if_pos h3, parse_line d u h3]
  · rw [if_pos h3, parse_cons, if_pos h3]
/-- The kind that the first k words give. -/
def kdUp (t : List UInt8) : Nat → Int
  | 0 => -1
  | k + 1 => if wordOf k = t then (k : Int) else kdUp t k
theorem kdUp_6 (t : List UInt8) : kdUp t 6 = match kindOf t with | some k => (k : Int) | none => -1 := by
  unfold kindOf
  by_cases h0 : wordOf 0 = t
  · subst h0; decide
  by_cases h1 : wordOf 1 = t
  · subst h1; decide
  by_cases h2 : wordOf 2 = t
  · subst h2; decide
  by_cases h3 : wordOf 3 = t
  · subst h3; decide
  by_cases h4 : wordOf 4 = t
  · subst h4; decide
  by_cases h5 : wordOf 5 = t
  · subst h5; decide
  rw [List.find?_cons_of_neg (by simpa using h0), List.find?_cons_of_neg (by simpa using h1), List.find?_cons_of_neg (by simpa using h2), List.find?_cons_of_neg (by simpa using h3), List.find?_cons_of_neg (by simpa using h4), List.find?_cons_of_neg (by simpa using h5)]
  simp only [kdUp, if_neg h0, if_neg h1, if_neg h2, if_neg h3, if_neg h4, if_neg h5]; rfl
theorem kindOf_ltK {t : List UInt8} {k : Nat} (h : kindOf t = some k) : k < 6 := by
  have := List.mem_of_find?_eq_some h
  simp at this; omega
end
end Dr
end Go.Proofs.YtnccndfffmaonaaGreatDoor
/- The reference of layer 10: the reader's take. -/
namespace Go.Proofs.YtnccndfffmaonaaGreatDoor
set_option linter.unusedSimpArgs false
set_option linter.unusedVariables false
open Go.RowKit

/-- The reader: the tokens, the place, whether something did not fit. -/
def RD (rb : Nat) (w : World) (toks : List Lx.Tok) (p : Nat) (bad : Bool) : Prop :=
  ∃ g cap, w.heap[rb]? = some (.cells #[.slice (some ⟨g, 0, none⟩) toks.length cap, .int .i64 p, .bool bad] 55 (0, 0)) ∧ TK w g toks ∧ g < rb ∧ toks.length ≤ cap ∧ cap ≤ maxLen ∧ toks.length ≤ 100000
theorem TK.nb {rb g : Nat} {w w' : World} {ts : List Lx.Tok} (h : TK w g ts) (hn : NB rb w w') (hg : g < rb) (hr : rb ≤ w.heap.size) : TK w' g ts := by
  have hb := hn.below (B := rb) (Nat.le_refl _) hr
  intro i hi
  obtain ⟨h2, h3, h4, h5⟩ := h i hi
  exact ⟨(hb.cell (p := ⟨g, i * 4, none⟩) hg).trans h2, (hb.cell (p := ⟨g, i * 4 + 1, none⟩) hg).trans h3, (hb.cell (p := ⟨g, i * 4 + 2, none⟩) hg).trans h4, (hb.cell (p := ⟨g, i * 4 + 3, none⟩) hg).trans h5⟩
theorem RD.lt {rb p : Nat} {w : World} {toks : List Lx.Tok} {bad : Bool} (h : RD rb w toks p bad) : rb < w.heap.size := by
  obtain ⟨g, cap, h, -⟩ := h
  exact (Array.getElem?_eq_some_iff.1 h).1
theorem RD.below {rb p : Nat} {w w' : World} {toks : List Lx.Tok} {bad : Bool} (h : RD rb w toks p bad) (hb : Below w.heap.size w w') : RD rb w' toks p bad := by
  have hlt := h.lt
  obtain ⟨g, cap, h1, h2, h3, h4⟩ := h
  exact ⟨g, cap, (hb.block rb hlt).trans h1, h2.keep hb, h3, h4⟩
def zeroTok : Value := .agg #[.int .i64 0, .string ⟨#[]⟩, .int .i64 0, .int .i64 0]
theorem RD.drew {rb p : Nat} {w : World} {toks : List Lx.Tok} {bad : Bool} (h : RD rb w toks p bad) : RD rb w.drew toks p bad := h.below (Below.refl w.heap.size w).drew
theorem RD.alloc {rb p : Nat} {w : World} {toks : List Lx.Tok} {bad : Bool} (h : RD rb w toks p bad) (o : Obj) : RD rb (w.alloc o) toks p bad := h.below ((Below.refl w.heap.size w).alloc (Nat.le_refl _) o)
theorem RD.setAt {rb p : Nat} {w : World} {toks : List Lx.Tok} {bad : Bool} (h : RD rb w toks p bad) (q : Nat) : RD rb (w.setCell ⟨rb, 1, none⟩ (.int .i64 q)) toks q bad := by
  have hlt := h.lt
  obtain ⟨g, cap, h1, h2, h3, h4⟩ := h
  exact ⟨g, cap, set_heap h1 1 (.int .i64 q), h2.nb ((NB.refl rb w).set 1 _) h3 (by omega), h3, h4⟩
theorem RD.setBad {rb p : Nat} {w : World} {toks : List Lx.Tok} {bad : Bool} (h : RD rb w toks p bad) (c : Bool) : RD rb (w.setCell ⟨rb, 2, none⟩ (.bool c)) toks p c := by
  have hlt := h.lt
  obtain ⟨g, cap, h1, h2, h3, h4⟩ := h
  exact ⟨g, cap, set_heap h1 2 (.bool c), h2.nb ((NB.refl rb w).set 2 _) h3 (by omega), h3, h4⟩
set_option maxRecDepth 100000 in
set_option maxHeartbeats 4000000 in
theorem rtake_yes (rb p kd : Nat) (toks : List Lx.Tok) (t : Lx.Tok) (w : World) (h : RD rb w toks p false) (ha : toks[p]? = some t) (hk : t.kind = kd) (kdi : Int) (hkd : kdi = (kd : Int)) :
    Calls Tryz.prog 25 #[.pointer (some ⟨rb, 0, none⟩), .int .i64 kdi] w fun e w' => e = .returned (tokV t) ∧ NB rb w w' ∧ RD rb w' toks (p + 1) false := by
  subst hkd
  have hlt := h.lt
  have HR := Lib.hid h
  obtain ⟨g, cap, h0, hT, hg, hnc, hcm, hn⟩ := h
  obtain ⟨hp, hpt⟩ := List.getElem?_eq_some_iff.1 ha
  obtain ⟨q0, q1, q2, q3⟩ := hT p hp
  rw [hpt] at q0 q1 q2 q3
  obtain ⟨n, hnn⟩ : ∃ n, n = toks.length := ⟨_, rfl⟩
  rw [← hnn] at h0 hp hnc hn
  have c0 : w.cell? ⟨rb, 0, none⟩ = some (.slice (some ⟨g, 0, none⟩) n cap) := cell_of_heap h0 0 rfl
  have c1 : w.cell? ⟨rb, 1, none⟩ = some (.int .i64 p) := cell_of_heap h0 1 rfl
  have c2 : w.cell? ⟨rb, 2, none⟩ = some (.bool false) := cell_of_heap h0 2 rfl
  have f1 : w.frozen? ⟨rb, 1, none⟩ = false := free_of_heap h0 1
  have hgw : g < w.heap.size := by omega
  have hbg : rb ≠ g := by omega
  have pI0 : (0 : Int) ≤ (p : Int) := by omega
  have pI1 : (p : Int) < (n : Int) := by omega
  have pI2 : (p : Int) + 1 ≤ 9223372036854775807 := by omega
  have e1 : ((t.kind : Int) != (kd : Int)) = false := by rw [hk]; simp
  have H0 := Lib.hid h0
  have HT := Lib.hid hT
  have HNN := Lib.hid hnn
  obtain ⟨tk, tx, tn, tl⟩ := t
  dsimp only at q0 q1 q2 q3 e1
  clear h0 hT hk ha hpt hnn
  go_enter Tryz.func25, Tryz.ntmps25
  go_wp2_with fail
  go_region
  go_wp2_with fail

  refine bodyPost_ret (v := .agg #[.int .i64 tk, .string ⟨tx.toArray⟩, .int .i64 tn, .int .i64 tl]) (by simp [results, Tryz.results25, go_sem]) rfl ⟨rfl, ?_, ?_⟩
  · exact ((((NB.refl rb w).set 1 _).alloc _).alloc _).drew
  · exact (((HR.out.setAt (p + 1)).alloc _).alloc _).drew
set_option maxRecDepth 100000 in
set_option maxHeartbeats 4000000 in
theorem rtake_bad (rb p kd : Nat) (toks : List Lx.Tok) (t : Lx.Tok) (w : World) (h : RD rb w toks p true) (ha : toks[p]? = some t) (kdi : Int) (hkd : kdi = (kd : Int)) :
    Calls Tryz.prog 25 #[.pointer (some ⟨rb, 0, none⟩), .int .i64 kdi] w fun e w' => e = .returned zeroTok ∧ NB rb w w' ∧ RD rb w' toks p true := by
  subst hkd
  have hlt := h.lt
  have HR := Lib.hid h
  obtain ⟨g, cap, h0, hT, hg, hnc, hcm, hn⟩ := h
  obtain ⟨hp, hpt⟩ := List.getElem?_eq_some_iff.1 ha
  obtain ⟨q0, q1, q2, q3⟩ := hT p hp
  rw [hpt] at q0 q1 q2 q3
  obtain ⟨n, hnn⟩ : ∃ n, n = toks.length := ⟨_, rfl⟩
  rw [← hnn] at h0 hp hnc hn
  have c0 : w.cell? ⟨rb, 0, none⟩ = some (.slice (some ⟨g, 0, none⟩) n cap) := cell_of_heap h0 0 rfl
  have c1 : w.cell? ⟨rb, 1, none⟩ = some (.int .i64 p) := cell_of_heap h0 1 rfl
  have c2 : w.cell? ⟨rb, 2, none⟩ = some (.bool true) := cell_of_heap h0 2 rfl
  have f1 : w.frozen? ⟨rb, 2, none⟩ = false := free_of_heap h0 2
  have hgw : g < w.heap.size := by omega
  have hbg : rb ≠ g := by omega
  have pI0 : (0 : Int) ≤ (p : Int) := by omega
  have pI1 : (p : Int) < (n : Int) := by omega
  have pI2 : (p : Int) + 1 ≤ 9223372036854775807 := by omega
  have H0 := Lib.hid h0
  have HT := Lib.hid hT
  have HNN := Lib.hid hnn
  obtain ⟨tk, tx, tn, tl⟩ := t
  dsimp only at q0 q1 q2 q3
  clear h0 hT ha hpt hnn
  go_enter Tryz.func25, Tryz.ntmps25
  go_wp2_with fail
  go_region
  go_wp2_with fail

  refine bodyPost_ret (v := zeroTok) (by simp [zeroTok, results, Tryz.results25, go_sem]) rfl ⟨rfl, ?_, ?_⟩
  · exact ((((NB.refl rb w).set 2 _).alloc _).alloc _).drew
  · exact (((HR.out.setBad true).alloc _).alloc _).drew
set_option maxRecDepth 100000 in
set_option maxHeartbeats 4000000 in
theorem rtake_no (rb p kd : Nat) (toks : List Lx.Tok) (t : Lx.Tok) (w : World) (h : RD rb w toks p false) (ha : toks[p]? = some t) (hk : t.kind ≠ kd) (kdi : Int) (hkd : kdi = (kd : Int)) :
    Calls Tryz.prog 25 #[.pointer (some ⟨rb, 0, none⟩), .int .i64 kdi] w fun e w' => e = .returned zeroTok ∧ NB rb w w' ∧ RD rb w' toks p true := by
  subst hkd
  have hlt := h.lt
  have HR := Lib.hid h
  obtain ⟨g, cap, h0, hT, hg, hnc, hcm, hn⟩ := h
  obtain ⟨hp, hpt⟩ := List.getElem?_eq_some_iff.1 ha
  obtain ⟨q0, q1, q2, q3⟩ := hT p hp
  rw [hpt] at q0 q1 q2 q3
  obtain ⟨n, hnn⟩ : ∃ n, n = toks.length := ⟨_, rfl⟩
  rw [← hnn] at h0 hp hnc hn
  have c0 : w.cell? ⟨rb, 0, none⟩ = some (.slice (some ⟨g, 0, none⟩) n cap) := cell_of_heap h0 0 rfl
  have c1 : w.cell? ⟨rb, 1, none⟩ = some (.int .i64 p) := cell_of_heap h0 1 rfl
  have c2 : w.cell? ⟨rb, 2, none⟩ = some (.bool false) := cell_of_heap h0 2 rfl
  have f1 : w.frozen? ⟨rb, 2, none⟩ = false := free_of_heap h0 2
  have hgw : g < w.heap.size := by omega
  have hbg : rb ≠ g := by omega
  have pI0 : (0 : Int) ≤ (p : Int) := by omega
  have pI1 : (p : Int) < (n : Int) := by omega
  have pI2 : (p : Int) + 1 ≤ 9223372036854775807 := by omega
  have e1 : ((t.kind : Int) != (kd : Int)) = true := by simp; omega
  have H0 := Lib.hid h0
  have HT := Lib.hid hT
  have HNN := Lib.hid hnn
  obtain ⟨tk, tx, tn, tl⟩ := t
  dsimp only at q0 q1 q2 q3 e1
  clear h0 hT hk ha hpt hnn
  go_enter Tryz.func25, Tryz.ntmps25
  go_wp2_with fail
  go_region
  go_wp2_with fail

  refine bodyPost_ret (v := zeroTok) (by simp [zeroTok, results, Tryz.results25, go_sem]) rfl ⟨rfl, ?_, ?_⟩
  · exact ((((NB.refl rb w).set 2 _).alloc _).alloc _).drew
  · exact (((HR.out.setBad true).alloc _).alloc _).drew
end Go.Proofs.YtnccndfffmaonaaGreatDoor
/- The reference of layer 10: take, whatever comes; what holds while an item is read. -/
namespace Go.Proofs.YtnccndfffmaonaaGreatDoor
set_option linter.unusedSimpArgs false
set_option linter.unusedVariables false
open Go.RowKit

theorem rtake_any (rb p kd : Nat) (bad : Bool) (toks : List Lx.Tok) (w : World) (h : RD rb w toks p bad) (hp : p < toks.length) (kdi : Int) (hkd : kdi = (kd : Int)) :
    Calls Tryz.prog 25 #[.pointer (some ⟨rb, 0, none⟩), .int .i64 kdi] w fun e w' => ∃ (T : List UInt8) (N : Int) (q : Nat) (bad' : Bool) (K L : Int),
      e = .returned (.agg #[.int .i64 K, .string ⟨T.toArray⟩, .int .i64 N, .int .i64 L]) ∧ NB rb w w' ∧ RD rb w' toks q bad' ∧ Dr.TakeR toks p bad kd T N q bad' := by
  have ha : toks[p]? = some toks[p] := List.getElem?_eq_getElem hp
  cases bad with
  | true =>
    refine (rtake_bad rb p kd toks toks[p] w h ha kdi hkd).mono ?_
    rintro e w' ⟨rfl, hn, hr⟩
    exact ⟨[], 0, p, true, 0, 0, rfl, hn, hr, .inr ⟨.inl rfl, rfl, rfl, rfl, rfl⟩⟩
  | false =>
    by_cases hk : toks[p].kind = kd
    · refine (rtake_yes rb p kd toks toks[p] w h ha hk kdi hkd).mono ?_
      rintro e w' ⟨rfl, hn, hr⟩
      exact ⟨_, _, p + 1, false, _, _, rfl, hn, hr, .inl ⟨rfl, ⟨_, ha, hk, rfl, rfl⟩, rfl, rfl⟩⟩
    · refine (rtake_no rb p kd toks toks[p] w h ha hk kdi hkd).mono ?_
      rintro e w' ⟨rfl, hn, hr⟩
      exact ⟨[], 0, p, true, 0, 0, rfl, hn, hr, .inr ⟨.inr ⟨_, ha, hk⟩, rfl, rfl, rfl, rfl⟩⟩

def itemZ : Obj := .cells #[.int .i64 0, .int .i64 0, .string ⟨#[]⟩, .string ⟨#[]⟩, .slice none 0 0] 34 (0, 0)
/-- What holds while the reference reads an item: the result's block, the item's block, its numbers, the reader. -/
structure IS (rb xb : Nat) (w wr : World) (toks : List Lx.Tok) (x : Dr.Item) (nv : Value) (p : Nat) (bad : Bool) : Prop where
  hz : wr.heap[w.heap.size]? = some itemZ
  hx : wr.heap[xb]? = some (xObj x nv)
  hN : wr.ownsRow (xb + 1) 3 1 nv x.n.length (ints x.n)
  hR : RD rb wr toks p bad
  hB : NB rb w wr
  hw : xb = w.heap.size + 1
  hb : rb < w.heap.size
  hs : xb < wr.heap.size
theorem IS.next {rb xb p q : Nat} {w wr w' : World} {toks : List Lx.Tok} {x : Dr.Item} {nv : Value} {bad bad' : Bool} (h : IS rb xb w wr toks x nv p bad) (hn : NB rb wr w') (hr : RD rb w' toks q bad') : IS rb xb w w' toks x nv q bad' := by
  have hw := h.hw
  have hb := h.hb
  exact ⟨hn.heap h.hz (by omega), hn.heap h.hx (by omega), hn.row h.hN (by omega), hr, h.hB.trans hn, hw, hb, Nat.lt_of_lt_of_le h.hs hn.size⟩
theorem IS.alloc {rb xb p : Nat} {w wr : World} {toks : List Lx.Tok} {x : Dr.Item} {nv : Value} {bad : Bool} (h : IS rb xb w wr toks x nv p bad) (o : Obj) : IS rb xb w (wr.alloc o) toks x nv p bad := h.next ((NB.refl _ _).alloc o) (h.hR.alloc o)
theorem IS.drew {rb xb p : Nat} {w wr : World} {toks : List Lx.Tok} {x : Dr.Item} {nv : Value} {bad : Bool} (h : IS rb xb w wr toks x nv p bad) : IS rb xb w wr.drew toks x nv p bad := h.next (NB.refl _ _).drew h.hR.drew
theorem RD.other {rb k p : Nat} {w w' : World} {toks : List Lx.Tok} {bad : Bool} (h : RD rb w toks p bad) (hn : NB k w w') (hk : rb < k) (hkw : k ≤ w.heap.size) : RD rb w' toks p bad := by
  have hlt := h.lt
  have hb := hn.below (B := k) (Nat.le_refl _) hkw
  obtain ⟨g, cap, h1, h2, h3, h4⟩ := h
  refine ⟨g, cap, (hb.block rb hk).trans h1, ?_, h3, h4⟩
  intro i hi
  obtain ⟨h5, h6, h7, h8⟩ := h2 i hi
  have hg : g < k := by omega
  exact ⟨(hb.cell (p := ⟨g, i * 4, none⟩) hg).trans h5, (hb.cell (p := ⟨g, i * 4 + 1, none⟩) hg).trans h6, (hb.cell (p := ⟨g, i * 4 + 2, none⟩) hg).trans h7, (hb.cell (p := ⟨g, i * 4 + 3, none⟩) hg).trans h8⟩
/-- A store into the item's block. -/
theorem IS.put {rb xb p o : Nat} {w wr : World} {toks : List Lx.Tok} {x y : Dr.Item} {nv : Value} {bad : Bool} (h : IS rb xb w wr toks x nv p bad) (v : Value) (hy : (itemC x nv).toArray.setIfInBounds o v = (itemC y nv).toArray) (hn : y.n = x.n) :
    IS rb xb w (wr.setCell ⟨xb, o, none⟩ v) toks y nv p bad := by
  have hw := h.hw
  have hb := h.hb
  have hs := h.hs
  have hnb : NB xb wr (wr.setCell ⟨xb, o, none⟩ v) := (NB.refl xb wr).set o v
  refine ⟨hnb.heap h.hz (by omega), ?_, by rw [hn]; exact hnb.row h.hN (by omega), h.hR.other hnb (by omega) (by omega), h.hB.new hnb (by omega), hw, hb, by simpa using hs⟩
  have hx := h.hx
  unfold xObj at hx ⊢
  rw [set_heap hx o v, hy]
theorem IS.num {rb xb p : Nat} {w wr w2 : World} {toks : List Lx.Tok} {x : Dr.Item} {nv v' : Value} {bad : Bool} (h : IS rb xb w wr toks x nv p bad) (k : Int) (hown : w2.ownsRow (xb + 1) 3 1 v' (x.n.length + 1) (ints x.n ++ [.int .i64 k])) (hg : wr.grownBy w2 nv.ownBlock) :
    w2.heap[xb]? = some (xObj x nv) ∧ IS rb xb w (w2.setCell ⟨xb, 4, none⟩ v') toks { x with n := x.n ++ [k] } v' p bad := by
  have hw := h.hw
  have hb := h.hb
  have hs := h.hs
  have hB : Below (xb + 1) wr w2 := (Below.refl _ _).grown hg (by omega) (fun k hk => (World.ownsRow.lt h.hN k hk).1)
  have hx2 : w2.heap[xb]? = some (xObj x nv) := (hB.block xb (by omega)).trans h.hx
  refine ⟨hx2, ?_⟩
  have hn : NB xb w2 (w2.setCell ⟨xb, 4, none⟩ v') := (NB.refl xb w2).set 4 v'
  have hB2 : NB rb w w2 := ⟨hB.os.trans h.hB.os, hB.tape.trans h.hB.tape, hB.output.trans h.hB.output, Nat.le_trans h.hB.size hB.size, fun i hi hne => (hB.block i (by omega)).trans (h.hB.block i hi hne)⟩
  have hR2 : RD rb w2 toks p bad := by
    obtain ⟨g, cap, h1, h2, h3, h4⟩ := h.hR
    refine ⟨g, cap, (hB.block rb (by omega)).trans h1, ?_, h3, h4⟩
    intro i hi
    obtain ⟨h5, h6, h7, h8⟩ := h2 i hi
    have hg : g < xb + 1 := by omega
    exact ⟨(hB.cell (p := ⟨g, i * 4, none⟩) hg).trans h5, (hB.cell (p := ⟨g, i * 4 + 1, none⟩) hg).trans h6, (hB.cell (p := ⟨g, i * 4 + 2, none⟩) hg).trans h7, (hB.cell (p := ⟨g, i * 4 + 3, none⟩) hg).trans h8⟩
  have hs2 : xb < w2.heap.size := Nat.lt_of_lt_of_le hs hB.size
  refine ⟨hn.heap ((hB.block _ (by omega)).trans h.hz) (by omega), by rw [set_heap hx2]; rfl, ?_, hR2.other hn (by omega) (by omega), hB2.new hn (by omega), hw, hb, by simpa using hs2⟩
  have := hn.row hown (by omega)
  rw [List.length_append]
  have e : ints (x.n ++ [k]) = ints x.n ++ [.int .i64 k] := by simp [ints]
  rw [e]; exact this
end Go.Proofs.YtnccndfffmaonaaGreatDoor
/- A field of a token's value. -/
namespace Go.Proofs.YtnccndfffmaonaaGreatDoor
open Go.RowKit
theorem tokText (K N L : Int) (T : ByteArray) (W : World) : (Instr.field 42 (.agg #[.int .i64 K, .string T, .int .i64 N, .int .i64 L]) 1).run Tryz.prog W = .ok (.string T) W := by
  kernel_rfl
theorem tokN (K N L : Int) (T : ByteArray) (W : World) : (Instr.field 42 (.agg #[.int .i64 K, .string T, .int .i64 N, .int .i64 L]) 2).run Tryz.prog W = .ok (.int .i64 N) W := by
  kernel_rfl
end Go.Proofs.YtnccndfffmaonaaGreatDoor
/- The reference of layer 10: what the memory holds while its Parse reads. -/
namespace Go.Proofs.YtnccndfffmaonaaGreatDoor
set_option linter.unusedSimpArgs false
set_option linter.unusedVariables false
open Go.RowKit

theorem TK.other {k g : Nat} {w w' : World} {ts : List Lx.Tok} (h : TK w g ts) (hn : NB k w w') (hg : g ≠ k) (hl : g < w.heap.size) : TK w' g ts := by
  have hb := hn.block g hl (fun e => by injection e with e; exact hg e)
  intro i hi
  obtain ⟨h5, h6, h7, h8⟩ := h i hi
  exact ⟨(World.cell?_of_block (a := ⟨g, i * 4, none⟩) hb).trans h5, (World.cell?_of_block (a := ⟨g, i * 4 + 1, none⟩) hb).trans h6, (World.cell?_of_block (a := ⟨g, i * 4 + 2, none⟩) hb).trans h7, (World.cell?_of_block (a := ⟨g, i * 4 + 3, none⟩) hb).trans h8⟩
theorem RD.up {rb p : Nat} {w w' : World} {toks : List Lx.Tok} {bad : Bool} (h : RD rb w toks p bad) (hb : Below (rb + 1) w w') : RD rb w' toks p bad := by
  obtain ⟨g, cap, h1, h2, h3, h4⟩ := h
  refine ⟨g, cap, (hb.block rb (by omega)).trans h1, ?_, h3, h4⟩
  intro i hi
  obtain ⟨h5, h6, h7, h8⟩ := h2 i hi
  have hg : g < rb + 1 := by omega
  exact ⟨(hb.cell (p := ⟨g, i * 4, none⟩) hg).trans h5, (hb.cell (p := ⟨g, i * 4 + 1, none⟩) hg).trans h6, (hb.cell (p := ⟨g, i * 4 + 2, none⟩) hg).trans h7, (hb.cell (p := ⟨g, i * 4 + 3, none⟩) hg).trans h8⟩
/-- A store to a block whose first cell is a slice. -/
theorem RD.setD {rb db p : Nat} {w : World} {toks : List Lx.Tok} {bad : Bool} {cs : Array Value} {t : TypeId} {a : Option Addr} {n c : Nat} (h : RD rb w toks p bad) (hd : w.heap[db]? = some (.cells cs t (0, 0))) (h0 : cs[0]? = some (.slice a n c))
    (hne : db ≠ rb) (hp : 0 < toks.length) (o : Nat) (v : Value) : RD rb (w.setCell ⟨db, o, none⟩ v) toks p bad := by
  have hlt := h.lt
  obtain ⟨g, cap, h1, h2, h3, h4⟩ := h
  have hn := (NB.refl db w).set o v
  have hgd : g ≠ db := by
    rintro rfl
    have e1 := (h2 0 hp).1
    have e2 := cell_of_heap hd 0 h0
    rw [Nat.zero_mul] at e1
    rw [e2] at e1
    cases e1
  exact ⟨g, cap, hn.heap h1 (fun e => hne e.symm), h2.other hn hgd (by omega), h3, h4⟩
/-- The draft's block. -/
def DBk (rb db : Nat) (w : World) (d : Dr.Draft) : Prop :=
  ∃ dv iv, w.heap[db]? = some (.cells #[dv, iv] 25 (0, 0)) ∧ DK rb w dv d.decks ∧ IT rb w iv d.items
theorem DBk.nb {rb db : Nat} {w w' : World} {d : Dr.Draft} (h : DBk rb db w d) (hn : NB rb w w') (hne : db ≠ rb) : DBk rb db w' d := by
  obtain ⟨dv, iv, h1, h2, h3⟩ := h
  exact ⟨dv, iv, hn.heap h1 hne, h2.nb hn, h3.nb hn⟩
theorem DBk.lt {rb db : Nat} {w : World} {d : Dr.Draft} (h : DBk rb db w d) : db < w.heap.size := by
  obtain ⟨dv, iv, h1, -⟩ := h
  exact (Array.getElem?_eq_some_iff.1 h1).1
theorem DK.deck {b : Nat} {W w2 : World} {dv v' : Value} {decks : List (List (List UInt8))} {dvs : List Value} {c : Nat}
    (hdv : W.ownsRow (b + 1) 45 1 dv decks.length dvs) (hdl : dvs.length = decks.length) (hbc : b < c) (hcw : c ≤ W.heap.size)
    (hdk : ∀ i, (h : i < decks.length) → (h' : i < dvs.length) → (i + 1 < decks.length → OSt (b + 1) W dvs[i] decks[i] ∧ ∀ g, dvs[i].ownBlock = some g → g < c) ∧ (i + 1 = decks.length → OSt c W dvs[i] decks[i]))
    (h1 : w2.ownsRow (b + 1) 45 1 v' (decks.length + 1) (dvs ++ [.slice none 0 0])) (hg : W.grownBy w2 dv.ownBlock) : DK b w2 v' (decks ++ [[]]) := by
  have G2 : GT 45 W w2 := GT.of_own hdv hg
  have hcarry : ∀ base u ls, OSt base W u ls → OSt base w2 u ls := fun base u ls h => G2.row h (by decide)
  refine ⟨dvs ++ [.slice none 0 0], w2.heap.size, by simpa using h1, by simp [hdl], by have := G2.size; omega, Nat.le_refl _, fun i hi hi' => ⟨fun e => ?_, fun e => ?_⟩⟩
  · simp only [List.length_append, List.length_singleton] at hi e hi'
    have hid : i < decks.length := by omega
    have hiv : i < dvs.length := by omega
    obtain ⟨h6, h7⟩ := hdk i hid hiv
    rw [List.getElem_append_left hiv, List.getElem_append_left hid]
    have ho : OSt (b + 1) W dvs[i] decks[i] := by
      by_cases e2 : i + 1 < decks.length
      · exact (h6 e2).1
      · exact own_mono (h7 (by omega)) (by omega)
    have ho2 := hcarry (b + 1) _ _ ho
    exact ⟨ho2, fun g hg => (World.ownsRow.lt ho2 g hg).2⟩
  · simp only [List.length_append, List.length_singleton] at hi e hi'
    have e1 : (dvs ++ [Value.slice none 0 0])[i] = .slice none 0 0 := by rw [List.getElem_append_right (by omega)]; simp
    have e2 : (decks ++ [[]])[i] = [] := by rw [List.getElem_append_right (by omega)]; simp
    rw [e1, e2]
    exact ⟨rfl, .inl ⟨rfl, rfl⟩⟩
/-- A row behind the last deck's rows, copied into memory of its own. -/
theorem DK.row {b gd cd m : Nat} {W w2 : World} {v2 u0 : Value} {decks : List (List (List UInt8))} {dvs : List Value} {c n : Nat} {T : ByteArray} {last : List (List UInt8)}
    (hn : n = decks.length) (hm : m + 1 = n) (hdv : W.ownsRow (b + 1) 45 1 (.slice (some ⟨gd, 0, none⟩) n cd) n dvs) (hdl : dvs.length = decks.length) (hbc : b < c) (hcw : c ≤ W.heap.size)
    (hdk : ∀ i, (h : i < decks.length) → (h' : i < dvs.length) → (i + 1 < decks.length → OSt (b + 1) W dvs[i] decks[i] ∧ ∀ g, dvs[i].ownBlock = some g → g < c) ∧ (i + 1 = decks.length → OSt c W dvs[i] decks[i]))
    (h1 : w2.ownsRow W.heap.size 9 1 v2 (last.length + 1) (strs last ++ [.string T])) (hB : Below W.heap.size W w2) :
    DK b (w2.setCell ⟨gd, m, none⟩ v2) (.slice (some ⟨gd, 0, none⟩) n cd) (decks.dropLast ++ [last ++ [bs T]]) ∧ b < gd ∧ gd < W.heap.size ∧ W.heap[gd]? ≠ none ∧ (∃ cs fr, w2.heap[gd]? = some (.cells cs 45 fr)) := by
  have hdv2 : w2.ownsRow (b + 1) 45 1 (.slice (some ⟨gd, 0, none⟩) n cd) n dvs := World.ownsRow.kept hdv ⟨hB.os, hB.tape, hB.output, hB.size, fun k hk _ => hB.block k hk⟩ (.inr (by simp [Value.ownBlock]) : _ ∨ _ ≠ (none : Option Nat))
  obtain ⟨hdv3, hg3⟩ := World.ownsRow.stored hdv2 m v2
  have G3 : GT 45 w2 (w2.setCell ⟨gd, m, none⟩ v2) := GT.of_own hdv2 hg3
  have hgd := World.ownsRow.lt hdv gd rfl
  have hex : ∃ cs fr, w2.heap[gd]? = some (.cells cs 45 fr) := by
    rcases hdv2.2 with ⟨h, -⟩ | ⟨g, cap, cur, h, hb, hh, -⟩
    · cases h
    · cases h; exact ⟨_, _, hh⟩
  refine ⟨?_, by omega, hgd.2, by simp; omega, hex⟩
  have hdec : (decks.dropLast ++ [last ++ [bs T]]).length = n := by simp; omega
  refine ⟨dvs.set m v2, W.heap.size, by rw [hdec]; exact hdv3, by rw [hdec]; simp; omega, by omega, by have := hB.size; simpa using this, fun i hi hi' => ⟨fun e => ?_, fun e => ?_⟩⟩
  · rw [hdec] at hi e
    simp only [List.length_set] at hi'
    have him : i ≠ m := by omega
    have hid : i < decks.length := by omega
    obtain ⟨h6, h7⟩ := (hdk i hid hi').1 (by omega)
    have e1 : (dvs.set m v2)[i]'(by simpa using hi') = dvs[i] := by rw [List.getElem_set_ne (fun e => him e.symm)]
    have e2 : (decks.dropLast ++ [last ++ [bs T]])[i]'(by rw [hdec]; exact hi) = decks[i] := by
      rw [List.getElem_append_left (by simp; omega), List.getElem_dropLast]
    rw [e1, e2]
    have k2 : OSt (b + 1) w2 dvs[i] decks[i] := World.ownsRow.kept h6 (row := none) ⟨hB.os, hB.tape, hB.output, hB.size, fun k hk _ => hB.block k hk⟩ (by cases h : dvs[i].ownBlock <;> simp)
    exact ⟨G3.row k2 (by decide), fun g hg => by have := h7 g hg; omega⟩
  · rw [hdec] at hi e
    simp only [List.length_set] at hi'
    obtain rfl : i = m := by omega
    have e1 : (dvs.set i v2)[i]'(by simpa using hi') = v2 := by rw [List.getElem_set_self]
    have e2 : (decks.dropLast ++ [last ++ [bs T]])[i]'(by rw [hdec]; exact hi) = last ++ [bs T] := by
      rw [List.getElem_append_right (by simp; omega)]; simp
    rw [e1, e2]
    have := G3.row h1 (by decide)
    unfold OSt
    rw [List.length_append, strs_snoc]; exact this
/-- An item behind the items. -/
theorem IT.item {b base : Nat} {W w2 : World} {iv nv v2 : Value} {x : Dr.Item} {items : List Dr.Item} {l : List (Dr.Item × Value)} (hl : l.map (·.1) = items) (how : W.ownsRow (b + 1) 34 5 iv l.length (itemsC l))
    (hns : ∀ x ∈ l, W.ownsRow (b + 1) 3 1 x.2 x.1.n.length (ints x.1.n)) (hnx : W.ownsRow base 3 1 nv x.n.length (ints x.n)) (hb : b < base)
    (h1 : w2.ownsRow (b + 1) 34 5 v2 (l.length + 1) (itemsC l ++ itemC x nv)) (hg : W.grownBy w2 iv.ownBlock) : IT b w2 v2 (items ++ [x]) := by
  have G2 : GT 34 W w2 := GT.of_own how hg
  refine ⟨l ++ [(x, nv)], by simp [hl], ?_, fun y hy => ?_⟩
  · rw [List.length_append, itemsC_snoc]; exact h1
  · rcases List.mem_append.1 hy with hy | hy
    · exact G2.row (hns y hy) (by decide)
    · obtain rfl := List.mem_singleton.1 hy
      exact own_mono (G2.row hnx (by decide)) (by omega)
/-- What holds at the head of the reference's loop. -/
structure RP (rb db : Nat) (toks : List Lx.Tok) (G : Except (Nat × Nat) Dr.Draft) (w2 wr : World) (d : Dr.Draft) (p : Nat) : Prop where
  rd : RD rb wr toks p false
  dd : DBk rb db wr d
  lt : p < toks.length
  eq : G = Dr.parse d (toks.drop p)
  bel : Below db w2 wr
  sz : d.decks.length ≤ 4
def tokO (t : Lx.Tok) : Obj := .cells #[.int .i64 t.kind, .string ⟨t.text.toArray⟩, .int .i64 t.n, .int .i64 t.line] 42 (0, 0)
/-- What holds while a line is read: the token's block lies at tb. -/
structure RA (rb db : Nat) (toks : List Lx.Tok) (w2 wr : World) (tb : Nat) (t : Lx.Tok) (d : Dr.Draft) (p : Nat) : Prop where
  rd : RD rb wr toks p false
  dd : DBk rb db wr d
  ht : wr.heap[tb]? = some (tokO t)
  bel : Below db w2 wr
  hb : rb < tb
theorem RP.tok {rb db p : Nat} {toks : List Lx.Tok} {G : Except (Nat × Nat) Dr.Draft} {w2 wr : World} {d : Dr.Draft} (h : RP rb db toks G w2 wr d p) (hdb : db < rb) (t : Lx.Tok) : RA rb db toks w2 (wr.alloc (tokO t)) wr.heap.size t d p :=
  ⟨h.rd.alloc _, h.dd.nb ((NB.refl rb wr).alloc _) (by omega), heap_alloc_new _ _, h.bel.alloc (Nat.le_of_lt h.dd.lt) _, h.rd.lt⟩
theorem RA.next {rb db p q : Nat} {toks : List Lx.Tok} {w2 wr w' : World} {tb : Nat} {t : Lx.Tok} {d : Dr.Draft} (h : RA rb db toks w2 wr tb t d p) (hdb : db < rb) (hn : NB rb wr w') (hr : RD rb w' toks q false) : RA rb db toks w2 w' tb t d q := by
  have hb := h.hb
  exact ⟨hr, h.dd.nb hn (by omega), hn.heap h.ht (by omega), h.bel.trans (hn.below (by omega) (Nat.le_of_lt h.dd.lt)), hb⟩
theorem RA.at1 {rb db p : Nat} {toks : List Lx.Tok} {w2 wr : World} {tb : Nat} {t : Lx.Tok} {d : Dr.Draft} (h : RA rb db toks w2 wr tb t d p) (hdb : db < rb) : RA rb db toks w2 (wr.setCell ⟨rb, 1, none⟩ (.int .i64 ((p : Int) + 1))) tb t d (p + 1) := by
  have e : ((p : Int) + 1) = ((p + 1 : Nat) : Int) := by omega
  rw [e]
  exact h.next hdb ((NB.refl rb wr).set 1 _) (h.rd.setAt (p + 1))
/-- What holds behind a line's reading, where all ways meet: v says whether there is no room. -/
def MidC (rb db : Nat) (toks : List Lx.Tok) (G : Except (Nat × Nat) Dr.Draft) (w2 : World) (tb p ln : Nat) (t : Lx.Tok) (v : Value) (wx : World) : Prop :=
  wx.heap[tb]? = some (tokO t) ∧ Below db w2 wx ∧ ((v = .bool true ∧ G = .error (6, ln)) ∨ (v = .bool false ∧ ∃ (d : Dr.Draft) (q : Nat) (bad : Bool), (bad = false → p < q) ∧ d.decks.length ≤ 4 ∧ RD rb wx toks q bad ∧ DBk rb db wx d ∧ Dr.Mid toks G d q bad))
/-- The place of the reader. -/
def atOf (b : Nat) (w : World) : Nat := match w.cell? ⟨b, 1, none⟩ with | some (.int _ n) => n.toNat | _ => 0
theorem RD.at {rb p : Nat} {w : World} {toks : List Lx.Tok} {bad : Bool} (h : RD rb w toks p bad) : atOf rb w = p := by
  obtain ⟨g, cap, h1, -⟩ := h
  unfold atOf
  rw [cell_of_heap h1 1 (v := .int .i64 p) rfl]
  simp
end Go.Proofs.YtnccndfffmaonaaGreatDoor
