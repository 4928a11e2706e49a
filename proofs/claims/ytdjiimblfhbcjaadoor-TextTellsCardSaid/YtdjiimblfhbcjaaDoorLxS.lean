/- The floor language's tokens in plain words, and what the laws of layer 9 say of them. -/
import Derived.Test.YtdjiimblfhbcjaaDoorQu
namespace Go.Proofs.YtdjiimblfhbcjaaDoor
namespace Lx

def letter (c : UInt8) : Bool := c == 95 || (decide (97 ≤ c) && decide (c ≤ 122)) || (decide (65 ≤ c) && decide (c ≤ 90))
def digit (c : UInt8) : Bool := decide (48 ≤ c) && decide (c ≤ 57)
def part (c : UInt8) : Bool := letter c || digit c || c == 45
def word (l : List UInt8) : Bool := l.all part && decide (1 ≤ l.length) && decide (l.length ≤ 20) && letter (l.headD 0)
def white (c : UInt8) : Bool := c == 32 || c == 9 || c == 13
structure Tok where
  kind : Nat
  text : List UInt8
  n : Int
  line : Nat
/-- A word or a number. -/
def tokW (w : List UInt8) : Except Nat (Nat × List UInt8 × Int) :=
  if digit (w.headD 0) then
    if w.all digit then
      if 1 < w.length ∧ w.headD 0 = 48 then .error 11
      else match intOfB w with | some n => .ok (1, w, n) | none => .error 3
    else .error 11
  else if word w then .ok (0, w, 0) else .error 11
/-- White bytes and comments (true: within a comment). -/
def skip : Bool → List UInt8 → List UInt8
  | _, [] => []
  | true, c :: r => if c = 10 then c :: r else skip true r
  | false, c :: r => if white c then skip false r else if c = 35 then skip true r else c :: r
/-- What stands before the closing quote, and what behind it. -/
def qscan : List UInt8 → Option (List UInt8 × List UInt8)
  | [] => none
  | 34 :: r => some ([], r)
  | 92 :: c :: r => (qscan r).map fun x => (92 :: c :: x.1, x.2)
  | [92] => none
  | c :: r => (qscan r).map fun x => (c :: x.1, x.2)
inductive Step where
  | done
  | bad (e : Nat)
  | tok (k : Nat) (t : List UInt8) (n : Int) (rest : List UInt8)
def step : List UInt8 → Step
  | [] => .done
  | c :: r =>
    if letter c || digit c then
      match tokW ((c :: r).takeWhile part) with
      | .error e => .bad e
      | .ok x => .tok x.1 x.2.1 x.2.2 ((c :: r).dropWhile part)
    else if c = 34 then
      match qscan r with
      | none => .bad 11
      | some x => if quote (raw x.1) = 34 :: (x.1 ++ [34]) then .tok 2 (raw x.1) 0 x.2 else .bad 11
    else if c = 10 then .tok 3 [] 0 r
    else .bad 11
def nl (k ln : Nat) : Nat := if k = 3 then ln + 1 else ln
def pre (x : Tok) : Except (Nat × Nat) (List Tok) → Except (Nat × Nat) (List Tok)
  | .ok ts => .ok (x :: ts)
  | .error e => .error e
def go : Nat → List UInt8 → Nat → Except (Nat × Nat) (List Tok)
  | 0, _, ln => .error (0, ln)
  | f + 1, l, ln =>
    match step (skip false l) with
    | .done => .ok [⟨4, [], 0, ln⟩]
    | .bad e => .error (e, ln)
    | .tok k t n rest => pre ⟨k, t, n, ln⟩ (go f rest (nl k ln))
def lex (l : List UInt8) (ln : Nat) : Except (Nat × Nat) (List Tok) := go (l.length + 1) l ln

/-! ### Bytes -/
theorem digit_part {c : UInt8} (h : digit c = true) : part c = true := by simp [part, h]
theorem letter_part {c : UInt8} (h : letter c = true) : part c = true := by simp [part, h]
theorem letter_not_digit {c : UInt8} (h : letter c = true) : digit c = false := by
  have : (List.range 256).all (fun n => !(letter (UInt8.ofNat n)) || !(digit (UInt8.ofNat n))) = true := by decide +kernel
  have h2 := List.all_eq_true.1 this c.toNat (List.mem_range.2 c.toNat_lt)
  rw [UInt8.ofNat_toNat, h] at h2
  simpa using h2
theorem part_not_white {c : UInt8} (h : part c = true) : white c = false ∧ c ≠ 35 ∧ c ≠ 10 ∧ c ≠ 34 := by
  have : (List.range 256).all (fun n => !(part (UInt8.ofNat n)) || (!(white (UInt8.ofNat n)) && UInt8.ofNat n != 35 && UInt8.ofNat n != 10 && UInt8.ofNat n != 34)) = true := by decide +kernel
  have h2 := List.all_eq_true.1 this c.toNat (List.mem_range.2 c.toNat_lt)
  rw [UInt8.ofNat_toNat, h] at h2
  simpa [and_assoc] using h2

/-! ### Lists -/
theorem tw_append {p : UInt8 → Bool} (l : List UInt8) (x : UInt8) (t : List UInt8) (h : p x = false) : (l ++ x :: t).takeWhile p = l.takeWhile p := by
  induction l with
  | nil => simp [h]
  | cons a l ih => rw [List.cons_append, List.takeWhile_cons, List.takeWhile_cons, ih]
theorem dw_append {p : UInt8 → Bool} (l : List UInt8) (x : UInt8) (t : List UInt8) (h : p x = false) : (l ++ x :: t).dropWhile p = l.dropWhile p ++ x :: t := by
  induction l with
  | nil => simp [h]
  | cons a l ih =>
    rw [List.cons_append, List.dropWhile_cons, List.dropWhile_cons, ih]; split <;> rfl
theorem tw_all {p : UInt8 → Bool} (l : List UInt8) (h : l.all p = true) : l.takeWhile p = l ∧ l.dropWhile p = [] := by
  induction l with
  | nil => exact ⟨rfl, rfl⟩
  | cons a l ih =>
    simp only [List.all_cons, Bool.and_eq_true] at h
    rw [List.takeWhile_cons, List.dropWhile_cons, if_pos h.1, if_pos h.1, (ih h.2).1, (ih h.2).2]; exact ⟨rfl, rfl⟩
theorem dw_len {p : UInt8 → Bool} (l : List UInt8) : (l.dropWhile p).length ≤ l.length := by
  induction l with
  | nil => simp
  | cons a l ih =>
    rw [List.dropWhile_cons]; split
    · rw [List.length_cons]; omega
    · simp
theorem tw_dw_len {p : UInt8 → Bool} (l : List UInt8) : (l.takeWhile p).length + (l.dropWhile p).length = l.length := by
  have := congrArg List.length (List.takeWhile_append_dropWhile (p := p) (l := l))
  rwa [List.length_append] at this

/-! ### The scan of a quoted string -/
theorem q_quote (r : List UInt8) : qscan (34 :: r) = some ([], r) := by rw [qscan]
theorem q_back (c : UInt8) (r : List UInt8) : qscan (92 :: c :: r) = (qscan r).map fun x => (92 :: c :: x.1, x.2) := by rw [qscan]
theorem q_last : qscan [92] = none := by rw [qscan]
theorem q_else (c : UInt8) (r : List UInt8) (h1 : c ≠ 34) (h2 : c ≠ 92) : qscan (c :: r) = (qscan r).map fun x => (c :: x.1, x.2) := by
  rw [qscan]
  · exact h1
  · intro a b e1; exact absurd e1 h2
  · intro e1; exact absurd e1 h2
theorem qscan_append (t : List UInt8) : ∀ (f : Nat) (l b r : List UInt8), l.length ≤ f → qscan l = some (b, r) → qscan (l ++ t) = some (b, r ++ t) := by
  intro f
  induction f with
  | zero =>
    intro l b r hl h
    obtain rfl : l = [] := List.eq_nil_of_length_eq_zero (by omega)
    cases h
  | succ f ih =>
    intro l b r hl h
    cases l with
    | nil => cases h
    | cons c l =>
      by_cases h34 : c = 34
      · subst h34; rw [q_quote] at h; injection h with h; injection h with h1 h2; subst h1; subst h2
        rw [List.cons_append, q_quote]
      · by_cases h92 : c = 92
        · subst h92
          cases l with
          | nil => rw [q_last] at h; cases h
          | cons d l =>
            rw [q_back] at h
            cases hq : qscan l with
            | none => rw [hq] at h; cases h
            | some x =>
              rw [hq] at h; injection h with h; injection h with h1 h2; subst h1; subst h2
              rw [List.cons_append, List.cons_append, q_back, ih l x.1 x.2 (by simp at hl; omega) hq]; rfl
        · rw [q_else c l h34 h92] at h
          cases hq : qscan l with
          | none => rw [hq] at h; cases h
          | some x =>
            rw [hq] at h; injection h with h; injection h with h1 h2; subst h1; subst h2
            rw [List.cons_append, q_else c _ h34 h92, ih l x.1 x.2 (by simp at hl; omega) hq]; rfl
theorem qscan_len : ∀ (f : Nat) (l b r : List UInt8), l.length ≤ f → qscan l = some (b, r) → l.length = b.length + 1 + r.length := by
  intro f
  induction f with
  | zero =>
    intro l b r hl h
    obtain rfl : l = [] := List.eq_nil_of_length_eq_zero (by omega)
    cases h
  | succ f ih =>
    intro l b r hl h
    cases l with
    | nil => cases h
    | cons c l =>
      by_cases h34 : c = 34
      · subst h34; rw [q_quote] at h; injection h with h; injection h with h1 h2; subst h1; subst h2
        simp; omega
      · by_cases h92 : c = 92
        · subst h92
          cases l with
          | nil => rw [q_last] at h; cases h
          | cons d l =>
            rw [q_back] at h
            cases hq : qscan l with
            | none => rw [hq] at h; cases h
            | some x =>
              rw [hq] at h; injection h with h; injection h with h1 h2; subst h1; subst h2
              have := ih l x.1 x.2 (by simp at hl; omega) hq
              simp; omega
        · rw [q_else c l h34 h92] at h
          cases hq : qscan l with
          | none => rw [hq] at h; cases h
          | some x =>
            rw [hq] at h; injection h with h; injection h with h1 h2; subst h1; subst h2
            have := ih l x.1 x.2 (by simp at hl; omega) hq
            simp; omega
theorem qscan_qt1 (c : UInt8) (t : List UInt8) : qscan (qt1 c ++ t) = (qscan t).map fun x => (qt1 c ++ x.1, x.2) := by
  unfold qt1
  split
  · exact q_back c t
  · rename_i h
    split
    · exact q_back 110 t
    · split
      · show qscan (c :: t) = _
        rw [q_else]
        · rfl
        · intro e; exact h (.inl e)
        · intro e; exact h (.inr e)
      · show qscan (92 :: 120 :: hxd (c.toNat / 16) :: hxd (c.toNat % 16) :: t) = _
        have hx : ∀ d : Nat, d < 16 → hxd d ≠ 34 ∧ hxd d ≠ 92 := by decide
        have hb := c.toNat_lt
        rw [q_back, q_else _ _ (hx (c.toNat / 16) (by omega)).1 (hx _ (by omega)).2, q_else _ _ (hx (c.toNat % 16) (by omega)).1 (hx _ (by omega)).2]
        cases qscan t <;> rfl
theorem qscan_qb (s t : List UInt8) : qscan (qb s ++ 34 :: t) = some (qb s, t) := by
  induction s with
  | nil => exact q_quote t
  | cons c s ih =>
    show qscan (qt1 c ++ qb s ++ 34 :: t) = _
    rw [List.append_assoc, qscan_qt1, ih]; rfl

/-! ### Steps -/
theorem skip_len (b : Bool) (l : List UInt8) : (skip b l).length ≤ l.length := by
  induction l generalizing b with
  | nil => cases b <;> simp [skip]
  | cons c l ih =>
    cases b
    · rw [skip]; split
      · have := ih false; rw [List.length_cons]; omega
      · split
        · have := ih true; rw [List.length_cons]; omega
        · simp
    · rw [skip]; split
      · simp
      · have := ih true; rw [List.length_cons]; omega
theorem step_len {l : List UInt8} {k : Nat} {t : List UInt8} {n : Int} {rest : List UInt8} (h : step l = .tok k t n rest) : rest.length < l.length := by
  cases l with
  | nil => cases h
  | cons c r =>
    rw [step] at h
    split at h
    · rename_i hc
      split at h
      · cases h
      · injection h with _ _ _ h; subst h
        have hp : part c = true := by
          rcases Bool.or_eq_true .. ▸ hc with hc | hc
          · exact letter_part hc
          · exact digit_part hc
        rw [List.dropWhile_cons, if_pos hp, List.length_cons]
        have := dw_len (p := part) r; omega
    · split at h
      · split at h
        · cases h
        · rename_i x hq
          split at h
          · injection h with _ _ _ h; subst h
            have := qscan_len _ r x.1 x.2 (Nat.le_refl _) hq
            rw [List.length_cons]; omega
          · cases h
      · split at h
        · injection h with _ _ _ h; subst h; simp
        · cases h
theorem go_fuel : ∀ (f f' : Nat) (l : List UInt8) (ln : Nat), l.length < f → l.length < f' → go f l ln = go f' l ln := by
  intro f
  induction f with
  | zero => intro f' l ln h; omega
  | succ f ih =>
    intro f' l ln h h'
    cases f' with
    | zero => omega
    | succ f' =>
      rw [go, go]
      split
      · rfl
      · rfl
      · rename_i k t n rest hs
        have h1 := step_len hs
        have h2 := skip_len false l
        rw [ih f' rest _ (by omega) (by omega)]
def out (r : Step) (ln : Nat) (next : List UInt8 → Nat → Except (Nat × Nat) (List Tok)) : Except (Nat × Nat) (List Tok) :=
  match r with
  | .done => .ok [⟨4, [], 0, ln⟩]
  | .bad e => .error (e, ln)
  | .tok k t n rest => pre ⟨k, t, n, ln⟩ (next rest (nl k ln))
theorem lex_eq (l : List UInt8) (ln : Nat) : lex l ln = out (step (skip false l)) ln lex := by
  unfold lex
  rw [go]
  unfold out
  cases hs : step (skip false l) with
  | done => rfl
  | bad e => rfl
  | tok k t n rest =>
    dsimp only
    have h1 := step_len hs
    have h2 := skip_len false l
    rw [go_fuel l.length (rest.length + 1) rest _ (by omega) (by omega)]
theorem lex_done {l : List UInt8} (ln : Nat) (h : step (skip false l) = .done) : lex l ln = .ok [⟨4, [], 0, ln⟩] := by rw [lex_eq, h]; rfl
theorem lex_bad {l : List UInt8} {e : Nat} (ln : Nat) (h : step (skip false l) = .bad e) : lex l ln = .error (e, ln) := by rw [lex_eq, h]; rfl
theorem lex_tok {l : List UInt8} {k : Nat} {t : List UInt8} {n : Int} {rest : List UInt8} (ln : Nat) (h : step (skip false l) = .tok k t n rest) : lex l ln = pre ⟨k, t, n, ln⟩ (lex rest (nl k ln)) := by rw [lex_eq, h]; rfl

/-! ### A text behind -/
theorem skip_append (t : List UInt8) (ht : skip true t = skip false t) : ∀ (b : Bool) (l : List UInt8), skip b (l ++ t) = if skip b l = [] then skip false t else skip b l ++ t := by
  intro b l
  induction l generalizing b with
  | nil => cases b <;> simp [skip, ht]
  | cons c l ih =>
    rw [List.cons_append]
    cases b
    · rw [skip, skip]; split
      · exact ih false
      · split
        · exact ih true
        · simp
    · rw [skip, skip]; split
      · simp
      · exact ih true
theorem step_append {l : List UInt8} {k : Nat} {tx : List UInt8} {n : Int} {rest : List UInt8} (x : UInt8) (t : List UInt8) (hx : part x = false) (h : step l = .tok k tx n rest) : step (l ++ x :: t) = .tok k tx n (rest ++ x :: t) := by
  cases l with
  | nil => cases h
  | cons c r =>
    rw [List.cons_append, step]
    rw [step] at h
    split at h
    · rename_i hc
      rw [if_pos hc, ← List.cons_append, tw_append _ _ _ hx, dw_append _ _ _ hx]
      split at h
      · cases h
      · rename_i y hy
        injection h with h1 h2 h3 h4
        subst h1; subst h2; subst h3; subst h4
        rfl
    · rename_i hc
      rw [if_neg hc]
      split at h
      · rename_i h34
        rw [if_pos h34]
        split at h
        · cases h
        · rename_i y hq
          rw [qscan_append (x :: t) _ r y.1 y.2 (Nat.le_refl _) hq]
          split at h
          · rename_i hqq
            injection h with h1 h2 h3 h4
            subst h1; subst h2; subst h3; subst h4
            dsimp only
            rw [if_pos hqq]
          · cases h
      · rename_i h34
        rw [if_neg h34]
        split at h
        · rename_i h10
          rw [if_pos h10]
          injection h with h1 h2 h3 h4
          subst h1; subst h2; subst h3; subst h4
          rfl
        · cases h
/-- A text behind one that has tokens: it is lexed where the end stood. -/
theorem lex_append (x : UInt8) (t : List UInt8) (hx : part x = false) (ht : skip true (x :: t) = skip false (x :: t)) :
    ∀ (f : Nat) (l : List UInt8) (ln : Nat) (ts : List Tok), l.length < f → lex l ln = .ok ts →
    ∃ front m, ts = front ++ [⟨4, [], 0, m⟩] ∧ ln ≤ m ∧ lex (l ++ x :: t) ln = match lex (x :: t) m with | .ok us => .ok (front ++ us) | .error e => .error e := by
  intro f
  induction f with
  | zero => intro l ln ts h; omega
  | succ f ih =>
    intro l ln ts hl h
    have hsk := skip_append (x :: t) ht false l
    cases hs : step (skip false l) with
    | done =>
      have he : skip false l = [] := by
        cases hk : skip false l with
        | nil => rfl
        | cons c r =>
          rw [hk, step] at hs
          split at hs
          · split at hs <;> cases hs
          · split at hs
            · split at hs
              · cases hs
              · split at hs <;> cases hs
            · split at hs <;> cases hs
      rw [lex_done ln hs] at h
      injection h with h
      refine ⟨[], ln, by rw [← h]; rfl, Nat.le_refl _, ?_⟩
      rw [if_pos he] at hsk
      rw [lex_eq, hsk, ← lex_eq]
      cases lex (x :: t) ln <;> rfl
    | bad e => rw [lex_bad ln hs] at h; cases h
    | tok k tx n rest =>
      rw [lex_tok ln hs] at h
      have h1 := step_len hs
      have h2 := skip_len false l
      cases hr : lex rest (nl k ln) with
      | error e => rw [hr] at h; cases h
      | ok us =>
        rw [hr] at h
        injection h with h
        obtain ⟨front, m, hf, hm, hj⟩ := ih rest (nl k ln) us (by omega) hr
        refine ⟨⟨k, tx, n, ln⟩ :: front, m, by rw [← h, hf]; rfl, ?_, ?_⟩
        · have : ln ≤ nl k ln := by unfold nl; split <;> omega
          omega
        · have hne : skip false l ≠ [] := by intro e; rw [e] at hs; cases hs
          rw [if_neg hne] at hsk
          have hs2 : step (skip false (l ++ x :: t)) = .tok k tx n (rest ++ x :: t) := by rw [hsk]; exact step_append x t hx hs
          rw [lex_tok ln hs2, hj]
          cases lex (x :: t) m <;> rfl
theorem skip_white (b : List UInt8) (l : List UInt8) (h : b.all white = true) : skip false (b ++ l) = skip false l := by
  induction b with
  | nil => rfl
  | cons c b ih =>
    simp only [List.all_cons, Bool.and_eq_true] at h
    rw [List.cons_append, skip, if_pos h.1, ih h.2]
theorem lex_white (b : List UInt8) (l : List UInt8) (ln : Nat) (h : b.all white = true) : lex (b ++ l) ln = lex l ln := by
  rw [lex_eq, skip_white b l h, ← lex_eq]
theorem skip_comment (l : List UInt8) (h : ∀ c ∈ l, c ≠ 10) : skip true l = [] := by
  induction l with
  | nil => rfl
  | cons c l ih =>
    rw [skip, if_neg (h c (List.mem_cons_self ..)), ih (fun d hd => h d (List.mem_cons_of_mem _ hd))]
/-- White bytes before and behind, and a comment, change nothing. -/
theorem lex_whites (w : List UInt8) (src cm : List UInt8) (ts : List Tok) (hw : w.all white = true) (hne : w ≠ []) (hc : ∀ c ∈ cm, c ≠ 10) (h : lex src 1 = .ok ts) :
    lex (w ++ (src ++ (w ++ 35 :: cm))) 1 = .ok ts := by
  rw [lex_white _ _ _ hw]
  cases w with
  | nil => exact absurd rfl hne
  | cons x w =>
    have hx : white x = true := by simp only [List.all_cons, Bool.and_eq_true] at hw; exact hw.1
    have hpx : part x = false := by
      cases hp : part x with
      | false => rfl
      | true => have := (part_not_white hp).1; rw [hx] at this; cases this
    have hf : skip false ((x :: w) ++ 35 :: cm) = [] := by
      rw [skip_white _ _ hw, skip, if_neg (by decide), if_pos rfl, skip_comment cm hc]
    have hn : ∀ c ∈ (x :: w) ++ 35 :: cm, c ≠ 10 := by
      intro c hm
      rcases List.mem_append.1 hm with hm | hm
      · have := List.all_eq_true.1 hw c hm
        rintro rfl; revert this; decide
      · rcases List.mem_cons.1 hm with rfl | hm
        · decide
        · exact hc c hm
    have ht : skip true ((x :: w) ++ 35 :: cm) = [] := skip_comment _ hn
    obtain ⟨front, m, hfr, _, hj⟩ := lex_append x (w ++ 35 :: cm) hpx (by rw [← List.cons_append, ht, hf]) _ src 1 ts (Nat.lt_succ_self _) h
    have he : lex (x :: (w ++ 35 :: cm)) m = .ok [⟨4, [], 0, m⟩] := lex_done m (by rw [← List.cons_append, hf]; rfl)
    rw [he] at hj
    rw [List.cons_append, hj, hfr]
/-- Lines. -/
def later (d : Nat) (t : Tok) : Tok := { t with line := t.line + d }
theorem nl_add (k ln d : Nat) : nl k (ln + d) = nl k ln + d := by unfold nl; split <;> omega
theorem lex_later (d : Nat) : ∀ (f : Nat) (l : List UInt8) (ln : Nat), l.length < f → lex l (ln + d) = match lex l ln with | .ok ts => .ok (ts.map (later d)) | .error e => .error (e.1, e.2 + d) := by
  intro f
  induction f with
  | zero => intro l ln h; omega
  | succ f ih =>
    intro l ln hl
    cases hs : step (skip false l) with
    | done => rw [lex_done _ hs, lex_done _ hs]; rfl
    | bad e => rw [lex_bad _ hs, lex_bad _ hs]
    | tok k tx n rest =>
      have h1 := step_len hs
      have h2 := skip_len false l
      rw [lex_tok _ hs, lex_tok _ hs, nl_add, ih rest (nl k ln) (by omega)]
      cases lex rest (nl k ln) <;> rfl
theorem step_lf (l : List UInt8) : step (skip false (10 :: l)) = .tok 3 [] 0 l := by
  rw [skip, if_neg (by decide), if_neg (by decide), step, if_neg (by decide), if_neg (by decide), if_pos rfl]
/-- With an LF between them. -/
theorem lex_joins (a b : List UInt8) (x : List Tok) (h : lex a 1 = .ok x) : ∃ front m, x = front ++ [⟨4, [], 0, m⟩] ∧ 1 ≤ m ∧
    lex (a ++ 10 :: b) 1 = match lex b 1 with | .ok ts => .ok (front ++ ⟨3, [], 0, m⟩ :: ts.map (later m)) | .error e => .error (e.1, e.2 + m) := by
  obtain ⟨front, m, hf, hm, hj⟩ := lex_append 10 b (by decide) (by rw [skip, skip, if_pos rfl, if_neg (by decide), if_neg (by decide)]) _ a 1 x (Nat.lt_succ_self _) h
  refine ⟨front, m, hf, hm, ?_⟩
  rw [hj, lex_tok m (step_lf b), show nl 3 m = 1 + m by unfold nl; rw [if_pos rfl]; omega, lex_later m _ b 1 (Nat.lt_succ_self _)]
  cases lex b 1 <;> rfl

/-! ### Written tokens -/
theorem dec_head (u : Nat) (h : 1 ≤ u) : (Lib.decDigits u).headD 0 ≠ 48 := by
  induction u using Nat.strongRecOn with
  | _ u ih =>
    rw [Lib.decDigits]
    split
    · rename_i h10
      intro e
      have := congrArg UInt8.toNat (show UInt8.ofNat (48 + u) = 48 from e)
      rw [dig_ofNat u h10] at this
      have h48 : (48 : UInt8).toNat = 48 := rfl
      omega
    · rename_i h10
      cases hd : Lib.decDigits (u / 10) with
      | nil => exact absurd hd (dec_ne _)
      | cons c r =>
        have := ih (u / 10) (by omega) (by omega)
        rw [hd] at this; exact this
theorem dec_all (u : Nat) : (Lib.decDigits u).all digit = true := by
  rw [List.all_eq_true]
  intro c hc
  have := dec_dig u c hc
  unfold digit
  rw [Bool.and_eq_true, decide_eq_true_iff, decide_eq_true_iff, UInt8.le_iff_toNat_le, UInt8.le_iff_toNat_le]
  exact this
theorem all_mono {p q : UInt8 → Bool} {l : List UInt8} (h : ∀ c, p c = true → q c = true) (hl : l.all p = true) : l.all q = true := by
  rw [List.all_eq_true] at hl ⊢; exact fun c hc => h c (hl c hc)
theorem tokW_num (n : Int) (h0 : 0 ≤ n) (h1 : n ≤ 9223372036854775807) : tokW (Lib.itoa n) = .ok (1, Lib.itoa n, n) := by
  have hi := intOfB_itoa n (by omega) h1
  have he : Lib.itoa n = Lib.decDigits n.toNat := by rw [Lib.itoa, if_neg (by omega)]
  have hd := dec_all n.toNat
  rw [← he] at hd
  unfold tokW
  cases hl : Lib.itoa n with
  | nil => exact absurd (he.symm.trans hl) (dec_ne _)
  | cons c r =>
    rw [hl] at hd hi
    have hc : digit ((c :: r).headD 0) = true := by simp only [List.all_cons, Bool.and_eq_true] at hd; exact hd.1
    rw [if_pos hc, if_pos hd, if_neg, hi]
    rintro ⟨hlen, h48⟩
    by_cases hz : n = 0
    · subst hz
      have : Lib.itoa 0 = [48] := by decide +kernel
      rw [this] at hl; injection hl with _ hr; subst hr; simp at hlen
    · refine dec_head n.toNat (by omega) ?_
      rw [← he, hl]; exact h48
theorem tokW_word (w : List UInt8) (h : word w = true) : tokW w = .ok (0, w, 0) := by
  have h2 := h
  unfold word at h2
  simp only [Bool.and_eq_true] at h2
  unfold tokW
  rw [if_neg (by rw [letter_not_digit h2.2]; simp), if_pos h]
/-- What is a token of a source. -/
def Good (t : Tok) : Prop :=
  (t.kind = 0 ∧ word t.text = true ∧ t.n = 0) ∨ (t.kind = 1 ∧ 0 ≤ t.n ∧ t.n ≤ 9223372036854775807 ∧ t.text = Lib.itoa t.n) ∨ (t.kind = 2 ∧ t.n = 0) ∨ (t.kind = 3 ∧ t.text = [] ∧ t.n = 0)
inductive Goods : Nat → List Tok → Prop where
  | fin (ln : Nat) : Goods ln [⟨4, [], 0, ln⟩]
  | tok (ln : Nat) (t : Tok) (ts : List Tok) : t.line = ln → Good t → Goods (nl t.kind ln) ts → Goods ln (t :: ts)
def write1 (t : Tok) : List UInt8 :=
  if t.kind = 0 ∨ t.kind = 1 then t.text ++ [32] else if t.kind = 2 then quote t.text ++ [32] else if t.kind = 3 then [10] else []
def write (ts : List Tok) : List UInt8 := ts.flatMap write1
theorem tokW_good {w t : List UInt8} {k : Nat} {n : Int} (h : tokW w = .ok (k, t, n)) : t = w ∧ (∀ ln, Good ⟨k, t, n, ln⟩) ∧ w ≠ [] := by
  unfold tokW at h
  split at h
  · rename_i hd
    split at h
    · rename_i ha
      split at h
      · cases h
      · split at h
        · rename_i m hm
          injection h with h; injection h with h1 h; injection h with h2 h3
          subst h1; subst h2; subst h3
          refine ⟨rfl, fun ln => .inr (.inl ⟨rfl, ?_⟩), by rintro rfl; revert hd; decide⟩
          unfold intOfB at hm
          cases hp : Lib.parseIntB 64 w with
          | ok v =>
            rw [hp] at hm; dsimp only at hm
            split at hm
            · rename_i he
              injection hm with hm; subst hm
              have hb : -9223372036854775808 ≤ v ∧ v ≤ 9223372036854775807 := parse_bd hp
              refine ⟨?_, hb.2, he.symm⟩
              rcases Int.lt_or_le v 0 with hv | hv
              · rw [Lib.itoa, if_pos hv] at he
                rw [← he] at hd; exact absurd (show digit 45 = true from hd) (by decide)
              · exact hv
            · cases hm
          | «syntax» => rw [hp] at hm; cases hm
          | range => rw [hp] at hm; cases hm
        · cases h
    · cases h
  · split at h
    · rename_i hw
      injection h with h; injection h with h1 h; injection h with h2 h3
      subst h1; subst h2; subst h3
      exact ⟨rfl, fun ln => .inl ⟨rfl, hw, rfl⟩, by rintro rfl; revert hw; decide⟩
    · cases h
theorem step_good {l : List UInt8} {k : Nat} {t : List UInt8} {n : Int} {rest : List UInt8} (h : step l = .tok k t n rest) : (∀ ln, Good ⟨k, t, n, ln⟩) ∧ (∀ ln, (write1 ⟨k, t, n, ln⟩).length + 2 * rest.length ≤ 2 * l.length) := by
  cases l with
  | nil => cases h
  | cons c r =>
    rw [step] at h
    split at h
    · rename_i hc
      split at h
      · cases h
      · rename_i x hx
        obtain ⟨k', t', n'⟩ := x
        injection h with h1 h2 h3 h4
        dsimp only at h1 h2 h3
        subst h1; subst h2; subst h3; subst h4
        obtain ⟨ht, hg, hn⟩ := tokW_good hx
        refine ⟨hg, fun ln => ?_⟩
        have hlen := tw_dw_len (p := part) (c :: r)
        have hpos : 0 < ((c :: r).takeWhile part).length := List.length_pos_iff.2 hn
        have hk : k' = 0 ∨ k' = 1 := by
          unfold tokW at hx
          split at hx
          · split at hx
            · split at hx
              · cases hx
              · split at hx
                · injection hx with hx; injection hx with h1; right; exact h1.symm
                · cases hx
            · cases hx
          · split at hx
            · injection hx with hx; injection hx with h1; left; exact h1.symm
            · cases hx
        unfold write1
        rw [if_pos hk]
        subst ht
        simp only [List.length_append, List.length_cons, List.length_nil] at *
        omega
    · split at h
      · split at h
        · cases h
        · rename_i x hq
          split at h
          · rename_i hqq
            injection h with h1 h2 h3 h4
            subst h1; subst h2; subst h3; subst h4
            refine ⟨fun ln => .inr (.inr (.inl ⟨rfl, rfl⟩)), fun ln => ?_⟩
            have hlen := qscan_len _ r x.1 x.2 (Nat.le_refl _) hq
            unfold write1
            rw [if_neg (by simp), if_pos rfl]
            show (quote (raw x.1) ++ [32]).length + _ ≤ _
            rw [hqq]
            simp only [List.length_append, List.length_cons, List.length_nil] at *
            omega
          · cases h
      · split at h
        · injection h with h1 h2 h3 h4
          subst h1; subst h2; subst h3; subst h4
          refine ⟨fun ln => .inr (.inr (.inr ⟨rfl, rfl, rfl⟩)), fun ln => ?_⟩
          simp [write1]; omega
        · cases h
theorem lex_good : ∀ (f : Nat) (l : List UInt8) (ln : Nat) (ts : List Tok), l.length < f → lex l ln = .ok ts → Goods ln ts ∧ (write ts).length ≤ 2 * l.length := by
  intro f
  induction f with
  | zero => intro l ln ts h; omega
  | succ f ih =>
    intro l ln ts hl h
    cases hs : step (skip false l) with
    | done =>
      rw [lex_done _ hs] at h
      injection h with h; subst h
      exact ⟨.fin ln, by simp [write, write1]⟩
    | bad e => rw [lex_bad _ hs] at h; cases h
    | tok k tx n rest =>
      have h1 := step_len hs
      have h2 := skip_len false l
      rw [lex_tok _ hs] at h
      cases hr : lex rest (nl k ln) with
      | error e => rw [hr] at h; cases h
      | ok us =>
        rw [hr] at h
        injection h with h; subst h
        obtain ⟨hg, hw⟩ := ih rest (nl k ln) us (by omega) hr
        obtain ⟨h3, h4⟩ := step_good hs
        refine ⟨.tok ln _ us rfl (h3 ln) hg, ?_⟩
        have := h4 ln
        show (write1 ⟨k, tx, n, ln⟩ ++ write us).length ≤ _
        rw [List.length_append]; omega
theorem step_write (t : Tok) (h : Good t) (r : List UInt8) : step (skip false (write1 t ++ r)) = .tok t.kind t.text t.n (if t.kind = 3 then r else 32 :: r) := by
  obtain ⟨k, tx, n, ln⟩ := t
  rcases h with ⟨hk, hw, hn⟩ | ⟨hk, hn0, hn1, ht⟩ | ⟨hk, hn⟩ | ⟨hk, ht, hn⟩ <;> dsimp only at *
  · subst hk; subst hn
    have h2 := hw
    unfold word at h2
    simp only [Bool.and_eq_true] at h2
    obtain ⟨⟨⟨ha, _⟩, _⟩, hlt⟩ := h2
    rw [if_neg (by decide), write1, if_pos (.inl rfl)]
    cases tx with
    | nil => exact absurd hw (by decide)
    | cons c tx =>
      have hc : letter c = true := hlt
      have hp := part_not_white (letter_part hc)
      dsimp only
      rw [List.append_assoc, List.cons_append, skip, if_neg (by rw [hp.1]; simp), if_neg hp.2.1, step, if_pos (by rw [hc]; rfl), ← List.cons_append]
      have e1 : (c :: tx ++ ([32] ++ r)).takeWhile part = c :: tx := by
        rw [show [32] ++ r = 32 :: r from rfl, tw_append _ _ _ (by decide)]; exact (tw_all _ ha).1
      have e2 : (c :: tx ++ ([32] ++ r)).dropWhile part = 32 :: r := by
        rw [show [32] ++ r = 32 :: r from rfl, dw_append _ _ _ (by decide), (tw_all _ ha).2]; rfl
      rw [e1, e2, tokW_word _ hw]
  · subst hk
    rw [if_neg (by decide), write1, if_pos (.inr rfl)]
    have htok := tokW_num n hn0 hn1
    have he : Lib.itoa n = Lib.decDigits n.toNat := by rw [Lib.itoa, if_neg (by omega)]
    have ha := dec_all n.toNat
    rw [← he, ← ht] at ha
    rw [← ht] at htok
    cases tx with
    | nil => exact absurd (he.symm.trans ht.symm) (dec_ne _)
    | cons c tx =>
      have hc : digit c = true := by simp only [List.all_cons, Bool.and_eq_true] at ha; exact ha.1
      have hp := part_not_white (digit_part hc)
      have ha2 := all_mono (fun c => digit_part) ha
      dsimp only
      rw [List.append_assoc, List.cons_append, skip, if_neg (by rw [hp.1]; simp), if_neg hp.2.1, step, if_pos (by rw [hc]; simp), ← List.cons_append]
      have e1 : (c :: tx ++ ([32] ++ r)).takeWhile part = c :: tx := by
        rw [show [32] ++ r = 32 :: r from rfl, tw_append _ _ _ (by decide)]; exact (tw_all _ ha2).1
      have e2 : (c :: tx ++ ([32] ++ r)).dropWhile part = 32 :: r := by
        rw [show [32] ++ r = 32 :: r from rfl, dw_append _ _ _ (by decide), (tw_all _ ha2).2]; rfl
      rw [e1, e2, htok]
  · subst hk; subst hn
    rw [if_neg (by decide), write1, if_neg (by simp), if_pos rfl]
    dsimp only
    show step (skip false (34 :: (qb tx ++ [34]) ++ [32] ++ r)) = _
    rw [List.append_assoc, List.cons_append, skip, if_neg (by decide), if_neg (by decide), step, if_neg (by decide), if_pos rfl]
    rw [show qb tx ++ [34] ++ ([32] ++ r) = qb tx ++ 34 :: (32 :: r) by simp, qscan_qb]
    dsimp only
    rw [raw_qb, if_pos (show quote tx = 34 :: (qb tx ++ [34]) from rfl)]
  · subst hk; subst hn; subst ht
    rw [if_pos rfl, write1, if_neg (by simp), if_neg (by simp), if_pos rfl]
    exact step_lf r
theorem lex_space (l : List UInt8) (ln : Nat) : lex (32 :: l) ln = lex l ln := lex_white [32] l ln (by decide)
theorem lex_write {ln : Nat} {ts : List Tok} (h : Goods ln ts) : lex (write ts) ln = .ok ts := by
  induction h with
  | fin ln => exact lex_done ln (by rfl)
  | tok ln t ts hln hg _ ih =>
    show lex (write1 t ++ write ts) ln = _
    rw [lex_tok ln (step_write t hg (write ts))]
    have : lex (if t.kind = 3 then write ts else 32 :: write ts) (nl t.kind ln) = .ok ts := by
      split
      · exact ih
      · rw [lex_space]; exact ih
    rw [this]
    subst hln; rfl
/-- THE STAGE'S THEOREM in plain words. -/
theorem lex_back (l : List UInt8) (ts : List Tok) (h : lex l 1 = .ok ts) : Goods 1 ts ∧ lex (write ts) 1 = .ok ts ∧ (write ts).length ≤ 2 * l.length := by
  obtain ⟨h1, h2⟩ := lex_good _ l 1 ts (Nat.lt_succ_self _) h
  exact ⟨h1, lex_write h1, h2⟩

/-! ### Single tokens -/
theorem lex_one {l tx : List UInt8} {k : Nat} {n : Int} (h : step (skip false l) = .tok k tx n []) (hk : k ≠ 3) : lex l 1 = .ok [⟨k, tx, n, 1⟩, ⟨4, [], 0, 1⟩] := by
  rw [lex_tok 1 h, nl, if_neg hk, lex_done 1 (by rfl)]; rfl
theorem lex_quote (s : List UInt8) : lex (quote s) 1 = .ok [⟨2, s, 0, 1⟩, ⟨4, [], 0, 1⟩] := by
  refine lex_one ?_ (by decide)
  show step (skip false (34 :: (qb s ++ [34]))) = _
  rw [skip, if_neg (by decide), if_neg (by decide), step, if_neg (by decide), if_pos rfl, qscan_qb]
  dsimp only
  rw [raw_qb, if_pos (show quote s = 34 :: (qb s ++ [34]) from rfl)]
theorem lex_word (s : List UInt8) (h : word s = true) : lex s 1 = .ok [⟨0, s, 0, 1⟩, ⟨4, [], 0, 1⟩] := by
  refine lex_one ?_ (by decide)
  have h2 := h
  unfold word at h2
  simp only [Bool.and_eq_true] at h2
  obtain ⟨⟨⟨ha, _⟩, _⟩, hlt⟩ := h2
  cases s with
  | nil => exact absurd h (by decide)
  | cons c tx =>
    have hc : letter c = true := hlt
    have hp := part_not_white (letter_part hc)
    rw [skip, if_neg (by rw [hp.1]; simp), if_neg hp.2.1, step, if_pos (by rw [hc]; rfl), (tw_all _ ha).1, (tw_all _ ha).2, tokW_word _ h]
theorem lex_num (n : Int) (h0 : 0 ≤ n) (h1 : n ≤ 9223372036854775807) : lex (Lib.itoa n) 1 = .ok [⟨1, Lib.itoa n, n, 1⟩, ⟨4, [], 0, 1⟩] := by
  refine lex_one ?_ (by decide)
  have htok := tokW_num n h0 h1
  have he : Lib.itoa n = Lib.decDigits n.toNat := by rw [Lib.itoa, if_neg (by omega)]
  have ha := dec_all n.toNat
  rw [← he] at ha
  cases hl : Lib.itoa n with
  | nil => exact absurd (he.symm.trans hl) (dec_ne _)
  | cons c tx =>
    rw [hl] at ha htok
    have hc : digit c = true := by simp only [List.all_cons, Bool.and_eq_true] at ha; exact ha.1
    have hp := part_not_white (digit_part hc)
    have ha2 := all_mono (fun c => digit_part) ha
    rw [skip, if_neg (by rw [hp.1]; simp), if_neg hp.2.1, step, if_pos (by rw [hc]; simp), (tw_all _ ha2).1, (tw_all _ ha2).2, htok]
theorem lex_neg (n : Int) (h0 : n < 0) : lex (Lib.itoa n) 1 = .error (11, 1) := by
  refine lex_bad 1 ?_
  rw [Lib.itoa, if_pos h0, skip, if_neg (by decide), if_neg (by decide), step, if_neg (by decide), if_neg (by decide), if_neg (by decide)]
theorem word_more (s : List UInt8) (c : UInt8) (h : word s = true) : word (s ++ [c]) = (part c && decide (s.length < 20)) := by
  unfold word at *
  simp only [Bool.and_eq_true] at h
  obtain ⟨⟨⟨ha, h1⟩, h2⟩, h3⟩ := h
  cases s with
  | nil => exact absurd h1 (by decide)
  | cons d s =>
    have h4 : letter (((d :: s) ++ [c]).headD 0) = true := h3
    rw [h4, List.all_append, ha, List.length_append]
    simp only [List.all_cons, List.all_nil, Bool.and_true, Bool.true_and, List.length_cons, List.length_nil, Nat.zero_add]
    have e1 : decide (1 ≤ s.length + 1 + 1) = true := decide_eq_true (by omega)
    have e2 : decide (s.length + 1 + 1 ≤ 20) = decide (s.length + 1 < 20) := decide_eq_decide.2 (by omega)
    rw [e1, e2, Bool.and_true]
end Lx
end Go.Proofs.YtdjiimblfhbcjaaDoor
