/- More of the tokens in plain words: the errors' numbers, the lines. -/
import Derived.Test.YtdjiimblfhbcjaaDoorLxS
namespace Go.Proofs.YtdjiimblfhbcjaaDoor
namespace Lx
theorem step_code {l : List UInt8} {e : Nat} (h : step l = .bad e) : e = 11 ∨ e = 3 := by
  cases l with
  | nil => cases h
  | cons c r =>
    rw [step] at h
    split at h
    · split at h
      · rename_i z hz
        injection h with h; subst h
        unfold tokW at hz
        split at hz
        · split at hz
          · split at hz
            · injection hz with hz; exact .inl hz.symm
            · split at hz
              · cases hz
              · injection hz with hz; exact .inr hz.symm
          · injection hz with hz; exact .inl hz.symm
        · split at hz
          · cases hz
          · injection hz with hz; exact .inl hz.symm
      · cases h
    · split at h
      · split at h
        · injection h with h; exact .inl h.symm
        · split at h
          · cases h
          · injection h with h; exact .inl h.symm
      · split at h
        · cases h
        · injection h with h; exact .inl h.symm
theorem lex_codes : ∀ (f : Nat) (l : List UInt8) (ln : Nat) (e : Nat × Nat), l.length < f → lex l ln = .error e → (e.1 = 11 ∨ e.1 = 3) ∧ ln ≤ e.2 ∧ e.2 ≤ ln + l.length := by
  intro f
  induction f with
  | zero => intro l ln e h; omega
  | succ f ih =>
    intro l ln e hl h
    cases hs : step (skip false l) with
    | done => rw [lex_done _ hs] at h; cases h
    | bad z => rw [lex_bad _ hs] at h; injection h with h; subst h; exact ⟨step_code hs, Nat.le_refl _, Nat.le_add_right _ _⟩
    | tok k t n rest =>
      have h1 := step_len hs
      have h2 := skip_len false l
      rw [lex_tok _ hs] at h
      cases hr : lex rest (nl k ln) with
      | ok us => rw [hr] at h; cases h
      | error e2 =>
        rw [hr] at h; injection h with h; subst h
        have := ih rest (nl k ln) e2 (by omega) hr
        have hn : ln ≤ nl k ln ∧ nl k ln ≤ ln + 1 := by unfold nl; split <;> omega
        exact ⟨this.1, by omega, by omega⟩
theorem lex_lines : ∀ (f : Nat) (l : List UInt8) (ln : Nat) (ts : List Tok), l.length < f → lex l ln = .ok ts → (∀ t ∈ ts, t.line ≤ ln + l.length) ∧ ts.length ≤ l.length + 1 ∧ ts ≠ [] := by
  intro f
  induction f with
  | zero => intro l ln ts h; omega
  | succ f ih =>
    intro l ln ts hl h
    cases hs : step (skip false l) with
    | done =>
      rw [lex_done _ hs] at h; injection h with h; subst h
      refine ⟨?_, by simp, by simp⟩
      intro t ht
      obtain rfl := List.mem_singleton.1 ht
      exact Nat.le_add_right _ _
    | bad z => rw [lex_bad _ hs] at h; cases h
    | tok k t n rest =>
      have h1 := step_len hs
      have h2 := skip_len false l
      rw [lex_tok _ hs] at h
      cases hr : lex rest (nl k ln) with
      | error e2 => rw [hr] at h; cases h
      | ok us =>
        rw [hr] at h; injection h with h; subst h
        have := ih rest (nl k ln) us (by omega) hr
        have hn : ln ≤ nl k ln ∧ nl k ln ≤ ln + 1 := by unfold nl; split <;> omega
        refine ⟨?_, by simp; omega, by simp⟩
        intro x hx
        rcases List.mem_cons.1 hx with rfl | hx
        · exact Nat.le_add_right _ _
        · have := this.1 x hx; omega
theorem later0 (ts : List Tok) : ts.map (later 0) = ts := by
  have : later 0 = id := by funext t; rfl
  rw [this, List.map_id]
theorem white_snoc {w x : List UInt8} (h : w.all white = true) (hx : ∃ c, x = [c] ∧ white c = true) : (w ++ x).all white = true ∧ (w ++ x).length = w.length + 1 := by
  obtain ⟨c, rfl, hc⟩ := hx
  rw [List.all_append, h, List.length_append]; simp [hc]
end Lx
end Go.Proofs.YtdjiimblfhbcjaaDoor
