/- Walks of package lex: Lex. -/
import Derived.Test.YtdjiimblfhbcjaaDoorLxX
namespace Go.Proofs.YtdjiimblfhbcjaaDoor
set_option linter.unusedSimpArgs false
open Go.RowKit

/-- The slice value v reads as these tokens. -/
def TS (w : World) (v : Value) (ts : List Lx.Tok) : Prop :=
  ∃ a cap, v = .slice a ts.length cap ∧ ts.length ≤ maxLen ∧ (a = none → cap = 0) ∧ ts.length ≤ cap ∧ cap ≤ maxLen ∧ ∀ i, (h : i < ts.length) → ∃ b off, a = some ⟨b, off, none⟩ ∧
    w.cell? ⟨b, off + i * 4, none⟩ = some (.int .i64 ts[i].kind) ∧ w.cell? ⟨b, off + i * 4 + 1, none⟩ = some (.string ⟨ts[i].text.toArray⟩) ∧
    w.cell? ⟨b, off + i * 4 + 2, none⟩ = some (.int .i64 ts[i].n) ∧ w.cell? ⟨b, off + i * 4 + 3, none⟩ = some (.int .i64 ts[i].line)
theorem TS.nil (w : World) : TS w (.slice none 0 0) [] := ⟨none, 0, rfl, by simp, fun _ => rfl, by simp, by simp, fun i h => by simp at h⟩
theorem TS.keep {w W : World} {v : Value} {ts : List Lx.Tok} (h : TS w v ts) (hb : Below w.heap.size w W) : TS W v ts := by
  obtain ⟨a, cap, rfl, hm, hn, hc1, hc2, hc⟩ := h
  refine ⟨a, cap, rfl, hm, hn, hc1, hc2, fun i hi => ?_⟩
  obtain ⟨b, off, h1, h2, h3, h4, h5⟩ := hc i hi
  have hlt := cell_lt h2
  exact ⟨b, off, h1, (hb.cell hlt).trans h2, (hb.cell (p := ⟨b, off + i * 4 + 1, none⟩) hlt).trans h3, (hb.cell (p := ⟨b, off + i * 4 + 2, none⟩) hlt).trans h4, (hb.cell (p := ⟨b, off + i * 4 + 3, none⟩) hlt).trans h5⟩
theorem toksC_at (ts : List Lx.Tok) (i : Nat) (h : i < ts.length) : (toksC ts)[i * 4]? = some (.int .i64 ts[i].kind) ∧ (toksC ts)[i * 4 + 1]? = some (.string ⟨ts[i].text.toArray⟩) ∧ (toksC ts)[i * 4 + 2]? = some (.int .i64 ts[i].n) ∧ (toksC ts)[i * 4 + 3]? = some (.int .i64 ts[i].line) := by
  induction ts generalizing i with
  | nil => simp at h
  | cons t ts ih =>
    have hc : toksC (t :: ts) = tokC t ++ toksC ts := rfl
    cases i with
    | zero => rw [hc]; simp [tokC]
    | succ i =>
      have := ih i (by simp at h; omega)
      rw [hc]
      have e : ∀ d, (tokC t ++ toksC ts)[(i + 1) * 4 + d]? = (toksC ts)[i * 4 + d]? := by
        intro d
        rw [List.getElem?_append_right (by simp [tokC]; omega)]
        congr 1; simp [tokC]; omega
      exact ⟨(e 0).trans this.1, (e 1).trans this.2.1, (e 2).trans this.2.2.1, (e 3).trans this.2.2.2⟩
theorem TS.of_own {w : World} {base : Nat} {v : Value} {ts : List Lx.Tok} (h : w.ownsRow base 42 4 v ts.length (toksC ts)) (hm : ts.length ≤ maxLen) : TS w v ts := by
  rcases h.2 with ⟨rfl, h0⟩ | ⟨g, cap, cur, rfl, hb, hh, hnc, hcm, hcs, ht⟩
  · obtain rfl : ts = [] := List.eq_nil_of_length_eq_zero h0
    exact TS.nil w
  · refine ⟨some ⟨g, 0, none⟩, cap, rfl, hm, fun h => (by cases h), hnc, hcm, fun i hi => ⟨g, 0, rfl, ?_⟩⟩
    have ha : ∀ j x, (toksC ts)[j]? = some x → w.cell? ⟨g, 0 + j, none⟩ = some x := by
      intro j x hx
      have hc := h.cells (g := g) rfl j x hx
      have e2 : ((⟨g, 0, none⟩ : Addr).add j) = ⟨g, 0 + j, none⟩ := by unfold Addr.add; split <;> simp_all
      rw [e2] at hc; exact hc
    have hx := toksC_at ts i hi
    exact ⟨ha _ _ hx.1, ha _ _ hx.2.1, ha _ _ hx.2.2.1, ha _ _ hx.2.2.2⟩

/-- What a call that takes a token comes to. -/
def TokPost (b : Nat) (src : ByteArray) (ln : Nat) (ts : List Lx.Tok) (w : World) (kd : Nat) (t : List UInt8) (n : Int) (rest : List UInt8) (e : Ending) (w' : World) : Prop :=
  e = .returned (.int .i64 0) ∧ ∃ m, m ≤ src.size ∧ rest = (bs src).drop m ∧ Scn b src m (Lx.nl kd ln) (ts ++ [⟨kd, t, n, ln⟩]) w' ∧ Below b w w'
def BadPost (b : Nat) (src : ByteArray) (k ln : Nat) (ts : List Lx.Tok) (w : World) (z : Nat) (e : Ending) (w' : World) : Prop :=
  e = .returned (.int .i64 z) ∧ Scn b src k ln ts w' ∧ Below b w w'
inductive Nx (b : Nat) (src : ByteArray) (k ln : Nat) (ts : List Lx.Tok) (f : Nat) (w0 : World) : Prop where
  | done (hs : Lx.step ((bs src).drop k) = .done) (hf : f = 78)
  | bad (n : Nat) (hs : Lx.step ((bs src).drop k) = .bad n) (hn : n = 11 ∨ n = 3) (hc : ∀ w, Env w → Scn b src k ln ts w → Calls Tryd.prog f #[.pointer (some ⟨b, 0, none⟩)] w (BadPost b src k ln ts w n)) (hf : f = 80 ∨ f = 81 ∨ f = 83)
  | tok (kd : Nat) (t : List UInt8) (n : Int) (rest : List UInt8) (hs : Lx.step ((bs src).drop k) = .tok kd t n rest) (hk : kd < 4) (hc : ∀ w, Env w → Scn b src k ln ts w → Calls Tryd.prog f #[.pointer (some ⟨b, 0, none⟩)] w (TokPost b src ln ts w kd t n rest)) (hf : f = 80 ∨ f = 81 ∨ f = 82)
theorem tokW_kinds {w : List UInt8} : (∃ n, Lx.tokW w = .error n ∧ (n = 11 ∨ n = 3)) ∨ ∃ x, Lx.tokW w = .ok x ∧ x.1 < 3 := by
  unfold Lx.tokW
  split
  · split
    · split
      · exact .inl ⟨_, rfl, .inl rfl⟩
      · split
        · exact .inr ⟨_, rfl, by simp⟩
        · exact .inl ⟨_, rfl, .inr rfl⟩
    · exact .inl ⟨_, rfl, .inl rfl⟩
  · split
    · exact .inr ⟨_, rfl, by simp⟩
    · exact .inl ⟨_, rfl, .inl rfl⟩
theorem nx_of (b : Nat) (src : ByteArray) (k ln : Nat) (ts : List Lx.Tok) (w0 : World) (hk : k ≤ src.size) (hs : src.size ≤ 100000000) (hl : ts.length ≤ 1000000000) (hln : ln ≤ 1000000000) : Nx b src k ln ts (nextFn src k) w0 := by
  by_cases hlt : k < src.size
  · have hd := bs_drop src k hlt
    have hN : nextFn src k = if Lx.letter src[k] || Lx.digit src[k] then 80 else if src[k] = 34 then 81 else if src[k] = 10 then 82 else 83 := by
      rw [nextFn, hd]
    have hS := (congrArg Lx.step hd).trans (Lx.step.eq_2 src[k] ((bs src).drop (k + 1)))
    by_cases h1 : (Lx.letter src[k] || Lx.digit src[k]) = true
    · rw [if_pos h1] at hN hS
      have hp : Lx.part src[k] = true := by
        rcases Bool.or_eq_true .. ▸ h1 with h | h
        · exact Lx.letter_part h
        · exact Lx.digit_part h
      have hw := fun w hE h => word_any b src k ln ts w hE h hlt (by omega) hl hp
      rw [hd] at hw
      rcases tokW_kinds (w := (src[k] :: (bs src).drop (k + 1)).takeWhile Lx.part) with ⟨n, he, hn⟩ | ⟨x, hx, hx3⟩
      · rw [he] at hS hw
        refine .bad n hS hn ?_ (.inl hN)
        rw [hN]; exact hw
      · rw [hx] at hS hw
        refine .tok _ _ _ _ hS (by omega) ?_ (.inl hN)
        rw [hN]
        intro w hE h
        refine (hw w hE h).mono ?_
        rintro e w' ⟨he, m, hm, hr, h1, h2⟩
        refine ⟨he, m, hm, hr, ?_, h2⟩
        rw [Lx.nl, if_neg (by omega)]; exact h1
    · rw [if_neg h1] at hN hS
      by_cases h34 : src[k] = 34
      · rw [if_pos h34] at hN hS
        have hq := fun w h => quoted_any b src k ln ts w h hlt hs hl h34
        cases hqq : Lx.qscan ((bs src).drop (k + 1)) with
        | none =>
          rw [hqq] at hS hq
          refine .bad 11 hS (.inl rfl) ?_ (.inr (.inl hN))
          rw [hN]; exact fun w _ h => hq w h
        | some x =>
          rw [hqq] at hS hq
          dsimp only at hS
          by_cases hx : quote (raw x.1) = 34 :: (x.1 ++ [34])
          · rw [if_pos hx] at hS
            simp only [qres, qrest] at hq
            rw [if_pos hx] at hq
            refine .tok _ _ _ _ hS (by omega) ?_ (.inr (.inl hN))
            rw [hN]
            intro w _ h
            refine (hq w h).mono ?_
            rintro e w' ⟨he, m, hm, hr, h1, h2⟩
            exact ⟨he, m, hm, hr, h1, h2⟩
          · rw [if_neg hx] at hS
            simp only [qres] at hq
            rw [if_neg hx] at hq
            refine .bad 11 hS (.inl rfl) ?_ (.inr (.inl hN))
            rw [hN]; exact fun w _ h => hq w h
      · rw [if_neg h34] at hN hS
        by_cases h10 : src[k] = 10
        · rw [if_pos h10] at hN hS
          refine .tok _ _ _ _ hS (by omega) ?_ (.inr (.inr hN))
          rw [hN]
          intro w _ h
          refine (feed_any b src k ln ts w h hl (by omega) hln).mono ?_
          rintro e w' ⟨he, h1, h2⟩
          exact ⟨he, k + 1, by omega, rfl, h1, h2⟩
        · rw [if_neg h10] at hN hS
          refine .bad 11 hS (.inl rfl) ?_ (.inr (.inr hN))
          rw [hN]
          intro w _ h
          refine (wrong_any b w).mono ?_
          rintro e w' ⟨he, rfl⟩
          exact ⟨he, h, Below.refl _ _⟩
  · obtain rfl : k = src.size := by omega
    have hd : (bs src).drop src.size = [] := List.drop_eq_nil_of_le (by rw [bs_len]; exact Nat.le_refl _)
    exact .done (by rw [hd]; rfl) (by rw [nextFn, hd])
def joinT (ts : List Lx.Tok) : Except (Nat × Nat) (List Lx.Tok) → Except (Nat × Nat) (List Lx.Tok)
  | .ok us => .ok (ts ++ us)
  | .error e => .error e
theorem joinT_pre (ts : List Lx.Tok) (t : Lx.Tok) (r : Except (Nat × Nat) (List Lx.Tok)) : joinT ts (Lx.pre t r) = joinT (ts ++ [t]) r := by
  cases r <;> simp [joinT, Lx.pre]
theorem Scn.start (src : ByteArray) (w : World) : Scn w.heap.size src 0 1 [] (w.alloc (.cells #[.string src, .int .i64 0, .int .i64 1, .slice none 0 0] 71)) := by
  refine ⟨.slice none 0 0, heap_alloc_new _ _, rfl, .inl ⟨rfl, rfl⟩⟩
/-- A slice value that begins at its block's head. -/
def Z0 (v : Value) : Prop := ∀ b off sp n cap, v = .slice (some ⟨b, off, sp⟩) n cap → off = 0 ∧ sp = none
/-- What the scanner's slice is. -/
theorem Scn.out {b : Nat} {src : ByteArray} {k ln : Nat} {ts : List Lx.Tok} {w : World} (h : Scn b src k ln ts w) (hm : ts.length ≤ maxLen) : ∃ v, w.cell? ⟨b, 3, none⟩ = some v ∧ TS w v ts ∧ Z0 v := by
  obtain ⟨v, hb, ho⟩ := h
  refine ⟨v, by simp [World.cell?, hb], TS.of_own ho hm, ?_⟩
  rintro b off sp n cap rfl
  rcases ho.2 with ⟨h, _⟩ | ⟨g, cap, cur, h, _⟩
  · cases h
  · cases h; exact ⟨rfl, rfl⟩
/-- What Lex comes to. -/
def LexPost (r : Except (Nat × Nat) (List Lx.Tok)) (w : World) (e : Ending) (w' : World) : Prop :=
  match r with
  | .ok ts => ∃ v, e = .returned (.tuple #[v, .int .i64 0, .int .i64 0]) ∧ TS w' v ts ∧ Z0 v ∧ Below w.heap.size w w'
  | .error x => e = .returned (.tuple #[.slice none 0 0, .int .i64 x.1, .int .i64 x.2]) ∧ Below w.heap.size w w'
def Open (src : ByteArray) (G : Except (Nat × Nat) (List Lx.Tok)) (k ln : Nat) (ts : List Lx.Tok) : Prop := ts.length ≤ k ∧ (∀ t ∈ ts, t.kind < 4) ∧ G = joinT ts (Lx.lex ((bs src).drop k) ln)
def Shut2 (G : Except (Nat × Nat) (List Lx.Tok)) (k ln : Nat) (ts : List Lx.Tok) : Prop := ts.length ≤ k + 1 ∧ G = .ok ts ∧ ∃ ts', ts = ts' ++ [⟨4, [], 0, ln⟩]
/-- How many tokens there are. -/
def countOf (b : Nat) (w : World) : Nat := match w.cell? ⟨b, 3, none⟩ with | some (.slice _ n _) => n | _ => 0
theorem Scn.count {b : Nat} {src : ByteArray} {k ln : Nat} {ts : List Lx.Tok} {w : World} (h : Scn b src k ln ts w) (hm : ts.length ≤ maxLen) : countOf b w = ts.length := by
  obtain ⟨v, hv, ⟨a, cap, rfl, _⟩, _⟩ := h.out hm
  rw [countOf, hv]
theorem Open.last {src : ByteArray} {G : Except (Nat × Nat) (List Lx.Tok)} {k ln : Nat} {ts : List Lx.Tok} (h : Open src G k ln ts) (i : Nat) (hi : i < ts.length) : ts[i].kind < 4 := h.2.1 _ (List.getElem_mem _)

theorem Scn.last {b : Nat} {src : ByteArray} {k ln : Nat} {ts : List Lx.Tok} {w : World} (h : Scn b src k ln ts w) (hm : ts.length ≤ 20001) (hz : 0 < ts.length) (P : Nat → Prop) (hP : P (ts[ts.length - 1]'(by omega)).kind) :
    ∃ n kd g off cap : Nat, Hid (n = ts.length) ∧ 1 ≤ n ∧ n ≤ 20001 ∧ P kd ∧ n ≤ cap ∧ cap ≤ maxLen ∧ w.cell? ⟨b, 3, none⟩ = some (.slice (some ⟨g, off, none⟩) n cap) ∧ w.cell? ⟨g, off + (n - 1) * 4, none⟩ = some (.int .i64 kd) := by
  obtain ⟨v, c3, ⟨a, cap, rfl, -, -, hnc, hcm, hcells⟩, -⟩ := h.out (by unfold maxLen; omega)
  obtain ⟨g, off, rfl, q1, -, -, -⟩ := hcells (ts.length - 1) (by omega)
  exact ⟨ts.length, _, g, off, cap, Lib.hid rfl, by omega, by omega, hP, hnc, hcm, c3, q1⟩
theorem Shut2.last {G : Except (Nat × Nat) (List Lx.Tok)} {k ln : Nat} {ts : List Lx.Tok} (h : Shut2 G k ln ts) : ∃ hz : 0 < ts.length, (ts[ts.length - 1]'(by omega)).kind = 4 := by
  obtain ⟨-, -, ts', rfl⟩ := h
  refine ⟨by simp, ?_⟩
  simp
theorem open_start (src : ByteArray) {G : Except (Nat × Nat) (List Lx.Tok)} (h : G = Lx.lex (bs src) 1) : Open src G 0 1 [] := by
  refine ⟨by simp, by simp, ?_⟩
  rw [h, List.drop_zero]; cases Lx.lex (bs src) 1 <;> rfl

end Go.Proofs.YtdjiimblfhbcjaaDoor
