/- Parts LxX, LxY, LxZ of this claim, laid one behind the other: walks and the plain laws behind them; each contract states its own conditions. -/
import Derived.Test.YtnccndfffmaonaaGreatDoorZD
/- Walks of package lex: next. -/
namespace Go.Proofs.YtnccndfffmaonaaGreatDoor
set_option linter.unusedSimpArgs false
open Go.RowKit

/-- A method of the scanner as a function value. -/
def meth (f : Nat) (b : Nat) : Value := .func (.func f) #[.pointer (some ⟨b, 0, none⟩)] #[]
/-- What takes the token that begins at k. -/
def nextFn (src : ByteArray) (k : Nat) : Nat :=
  match (bs src).drop k with
  | [] => 71
  | c :: _ => if Lx.letter c || Lx.digit c then 74 else if c = 34 then 75 else if c = 10 then 76 else 77
set_option maxRecDepth 100000 in
set_option maxHeartbeats 4000000 in
theorem next_any (b : Nat) (src : ByteArray) (k ln : Nat) (ts : List Lx.Tok) (w : World) (h : Scn b src k ln ts w) (hk : k ≤ src.size) :
    Calls Tryz.prog 47 #[.pointer (some ⟨b, 0, none⟩)] w fun e w' => e = .returned (meth (nextFn src k) b) ∧ SameMem w w' := by
  have c0 := h.c0
  have c1 := h.c1
  clear h
  by_cases hlt : k < src.size
  · have hkI : (k : Int) < (src.size : Int) := by omega
    have hk0' : (0 : Int) ≤ (k : Int) := by omega
    have hn : (k : Int).toNat = k := by omega
    have hne : ((k : Int) == (src.size : Int)) = false := beq_eq_false_iff_ne.2 (by omega)
    have hd := bs_drop src k hlt
    have hN : nextFn src k = if Lx.letter src[k] || Lx.digit src[k] then 74 else if src[k] = 34 then 75 else if src[k] = 10 then 76 else 77 := by
      rw [nextFn, hd]
    clear hd
    cases hl : Lx.letter src[k] with
    | true =>
      have HL := Lib.hid hl
      have HN := Lib.hid (hN.trans (by rw [hl]; rfl : _ = 74))
      clear hl hN
      go_enter Tryz.func47, Tryz.ntmps47
      go_wp2_with fail
      go_quiet (fail)
      go_wp2_with fail
      go_quiet (fail)
      go_wp2_with fail
      go_at_call 72; refine (letter_any src[k] true HL.out _).mono ?_; rintro e w' ⟨rfl, rfl⟩
      go_wp2_with fail
      go_ret
      exact ⟨by rw [HN.out]; rfl, ⟨rfl, rfl, rfl, rfl⟩⟩
    | false =>
      have HL := Lib.hid hl
      rw [hl, Bool.false_or] at hN
      clear hl
      cases hdg : Lx.digit src[k] with
      | true =>
        have HD := Lib.hid hdg
        have HN := Lib.hid (hN.trans (by rw [hdg]; rfl : _ = 74))
        clear hdg hN
        go_enter Tryz.func47, Tryz.ntmps47
        go_wp2_with fail
        go_quiet (fail)
        go_wp2_with fail
        go_quiet (fail)
        go_wp2_with fail
        go_at_call 72; refine (letter_any src[k] false HL.out _).mono ?_; rintro e w' ⟨rfl, rfl⟩
        go_wp2_with fail
        go_at_call 73; refine (digit_any src[k] true HD.out _).mono ?_; rintro e w' ⟨rfl, rfl⟩
        go_wp2_with fail
        go_ret
        exact ⟨by rw [HN.out]; rfl, ⟨rfl, rfl, rfl, rfl⟩⟩
      | false =>
        have HD := Lib.hid hdg
        rw [hdg, if_neg (by simp)] at hN
        clear hdg
        by_cases h34 : src[k] = 34
        · have e34 : ((src[k].toNat : Int) == 34) = true := u8_is (b := 34) h34
          rw [if_pos h34] at hN
          have HN := Lib.hid hN
          clear h34 hN
          go_enter Tryz.func47, Tryz.ntmps47
          go_wp2_with fail
          go_quiet (fail)
          go_wp2_with fail
          go_quiet (fail)
          go_wp2_with fail
          go_at_call 72; refine (letter_any src[k] false HL.out _).mono ?_; rintro e w' ⟨rfl, rfl⟩
          go_wp2_with fail
          go_at_call 73; refine (digit_any src[k] false HD.out _).mono ?_; rintro e w' ⟨rfl, rfl⟩
          go_wp2_with fail
          go_ret
          exact ⟨by rw [HN.out]; rfl, ⟨rfl, rfl, rfl, rfl⟩⟩
        · have e34 : ((src[k].toNat : Int) == 34) = false := u8_ne (b := 34) h34
          rw [if_neg h34] at hN
          clear h34
          by_cases h10 : src[k] = 10
          · have e10 : ((src[k].toNat : Int) == 10) = true := u8_is (b := 10) h10
            rw [if_pos h10] at hN
            have HN := Lib.hid hN
            clear h10 hN
            go_enter Tryz.func47, Tryz.ntmps47
            go_wp2_with fail
            go_quiet (fail)
            go_wp2_with fail
            go_quiet (fail)
            go_wp2_with fail
            go_at_call 72; refine (letter_any src[k] false HL.out _).mono ?_; rintro e w' ⟨rfl, rfl⟩
            go_wp2_with fail
            go_at_call 73; refine (digit_any src[k] false HD.out _).mono ?_; rintro e w' ⟨rfl, rfl⟩
            go_wp2_with fail
            go_ret
            exact ⟨by rw [HN.out]; rfl, ⟨rfl, rfl, rfl, rfl⟩⟩
          · have e10 : ((src[k].toNat : Int) == 10) = false := u8_ne (b := 10) h10
            rw [if_neg h10] at hN
            have HN := Lib.hid hN
            clear h10 hN
            go_enter Tryz.func47, Tryz.ntmps47
            go_wp2_with fail
            go_quiet (fail)
            go_wp2_with fail
            go_quiet (fail)
            go_wp2_with fail
            go_at_call 72; refine (letter_any src[k] false HL.out _).mono ?_; rintro e w' ⟨rfl, rfl⟩
            go_wp2_with fail
            go_at_call 73; refine (digit_any src[k] false HD.out _).mono ?_; rintro e w' ⟨rfl, rfl⟩
            go_wp2_with fail
            go_ret
            exact ⟨by rw [HN.out]; rfl, ⟨rfl, rfl, rfl, rfl⟩⟩
  · obtain rfl : k = src.size := by omega
    have hne : (((src.size : Nat) : Int) == (src.size : Int)) = true := beq_self_eq_true _
    have hN : nextFn src src.size = 71 := by
      rw [nextFn, List.drop_eq_nil_of_le (by rw [bs_len]; exact Nat.le_refl _)]
    have HN := Lib.hid hN
    clear hN
    go_enter Tryz.func47, Tryz.ntmps47
    go_wp2_with fail
    go_quiet (fail)
    go_wp2_with fail
    go_ret
    exact ⟨by rw [HN.out]; rfl, ⟨rfl, rfl, rfl, rfl⟩⟩
end Go.Proofs.YtnccndfffmaonaaGreatDoor
/- Walks of package lex: Lex. -/
namespace Go.Proofs.YtnccndfffmaonaaGreatDoor
set_option linter.unusedSimpArgs false
open Go.RowKit

/-- The slice value v reads as these tokens. -/
def TS (w : World) (v : Value) (ts : List Lx.Tok) : Prop :=
  ∃ a cap, v = .slice a ts.length cap ∧ ts.length ≤ maxLen ∧ (a = none → cap = 0) ∧ ts.length ≤ cap ∧ cap ≤ maxLen ∧ ∀ i, (h : i < ts.length) → ∃ b off, a = some ⟨b, off, none⟩ ∧
    w.cell? ⟨b, off + i * 4, none⟩ = some (.int .i64 ts[i].kind) ∧ w.cell? ⟨b, off + i * 4 + 1, none⟩ = some (.string ⟨ts[i].text.toArray⟩) ∧
    w.cell? ⟨b, off + i * 4 + 2, none⟩ = some (.int .i64 ts[i].n) ∧ w.cell? ⟨b, off + i * 4 + 3, none⟩ = some (.int .i64 ts[i].line)
theorem TS.nil (w : World) : TS w (.slice none 0 0) [] := ⟨none, 0, rfl, by simp, fun _ => rfl, by simp, by simp, fun i h => by simp at h⟩
theorem TS.keep {w W : World} {v : Value} {ts : List Lx.Tok} (h : TS w v ts) (hb : Below w.heap.size w W) : TS W v ts := by
  obtain ⟨a, cap, rfl, hm, hn, hc1, hc2, hc⟩ := h
  refine ⟨a, cap, rfl, hm, hn, hc1, hc2, fun i hi => ?_⟩
  obtain ⟨b, off, h1, h2, h3, h4, h5⟩ := hc i hi
  have hlt := cell_lt h2
  exact ⟨b, off, h1, (hb.cell hlt).trans h2, (hb.cell (p := ⟨b, off + i * 4 + 1, none⟩) hlt).trans h3, (hb.cell (p := ⟨b, off + i * 4 + 2, none⟩) hlt).trans h4, (hb.cell (p := ⟨b, off + i * 4 + 3, none⟩) hlt).trans h5⟩
theorem toksC_at (ts : List Lx.Tok) (i : Nat) (h : i < ts.length) : (toksC ts)[i * 4]? = some (.int .i64 ts[i].kind) ∧ (toksC ts)[i * 4 + 1]? = some (.string ⟨ts[i].text.toArray⟩) ∧ (toksC ts)[i * 4 + 2]? = some (.int .i64 ts[i].n) ∧ (toksC ts)[i * 4 + 3]? = some (.int .i64 ts[i].line) := by
  induction ts generalizing i with
  | nil => simp at h
  | cons t ts ih =>
    have hc : toksC (t :: ts) = tokC t ++ toksC ts := rfl
    cases i with
    | zero => rw [hc]; simp [tokC]
    | succ i =>
      have := ih i (by simp at h; omega)
      rw [hc]
      have e : ∀ d, (tokC t ++ toksC ts)[(i + 1) * 4 + d]? = (toksC ts)[i * 4 + d]? := by
        intro d
        rw [List.getElem?_append_right (by simp [tokC]; omega)]
        congr 1; simp [tokC]; omega
      exact ⟨(e 0).trans this.1, (e 1).trans this.2.1, (e 2).trans this.2.2.1, (e 3).trans this.2.2.2⟩
theorem TS.of_own {w : World} {base : Nat} {v : Value} {ts : List Lx.Tok} (h : w.ownsRow base 42 4 v ts.length (toksC ts)) (hm : ts.length ≤ maxLen) : TS w v ts := by
  rcases h.2 with ⟨rfl, h0⟩ | ⟨g, cap, cur, rfl, hb, hh, hnc, hcm, hcs, ht⟩
  · obtain rfl : ts = [] := List.eq_nil_of_length_eq_zero h0
    exact TS.nil w
  · refine ⟨some ⟨g, 0, none⟩, cap, rfl, hm, fun h => (by cases h), hnc, hcm, fun i hi => ⟨g, 0, rfl, ?_⟩⟩
    have ha : ∀ j x, (toksC ts)[j]? = some x → w.cell? ⟨g, 0 + j, none⟩ = some x := by
      intro j x hx
      have hc := h.cells (g := g) rfl j x hx
      have e2 : ((⟨g, 0, none⟩ : Addr).add j) = ⟨g, 0 + j, none⟩ := by unfold Addr.add; split <;> simp_all
      rw [e2] at hc; exact hc
    have hx := toksC_at ts i hi
    exact ⟨ha _ _ hx.1, ha _ _ hx.2.1, ha _ _ hx.2.2.1, ha _ _ hx.2.2.2⟩

/-- What a call that takes a token comes to. -/
def TokPost (b : Nat) (src : ByteArray) (ln : Nat) (ts : List Lx.Tok) (w : World) (kd : Nat) (t : List UInt8) (n : Int) (rest : List UInt8) (e : Ending) (w' : World) : Prop :=
  e = .returned (.int .i64 0) ∧ ∃ m, m ≤ src.size ∧ rest = (bs src).drop m ∧ Scn b src m (Lx.nl kd ln) (ts ++ [⟨kd, t, n, ln⟩]) w' ∧ Below b w w'
def BadPost (b : Nat) (src : ByteArray) (k ln : Nat) (ts : List Lx.Tok) (w : World) (z : Nat) (e : Ending) (w' : World) : Prop :=
  e = .returned (.int .i64 z) ∧ Scn b src k ln ts w' ∧ Below b w w'
inductive Nx (b : Nat) (src : ByteArray) (k ln : Nat) (ts : List Lx.Tok) (f : Nat) (w0 : World) : Prop where
  | done (hs : Lx.step ((bs src).drop k) = .done) (hf : f = 71)
  | bad (n : Nat) (hs : Lx.step ((bs src).drop k) = .bad n) (hn : n = 11 ∨ n = 3) (hc : ∀ w, Env w → Scn b src k ln ts w → Calls Tryz.prog f #[.pointer (some ⟨b, 0, none⟩)] w (BadPost b src k ln ts w n)) (hf : f = 74 ∨ f = 75 ∨ f = 77)
  | tok (kd : Nat) (t : List UInt8) (n : Int) (rest : List UInt8) (hs : Lx.step ((bs src).drop k) = .tok kd t n rest) (hk : kd < 4) (hc : ∀ w, Env w → Scn b src k ln ts w → Calls Tryz.prog f #[.pointer (some ⟨b, 0, none⟩)] w (TokPost b src ln ts w kd t n rest)) (hf : f = 74 ∨ f = 75 ∨ f = 76)
theorem tokW_kinds {w : List UInt8} : (∃ n, Lx.tokW w = .error n ∧ (n = 11 ∨ n = 3)) ∨ ∃ x, Lx.tokW w = .ok x ∧ x.1 < 3 := by
  unfold Lx.tokW
  split
  · split
    · split
      · exact .inl ⟨_, rfl, .inl rfl⟩
      · split
        · exact .inr ⟨_, rfl, by simp⟩
        · exact .inl ⟨_, rfl, .inr rfl⟩
    · exact .inl ⟨_, rfl, .inl rfl⟩
  · split
    · exact .inr ⟨_, rfl, by simp⟩
    · exact .inl ⟨_, rfl, .inl rfl⟩
theorem nx_of (b : Nat) (src : ByteArray) (k ln : Nat) (ts : List Lx.Tok) (w0 : World) (hk : k ≤ src.size) (hs : src.size ≤ 100000000) (hl : ts.length ≤ 1000000000) (hln : ln ≤ 1000000000) : Nx b src k ln ts (nextFn src k) w0 := by
  by_cases hlt : k < src.size
  · have hd := bs_drop src k hlt
    have hN : nextFn src k = if Lx.letter src[k] || Lx.digit src[k] then 74 else if src[k] = 34 then 75 else if src[k] = 10 then 76 else 77 := by
      rw [nextFn, hd]
    have hS := (congrArg Lx.step hd).trans (Lx.step.eq_2 src[k] ((bs src).drop (k + 1)))
    by_cases h1 : (Lx.letter src[k] || Lx.digit src[k]) = true
    · rw [if_pos h1] at hN hS
      have hp : Lx.part src[k] = true := by
        rcases Bool.or_eq_true .. ▸ h1 with h | h
        · exact Lx.letter_part h
        · exact Lx.digit_part h
      have hw := fun w hE h => word_any b src k ln ts w hE h hlt (by omega) hl hp
      rw [hd] at hw
      rcases tokW_kinds (w := (src[k] :: (bs src).drop (k + 1)).takeWhile Lx.part) with ⟨n, he, hn⟩ | ⟨x, hx, hx3⟩
      · rw [he] at hS hw
        refine .bad n hS hn ?_ (.inl hN)
        rw [hN]; exact hw
      · rw [hx] at hS hw
        refine .tok _ _ _ _ hS (by omega) ?_ (.inl hN)
        rw [hN]
        intro w hE h
        refine (hw w hE h).mono ?_
        rintro e w' ⟨he, m, hm, hr, h1, h2⟩
        refine ⟨he, m, hm, hr, ?_, h2⟩
        rw [Lx.nl, if_neg (by omega)]; exact h1
    · rw [if_neg h1] at hN hS
      by_cases h34 : src[k] = 34
      · rw [if_pos h34] at hN hS
        have hq := fun w h => quoted_any b src k ln ts w h hlt hs hl h34
        cases hqq : Lx.qscan ((bs src).drop (k + 1)) with
        | none =>
          rw [hqq] at hS hq
          refine .bad 11 hS (.inl rfl) ?_ (.inr (.inl hN))
          rw [hN]; exact fun w _ h => hq w h
        | some x =>
          rw [hqq] at hS hq
          dsimp only at hS
          by_cases hx : quote (raw x.1) = 34 :: (x.1 ++ [34])
          · rw [if_pos hx] at hS
            simp only [qres, qrest] at hq
            rw [if_pos hx] at hq
            refine .tok _ _ _ _ hS (by omega) ?_ (.inr (.inl hN))
            rw [hN]
            intro w _ h
            refine (hq w h).mono ?_
            rintro e w' ⟨he, m, hm, hr, h1, h2⟩
            exact ⟨he, m, hm, hr, h1, h2⟩
          · rw [if_neg hx] at hS
            simp only [qres] at hq
            rw [if_neg hx] at hq
            refine .bad 11 hS (.inl rfl) ?_ (.inr (.inl hN))
            rw [hN]; exact fun w _ h => hq w h
      · rw [if_neg h34] at hN hS
        by_cases h10 : src[k] = 10
        · rw [if_pos h10] at hN hS
          refine .tok _ _ _ _ hS (by omega) ?_ (.inr (.inr hN))
          rw [hN]
          intro w _ h
          refine (feed_any b src k ln ts w h hl (by omega) hln).mono ?_
          rintro e w' ⟨he, h1, h2⟩
          exact ⟨he, k + 1, by omega, rfl, h1, h2⟩
        · rw [if_neg h10] at hN hS
          refine .bad 11 hS (.inl rfl) ?_ (.inr (.inr hN))
          rw [hN]
          intro w _ h
          refine (wrong_any b w).mono ?_
          rintro e w' ⟨he, rfl⟩
          exact ⟨he, h, Below.refl _ _⟩
  · obtain rfl : k = src.size := by omega
    have hd : (bs src).drop src.size = [] := List.drop_eq_nil_of_le (by rw [bs_len]; exact Nat.le_refl _)
    exact .done (by rw [hd]; rfl) (by rw [nextFn, hd])
def joinT (ts : List Lx.Tok) : Except (Nat × Nat) (List Lx.Tok) → Except (Nat × Nat) (List Lx.Tok)
  | .ok us => .ok (ts ++ us)
  | .error e => .error e
theorem joinT_pre (ts : List Lx.Tok) (t : Lx.Tok) (r : Except (Nat × Nat) (List Lx.Tok)) : joinT ts (Lx.pre t r) = joinT (ts ++ [t]) r := by
  cases r <;> simp [joinT, Lx.pre]
theorem Scn.start (src : ByteArray) (w : World) : Scn w.heap.size src 0 1 [] (w.alloc (.cells #[.string src, .int .i64 0, .int .i64 1, .slice none 0 0] 80)) := by
  refine ⟨.slice none 0 0, heap_alloc_new _ _, rfl, .inl ⟨rfl, rfl⟩⟩
/-- A slice value that begins at its block's head. -/
def Z0 (v : Value) : Prop := ∀ b off sp n cap, v = .slice (some ⟨b, off, sp⟩) n cap → off = 0 ∧ sp = none
/-- What the scanner's slice is. -/
theorem Scn.out {b : Nat} {src : ByteArray} {k ln : Nat} {ts : List Lx.Tok} {w : World} (h : Scn b src k ln ts w) (hm : ts.length ≤ maxLen) : ∃ v, w.cell? ⟨b, 3, none⟩ = some v ∧ TS w v ts ∧ Z0 v := by
  obtain ⟨v, hb, ho⟩ := h
  refine ⟨v, by simp [World.cell?, hb], TS.of_own ho hm, ?_⟩
  rintro b off sp n cap rfl
  rcases ho.2 with ⟨h, _⟩ | ⟨g, cap, cur, h, _⟩
  · cases h
  · cases h; exact ⟨rfl, rfl⟩
/-- What Lex comes to. -/
def LexPost (r : Except (Nat × Nat) (List Lx.Tok)) (w : World) (e : Ending) (w' : World) : Prop :=
  match r with
  | .ok ts => ∃ v, e = .returned (.tuple #[v, .int .i64 0, .int .i64 0]) ∧ TS w' v ts ∧ Z0 v ∧ Below w.heap.size w w'
  | .error x => e = .returned (.tuple #[.slice none 0 0, .int .i64 x.1, .int .i64 x.2]) ∧ Below w.heap.size w w'
def Open (src : ByteArray) (G : Except (Nat × Nat) (List Lx.Tok)) (k ln : Nat) (ts : List Lx.Tok) : Prop := ts.length ≤ k ∧ (∀ t ∈ ts, t.kind < 4) ∧ G = joinT ts (Lx.lex ((bs src).drop k) ln)
def Shut2 (G : Except (Nat × Nat) (List Lx.Tok)) (k ln : Nat) (ts : List Lx.Tok) : Prop := ts.length ≤ k + 1 ∧ G = .ok ts ∧ ∃ ts', ts = ts' ++ [⟨4, [], 0, ln⟩]
/-- How many tokens there are. -/
def countOf (b : Nat) (w : World) : Nat := match w.cell? ⟨b, 3, none⟩ with | some (.slice _ n _) => n | _ => 0
theorem Scn.count {b : Nat} {src : ByteArray} {k ln : Nat} {ts : List Lx.Tok} {w : World} (h : Scn b src k ln ts w) (hm : ts.length ≤ maxLen) : countOf b w = ts.length := by
  obtain ⟨v, hv, ⟨a, cap, rfl, _⟩, _⟩ := h.out hm
  rw [countOf, hv]
theorem Open.last {src : ByteArray} {G : Except (Nat × Nat) (List Lx.Tok)} {k ln : Nat} {ts : List Lx.Tok} (h : Open src G k ln ts) (i : Nat) (hi : i < ts.length) : ts[i].kind < 4 := h.2.1 _ (List.getElem_mem _)

theorem Scn.last {b : Nat} {src : ByteArray} {k ln : Nat} {ts : List Lx.Tok} {w : World} (h : Scn b src k ln ts w) (hm : ts.length ≤ 20001) (hz : 0 < ts.length) (P : Nat → Prop) (hP : P (ts[ts.length - 1]'(by omega)).kind) :
    ∃ n kd g off cap : Nat, Hid (n = ts.length) ∧ 1 ≤ n ∧ n ≤ 20001 ∧ P kd ∧ n ≤ cap ∧ cap ≤ maxLen ∧ w.cell? ⟨b, 3, none⟩ = some (.slice (some ⟨g, off, none⟩) n cap) ∧ w.cell? ⟨g, off + (n - 1) * 4, none⟩ = some (.int .i64 kd) := by
  obtain ⟨v, c3, ⟨a, cap, rfl, -, -, hnc, hcm, hcells⟩, -⟩ := h.out (by unfold maxLen; omega)
  obtain ⟨g, off, rfl, q1, -, -, -⟩ := hcells (ts.length - 1) (by omega)
  exact ⟨ts.length, _, g, off, cap, Lib.hid rfl, by omega, by omega, hP, hnc, hcm, c3, q1⟩
theorem Shut2.last {G : Except (Nat × Nat) (List Lx.Tok)} {k ln : Nat} {ts : List Lx.Tok} (h : Shut2 G k ln ts) : ∃ hz : 0 < ts.length, (ts[ts.length - 1]'(by omega)).kind = 4 := by
  obtain ⟨-, -, ts', rfl⟩ := h
  refine ⟨by simp, ?_⟩
  simp
theorem open_start (src : ByteArray) {G : Except (Nat × Nat) (List Lx.Tok)} (h : G = Lx.lex (bs src) 1) : Open src G 0 1 [] := by
  refine ⟨by simp, by simp, ?_⟩
  rw [h, List.drop_zero]; cases Lx.lex (bs src) 1 <;> rfl

end Go.Proofs.YtnccndfffmaonaaGreatDoor
/- Walks of package lex: Lex. -/
namespace Go.Proofs.YtnccndfffmaonaaGreatDoor
set_option linter.unusedSimpArgs false
open Go.RowKit

theorem skip_le {src : ByteArray} {k k1 : Nat} (hk : k ≤ src.size) (hk1 : k1 ≤ src.size) (h : Lx.skip false ((bs src).drop k) = (bs src).drop k1) : k ≤ k1 := by
  have := Lx.skip_len false ((bs src).drop k)
  rw [h, List.length_drop, List.length_drop, bs_len] at this; omega
theorem tok_lt {src : ByteArray} {k1 m kd : Nat} {t rest : List UInt8} {n : Int} (hk1 : k1 ≤ src.size) (hm : m ≤ src.size) (h : Lx.step ((bs src).drop k1) = .tok kd t n rest) (hr : rest = (bs src).drop m) : k1 < m := by
  have := Lx.step_len h
  rw [hr, List.length_drop, List.length_drop, bs_len] at this; omega
theorem open_done {src : ByteArray} {G : Except (Nat × Nat) (List Lx.Tok)} {k k1 ln : Nat} {ts : List Lx.Tok} (h : Open src G k ln ts) (hk : k ≤ k1) (hs : Lx.skip false ((bs src).drop k) = (bs src).drop k1) (hst : Lx.step ((bs src).drop k1) = .done) : Shut2 G k1 ln (ts ++ [⟨4, [], 0, ln⟩]) := by
  obtain ⟨h1, h2, h3⟩ := h
  refine ⟨by simp; omega, ?_, ts, rfl⟩
  rw [h3, Lx.lex_done ln (by rw [hs, hst])]; rfl
theorem open_bad {src : ByteArray} {G : Except (Nat × Nat) (List Lx.Tok)} {k k1 ln n : Nat} {ts : List Lx.Tok} (h : Open src G k ln ts) (hs : Lx.skip false ((bs src).drop k) = (bs src).drop k1) (hst : Lx.step ((bs src).drop k1) = .bad n) : G = .error (n, ln) := by
  rw [h.2.2, Lx.lex_bad ln (by rw [hs, hst])]; rfl
theorem open_tok {src : ByteArray} {G : Except (Nat × Nat) (List Lx.Tok)} {k k1 m ln kd : Nat} {t rest : List UInt8} {n : Int} {ts : List Lx.Tok} (h : Open src G k ln ts) (hk : k ≤ k1) (hm : k1 < m) (hkd : kd < 4) (hs : Lx.skip false ((bs src).drop k) = (bs src).drop k1) (hst : Lx.step ((bs src).drop k1) = .tok kd t n rest) (hr : rest = (bs src).drop m) : Open src G m (Lx.nl kd ln) (ts ++ [⟨kd, t, n, ln⟩]) := by
  obtain ⟨h1, h2, h3⟩ := h
  refine ⟨by simp; omega, ?_, ?_⟩
  · intro x hx
    rcases List.mem_append.1 hx with hx | hx
    · exact h2 x hx
    · obtain rfl := List.mem_singleton.1 hx; exact hkd
  · rw [h3, Lx.lex_tok ln (by rw [hs, hst]), joinT_pre, hr]
theorem nl_le {kd ln k m : Nat} (h : ln ≤ k + 1) (hm : k < m) : Lx.nl kd ln ≤ m + 1 := by unfold Lx.nl; split <;> omega
theorem lex_round {b : Nat} {src : ByteArray} {k k' ln ln' : Nat} {ts : List Lx.Tok} {t : Lx.Tok} {w w' : World} (h : Scn b src k ln ts w) (h' : Scn b src k' ln' (ts ++ [t]) w') (hl : ts.length ≤ src.size) (hs : src.size ≤ 20000) : src.size + 2 - countOf b w' < src.size + 2 - countOf b w := by
  rw [h.count (by unfold maxLen; omega), h'.count (by rw [List.length_append, List.length_singleton]; unfold maxLen; omega), List.length_append, List.length_singleton]; omega
theorem LexPost.fine {G : Except (Nat × Nat) (List Lx.Tok)} {w w' : World} {v : Value} {ts : List Lx.Tok} (hG : G = .ok ts) (h1 : TS w' v ts) (hz : Z0 v) (h2 : Below w.heap.size w w') : LexPost G w (.returned (.tuple #[v, .int .i64 0, .int .i64 0])) w' := by
  subst hG; exact ⟨v, rfl, h1, hz, h2⟩
theorem LexPost.bad {G : Except (Nat × Nat) (List Lx.Tok)} {w w' : World} {n ln : Nat} {z : Int} (hG : G = .error (n, ln)) (hz : z = (n : Int)) (h2 : Below w.heap.size w w') : LexPost G w (.returned (.tuple #[.slice none 0 0, .int .i64 z, .int .i64 ln])) w' := by
  subst hG hz; exact ⟨rfl, h2⟩

set_option maxRecDepth 100000 in
set_option maxHeartbeats 64000000 in
theorem Lex_any (src : ByteArray) (w : World) (hE : Env w) (hs : src.size ≤ 20000) :
    Calls Tryz.prog 17 #[.string src] w (LexPost (Lx.lex (bs src) 1) w) := by
  obtain ⟨G, hG⟩ : ∃ G, G = Lx.lex (bs src) 1 := ⟨_, rfl⟩
  rw [← hG]
  have HG := Lib.hid hG
  have HE := Lib.hid hE
  have H0 := Lib.hid (Scn.start src w)
  have h20 : decide ((20000 : Int) < (src.size : Int)) = false := decide_eq_false (by omega)
  clear hG hE
  go_enter Tryz.func17, Tryz.ntmps17
  go_wp2_with fail
  go_loopw [] (fun wr => ∃ (k ln : Nat) (ts : List Lx.Tok), k ≤ src.size ∧ ln ≤ k + 1 ∧ Hid (Scn w.heap.size src k ln ts wr) ∧ Hid (Below w.heap.size w wr) ∧ Hid (Open src G k ln ts ∨ Shut2 G k ln ts)) (fun wr => src.size + 2 - countOf w.heap.size wr)
  case atStart => exact ⟨0, 1, [], by omega, by omega, H0, Lib.hid ((Below.refl _ w).alloc (Nat.le_refl _) _), Lib.hid (.inl (open_start src HG.out))⟩
  case round =>
    obtain ⟨k, ln, ts, hk, hln, HS, HB, HD⟩ := hrel
    clear H0 HG
    rcases HD.out with ho | hsh
    · have hlen : ts.length ≤ src.size := Nat.le_trans ho.1 hk
      have hlen2 : ts.length ≤ 20000 := Nat.le_trans hlen hs
      by_cases hz : ts.length = 0
      · obtain ⟨v, c3, ⟨a, cap, rfl, -, -, hnc, hcm, -⟩, -⟩ := HS.out.out (by unfold maxLen; omega)
        rw [hz] at c3
        have HO := Lib.hid ho
        clear ho HD hz
        go_wp2_with fail
        go_quiet (fail)
        go_wp2_with fail
        go_at_call 46; refine (skip_any w.heap.size src k ln ts _ (HS.out.drewN _) hk (by omega)).mono ?_; rintro e w1 ⟨rfl, k1, hk1, hsk, s1, b1⟩
        have S1 := Lib.hid s1
        have B1 := Lib.hid ((HB.out.trans (below_drewN _ _ _)).trans b1)
        have hkk := skip_le hk hk1 hsk
        have HSK := Lib.hid hsk
        clear s1 b1 hsk
        have hnx := nx_of w.heap.size src k1 ln ts w hk1 (by omega) (by omega) (by omega)
        have hnext := fun W h => next_any w.heap.size src k1 ln ts W h hk1
        simp only [meth] at hnext
        generalize nextFn src k1 = f at hnx hnext
        cases hnx with
        | done hst hf =>
          subst hf
          have HX := Lib.hid hnext
          have HDN := Lib.hid (open_done HO.out hkk HSK.out hst)
          clear hnext hst
          go_wp2_with fail
          go_at_call 47; refine (HX.out _ S1.out).mono ?_; rintro e w2 ⟨rfl, hm2⟩
          have S2 := Lib.hid (S1.out.same hm2)
          have B2 := Lib.hid (below_same B1.out hm2)
          have HE2 := Lib.hid (HE.out.below B2.out)
          clear hm2
          go_wp2_with fail
          refine (end_any w.heap.size src k1 ln ts _ S2.out (by omega)).mono ?_; rintro e w3 ⟨rfl, s3, b3⟩
          have S3 := Lib.hid s3
          have B3 := Lib.hid (B2.out.trans b3)
          clear s3 b3
          go_wp2_with fail
          go_roundw
          case rel => exact ⟨k1, ln, _, hk1, by omega, S3, B3, Lib.hid (.inr HDN.out)⟩
          case measure => exact lex_round HS.out S3.out hlen hs
        | bad z hst hz hc hf =>
          have HDN := Lib.hid (open_bad HO.out HSK.out hst)
          clear hst
          rcases hf with rfl | rfl | rfl
          all_goals
            have HX := Lib.hid hnext
            have HC := Lib.hid hc
            clear hnext hc
            rcases hz with rfl | rfl
            all_goals
              go_wp2_with fail
              go_at_call 47; refine (HX.out _ S1.out).mono ?_; rintro e w2 ⟨rfl, hm2⟩
              have S2 := Lib.hid (S1.out.same hm2)
              have B2 := Lib.hid (below_same B1.out hm2)
              have HE2 := Lib.hid (HE.out.below B2.out)
              clear hm2
              go_wp2_with fail
              refine (HC.out _ HE2.out S2.out).mono ?_; rintro e w3 ⟨rfl, s3, b3⟩
              have c2 := s3.c2
              have B3 := Lib.hid (B2.out.trans b3)
              clear s3 b3
              go_wp2_with fail
              go_quiet (fail)
              go_wp2_with fail
              go_ret3
              exact LexPost.bad HDN.out rfl (B3.out.trans (below_drewN _ _ _))
        | tok kd t nn rest hst hkd4 hc hf =>
          have HST := Lib.hid hst
          have HC := Lib.hid hc
          clear hst hc
          rcases hf with rfl | rfl | rfl
          all_goals
            have HX := Lib.hid hnext
            clear hnext
            go_wp2_with fail
            go_at_call 47; refine (HX.out _ S1.out).mono ?_; rintro e w2 ⟨rfl, hm2⟩
            have S2 := Lib.hid (S1.out.same hm2)
            have B2 := Lib.hid (below_same B1.out hm2)
            have HE2 := Lib.hid (HE.out.below B2.out)
            clear hm2
            go_wp2_with fail
            refine (HC.out _ HE2.out S2.out).mono ?_; rintro e w3 ⟨rfl, m, hm, hr, s3, b3⟩
            have hkm := tok_lt hk1 hm HST.out hr
            have HDN := Lib.hid (open_tok HO.out hkk hkm hkd4 HSK.out HST.out hr)
            have S3 := Lib.hid s3
            have B3 := Lib.hid (B2.out.trans b3)
            clear s3 b3 hr
            go_wp2_with fail
            go_roundw
            case rel => exact ⟨m, Lx.nl kd ln, _, hm, nl_le (k := k1) (by omega) hkm, S3, B3, Lib.hid (.inl HDN.out)⟩
            case measure => exact lex_round HS.out S3.out hlen hs
      · obtain ⟨n, kd0, g, off, cap, HN, hn1, hn2, hkd, hnc, hcm, c3, q1⟩ := HS.out.last (by omega) (by omega) (· < 4) (ho.last _ (by omega))
        have t1 : ((n : Int) == 0) = false := beq_eq_false_iff_ne.2 (by omega)
        have t2 : IntKind.i64.wrap ((n : Int) - 1) = (n : Int) - 1 := by rw [IntWalk.i64_in _ (by omega)]
        have t3 : (0 : Int) ≤ (n : Int) - 1 := by omega
        have t4 : (n : Int) - 1 < (n : Int) := by omega
        have t5 : ((n : Int) - 1).toNat = n - 1 := by omega
        have t6 : ((kd0 : Int) == 4) = false := beq_eq_false_iff_ne.2 (by omega)
        have t7 : ((kd0 : Int) != 4) = true := by rw [bne, t6]; rfl
        have HO := Lib.hid ho
        clear ho HD hz
        go_wp2_with fail
        go_quiet (fail)
        go_wp2_with fail
        go_at_call 46; refine (skip_any w.heap.size src k ln ts _ (HS.out.drewN _) hk (by omega)).mono ?_; rintro e w1 ⟨rfl, k1, hk1, hsk, s1, b1⟩
        have S1 := Lib.hid s1
        have B1 := Lib.hid ((HB.out.trans (below_drewN _ _ _)).trans b1)
        have hkk := skip_le hk hk1 hsk
        have HSK := Lib.hid hsk
        clear s1 b1 hsk
        have hnx := nx_of w.heap.size src k1 ln ts w hk1 (by omega) (by omega) (by omega)
        have hnext := fun W h => next_any w.heap.size src k1 ln ts W h hk1
        simp only [meth] at hnext
        generalize nextFn src k1 = f at hnx hnext
        cases hnx with
        | done hst hf =>
          subst hf
          have HX := Lib.hid hnext
          have HDN := Lib.hid (open_done HO.out hkk HSK.out hst)
          clear hnext hst
          go_wp2_with fail
          go_at_call 47; refine (HX.out _ S1.out).mono ?_; rintro e w2 ⟨rfl, hm2⟩
          have S2 := Lib.hid (S1.out.same hm2)
          have B2 := Lib.hid (below_same B1.out hm2)
          have HE2 := Lib.hid (HE.out.below B2.out)
          clear hm2
          go_wp2_with fail
          refine (end_any w.heap.size src k1 ln ts _ S2.out (by omega)).mono ?_; rintro e w3 ⟨rfl, s3, b3⟩
          have S3 := Lib.hid s3
          have B3 := Lib.hid (B2.out.trans b3)
          clear s3 b3
          go_wp2_with fail
          go_roundw
          case rel => exact ⟨k1, ln, _, hk1, by omega, S3, B3, Lib.hid (.inr HDN.out)⟩
          case measure => exact lex_round HS.out S3.out hlen hs
        | bad z hst hz hc hf =>
          have HDN := Lib.hid (open_bad HO.out HSK.out hst)
          clear hst
          rcases hf with rfl | rfl | rfl
          all_goals
            have HX := Lib.hid hnext
            have HC := Lib.hid hc
            clear hnext hc
            rcases hz with rfl | rfl
            all_goals
              go_wp2_with fail
              go_at_call 47; refine (HX.out _ S1.out).mono ?_; rintro e w2 ⟨rfl, hm2⟩
              have S2 := Lib.hid (S1.out.same hm2)
              have B2 := Lib.hid (below_same B1.out hm2)
              have HE2 := Lib.hid (HE.out.below B2.out)
              clear hm2
              go_wp2_with fail
              refine (HC.out _ HE2.out S2.out).mono ?_; rintro e w3 ⟨rfl, s3, b3⟩
              have c2 := s3.c2
              have B3 := Lib.hid (B2.out.trans b3)
              clear s3 b3
              go_wp2_with fail
              go_quiet (fail)
              go_wp2_with fail
              go_ret3
              exact LexPost.bad HDN.out rfl (B3.out.trans (below_drewN _ _ _))
        | tok kd t nn rest hst hkd4 hc hf =>
          have HST := Lib.hid hst
          have HC := Lib.hid hc
          clear hst hc
          rcases hf with rfl | rfl | rfl
          all_goals
            have HX := Lib.hid hnext
            clear hnext
            go_wp2_with fail
            go_at_call 47; refine (HX.out _ S1.out).mono ?_; rintro e w2 ⟨rfl, hm2⟩
            have S2 := Lib.hid (S1.out.same hm2)
            have B2 := Lib.hid (below_same B1.out hm2)
            have HE2 := Lib.hid (HE.out.below B2.out)
            clear hm2
            go_wp2_with fail
            refine (HC.out _ HE2.out S2.out).mono ?_; rintro e w3 ⟨rfl, m, hm, hr, s3, b3⟩
            have hkm := tok_lt hk1 hm HST.out hr
            have HDN := Lib.hid (open_tok HO.out hkk hkm hkd4 HSK.out HST.out hr)
            have S3 := Lib.hid s3
            have B3 := Lib.hid (B2.out.trans b3)
            clear s3 b3 hr
            go_wp2_with fail
            go_roundw
            case rel => exact ⟨m, Lx.nl kd ln, _, hm, nl_le (k := k1) (by omega) hkm, S3, B3, Lib.hid (.inl HDN.out)⟩
            case measure => exact lex_round HS.out S3.out hlen hs
    · have hlen2 : ts.length ≤ 20001 := Nat.le_trans hsh.1 (by omega)
      obtain ⟨hpos, hl4⟩ := hsh.last
      obtain ⟨n, kd0, g, off, cap, HN, hn1, hn2, hkd, hnc, hcm, c3, q1⟩ := HS.out.last (by omega) (by omega) (· = 4) hl4
      have t1 : ((n : Int) == 0) = false := beq_eq_false_iff_ne.2 (by omega)
      have t2 : IntKind.i64.wrap ((n : Int) - 1) = (n : Int) - 1 := by rw [IntWalk.i64_in _ (by omega)]
      have t3 : (0 : Int) ≤ (n : Int) - 1 := by omega
      have t4 : (n : Int) - 1 < (n : Int) := by omega
      have t5 : ((n : Int) - 1).toNat = n - 1 := by omega
      subst hkd
      have HO := Lib.hid hsh
      obtain ⟨v, c3', hts, hz0⟩ := HS.out.out (by unfold maxLen; omega)
      obtain rfl := Option.some.inj (c3'.symm.trans c3)
      have HT := Lib.hid hts
      have HZ := Lib.hid hz0
      clear hz0
      clear hsh HD hl4 c3' hts
      go_wp2_with fail
      go_quiet (fail)
      go_wp2_with fail
      go_ret3
      exact LexPost.fine HO.out.2.1 (HT.out.keep (below_drewN _ _ _)) HZ.out (HB.out.trans (below_drewN _ _ _))
end Go.Proofs.YtnccndfffmaonaaGreatDoor
