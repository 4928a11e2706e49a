/- Parts DrL, DrQ, DrR of this claim, laid one behind the other: walks and the plain laws behind them; each contract states its own conditions. -/
import Derived.Test.YtnccndfffmaonaaGreatDoorZH
import Derived.Test.YtnccndfffmaonaaGreatDoorZA
/- Walks of package draft: line. -/
namespace Go.Proofs.YtnccndfffmaonaaGreatDoor
set_option linter.unusedSimpArgs false
set_option linter.unusedVariables false
open Go.RowKit Go.Maps

theorem Tryz.zeroInt (w : World) : (zeroValue 3).run Tryz.prog w = .ok (.int .i64 0) w := by kernel_rfl
theorem key_word (t : List UInt8) (h : t.length ≤ maxLen) : keyOf Tryz.prog 9 (.string ⟨t.toArray⟩) = some (.string t) := by
  have := WideMaps.keyOf_string_mk (P := Tryz.prog) (k := 9) Tryz.underlying9 (s := ⟨t.toArray⟩) (by rw [← bs_len, bs_lit0]; exact h)
  rw [this]
/-- What line comes to. -/
def LinePost (b : Nat) (w : World) (ln0 : Nat) (R : Except (Nat × Nat) (Dr.Draft × List Lx.Tok)) (e : Ending) (w' : World) : Prop :=
  match R with
  | .ok x => e = .returned (.int .i64 0) ∧ PR b w' x.1 x.2 ∧ EndT x.2 ∧ Below b w w'
  | .error x => e = .returned (.int .i64 x.1) ∧ Below b w w' ∧ ((x.1 = 6 ∧ x.2 = ln0) ∨ (x.1 = 11 ∧ ∃ dv iv us, PT b dv iv w' us ∧ EndT us ∧ Dr.lineOf us = x.2))
theorem PR.below {b : Nat} {w w' : World} {d : Dr.Draft} {ts : List Lx.Tok} (h : PR b w d ts) (hb : Below w.heap.size w w') : PR b w' d ts := h.nb (NB.of_below hb) (hb.block b h.cells)
theorem PR.pt {b : Nat} {w : World} {d : Dr.Draft} {ts : List Lx.Tok} (h : PR b w d ts) : ∃ dv iv, PT b dv iv w ts := by
  obtain ⟨lv, dv, iv, h1, h2, -⟩ := h
  exact ⟨dv, iv, lv, h1, h2⟩

set_option maxRecDepth 100000 in
set_option maxHeartbeats 16000000 in
theorem line_lf (b : Nat) (d : Dr.Draft) (t : Lx.Tok) (r : List Lx.Tok) (w : World) (h : PR b w d (t :: r)) (hk : t.kind = 3) :
    Calls Tryz.prog 20 #[.pointer (some ⟨b, 0, none⟩)] w fun e w' => e = .returned (.int .i64 0) ∧ Below w.heap.size w w' := by
  have hlt := h.cells
  obtain ⟨lv, dv, iv, h0, hT, hD, hI⟩ := h
  obtain ⟨g, off, n, cap, rfl, hg, hn, hn1, hn2, hnc, hcm, q0, q1, q2, q3⟩ := hT.head
  have c0 : w.cell? ⟨b, 0, none⟩ = some (.slice (some ⟨g, off, none⟩) n cap) := cell_of_heap h0 0 rfl
  rw [hk] at q0
  have q4 : w.cell? ⟨g, off, none⟩ = some (.int .i64 3) := q0
  clear h0 hT hD hI hk q0
  go_enter Tryz.func20, Tryz.ntmps20
  go_wp2_with fail
  go_ret
  exact ⟨rfl, (Below.refl _ _).alloc (Nat.le_refl _) _⟩
set_option maxRecDepth 100000 in
set_option maxHeartbeats 16000000 in
theorem line_other (b : Nat) (d : Dr.Draft) (t : Lx.Tok) (r : List Lx.Tok) (w : World) (h : PR b w d (t :: r)) (hk : t.kind ≠ 3) (hk0 : t.kind ≠ 0) :
    Calls Tryz.prog 20 #[.pointer (some ⟨b, 0, none⟩)] w fun e w' => e = .returned (.int .i64 11) ∧ Below w.heap.size w w' := by
  have hlt := h.cells
  obtain ⟨lv, dv, iv, h0, hT, hD, hI⟩ := h
  obtain ⟨g, off, n, cap, rfl, hg, hn, hn1, hn2, hnc, hcm, q0, q1, q2, q3⟩ := hT.head
  have c0 : w.cell? ⟨b, 0, none⟩ = some (.slice (some ⟨g, off, none⟩) n cap) := cell_of_heap h0 0 rfl
  have e3 : ((t.kind : Int) == 3) = false := beq_eq_false_iff_ne.2 (by omega)
  have e0 : ((t.kind : Int) != 0) = true := by simp; omega
  clear h0 hT hD hI hk hk0
  go_enter Tryz.func20, Tryz.ntmps20
  go_wp2_with fail
  go_ret
  exact ⟨rfl, (Below.refl _ _).alloc (Nat.le_refl _) _⟩

/-! ### what the plain line is, case by case -/
section
variable {d : Dr.Draft} {t : Lx.Tok} {r : List Lx.Tok}
theorem line_deck (hk : t.kind = 0) (h : t.text = Dr.wDeck) : Dr.line d t r = if 4 ≤ d.decks.length then .error (6, t.line) else .ok ({ d with decks := d.decks ++ [[]] }, r) := by
  unfold Dr.line; rw [if_neg (by omega), if_neg (by omega), if_pos h]
theorem line_row (hk : t.kind = 0) (h : t.text = Dr.wRow) : Dr.line d t r = if d.decks = [] then .error (11, t.line)
    else if 4096 ≤ (d.decks.getLastD []).length then .error (6, t.line)
    else match r with
      | [] => .error (11, 0)
      | u :: s => if u.kind ≠ 2 then .error (11, u.line) else if 4096 < u.text.length then .error (6, t.line)
        else .ok ({ d with decks := d.decks.dropLast ++ [d.decks.getLastD [] ++ [u.text]] }, s) := by
  unfold Dr.line; rw [if_neg (by omega), if_neg (by omega), if_neg (by rw [h]; decide), if_pos h]; rfl
theorem line_item (hk : t.kind = 0) (h1 : t.text ≠ Dr.wDeck) (h2 : t.text ≠ Dr.wRow) {k : Nat} (h : Dr.kindOf t.text = some k) : Dr.line d t r = if 5000 ≤ d.items.length then .error (6, t.line)
      else match Dr.fields (Dr.partsOf k) 0 ⟨k, t.line, [], [], []⟩ r with
        | .ok (x, us) => .ok ({ d with items := d.items ++ [x] }, us)
        | .error us => .error (11, Dr.lineOf us) := by
  unfold Dr.line; rw [if_neg (by omega), if_neg (by omega), if_neg h1, if_neg h2, h]; rfl
theorem line_none (hk : t.kind = 0) (h1 : t.text ≠ Dr.wDeck) (h2 : t.text ≠ Dr.wRow) (h : Dr.kindOf t.text = none) : Dr.line d t r = .error (11, t.line) := by
  unfold Dr.line; rw [if_neg (by omega), if_neg (by omega), if_neg h1, if_neg h2, h]
end
theorem LinePost.full {b : Nat} {w w' : World} {ln : Nat} {R : Except (Nat × Nat) (Dr.Draft × List Lx.Tok)} (h : R = .error (6, ln)) (hb : Below b w w') : LinePost b w ln R (.returned (.int .i64 6)) w' := by
  subst h; exact ⟨rfl, hb, .inl ⟨rfl, rfl⟩⟩
theorem LinePost.bad {b : Nat} {w w' : World} {ln l : Nat} {R : Except (Nat × Nat) (Dr.Draft × List Lx.Tok)} {us : List Lx.Tok} {dv iv : Value} (h : R = .error (11, l)) (hl : Dr.lineOf us = l) (hp : PT b dv iv w' us) (he : EndT us) (hb : Below b w w') : LinePost b w ln R (.returned (.int .i64 11)) w' := by
  subst h; exact ⟨rfl, hb, .inr ⟨rfl, dv, iv, us, hp, he, hl⟩⟩
theorem LinePost.ok {b : Nat} {w w' : World} {ln : Nat} {R : Except (Nat × Nat) (Dr.Draft × List Lx.Tok)} {x : Dr.Draft × List Lx.Tok} (h : R = .ok x) (hp : PR b w' x.1 x.2) (he : EndT x.2) (hb : Below b w w') : LinePost b w ln R (.returned (.int .i64 0)) w' := by
  subst h; exact ⟨rfl, hp, he, hb⟩

set_option maxRecDepth 100000 in
set_option maxHeartbeats 64000000 in
theorem line_any (b : Nat) (d : Dr.Draft) (t : Lx.Tok) (r : List Lx.Tok) (w : World) (h : PR b w d (t :: r)) (hE : EndT (t :: r)) (hk : t.kind = 0) (htx : t.text.length ≤ 1000000) :
    Calls Tryz.prog 20 #[.pointer (some ⟨b, 0, none⟩)] w (LinePost b w t.line (Dr.line d t r)) := by
  have hlt := h.cells
  obtain ⟨R, hR⟩ : ∃ R, R = Dr.line d t r := ⟨_, rfl⟩
  rw [← hR]
  have HR := Lib.hid hR
  have HP := Lib.hid h
  have HE := Lib.hid hE
  obtain ⟨lv, dv, iv, h0, hT, hD, hI⟩ := h
  obtain ⟨g, off, n, cap, rfl, hg, hn, hn1, hn2, hnc, hcm, q0, q1, q2, q3⟩ := hT.head
  have c0 : w.cell? ⟨b, 0, none⟩ = some (.slice (some ⟨g, off, none⟩) n cap) := cell_of_heap h0 0 rfl
  have HK := Lib.hid hk
  rw [hk] at q0
  have q4 : w.cell? ⟨g, off, none⟩ = some (.int .i64 0) := q0
  have hgw : g < w.heap.size := by omega
  have hmm := @run_makeMap Tryz.prog
  have hxs : (⟨t.text.toArray⟩ : ByteArray).size ≤ 1000000 := by rw [← bs_len, bs_lit0 t.text]; exact htx
  have hkey0 := key_word t.text (by unfold maxLen; omega)
  have HK0 := Lib.hid hkey0
  clear h0 hT hD hI hk q0 hR hE hkey0
  go_enter Tryz.func20, Tryz.ntmps20
  go_wp2_with fail
  go_at_call 48; refine (forms_any _).mono ?_; rintro e wf ⟨rfl, rfl⟩
  go_wp2_with fail
  have law := string_keyed Tryz.underlying9
  go_loopw [24] (fun iv wr => ∃ k : Nat, k ≤ 6 ∧ iv = .int .i64 k ∧ Hid (wr.ownsMap (H := Unit) Tryz.prog 9 (plainElem Tryz.prog 3) (w.heap.size + 1) k (Dm k)) ∧ Hid (wr.heap[w.heap.size]? = some (.cells #[.int .i64 0, .string ⟨t.text.toArray⟩, .int .i64 t.n, .int .i64 t.line] 42 (0, 0))) ∧ Hid (wr.heap[w.heap.size + 1 + 1]? = some (.cells formsC.toArray 86 (0, 0))) ∧ Hid (Below w.heap.size w wr)) (fun iv _ => 6 - (intOf iv).toNat)
  case atStart =>
    refine ⟨0, by omega, rfl, Lib.hid ?_, Lib.hid ?_, Lib.hid ?_, Lib.hid ?_⟩
    · have := World.ownsMap_made (H := Unit) (w.alloc (.cells #[.int .i64 0, .string ⟨t.text.toArray⟩, .int .i64 t.n, .int .i64 t.line] 42)) Tryz.prog 9 (plainElem Tryz.prog 3)
      have e : (w.alloc (.cells #[.int .i64 0, .string ⟨t.text.toArray⟩, .int .i64 t.n, .int .i64 t.line] 42)).heap.size = w.heap.size + 1 := by simp
      rw [e] at this
      exact this.alloc _
    · exact (heap_alloc_old _ _ (by simp; omega)).trans ((heap_alloc_old _ _ (by simp)).trans (heap_alloc_new _ _))
    · have := heap_alloc_new ((w.alloc (.cells #[.int .i64 0, .string ⟨t.text.toArray⟩, .int .i64 t.n, .int .i64 t.line] 42)).alloc (.map #[] 0)) (.cells formsC.toArray 86)
      simpa using this
    · exact ((((Below.refl _ w).alloc (Nat.le_refl _) _).alloc (by simp) _).alloc (by simp; omega) _)
  case round =>
    obtain ⟨k, hk, rfl, hM, hT, hF, hB⟩ := hrel
    by_cases hk6 : k < 6
    · obtain ⟨w1k, w2k⟩ := word_cell k hk6
      have c1 : wr.cell? ⟨w.heap.size + 1 + 1, k * 2, none⟩ = some (.string ⟨(Dr.wordOf k).toArray⟩) := cell_of_heap hF.out _ w1k
      have c2 : wr.cell? ⟨w.heap.size + 1 + 1, k * 2 + 1, none⟩ = some (.string ⟨(Dr.partsOf k).toArray⟩) := cell_of_heap hF.out _ (forms_cell k hk6)
      have hkk := key_word (Dr.wordOf k) (by unfold maxLen; omega)
      have hlt1 := (Array.getElem?_eq_some_iff.1 hF.out).1
      have wk : (Lit.int .i64 (k : Int)).wf = true := by
        have h1 : IntKind.i64.min = -9223372036854775808 := rfl
        have h2 : IntKind.i64.max = 9223372036854775807 := rfl
        simp [Lit.wf, h1, h2]; omega
      go_wp2_with (at_mapUpdate; refine wpList_mapUpdate_own (H := Unit) _ rfl _ _ _ 82 rfl 9 3 law Tryz.underlying82 _ (w.heap.size + 1) k (Dm k) rfl (hM.out.alloc _) (by unfold maxLen; omega) _ _ _ rfl rfl hkk _ [] (plainElem_int Tryz.underlying3 wk) ?_)
      intro w1 hown1 hgrow1
      have m1 := Lib.hid hown1
      have m2 := Lib.hid ((hgrow1.block w.heap.size (by simp; omega) (by simp)).trans ((heap_alloc_old wr _ (by omega)).trans hT.out))
      have m3 := Lib.hid ((hgrow1.block (w.heap.size + 1 + 1) (by simp; omega) (by simp)).trans ((heap_alloc_old wr _ (by omega)).trans hF.out))
      have m4 := Lib.hid ((hB.out.alloc (by omega) _).grown hgrow1 (by simp; omega) (fun j hj => by cases hj; omega))
      clear hown1 hgrow1 c1 c2
      go_wp2_with fail
      go_roundw
      case rel => exact ⟨k + 1, by omega, by simp, m1, m2, m3, m4⟩
      case measure => simp [intOf]; omega
    · have hk7 := Lib.hid (show k = 6 by omega)
      have hk8 : (6 : Int) ≤ (k : Int) := by omega
      have t1 : wr.cell? ⟨w.heap.size, 1, none⟩ = some (.string ⟨t.text.toArray⟩) := cell_of_heap hT.out 1 rfl
      go_wp2_with (at_lookup; refine wpList_lookup_own_ok_int (H := Unit) _ rfl _ _ 82 rfl 9 3 .i64 law Tryz.underlying82 Tryz.underlying3 (Tryz.zeroInt _) (w.heap.size + 1) k (Dm k) rfl hM.out _ _ rfl HK0.out ?_; intro c hat hwc)
      · have hd : t.text = Dr.wDeck := by have := ‹(t.text == [100, 101, 99, 107]) = true›; simpa [Dr.wDeck] using this
        have hl := line_deck (d := d) (r := r) HK.out hd
        have hb := hB.out.mono (show b ≤ w.heap.size by omega)
        by_cases hf : 4 ≤ d.decks.length
        · rw [if_pos hf] at hl
          have hl := Lib.hid hl
          refine (deck_full b d (t :: r) _ (HP.out.below hB.out) hf).mono ?_; rintro e w2 ⟨rfl, rfl⟩
          go_wp2_with fail
          go_ret
          exact .full (HR.out.trans hl.out) hb
        · rw [if_neg hf] at hl
          have hl := Lib.hid hl
          have he := HE.out.cons (by rw [HK.out]; decide)
          refine (deck_ok b d t r _ (HP.out.below hB.out) (by omega) he.2).mono ?_; rintro e w2 ⟨rfl, p2, b2⟩
          go_wp2_with fail
          go_ret
          exact .ok (HR.out.trans hl.out) p2 he.1 (hb.trans b2)
      · have hd : t.text = Dr.wRow := by have := ‹(t.text == [114, 111, 119]) = true›; simpa [Dr.wRow] using this
        have hl := line_row (d := d) (r := r) HK.out hd
        have hb := hB.out.mono (show b ≤ w.heap.size by omega)
        have he := HE.out.cons (by rw [HK.out]; decide)
        by_cases hf : d.decks = []
        · rw [if_pos hf] at hl
          have hl := Lib.hid hl
          refine (row_none b d (t :: r) _ (HP.out.below hB.out) hf).mono ?_; rintro e w2 ⟨rfl, rfl⟩
          go_wp2_with fail
          go_ret
          obtain ⟨dv2, iv2, hp2⟩ := (HP.out.below hB.out).pt
          exact .bad (HR.out.trans hl.out) rfl hp2 HE.out hb
        rw [if_neg hf] at hl
        by_cases h4 : 4096 ≤ (d.decks.getLastD []).length
        · rw [if_pos h4] at hl
          have hl := Lib.hid hl
          refine (row_full b d (t :: r) _ (HP.out.below hB.out) hf h4).mono ?_; rintro e w2 ⟨rfl, rfl⟩
          go_wp2_with fail
          go_ret
          exact .full (HR.out.trans hl.out) hb
        rw [if_neg h4] at hl
        obtain ⟨u, s, rfl⟩ := he.1.ne
        have hl : Dr.line d t (u :: s) = if u.kind ≠ 2 then .error (11, u.line) else if 4096 < u.text.length then .error (6, t.line) else .ok ({ d with decks := d.decks.dropLast ++ [d.decks.getLastD [] ++ [u.text]] }, s) := hl
        by_cases hk2 : u.kind = 2
        · rw [if_neg (by omega)] at hl
          have he2 := he.1.cons (by rw [hk2]; decide)
          by_cases hx : 4096 < u.text.length
          · rw [if_pos hx] at hl
            have hl := Lib.hid hl
            refine (row_long b d t u s _ (HP.out.below hB.out) hf (by omega) hk2 he2.2 hx).mono ?_; rintro e w2 ⟨rfl, n2⟩
            go_wp2_with fail
            go_ret
            exact .full (HR.out.trans hl.out) (hb.trans (n2.below (Nat.le_refl _) (by have := hB.out.size; omega)))
          · rw [if_neg hx] at hl
            have hl := Lib.hid hl
            refine (row_ok b d t u s _ (HP.out.below hB.out) hf (by omega) hk2 he2.2 (by omega)).mono ?_; rintro e w2 ⟨rfl, p2, b2⟩
            go_wp2_with fail
            go_ret
            exact .ok (HR.out.trans hl.out) p2 he2.1 (hb.trans b2)
        · rw [if_pos hk2] at hl
          have hl := Lib.hid hl
          refine (row_bad b d t u s _ (HP.out.below hB.out) hf (by omega) hk2).mono ?_; rintro e w2 ⟨rfl, n2, p2⟩
          go_wp2_with fail
          go_ret
          obtain ⟨dv2, iv2, hp2⟩ := p2.pt
          exact .bad (HR.out.trans hl.out) rfl hp2 he.1 (hb.trans (n2.below (Nat.le_refl _) (by have := hB.out.size; omega)))
      · have h1 : t.text ≠ Dr.wDeck := by have := ‹(t.text == [100, 101, 99, 107]) = false›; intro e; rw [e] at this; revert this; decide
        have h2 : t.text ≠ Dr.wRow := by have := ‹(t.text == [114, 111, 119]) = false›; intro e; rw [e] at this; revert this; decide
        have hh : has (Dm k) (.string t.text) = true := ‹_›
        have hb := hB.out.mono (show b ≤ w.heap.size by omega)
        rw [hk7.out] at hh hat
        cases hq : Dr.kindOf t.text with
        | none => rw [Dm_none hq] at hh; cases hh
        | some q =>
          have he := HE.out.cons (by rw [HK.out]; decide)
          have hq6 := (kindOf_some hq).1
          rw [(Dm_some hq (.lit (.int .i64 0))).2] at hat
          injection hat with hat; injection hat with _ hat
          subst hat
          have hl := line_item (d := d) (r := r) HK.out h1 h2 hq
          by_cases hf : 5000 ≤ d.items.length
          · rw [if_pos hf] at hl
            have hl := Lib.hid hl
            refine (item_full b d (t :: r) _ _ (HP.out.below hB.out) hf).mono ?_; rintro e w2 ⟨rfl, rfl⟩
            go_wp2_with fail
            go_ret
            exact .full (HR.out.trans hl.out) hb
          · rw [if_neg hf] at hl
            have hl := Lib.hid hl
            refine (item_any b q d t r _ (HP.out.below hB.out) hq6 (by omega) he.1).mono ?_; rintro e w2 hp2
            obtain ⟨F, hF⟩ : ∃ F, F = Dr.fields (Dr.partsOf q) 0 ⟨q, t.line, [], [], []⟩ r := ⟨_, rfl⟩
            have hl := hl.out
            rw [← hF] at hp2 hl
            cases F with
            | ok x =>
              obtain ⟨rfl, p3, e3, b3⟩ := hp2
              have hl := Lib.hid hl
              clear hF
              go_wp2_with fail
              go_ret
              exact .ok (HR.out.trans hl.out) p3 e3 (hb.trans b3)
            | error us =>
              obtain ⟨rfl, ⟨dv2, iv2, p3⟩, e3, b3⟩ := hp2
              have hl := Lib.hid hl
              clear hF
              go_wp2_with fail
              go_ret
              exact .bad (HR.out.trans hl.out) rfl p3 e3 (hb.trans b3)
      · have h1 : t.text ≠ Dr.wDeck := by have := ‹(t.text == [100, 101, 99, 107]) = false›; intro e; rw [e] at this; revert this; decide
        have h2 : t.text ≠ Dr.wRow := by have := ‹(t.text == [114, 111, 119]) = false›; intro e; rw [e] at this; revert this; decide
        have hh : has (Dm k) (.string t.text) = false := ‹_›
        have hb := hB.out.mono (show b ≤ w.heap.size by omega)
        rw [hk7.out] at hh
        have hq : Dr.kindOf t.text = none := by
          cases hq : Dr.kindOf t.text with
          | none => rfl
          | some q => rw [(Dm_some hq (.lit (.int .i64 0))).1] at hh; cases hh
        have hl := Lib.hid (line_none (d := d) (r := r) HK.out h1 h2 hq)
        go_ret
        obtain ⟨dv2, iv2, hp2⟩ := (HP.out.below hB.out).pt
        exact .bad (HR.out.trans hl.out) rfl hp2 HE.out hb
end Go.Proofs.YtnccndfffmaonaaGreatDoor
/- Walks of package draft: blame, Parse. -/
namespace Go.Proofs.YtnccndfffmaonaaGreatDoor
set_option linter.unusedSimpArgs false
set_option linter.unusedVariables false
open Go.RowKit Go.Maps

/-! ### A draft that is read, not owned -/
/-- The slice value holds these items, the five cells of each. -/
def I5 (w : World) (iv : Value) (l : List (Dr.Item × Value)) : Prop :=
  ∃ a cap, iv = .slice a l.length cap ∧ l.length ≤ maxLen ∧ (a = none → cap = 0) ∧ ∀ i, (h : i < l.length) → ∃ b off, a = some ⟨b, off, none⟩ ∧
    w.cell? ⟨b, off + i * 5, none⟩ = some (.int .i64 l[i].1.kind) ∧ w.cell? ⟨b, off + i * 5 + 1, none⟩ = some (.int .i64 l[i].1.line) ∧ w.cell? ⟨b, off + i * 5 + 2, none⟩ = some (.string ⟨l[i].1.name.toArray⟩) ∧
    w.cell? ⟨b, off + i * 5 + 3, none⟩ = some (.string ⟨l[i].1.other.toArray⟩) ∧ w.cell? ⟨b, off + i * 5 + 4, none⟩ = some l[i].2
def DVd (w : World) (dv : Value) (decks : List (List (List UInt8))) : Prop :=
  ∃ dvs, Sl w dv dvs ∧ dvs.length = decks.length ∧ ∀ i, (h : i < decks.length) → (h' : i < dvs.length) → Sl w dvs[i] (strs decks[i])
/-- A slice is not longer than its capacity. -/
def capOk : Value → Prop
  | .slice _ n cap => n ≤ cap
  | _ => False
def DVi (w : World) (iv : Value) (items : List Dr.Item) : Prop :=
  ∃ l : List (Dr.Item × Value), l.map (·.1) = items ∧ I5 w iv l ∧ ∀ x ∈ l, Sl w x.2 (ints x.1.n) ∧ capOk x.2
/-- The value of a draft. -/
def DV (w : World) (dv iv : Value) (d : Dr.Draft) : Prop := DVd w dv d.decks ∧ DVi w iv d.items
theorem I5.keep {w W : World} {iv : Value} {l : List (Dr.Item × Value)} (h : I5 w iv l) (hb : Below w.heap.size w W) : I5 W iv l := by
  obtain ⟨a, cap, rfl, h1, h2, hc⟩ := h
  refine ⟨a, cap, rfl, h1, h2, fun i hi => ?_⟩
  obtain ⟨b, off, h3, c0, c1, c2, c3, c4⟩ := hc i hi
  have hlt := cell_block_lt c0
  exact ⟨b, off, h3, (hb.cell (p := ⟨b, off + i * 5, none⟩) hlt).trans c0, (hb.cell (p := ⟨b, off + i * 5 + 1, none⟩) hlt).trans c1, (hb.cell (p := ⟨b, off + i * 5 + 2, none⟩) hlt).trans c2, (hb.cell (p := ⟨b, off + i * 5 + 3, none⟩) hlt).trans c3, (hb.cell (p := ⟨b, off + i * 5 + 4, none⟩) hlt).trans c4⟩
theorem DVd.keep {w W : World} {dv : Value} {decks : List (List (List UInt8))} (h : DVd w dv decks) (hb : Below w.heap.size w W) : DVd W dv decks := by
  obtain ⟨dvs, h1, h2, h3⟩ := h
  exact ⟨dvs, h1.below hb, h2, fun i hi hi' => (h3 i hi hi').below hb⟩
theorem DVi.keep {w W : World} {iv : Value} {items : List Dr.Item} (h : DVi w iv items) (hb : Below w.heap.size w W) : DVi W iv items := by
  obtain ⟨l, h1, h2, h3⟩ := h
  exact ⟨l, h1, h2.keep hb, fun x hx => ⟨(h3 x hx).1.below hb, (h3 x hx).2⟩⟩
theorem DV.keep {w W : World} {dv iv : Value} {d : Dr.Draft} (h : DV w dv iv d) (hb : Below w.heap.size w W) : DV W dv iv d := ⟨h.1.keep hb, h.2.keep hb⟩
theorem itemsC_at (l : List (Dr.Item × Value)) (i : Nat) (h : i < l.length) : (itemsC l)[i * 5]? = some (.int .i64 l[i].1.kind) ∧ (itemsC l)[i * 5 + 1]? = some (.int .i64 l[i].1.line) ∧ (itemsC l)[i * 5 + 2]? = some (.string ⟨l[i].1.name.toArray⟩) ∧ (itemsC l)[i * 5 + 3]? = some (.string ⟨l[i].1.other.toArray⟩) ∧ (itemsC l)[i * 5 + 4]? = some l[i].2 := by
  induction l generalizing i with
  | nil => simp at h
  | cons a l ih =>
    have e : itemsC (a :: l) = itemC a.1 a.2 ++ itemsC l := by simp [itemsC]
    have hl : (itemC a.1 a.2).length = 5 := rfl
    cases i with
    | zero => rw [e]; simp [itemC]
    | succ i =>
      obtain ⟨h0, h1, h2, h3, h4⟩ := ih i (by simpa using h)
      rw [e]
      refine ⟨?_, ?_, ?_, ?_, ?_⟩
      · rw [List.getElem?_append_right (by omega), hl, show (i + 1) * 5 - 5 = i * 5 by omega]; exact h0
      · rw [List.getElem?_append_right (by omega), hl, show (i + 1) * 5 + 1 - 5 = i * 5 + 1 by omega]; exact h1
      · rw [List.getElem?_append_right (by omega), hl, show (i + 1) * 5 + 2 - 5 = i * 5 + 2 by omega]; exact h2
      · rw [List.getElem?_append_right (by omega), hl, show (i + 1) * 5 + 3 - 5 = i * 5 + 3 by omega]; exact h3
      · rw [List.getElem?_append_right (by omega), hl, show (i + 1) * 5 + 4 - 5 = i * 5 + 4 by omega]; exact h4
theorem I5.of_own {w : World} {base : Nat} {v : Value} {l : List (Dr.Item × Value)} (h : w.ownsRow base 34 5 v l.length (itemsC l)) (hm : l.length ≤ maxLen) : I5 w v l := by
  rcases h.2 with ⟨rfl, h0⟩ | ⟨g, cap, cur, rfl, hb, hh, hnc, hcm, hcs, ht⟩
  · have h0 : l.length = 0 := h0
    exact ⟨none, 0, by rw [h0], by omega, fun _ => rfl, fun i hi => by omega⟩
  · refine ⟨some ⟨g, 0, none⟩, cap, rfl, hm, fun h => (by cases h), fun i hi => ⟨g, 0, rfl, ?_⟩⟩
    have hc := fun j u hj => h.cells (g := g) rfl j u hj
    have e2 : ∀ j, ((⟨g, 0, none⟩ : Addr).add j) = ⟨g, 0 + j, none⟩ := fun j => by unfold Addr.add; split <;> simp_all
    obtain ⟨h0, h1, h2, h3, h4⟩ := itemsC_at l i hi
    have k0 := hc _ _ h0
    have k1 := hc _ _ h1
    have k2 := hc _ _ h2
    have k3 := hc _ _ h3
    have k4 := hc _ _ h4
    rw [e2] at k0 k1 k2 k3 k4
    exact ⟨k0, k1, k2, k3, k4⟩
theorem own_max {w : World} {base sz : Nat} {e : TypeId} {v : Value} {n : Nat} {xs : List Value} (h : w.ownsRow base e sz v n xs) : n ≤ maxLen := by
  rcases h.2 with ⟨rfl, h0⟩ | ⟨g, cap, cur, rfl, hb, hh, hnc, hcm, hcs, ht⟩
  · subst h0; omega
  · omega
theorem own_capOk {w : World} {base sz : Nat} {e : TypeId} {v : Value} {n : Nat} {xs : List Value} (h : w.ownsRow base e sz v n xs) : capOk v := by
  rcases h.2 with ⟨rfl, h0⟩ | ⟨g, cap, cur, rfl, hb, hh, hnc, hcm, hcs, ht⟩
  · exact Nat.le_refl 0
  · exact hnc
theorem DK.dv {b : Nat} {w : World} {dv : Value} {decks : List (List (List UInt8))} (h : DK b w dv decks) : DVd w dv decks := by
  obtain ⟨dvs, c, h1, h2, h3, h4, h5⟩ := h
  refine ⟨dvs, .of_own h1 (own_max h1), h2, fun i hi hi' => ?_⟩
  by_cases hl : i + 1 < decks.length
  · have := ((h5 i hi hi').1 hl).1
    exact .of_own this (own_max this)
  · have := (h5 i hi hi').2 (by omega)
    exact .of_own this (own_max this)
theorem IT.dv {b : Nat} {w : World} {iv : Value} {items : List Dr.Item} (h : IT b w iv items) : DVi w iv items := by
  obtain ⟨l, h1, h2, h3⟩ := h
  exact ⟨l, h1, .of_own h2 (own_max h2), fun x hx => ⟨.of_own (h3 x hx) (own_max (h3 x hx)), own_capOk (h3 x hx)⟩⟩
theorem DK.nb2 {b k : Nat} {w w' : World} {dv : Value} {decks : List (List (List UInt8))} (h : DK b w dv decks) (hn : NB k w w') (hk : k ≤ b) : DK b w' dv decks := by
  obtain ⟨dvs, c, h1, h2, h3, h4, h5⟩ := h
  refine ⟨dvs, c, hn.row h1 (by omega), h2, h3, Nat.le_trans h4 hn.size, fun i hi hi' => ?_⟩
  obtain ⟨h6, h7⟩ := h5 i hi hi'
  exact ⟨fun h => ⟨hn.row (h6 h).1 (by omega), (h6 h).2⟩, fun h => hn.row (h7 h) (by omega)⟩
theorem IT.nb2 {b k : Nat} {w w' : World} {iv : Value} {items : List Dr.Item} (h : IT b w iv items) (hn : NB k w w') (hk : k ≤ b) : IT b w' iv items := by
  obtain ⟨l, h1, h2, h3⟩ := h
  exact ⟨l, h1, hn.row h2 (by omega), fun x hx => hn.row (h3 x hx) (by omega)⟩

/-! ### line, at any token -/
theorem line_all (b : Nat) (d : Dr.Draft) (t : Lx.Tok) (r : List Lx.Tok) (w : World) (h : PR b w d (t :: r)) (hE : EndT (t :: r)) (htx : t.text.length ≤ 1000000) :
    Calls Tryz.prog 20 #[.pointer (some ⟨b, 0, none⟩)] w (LinePost b w t.line (Dr.line d t r)) := by
  have hlt := h.cells
  by_cases h3 : t.kind = 3
  · refine (line_lf b d t r w h h3).mono ?_
    rintro e w' ⟨rfl, hb⟩
    exact .ok (x := (d, t :: r)) (by unfold Dr.line; rw [if_pos h3]) (h.below hb) hE (hb.mono (by omega))
  by_cases h0 : t.kind = 0
  · exact line_any b d t r w h hE h0 htx
  · refine (line_other b d t r w h h3 h0).mono ?_
    rintro e w' ⟨rfl, hb⟩
    obtain ⟨dv, iv, hp⟩ := (h.below hb).pt
    exact .bad (by unfold Dr.line; rw [if_neg h3, if_pos h0]; rfl) rfl hp hE (hb.mono (by omega))

/-! ### blame -/
set_option maxRecDepth 100000 in
set_option maxHeartbeats 4000000 in
theorem blame_full (b g n cap left : Nat) (ln : Int) (w : World) (hl : left ≤ n) (hl1 : 1 ≤ left) (hn : n ≤ 100000) (hc : w.cell? ⟨g, (n - left) * 4 + 3, none⟩ = some (.int .i64 ln)) :
    Calls Tryz.prog 21 #[.pointer (some ⟨b, 0, none⟩), .slice (some ⟨g, 0, none⟩) n cap, .int .i64 left, .int .i64 6] w fun e w' => e = .returned (.int .i64 ln) ∧ w = w' := by
  obtain ⟨m, hm⟩ : ∃ m, m = n - left := ⟨_, rfl⟩
  rw [← hm] at hc
  have hmI : (n : Int) - (left : Int) = (m : Int) := by omega
  have hmn : m < n := by omega
  have hc2 : w.cell? ⟨g, 0 + m * 4 + 3, none⟩ = some (.int .i64 ln) := by rw [Nat.zero_add]; exact hc
  clear hm
  go_enter Tryz.func21, Tryz.ntmps21
  go_wp2_with fail
  go_ret
  exact ⟨rfl, rfl⟩
set_option maxRecDepth 100000 in
set_option maxHeartbeats 4000000 in
theorem blame_bad (b : Nat) (dv iv lv : Value) (left : Int) (us : List Lx.Tok) (w : World) (h : PT b dv iv w us) (hE : EndT us) :
    Calls Tryz.prog 21 #[.pointer (some ⟨b, 0, none⟩), lv, .int .i64 left, .int .i64 11] w fun e w' => e = .returned (.int .i64 (Dr.lineOf us)) ∧ w = w' := by
  obtain ⟨t, r, rfl⟩ := hE.ne
  have hlt := h.lt
  obtain ⟨lv, h0, hT⟩ := h
  obtain ⟨g, off, n, cap, rfl, hg, hn, hn1, hn2, hnc, hcm, q0, q1, q2, q3⟩ := hT.head
  have c0 : w.cell? ⟨b, 0, none⟩ = some (.slice (some ⟨g, off, none⟩) n cap) := cell_of_heap h0 0 rfl
  unfold Dr.lineOf
  clear h0 hT
  go_enter Tryz.func21, Tryz.ntmps21
  go_wp2_with fail
  go_ret
  exact ⟨rfl, rfl⟩
end Go.Proofs.YtnccndfffmaonaaGreatDoor
/- Walks of package draft: Parse. -/
namespace Go.Proofs.YtnccndfffmaonaaGreatDoor
set_option linter.unusedSimpArgs false
set_option linter.unusedVariables false
open Go.RowKit Go.Maps

/-- What a source is read as. -/
def Dr.read (s : List UInt8) : Except (Nat × Nat) Dr.Draft := match Lx.lex s 1 with
  | .error e => .error e
  | .ok ts => Dr.parse .none ts
def ParsePost (G : Except (Nat × Nat) Dr.Draft) (w : World) (e : Ending) (w' : World) : Prop :=
  match G with
  | .ok d => ∃ dv iv, e = .returned (.tuple #[.agg #[dv, iv], .int .i64 0, .int .i64 0]) ∧ DV w' dv iv d ∧ Below w.heap.size w w'
  | .error x => e = .returned (.tuple #[.agg #[.slice none 0 0, .slice none 0 0], .int .i64 x.1, .int .i64 x.2]) ∧ Below w.heap.size w w'
theorem ParsePost.bad {G : Except (Nat × Nat) Dr.Draft} {z ln : Nat} {w w' : World} {zi li : Int} (hG : G = .error (z, ln)) (hz : zi = z) (hl : li = ln) (hb : Below w.heap.size w w') :
    ParsePost G w (.returned (.tuple #[.agg #[.slice none 0 0, .slice none 0 0], .int .i64 zi, .int .i64 li])) w' := by
  subst hG hz hl; exact ⟨rfl, hb⟩
theorem ParsePost.ok {G : Except (Nat × Nat) Dr.Draft} {d : Dr.Draft} {w w' : World} {dv iv : Value} (hG : G = .ok d) (h : DV w' dv iv d) (hb : Below w.heap.size w w') :
    ParsePost G w (.returned (.tuple #[.agg #[dv, iv], .int .i64 0, .int .i64 0])) w' := by
  subst hG; exact ⟨dv, iv, rfl, h, hb⟩
/-- How many tokens are left. -/
def leftOf (b : Nat) (w : World) : Nat := match w.cell? ⟨b, 0, none⟩ with | some (.slice _ n _) => n | _ => 0
theorem PR.left {b : Nat} {w : World} {d : Dr.Draft} {ts : List Lx.Tok} (h : PR b w d ts) : leftOf b w = ts.length := by
  obtain ⟨lv, dv, iv, h0, hT, hD, hI⟩ := h
  obtain ⟨g, off, cap, rfl, -⟩ := hT
  have c0 : w.cell? ⟨b, 0, none⟩ = some (.slice (some ⟨g, off, none⟩) ts.length cap) := cell_of_heap h0 0 rfl
  unfold leftOf
  rw [c0]
theorem own_none (w : World) (base : Nat) (e : TypeId) (sz : Nat) : w.ownsRow base e sz (.slice none 0 0) 0 [] := ⟨by simp, .inl ⟨rfl, rfl⟩⟩
theorem PR.start {w : World} {g cap : Nat} {ts : List Lx.Tok} (h : TK w g ts) (h1 : 1 ≤ ts.length) (hm : ts.length ≤ 100000) (hc : ts.length ≤ cap) (hx : cap ≤ maxLen) :
    PR w.heap.size (w.alloc (.cells #[.slice (some ⟨g, 0, none⟩) ts.length cap, .slice none 0 0, .slice none 0 0] 50)) .none ts := by
  have hg : g < w.heap.size := cell_lt (h 0 (by omega)).1
  have hk := h.keep ((Below.refl _ w).alloc (Nat.le_refl _) (.cells #[.slice (some ⟨g, 0, none⟩) ts.length cap, .slice none 0 0, .slice none 0 0] 50))
  refine ⟨_, _, _, heap_alloc_new _ _, ⟨g, 0, cap, rfl, hg, hm, hc, hx, fun i hi => ?_⟩, ⟨[], w.heap.size + 1, own_none _ _ _ _, rfl, by omega, by simp, fun i hi => by simp [Dr.Draft.none] at hi⟩, ⟨[], rfl, own_none _ _ _ _, fun x hx => by cases hx⟩⟩
  simp only [Nat.zero_add]
  exact hk i hi
/-- What lies behind the parser's start. -/
structure PS (b : Nat) (toks : List Lx.Tok) (G : Except (Nat × Nat) Dr.Draft) (w2 wr : World) (d : Dr.Draft) (cur : List Lx.Tok) : Prop where
  pr : PR b wr d cur
  suf : ∃ f, toks = f ++ cur
  en : EndT cur
  eq : G = Dr.parse d cur
  bel : Below b w2 wr

set_option maxRecDepth 100000 in
set_option maxHeartbeats 64000000 in
theorem Parse_any (src : ByteArray) (w : World) (hE : Env w) (hs : src.size ≤ 20000) :
    Calls Tryz.prog 9 #[.string src] w (ParsePost (Dr.read (bs src)) w) := by
  obtain ⟨G, hG⟩ : ∃ G, G = Dr.read (bs src) := ⟨_, rfl⟩
  rw [← hG]
  have HE1 := Lib.hid (hE.below ((Below.refl _ w).alloc (Nat.le_refl _) (.cells #[.slice none 0 0, .slice none 0 0] 25)))
  unfold Dr.read at hG
  cases hl : Lx.lex (bs src) 1 with
  | error x =>
    rw [hl] at hG
    have HG := Lib.hid hG
    obtain ⟨z, ln⟩ := x
    have HL := Lib.hid (fun W (hE : Env W) => Lex_err src z ln hl W hE hs)
    have hzc := (Lx.lex_codes _ _ 1 _ (Nat.lt_succ_self _) hl).1
    have hz0 : ((z : Int) != 0) = true := by rcases hzc with rfl | rfl <;> rfl
    clear hG hl hE hzc
    go_enter Tryz.func9, Tryz.ntmps9
    go_wp2_with fail
    go_at_call 17; refine (HL.out _ HE1.out).mono ?_; rintro e w2 ⟨rfl, b2⟩
    have B2 := Lib.hid b2
    have hsz : w.heap.size < w2.heap.size := by have := b2.size; simp at this; omega
    have r0 : w2.heap[w.heap.size]? = some (.cells #[.slice none 0 0, .slice none 0 0] 25 (0, 0)) := (b2.block w.heap.size (by simp)).trans (heap_alloc_new _ _)
    have c0 : w2.cell? ⟨w.heap.size, 0, none⟩ = some (.slice none 0 0) := cell_of_heap r0 0 rfl
    have c1 : w2.cell? ⟨w.heap.size, 1, none⟩ = some (.slice none 0 0) := cell_of_heap r0 1 rfl
    have f0 : w2.frozen? ⟨w.heap.size, 0, none⟩ = false := free_of_heap r0 0
    have f1 : w2.frozen? ⟨w.heap.size, 1, none⟩ = false := free_of_heap r0 1
    clear b2 r0
    go_wp2_with fail
    refine bodyPost_ret (v := .tuple #[.agg #[.slice none 0 0, .slice none 0 0], .int .i64 z, .int .i64 ln]) (by simp [results, Tryz.results9, go_sem, *]) rfl (.bad HG.out rfl rfl ?_)
    exact ((((Below.refl _ w).alloc (Nat.le_refl _) _).trans (B2.out.mono (by simp))).setCell (Nat.le_refl _) _).setCell (Nat.le_refl _) _
  | ok ts =>
    rw [hl] at hG
    have HG := Lib.hid hG
    have HL := Lib.hid (fun W (hE : Env W) => Lex_ok src ts hl W hE hs)
    obtain ⟨k1, ⟨front, m, k2⟩, k3, k4⟩ := Dr.lexed hl
    have k1 : ts.length ≤ 100000 := by rw [bs_len] at k1; omega
    have hne : 1 ≤ ts.length := by rw [k2]; simp
    have HT := Lib.hid (show ∀ t ∈ ts, t.text.length ≤ 1000000 from fun t ht => by have := k3 t ht; rw [bs_len] at this; omega)
    have HEN : Hid (EndT ts) := Lib.hid ⟨front, _, k2, rfl⟩
    obtain ⟨n, hn⟩ : ∃ n, n = ts.length := ⟨_, rfl⟩
    have HN := Lib.hid hn
    rw [← hn] at k1 hne
    clear hG hl hE k2 k3 k4
    have HL := Lib.hid (fun W hE => by have := HL.out W hE; rw [← hn] at this; exact this)
    clear hn
    go_enter Tryz.func9, Tryz.ntmps9
    go_wp2_with fail
    go_at_call 17; refine (HL.out _ HE1.out).mono ?_; rintro e w2 ⟨g, cap, rfl, tk, hnc, hcm, b2⟩
    have B2 := Lib.hid b2
    have hsz : w.heap.size < w2.heap.size := by have := b2.size; simp at this; omega
    have R0 : Hid (w2.heap[w.heap.size]? = some (.cells #[.slice none 0 0, .slice none 0 0] 25 (0, 0))) := Lib.hid ((b2.block w.heap.size (by simp)).trans (heap_alloc_new _ _))
    have TK2 := Lib.hid tk
    have P0 : Hid (PR w2.heap.size (w2.alloc (.cells #[.slice (some ⟨g, 0, none⟩) n cap, .slice none 0 0, .slice none 0 0] 50)) .none ts) := Lib.hid (by rw [HN.out]; exact PR.start tk (by rw [← HN.out]; exact hne) (by rw [← HN.out]; exact k1) (by rw [← HN.out]; exact hnc) hcm)
    clear b2 tk
    go_wp2_with fail
    go_loopw [] (fun wr => ∃ (d : Dr.Draft) (cur : List Lx.Tok), Hid (PS w2.heap.size ts G w2 wr d cur)) (fun wr => leftOf w2.heap.size wr)
    case atStart => exact ⟨_, _, Lib.hid ⟨P0.out, ⟨[], rfl⟩, HEN.out, HG.out, (Below.refl _ w2).alloc (Nat.le_refl _) _⟩⟩
    case round =>
      obtain ⟨d, cur, HS⟩ := hrel
      obtain ⟨t, r, rfl⟩ := HS.out.en.ne
      have hlt := HS.out.pr.cells
      obtain ⟨lv, dv, iv, h0, hT, hD, hI⟩ := HS.out.pr
      obtain ⟨g2, off, n2, cap2, rfl, hg2, hn2, hn21, hn22, hnc2, hcm2, q0, q1, q2, q3⟩ := hT.head
      have c0 : wr.cell? ⟨w2.heap.size, 0, none⟩ = some (.slice (some ⟨g2, off, none⟩) n2 cap2) := cell_of_heap h0 0 rfl
      by_cases h4 : t.kind = 4
      · have hGd := Lib.hid (HS.out.eq.trans (Dr.parse_done d t r h4))
        rw [h4] at q0
        have q4 : wr.cell? ⟨g2, off, none⟩ = some (.int .i64 4) := q0
        have c1 : wr.cell? ⟨w2.heap.size, 1, none⟩ = some dv := cell_of_heap h0 1 rfl
        have c2 : wr.cell? ⟨w2.heap.size, 2, none⟩ = some iv := cell_of_heap h0 2 rfl
        have r0 : wr.heap[w.heap.size]? = some (.cells #[.slice none 0 0, .slice none 0 0] 25 (0, 0)) := (HS.out.bel.block _ hsz).trans R0.out
        have d0 : wr.cell? ⟨w.heap.size, 0, none⟩ = some (.slice none 0 0) := cell_of_heap r0 0 rfl
        have d1 : wr.cell? ⟨w.heap.size, 1, none⟩ = some (.slice none 0 0) := cell_of_heap r0 1 rfl
        have f0 : wr.frozen? ⟨w.heap.size, 0, none⟩ = false := free_of_heap r0 0
        have f1 : wr.frozen? ⟨w.heap.size, 1, none⟩ = false := free_of_heap r0 1
        have hne2 : w.heap.size ≠ w2.heap.size := by omega
        have HD := Lib.hid hD
        have HI := Lib.hid hI
        obtain ⟨da, dn, dc, rfl⟩ : ∃ da dn dc, dv = .slice da dn dc := by
          obtain ⟨dvs, c, hdv, -⟩ := hD
          obtain ⟨a, ca, rfl, -⟩ := own_slice hdv
          exact ⟨_, _, _, rfl⟩
        obtain ⟨ia, im, ic, rfl⟩ : ∃ da dn dc, iv = .slice da dn dc := by
          obtain ⟨l, -, hiv, -⟩ := hI
          obtain ⟨a, ca, rfl, -⟩ := own_slice hiv
          exact ⟨_, _, _, rfl⟩
        clear h0 hT hD hI h4 q0 r0
        go_wp2_with fail
        have HB0 : Hid (Below w.heap.size w wr) := Lib.hid ((((Below.refl _ w).alloc (Nat.le_refl _) _).trans (B2.out.mono (by simp))).trans (HS.out.bel.mono (by omega)))
        (try simp only [Exit.inBlock, Exit.then])
        refine bodyPost_ret (v := .tuple #[.agg #[.slice da dn dc, .slice ia im ic], .int .i64 0, .int .i64 0]) (by simp [results, Tryz.results9, go_sem, *]) rfl (.ok hGd.out ?_ ((HB0.out.setCell (Nat.le_refl _) _).setCell (Nat.le_refl _) _))
        have hnb := ((NB.refl w.heap.size wr).set 0 (.slice da dn dc)).set 1 (.slice ia im ic)
        exact ⟨(HD.out.nb2 hnb (by omega)).dv, (HI.out.nb2 hnb (by omega)).dv⟩
      · have e4 : ((t.kind : Int) != 4) = true := by simp; omega
        have hln : n2 = (t :: r).length := hn2.out
        have H4 := Lib.hid h4
        have HTX : t.text.length ≤ 1000000 := by
          obtain ⟨f, hf⟩ := HS.out.suf
          exact HT.out t (by rw [hf]; simp)
        have HLN : Hid (n2 = (t :: r).length) := hn2
        have HB0 : Hid (Below w.heap.size w wr) := Lib.hid ((((Below.refl _ w).alloc (Nat.le_refl _) _).trans (B2.out.mono (by simp))).trans (HS.out.bel.mono (by omega)))
        clear h0 hT hD hI h4 hln
        go_wp2_with fail
        go_at_call 20; refine (line_all w2.heap.size d t r _ HS.out.pr HS.out.en HTX).mono ?_; rintro e w3 hlp
        obtain ⟨R, hR⟩ : ∃ R, R = Dr.line d t r := ⟨_, rfl⟩
        rw [← hR] at hlp
        cases R with
        | error x =>
          obtain ⟨rfl, b3, hx⟩ := hlp
          have hGe := Lib.hid (HS.out.eq.trans (Dr.parse_err H4.out hR.symm))
          have r0 : w3.heap[w.heap.size]? = some (.cells #[.slice none 0 0, .slice none 0 0] 25 (0, 0)) := (b3.block _ hsz).trans ((HS.out.bel.block _ hsz).trans R0.out)
          have d0 : w3.cell? ⟨w.heap.size, 0, none⟩ = some (.slice none 0 0) := cell_of_heap r0 0 rfl
          have d1 : w3.cell? ⟨w.heap.size, 1, none⟩ = some (.slice none 0 0) := cell_of_heap r0 1 rfl
          have f0 : w3.frozen? ⟨w.heap.size, 0, none⟩ = false := free_of_heap r0 0
          have f1 : w3.frozen? ⟨w.heap.size, 1, none⟩ = false := free_of_heap r0 1
          have HB3 := Lib.hid (HB0.out.trans (b3.mono (by omega)))
          have HB4 := Lib.hid b3
          clear hR r0 b3
          obtain ⟨x, ln⟩ := x
          rcases hx with ⟨hx, hy⟩ | ⟨hx, dv2, iv2, us, hp, hE2, hy⟩
          · dsimp only at hx hy
            subst hx hy
            obtain ⟨f, hf⟩ := HS.out.suf
            have hlf : f.length = n - n2 := by rw [HN.out, HLN.out, hf]; simp
            have hn2n : n2 ≤ n := by rw [HN.out, HLN.out, hf]; simp
            have kc : w3.cell? ⟨g, (n - n2) * 4 + 3, none⟩ = some (.int .i64 t.line) := by
              have h1 := (TK2.out.keep (HS.out.bel.trans HB4.out)) f.length (by rw [hf]; simp)
              rw [← hlf]
              have e : ts[f.length]'(by rw [hf]; simp) = t := by simp [hf]
              rw [e] at h1
              exact h1.2.2.2
            clear hf hlf
            have KC := Lib.hid kc
            clear kc
            go_wp2_with fail
            go_at_call 21; refine (blame_full w2.heap.size g n cap n2 t.line _ hn2n hn21 k1 KC.out).mono ?_; rintro e w4 ⟨rfl, rfl⟩
            go_wp2_with fail
            (try simp only [Exit.inBlock, Exit.then])
            refine bodyPost_ret (v := .tuple #[.agg #[.slice none 0 0, .slice none 0 0], .int .i64 6, .int .i64 t.line]) (by simp [results, Tryz.results9, go_sem, *]) rfl (.bad hGe.out rfl rfl ((HB3.out.setCell (Nat.le_refl _) _).setCell (Nat.le_refl _) _))
          · dsimp only at hx hy
            subst hx hy
            have HPT := Lib.hid hp
            have HEU := Lib.hid hE2
            clear hp hE2
            go_wp2_with fail
            go_at_call 21; refine (blame_bad w2.heap.size dv2 iv2 _ _ us _ HPT.out HEU.out).mono ?_; rintro e w4 ⟨rfl, rfl⟩
            go_wp2_with fail
            (try simp only [Exit.inBlock, Exit.then])
            refine bodyPost_ret (v := .tuple #[.agg #[.slice none 0 0, .slice none 0 0], .int .i64 11, .int .i64 (Dr.lineOf us)]) (by simp [results, Tryz.results9, go_sem, *]) rfl (.bad hGe.out rfl rfl ((HB3.out.setCell (Nat.le_refl _) _).setCell (Nat.le_refl _) _))
        | ok x =>
          obtain ⟨rfl, p3, e3, b3⟩ := hlp
          obtain ⟨d', us⟩ := x
          dsimp only at p3 e3
          have hGo := HS.out.eq.trans (Dr.parse_on H4.out hR.symm)
          obtain ⟨hsuf, hless⟩ := Dr.line_left2 hR.symm
          obtain ⟨u, vs, rfl⟩ := e3.ne
          have hsuf2 : ∃ f, ts = f ++ (u :: vs) := by
            obtain ⟨f, hf⟩ := HS.out.suf
            obtain ⟨f', hf'⟩ := hsuf
            exact ⟨f ++ f', by rw [hf, hf', List.append_assoc]⟩
          have hsufl : (u :: vs).length ≤ (t :: r).length := by
            obtain ⟨f, hf⟩ := hsuf
            rw [hf, List.length_append]; omega
          have HB4 := Lib.hid (HS.out.bel.trans b3)
          have HP3 := Lib.hid p3
          have HE3 := Lib.hid e3
          have HSU := Lib.hid hsuf2
          have HLE := Lib.hid hless
          have HB3 := Lib.hid (HB0.out.trans (b3.mono (by omega)))
          have hsz3 : w2.heap.size < w3.heap.size := p3.cells
          clear hR p3 e3 hsuf hsuf2 hless
          by_cases hu4 : u.kind = 4
          · have HGN := Lib.hid (hGo.trans ((Dr.after_end _ _ _ hu4).trans (Dr.parse_done _ u vs hu4).symm))
            have HU := Lib.hid hu4
            clear hGo hu4
            go_wp2_with fail
            go_at_call 22; refine (closes_end w2.heap.size d' u vs _ HP3.out HU.out).mono ?_; rintro e w4 ⟨rfl, rfl⟩
            go_wp2_with fail
            go_roundw
            case rel => exact ⟨d', u :: vs, Lib.hid ⟨HP3.out, HSU.out, HE3.out, HGN.out, HB4.out⟩⟩
            case measure =>
              rw [HP3.out.left, HS.out.pr.left]
              rcases HLE.out with h | ⟨u', vs', h, h'⟩
              · simp at h ⊢; omega
              · injection h with h1 h2; subst h1; have := HU.out; omega
          by_cases hu3 : u.kind = 3
          · have HGN := Lib.hid (hGo.trans (Dr.after_line _ u vs hu3))
            have HU := Lib.hid hu3
            have hEV := HE3.out.cons (by omega)
            have HEV := Lib.hid hEV.1
            have hv1 := hEV.2
            clear hGo hu3 hu4 hEV
            go_wp2_with fail
            go_at_call 22; refine (closes_line w2.heap.size d' u vs _ HP3.out HU.out hv1).mono ?_; rintro e w4 ⟨rfl, n4, p4⟩
            have HP4 := Lib.hid p4
            have HB5 := Lib.hid (HB4.out.trans (n4.below (Nat.le_refl _) (by omega)))
            clear n4 p4
            go_wp2_with fail
            go_roundw
            case rel =>
              refine ⟨d', vs, Lib.hid ⟨HP4.out, ?_, HEV.out, HGN.out, HB5.out⟩⟩
              obtain ⟨f, hf⟩ := HSU.out
              exact ⟨f ++ [u], by rw [hf]; simp⟩
            case measure =>
              rw [HP4.out.left, HS.out.pr.left]
              rcases HLE.out with h | ⟨u', vs', h, h'⟩
              · simp at h ⊢; omega
              · simp at hsufl ⊢; omega
          · have HGN := Lib.hid (hGo.trans (Dr.after_bad _ u vs hu3 hu4))
            have HU3 := Lib.hid hu3
            have HU4 := Lib.hid hu4
            clear hGo hu3 hu4
            go_wp2_with fail
            go_at_call 22; refine (closes_no w2.heap.size d' u vs _ HP3.out HU3.out HU4.out).mono ?_; rintro e w4 ⟨rfl, n4, h4⟩
            have hp4 := HP3.out.nb n4 h4
            have hb4 := n4.below (Nat.le_refl _) (Nat.le_of_lt hsz3)
            have HB5 := Lib.hid (HB3.out.trans (hb4.mono (by omega)))
            obtain ⟨lv4, dv4, iv4, h04, hT4, -⟩ := hp4
            obtain ⟨g4, off4, m4, cap4, rfl, hg4, hm4, hm41, hm42, hmc4, hmm4, t0, t1, t2, t3⟩ := hT4.head
            have y0 : w4.cell? ⟨w2.heap.size, 0, none⟩ = some (.slice (some ⟨g4, off4, none⟩) m4 cap4) := cell_of_heap h04 0 rfl
            have r0 : w4.heap[w.heap.size]? = some (.cells #[.slice none 0 0, .slice none 0 0] 25 (0, 0)) := (hb4.block _ hsz).trans ((b3.block _ hsz).trans ((HS.out.bel.block _ hsz).trans R0.out))
            have d0 : w4.cell? ⟨w.heap.size, 0, none⟩ = some (.slice none 0 0) := cell_of_heap r0 0 rfl
            have d1 : w4.cell? ⟨w.heap.size, 1, none⟩ = some (.slice none 0 0) := cell_of_heap r0 1 rfl
            have f0 : w4.frozen? ⟨w.heap.size, 0, none⟩ = false := free_of_heap r0 0
            have f1 : w4.frozen? ⟨w.heap.size, 1, none⟩ = false := free_of_heap r0 1
            have hne4 : g4 ≠ w.heap.size ∨ True := .inr trivial
            clear n4 h4 hb4 h04 hT4 r0 b3 t0 t1 t2
            go_wp2_with fail
            go_region
            go_wp2_with fail
            (try simp only [Exit.inBlock, Exit.then])
            refine bodyPost_ret (v := .tuple #[.agg #[.slice none 0 0, .slice none 0 0], .int .i64 11, .int .i64 u.line]) (by simp [results, Tryz.results9, go_sem, *]) rfl (.bad HGN.out rfl rfl ((HB5.out.setCell (Nat.le_refl _) _).setCell (Nat.le_refl _) _).drew)
end Go.Proofs.YtnccndfffmaonaaGreatDoor
