/- Parts LxA, LxC, DrW, DrX, DrV of this claim, laid one behind the other: walks and the plain laws behind them; each contract states its own conditions. -/
import Derived.Test.YtnccndfffmaonaaGreatDoorZE
import Derived.Laws.StructEq
import Derived.Test.YtnccndfffmaonaaGreatDoorZA
import Derived.Deep.RegionLaw
import Derived.Lib.OthersKept
/- What Lex hands back, cell by cell; bad and small of taquinlaw09. -/
namespace Go.Proofs.YtnccndfffmaonaaGreatDoor
set_option linter.unusedSimpArgs false
open Go.RowKit

/-- Block g holds these tokens from its head on. -/
def TK (w : World) (g : Nat) (ts : List Lx.Tok) : Prop := ∀ i, (h : i < ts.length) →
  w.cell? ⟨g, i * 4, none⟩ = some (.int .i64 ts[i].kind) ∧ w.cell? ⟨g, i * 4 + 1, none⟩ = some (.string ⟨ts[i].text.toArray⟩) ∧
  w.cell? ⟨g, i * 4 + 2, none⟩ = some (.int .i64 ts[i].n) ∧ w.cell? ⟨g, i * 4 + 3, none⟩ = some (.int .i64 ts[i].line)
theorem TK.keep {w W : World} {g : Nat} {ts : List Lx.Tok} (h : TK w g ts) (hb : Below w.heap.size w W) : TK W g ts := by
  intro i hi
  obtain ⟨h2, h3, h4, h5⟩ := h i hi
  have hlt := cell_lt h2
  exact ⟨(hb.cell hlt).trans h2, (hb.cell (p := ⟨g, i * 4 + 1, none⟩) hlt).trans h3, (hb.cell (p := ⟨g, i * 4 + 2, none⟩) hlt).trans h4, (hb.cell (p := ⟨g, i * 4 + 3, none⟩) hlt).trans h5⟩
theorem Lex_ok (src : ByteArray) (ts : List Lx.Tok) (h : Lx.lex (bs src) 1 = .ok ts) (w : World) (hE : Env w) (hs : src.size ≤ 20000) :
    Calls Tryz.prog 17 #[.string src] w fun e w' => ∃ g cap, e = .returned (.tuple #[.slice (some ⟨g, 0, none⟩) ts.length cap, .int .i64 0, .int .i64 0]) ∧ TK w' g ts ∧ ts.length ≤ cap ∧ cap ≤ maxLen ∧ Below w.heap.size w w' := by
  have hL := Lex_any src w hE hs
  rw [h] at hL
  refine hL.mono ?_
  rintro e w' ⟨v, rfl, ⟨a, cap, rfl, hm, hn, hc1, hc2, hc⟩, hz, hb⟩
  have hpos : 0 < ts.length := by
    cases ts with
    | nil =>
      have := (Lx.lex_back _ _ h).1
      cases this
    | cons _ _ => simp
  obtain ⟨b, off, rfl, -⟩ := hc 0 hpos
  obtain ⟨rfl, -⟩ := hz _ _ _ _ _ rfl
  refine ⟨b, cap, rfl, ?_, hc1, hc2, hb⟩
  intro i hi
  obtain ⟨b', off', e1, h2, h3, h4, h5⟩ := hc i hi
  cases e1
  simp only [Nat.zero_add] at h2 h3 h4 h5
  exact ⟨h2, h3, h4, h5⟩
theorem Lex_err (src : ByteArray) (z ln : Nat) (h : Lx.lex (bs src) 1 = .error (z, ln)) (w : World) (hE : Env w) (hs : src.size ≤ 20000) :
    Calls Tryz.prog 17 #[.string src] w fun e w' => e = .returned (.tuple #[.slice none 0 0, .int .i64 z, .int .i64 ln]) ∧ Below w.heap.size w w' := by
  have hL := Lex_any src w hE hs
  rw [h] at hL
  exact hL
def src1 : ByteArray := ⟨#[122, 111, 110, 101, 32, 99, 111, 108, 100, 45, 49, 32, 49, 50, 32, 35, 32, 99]⟩
def src2 : ByteArray := ⟨#[114, 111, 119, 32, 34, 35, 35, 46, 80, 34]⟩
theorem lex_1 : Lx.lex (bs src1) 1 = .ok [⟨0, [122, 111, 110, 101], 0, 1⟩, ⟨0, [99, 111, 108, 100, 45, 49], 0, 1⟩, ⟨1, [49, 50], 12, 1⟩, ⟨4, [], 0, 1⟩] := by kernel_rfl
theorem lex_2 : Lx.lex (bs src2) 1 = .ok [⟨0, [114, 111, 119], 0, 1⟩, ⟨2, [35, 35, 46, 80], 0, 1⟩, ⟨4, [], 0, 1⟩] := by kernel_rfl
theorem lex_b1 : Lx.lex [48, 49] 1 = .error (11, 1) := by kernel_rfl
theorem lex_b2 : Lx.lex [49, 97] 1 = .error (11, 1) := by kernel_rfl
theorem lex_b3 : Lx.lex [45, 49] 1 = .error (11, 1) := by kernel_rfl
theorem lex_b4 : Lx.lex [34, 97] 1 = .error (11, 1) := by kernel_rfl

end Go.Proofs.YtnccndfffmaonaaGreatDoor
/- Walks: Same of taquinref09, where the lists are the same. -/
namespace Go.Proofs.YtnccndfffmaonaaGreatDoor
set_option linter.unusedSimpArgs false
open Go.RowKit

theorem TK.ts {w : World} {g cap : Nat} {ts : List Lx.Tok} (h : TK w g ts) (h1 : ts.length ≤ cap) (h2 : cap ≤ maxLen) : TS w (.slice (some ⟨g, 0, none⟩) ts.length cap) ts := by
  refine ⟨some ⟨g, 0, none⟩, cap, rfl, Nat.le_trans h1 h2, fun h => (by cases h), h1, h2, fun i hi => ⟨g, 0, rfl, ?_⟩⟩
  have := h i hi
  simp only [Nat.zero_add]; exact this
/-- A part of a slice. -/
theorem TS.part {w : World} {b off n cap : Nat} {ts : List Lx.Tok} (h : TS w (.slice (some ⟨b, off, none⟩) n cap) ts) (k m : Nat) (hk : k ≤ m) (hm : m ≤ ts.length) : TS w (.slice (some ⟨b, off + k * 4, none⟩) (m - k) (cap - k)) ((ts.take m).drop k) := by
  obtain ⟨a, cap', e, hmx, hn, hc1, hc2, hc⟩ := h
  injection e with e1 e2 e3
  subst e1 e2 e3
  have hl : ((ts.take m).drop k).length = m - k := by rw [List.length_drop, List.length_take]; omega
  refine ⟨_, _, by rw [hl], by omega, fun h => (by cases h), by omega, by omega, fun i hi => ⟨b, off + k * 4, rfl, ?_⟩⟩
  obtain ⟨b', off', e1, h2⟩ := hc (k + i) (by omega)
  cases e1
  have e3 : ((ts.take m).drop k)[i] = ts[k + i]'(by omega) := by simp
  rw [e3, show off + k * 4 + i * 4 = off + (k + i) * 4 by omega]
  exact h2
theorem same_cells {w : World} {va vb : Value} {tb : List Lx.Tok} {d : Nat} (ha : TS w va (tb.map (Lx.later d))) (hb : TS w vb tb) (hl : ∀ t ∈ tb, t.line ≤ 1000000000) (n : Nat) (hn : n = tb.length) (k : Nat) (hk : k < n) :
    ∃ (ba oa ca bb ob cb : Nat) (kd nn ln : Int) (tx : ByteArray), va = .slice (some ⟨ba, oa, none⟩) n ca ∧ vb = .slice (some ⟨bb, ob, none⟩) n cb ∧ 0 ≤ ln ∧ ln ≤ 1000000000 ∧
      w.cell? ⟨bb, ob + k * 4, none⟩ = some (.int .i64 kd) ∧ w.cell? ⟨bb, ob + k * 4 + 1, none⟩ = some (.string tx) ∧ w.cell? ⟨bb, ob + k * 4 + 2, none⟩ = some (.int .i64 nn) ∧ w.cell? ⟨bb, ob + k * 4 + 3, none⟩ = some (.int .i64 ln) ∧
      w.cell? ⟨ba, oa + k * 4, none⟩ = some (.int .i64 kd) ∧ w.cell? ⟨ba, oa + k * 4 + 1, none⟩ = some (.string tx) ∧ w.cell? ⟨ba, oa + k * 4 + 2, none⟩ = some (.int .i64 nn) ∧ w.cell? ⟨ba, oa + k * 4 + 3, none⟩ = some (.int .i64 (ln + d)) := by
  subst hn
  obtain ⟨a, ca, rfl, -, -, -, -, hca⟩ := ha
  obtain ⟨b, cb, rfl, -, -, -, -, hcb⟩ := hb
  obtain ⟨ba, oa, rfl, a1, a2, a3, a4⟩ := hca k (by rw [List.length_map]; exact hk)
  obtain ⟨bb, ob, rfl, b1, b2, b3, b4⟩ := hcb k hk
  rw [List.getElem_map] at a1 a2 a3 a4
  refine ⟨ba, oa, ca, bb, ob, cb, _, _, _, _, by rw [List.length_map], rfl, ?_, ?_, b1, b2, b3, b4, a1, a2, a3, ?_⟩
  · omega
  · have := hl _ (List.getElem_mem hk); omega
  · rw [a4]; rfl

theorem TS.len {w : World} {v : Value} {ts : List Lx.Tok} (h : TS w v ts) : ∃ a cap, v = .slice a ts.length cap ∧ ts.length ≤ 9223372036854775807 := by
  obtain ⟨a, cap, rfl, hm, -⟩ := h
  exact ⟨a, cap, rfl, hm⟩
end Go.Proofs.YtnccndfffmaonaaGreatDoor
/- Walks of package draft: what the parser's block holds; forms, directions, next, closes. -/
namespace Go.Proofs.YtnccndfffmaonaaGreatDoor
set_option linter.unusedSimpArgs false
open Go.RowKit

/-! ### What has changed -/
/-- Of what was there, block b alone may have changed. -/
def NB (b : Nat) (w w' : World) : Prop := w.grownBy w' (some b)
theorem NB.refl (b : Nat) (w : World) : NB b w w := ⟨rfl, rfl, rfl, Nat.le_refl _, fun _ _ _ => rfl⟩
theorem NB.trans {b : Nat} {w w1 w2 : World} (h1 : NB b w w1) (h2 : NB b w1 w2) : NB b w w2 :=
  ⟨h2.os.trans h1.os, h2.tape.trans h1.tape, h2.output.trans h1.output, Nat.le_trans h1.size h2.size, fun k hk hne => (h2.block k (Nat.lt_of_lt_of_le hk h1.size) hne).trans (h1.block k hk hne)⟩
theorem NB.alloc {b : Nat} {w w1 : World} (h : NB b w w1) (o : Obj) : NB b w (w1.alloc o) := h.trans ⟨rfl, rfl, rfl, by simp, fun k hk _ => heap_alloc_old w1 o hk⟩
theorem NB.drew {b : Nat} {w w1 : World} (h : NB b w w1) : NB b w w1.drew := ⟨h.os, h.tape, h.output, h.size, h.block⟩
theorem NB.set {b : Nat} {w w1 : World} (h : NB b w w1) (o : Nat) (v : Value) : NB b w (w1.setCell ⟨b, o, none⟩ v) :=
  h.trans ⟨rfl, rfl, rfl, by simp, fun k _ hk => heap_setCell_other w1 ⟨b, o, none⟩ k v (fun e => hk (by simp [e]))⟩
theorem NB.setNew {b : Nat} {w w1 : World} (h : NB b w w1) (p : Addr) (hp : w.heap.size ≤ p.block) (v : Value) : NB b w (w1.setCell p v) :=
  ⟨h.os, h.tape, h.output, by simpa using h.size, fun k hk hne => (heap_setCell_other w1 p k v (by omega)).trans (h.block k hk hne)⟩
theorem NB.of_below {b : Nat} {w w' : World} (h : Below w.heap.size w w') : NB b w w' := ⟨h.os, h.tape, h.output, h.size, fun k hk _ => h.block k hk⟩
theorem NB.below {b B : Nat} {w w' : World} (h : NB b w w') (hB : B ≤ b) (hw : B ≤ w.heap.size) : Below B w w' :=
  ⟨h.os, h.tape, h.output, h.size, fun k hk => h.block k (by omega) (fun e => by injection e with e; omega)⟩
theorem NB.row {b base : Nat} {w w' : World} {e : TypeId} {sz : Nat} {v : Value} {n : Nat} {xs : List Value} (h : NB b w w') (ho : w.ownsRow base e sz v n xs) (hb : b < base) : w'.ownsRow base e sz v n xs := by
  refine World.ownsRow.kept ho h ?_
  cases hv : v.ownBlock with
  | none => exact .inl rfl
  | some g => exact .inr (fun e => by injection e with e; have := (World.ownsRow.lt ho g hv).1; omega)
theorem NB.heap {b k : Nat} {w w' : World} {o : Obj} (h : NB b w w') (hk : w.heap[k]? = some o) (hne : k ≠ b) : w'.heap[k]? = some o := by
  have hlt : k < w.heap.size := (Array.getElem?_eq_some_iff.1 hk).1
  exact (h.block k hlt (fun e => by injection e with e; exact hne e)).trans hk
/-- Of what was there, at most one block changed, and it holds elements of a type. -/
def GT (e : TypeId) (w w' : World) : Prop := ∃ row, w.grownBy w' row ∧ ∀ k, row = some k → ∃ cs fr, w.heap[k]? = some (.cells cs e fr)
theorem GT.row {base : Nat} {w w' : World} {e e1 : TypeId} {sz : Nat} {v : Value} {n : Nat} {xs : List Value} (h : GT e w w') (ho : w.ownsRow base e1 sz v n xs) (hne : e ≠ e1) : w'.ownsRow base e1 sz v n xs := by
  obtain ⟨row, hg, ht⟩ := h
  refine World.ownsRow.kept ho hg ?_
  rcases ho.2 with ⟨rfl, -⟩ | ⟨g, cap, cur, rfl, hb, hh, -⟩
  · exact .inl rfl
  · refine .inr (fun e2 => ?_)
    obtain ⟨cs, fr, h3⟩ := ht g e2.symm
    rw [hh] at h3
    injection h3 with h3; injection h3 with _ h4
    exact hne h4.symm
theorem GT.heap {w w' : World} {e e1 : TypeId} {k : Nat} {cs : Array Value} {fr : Nat × Nat} (h : GT e w w') (hk : w.heap[k]? = some (.cells cs e1 fr)) (hne : e ≠ e1) : w'.heap[k]? = some (.cells cs e1 fr) := by
  obtain ⟨row, hg, ht⟩ := h
  have hlt : k < w.heap.size := (Array.getElem?_eq_some_iff.1 hk).1
  refine (hg.block k hlt (fun e2 => ?_)).trans hk
  obtain ⟨cs2, fr2, h3⟩ := ht k e2.symm
  rw [hk] at h3
  injection h3 with h3; injection h3 with _ h4
  exact hne h4.symm
theorem GT.size {w w' : World} {e : TypeId} (h : GT e w w') : w.heap.size ≤ w'.heap.size := by obtain ⟨row, hg, -⟩ := h; exact hg.size
theorem GT.of_own {base : Nat} {w w' : World} {e : TypeId} {sz : Nat} {v : Value} {n : Nat} {xs : List Value} (ho : w.ownsRow base e sz v n xs) (hg : w.grownBy w' v.ownBlock) : GT e w w' := by
  refine ⟨_, hg, fun k hk => ?_⟩
  rcases ho.2 with ⟨rfl, -⟩ | ⟨g, cap, cur, rfl, hb, hh, -⟩
  · cases hk
  · injection hk with hk; subst hk; exact ⟨_, _, hh⟩
theorem GT.of_set {w : World} {e : TypeId} {k : Nat} {cs : Array Value} {fr : Nat × Nat} (hk : w.heap[k]? = some (.cells cs e fr)) (o : Nat) (v : Value) : GT e w (w.setCell ⟨k, o, none⟩ v) :=
  ⟨some k, ⟨rfl, rfl, rfl, by simp, fun j _ hj => heap_setCell_other w ⟨k, o, none⟩ j v (fun e => hj (by simp [e]))⟩, fun j hj => by injection hj with hj; subst hj; exact ⟨_, _, hk⟩⟩

/-! ### The parser's block -/
/-- The slice value v holds these tokens, all in blocks below b. -/
def TB (b : Nat) (w : World) (v : Value) (ts : List Lx.Tok) : Prop :=
  ∃ g off cap, v = .slice (some ⟨g, off, none⟩) ts.length cap ∧ g < b ∧ ts.length ≤ 100000 ∧ ts.length ≤ cap ∧ cap ≤ maxLen ∧ ∀ i, (h : i < ts.length) →
    w.cell? ⟨g, off + i * 4, none⟩ = some (.int .i64 ts[i].kind) ∧ w.cell? ⟨g, off + i * 4 + 1, none⟩ = some (.string ⟨ts[i].text.toArray⟩) ∧
    w.cell? ⟨g, off + i * 4 + 2, none⟩ = some (.int .i64 ts[i].n) ∧ w.cell? ⟨g, off + i * 4 + 3, none⟩ = some (.int .i64 ts[i].line)
theorem TB.keep {b : Nat} {w W : World} {v : Value} {ts : List Lx.Tok} (h : TB b w v ts) (hb : Below b w W) : TB b W v ts := by
  obtain ⟨g, off, cap, rfl, hg, hm, h1, h2, hc⟩ := h
  refine ⟨g, off, cap, rfl, hg, hm, h1, h2, fun i hi => ?_⟩
  obtain ⟨h2, h3, h4, h5⟩ := hc i hi
  exact ⟨(hb.cell (p := ⟨g, off + i * 4, none⟩) hg).trans h2, (hb.cell (p := ⟨g, off + i * 4 + 1, none⟩) hg).trans h3, (hb.cell (p := ⟨g, off + i * 4 + 2, none⟩) hg).trans h4, (hb.cell (p := ⟨g, off + i * 4 + 3, none⟩) hg).trans h5⟩
theorem TB.head {b : Nat} {w : World} {v : Value} {t : Lx.Tok} {r : List Lx.Tok} (h : TB b w v (t :: r)) : ∃ g off n cap : Nat, v = .slice (some ⟨g, off, none⟩) n cap ∧ g < b ∧ Hid (n = r.length + 1) ∧ 1 ≤ n ∧ n ≤ 100000 ∧ n ≤ cap ∧ cap ≤ maxLen ∧
    w.cell? ⟨g, off, none⟩ = some (.int .i64 t.kind) ∧ w.cell? ⟨g, off + 1, none⟩ = some (.string ⟨t.text.toArray⟩) ∧ w.cell? ⟨g, off + 2, none⟩ = some (.int .i64 t.n) ∧ w.cell? ⟨g, off + 3, none⟩ = some (.int .i64 t.line) := by
  obtain ⟨g, off, cap, rfl, hg, hm, h1, h2, hc⟩ := h
  obtain ⟨a1, a2, a3, a4⟩ := hc 0 (by simp)
  exact ⟨g, off, r.length + 1, cap, rfl, hg, Lib.hid rfl, by omega, by simpa using hm, by simpa using h1, h2, by simpa using a1, by simpa using a2, by simpa using a3, by simpa using a4⟩
theorem TB.tail {b g off n cap : Nat} {w : World} {t : Lx.Tok} {r : List Lx.Tok} (h : TB b w (.slice (some ⟨g, off, none⟩) n cap) (t :: r)) : TB b w (.slice (some ⟨g, off + 4, none⟩) (n - 1) (cap - 1)) r := by
  obtain ⟨g', off', cap', e, hg, hm, h1, h2, hc⟩ := h
  cases e
  refine ⟨g, off + 4, cap - 1, by simp, hg, by simp at hm; omega, by simp at h1; omega, by omega, fun i hi => ?_⟩
  have := hc (i + 1) (by simp; omega)
  simp only [List.getElem_cons_succ] at this
  rw [show off + (i + 1) * 4 = off + 4 + i * 4 by omega] at this
  exact this
/-- The tokens end with the end. -/
def EndT (ts : List Lx.Tok) : Prop := ∃ front e, ts = front ++ [e] ∧ e.kind = 4
theorem EndT.cons {t : Lx.Tok} {r : List Lx.Tok} (h : EndT (t :: r)) (hk : t.kind ≠ 4) : EndT r ∧ 1 ≤ r.length := by
  obtain ⟨front, e, h1, h2⟩ := h
  cases front with
  | nil => simp at h1; rw [h1.1] at hk; exact absurd h2 hk
  | cons a l =>
    rw [List.cons_append] at h1
    injection h1 with h3 h4
    exact ⟨⟨l, e, h4, h2⟩, by rw [h4]; simp⟩
theorem EndT.ne {ts : List Lx.Tok} (h : EndT ts) : ∃ t r, ts = t :: r := by
  obtain ⟨front, e, rfl, _⟩ := h
  cases front with
  | nil => exact ⟨e, [], rfl⟩
  | cons a l => exact ⟨a, l ++ [e], rfl⟩

def OSt (base : Nat) (w : World) (v : Value) (ls : List (List UInt8)) : Prop := w.ownsRow base 9 1 v ls.length (strs ls)
/-- The decks: the row of slices, and each deck's rows; the last deck's own memory lies from c on, the others' below. -/
def DK (b : Nat) (w : World) (dv : Value) (decks : List (List (List UInt8))) : Prop :=
  ∃ (dvs : List Value) (c : Nat), w.ownsRow (b + 1) 45 1 dv decks.length dvs ∧ dvs.length = decks.length ∧ b < c ∧ c ≤ w.heap.size ∧
    ∀ i, (h : i < decks.length) → (h' : i < dvs.length) → (i + 1 < decks.length → OSt (b + 1) w dvs[i] decks[i] ∧ ∀ g, dvs[i].ownBlock = some g → g < c) ∧ (i + 1 = decks.length → OSt c w dvs[i] decks[i])
def ints (l : List Int) : List Value := l.map (Value.int .i64)
def itemC (x : Dr.Item) (nv : Value) : List Value := [.int .i64 x.kind, .int .i64 x.line, .string ⟨x.name.toArray⟩, .string ⟨x.other.toArray⟩, nv]
def itemsC (l : List (Dr.Item × Value)) : List Value := l.flatMap fun x => itemC x.1 x.2
def IT (b : Nat) (w : World) (iv : Value) (items : List Dr.Item) : Prop :=
  ∃ l : List (Dr.Item × Value), l.map (·.1) = items ∧ w.ownsRow (b + 1) 34 5 iv l.length (itemsC l) ∧
    ∀ x ∈ l, w.ownsRow (b + 1) 3 1 x.2 x.1.n.length (ints x.1.n)
/-- The parser's block: the tokens that are left, and what was read. -/
def PR (b : Nat) (w : World) (d : Dr.Draft) (ts : List Lx.Tok) : Prop :=
  ∃ lv dv iv, w.heap[b]? = some (.cells #[lv, dv, iv] 50 (0, 0)) ∧ TB b w lv ts ∧ DK b w dv d.decks ∧ IT b w iv d.items
theorem DK.nb {b : Nat} {w w' : World} {dv : Value} {decks : List (List (List UInt8))} (h : DK b w dv decks) (hn : NB b w w') : DK b w' dv decks := by
  obtain ⟨dvs, c, h1, h2, h3, h4, h5⟩ := h
  refine ⟨dvs, c, hn.row h1 (by omega), h2, h3, Nat.le_trans h4 hn.size, fun i hi hi' => ?_⟩
  obtain ⟨h6, h7⟩ := h5 i hi hi'
  exact ⟨fun e => ⟨hn.row (h6 e).1 (by omega), (h6 e).2⟩, fun e => hn.row (h7 e) h3⟩
theorem IT.nb {b : Nat} {w w' : World} {iv : Value} {items : List Dr.Item} (h : IT b w iv items) (hn : NB b w w') : IT b w' iv items := by
  obtain ⟨l, h1, h2, h3⟩ := h
  exact ⟨l, h1, hn.row h2 (by omega), fun x hx => hn.row (h3 x hx) (by omega)⟩
theorem DK.gt {b : Nat} {w w' : World} {dv : Value} {decks : List (List (List UInt8))} {e : TypeId} (h : DK b w dv decks) (hn : GT e w w') (h1 : e ≠ 45) (h2 : e ≠ 9) : DK b w' dv decks := by
  obtain ⟨dvs, c, h3, h4, h5, h6, h7⟩ := h
  refine ⟨dvs, c, hn.row h3 h1, h4, h5, Nat.le_trans h6 hn.size, fun i hi hi' => ?_⟩
  obtain ⟨h8, h9⟩ := h7 i hi hi'
  exact ⟨fun e => ⟨hn.row (h8 e).1 h2, (h8 e).2⟩, fun e => hn.row (h9 e) h2⟩
theorem IT.gt {b : Nat} {w w' : World} {iv : Value} {items : List Dr.Item} {e : TypeId} (h : IT b w iv items) (hn : GT e w w') (h1 : e ≠ 34) (h2 : e ≠ 3) : IT b w' iv items := by
  obtain ⟨l, h3, h4, h5⟩ := h
  exact ⟨l, h3, hn.row h4 h1, fun x hx => hn.row (h5 x hx) h2⟩
theorem PR.cells {b : Nat} {w : World} {d : Dr.Draft} {ts : List Lx.Tok} (h : PR b w d ts) : b < w.heap.size := by
  obtain ⟨lv, dv, iv, h1, -⟩ := h
  exact (Array.getElem?_eq_some_iff.1 h1).1
/-- After a change of the tokens' slice alone. -/
theorem PR.adv {b : Nat} {w w' : World} {d : Dr.Draft} {us : List Lx.Tok} {lv dv iv lv' : Value} (h0 : w.heap[b]? = some (.cells #[lv, dv, iv] 50 (0, 0))) (hD : DK b w dv d.decks) (hI : IT b w iv d.items)
    (hn : NB b w w') (h1 : w'.heap[b]? = some (.cells #[lv', dv, iv] 50 (0, 0))) (h2 : TB b w lv' us) : PR b w' d us :=
  ⟨lv', dv, iv, h1, h2.keep (hn.below (Nat.le_refl _) (Nat.le_of_lt (Array.getElem?_eq_some_iff.1 h0).1)), hD.nb hn, hI.nb hn⟩
theorem PR.nb {b : Nat} {w w' : World} {d : Dr.Draft} {ts : List Lx.Tok} (h : PR b w d ts) (hn : NB b w w') (hb : w'.heap[b]? = w.heap[b]?) : PR b w' d ts := by
  have hlt := h.cells
  obtain ⟨lv, dv, iv, h1, h2, h3, h4⟩ := h
  exact ⟨lv, dv, iv, hb.trans h1, h2.keep (hn.below (Nat.le_refl _) (Nat.le_of_lt hlt)), h3.nb hn, h4.nb hn⟩
theorem cell_of_heap {w : World} {b : Nat} {cs : Array Value} {t : TypeId} {fr : Nat × Nat} (h : w.heap[b]? = some (.cells cs t fr)) (i : Nat) {v : Value} (hv : cs[i]? = some v) : w.cell? ⟨b, i, none⟩ = some v := by
  simp [World.cell?, h, hv]
theorem free_of_heap {w : World} {b : Nat} {cs : Array Value} {t : TypeId} (h : w.heap[b]? = some (.cells cs t (0, 0))) (i : Nat) : w.frozen? ⟨b, i, none⟩ = false := by
  simp [World.frozen?, h]

def formsC : List Value := [.string ⟨(Dr.wordOf 0).toArray⟩, .string ⟨(Dr.partsOf 0).toArray⟩, .string ⟨(Dr.wordOf 1).toArray⟩, .string ⟨(Dr.partsOf 1).toArray⟩, .string ⟨(Dr.wordOf 2).toArray⟩, .string ⟨(Dr.partsOf 2).toArray⟩, .string ⟨(Dr.wordOf 3).toArray⟩, .string ⟨(Dr.partsOf 3).toArray⟩, .string ⟨(Dr.wordOf 4).toArray⟩, .string ⟨(Dr.partsOf 4).toArray⟩, .string ⟨(Dr.wordOf 5).toArray⟩, .string ⟨(Dr.partsOf 5).toArray⟩]
set_option maxHeartbeats 1000000 in
theorem forms_any (w : World) : Calls Tryz.prog 48 #[] w fun e w' => e = .returned (.slice (some ⟨w.heap.size, 0, none⟩) 6 6) ∧ w' = w.alloc (.cells formsC.toArray 86) := by
  go_enter Tryz.func48, Tryz.ntmps48
  go_wp2_with fail
  go_ret
  exact ⟨rfl, rfl⟩
def dirsC : List Value := Dr.dirs.map fun x => .string ⟨x.toArray⟩
set_option maxHeartbeats 1000000 in
theorem directions_any (w : World) : Calls Tryz.prog 66 #[] w fun e w' => e = .returned (.slice (some ⟨w.heap.size, 0, none⟩) 6 6) ∧ w' = w.alloc (.cells dirsC.toArray 9) := by
  go_enter Tryz.func66, Tryz.ntmps66
  go_wp2_with fail
  go_ret
  exact ⟨rfl, rfl⟩
def tokV (t : Lx.Tok) : Value := .agg #[.int .i64 t.kind, .string ⟨t.text.toArray⟩, .int .i64 t.n, .int .i64 t.line]

set_option maxRecDepth 100000 in
set_option maxHeartbeats 4000000 in
theorem next_no (b kd : Nat) (d : Dr.Draft) (t : Lx.Tok) (r : List Lx.Tok) (w : World) (h : PR b w d (t :: r)) (hk : t.kind ≠ kd) :
    Calls Tryz.prog 52 #[.pointer (some ⟨b, 0, none⟩), .int .i64 kd] w fun e w' => e = .returned (.tuple #[tokV t, .bool false]) ∧ NB b w w' ∧ w'.heap[b]? = w.heap[b]? := by
  have hlt := h.cells
  obtain ⟨lv, dv, iv, h0, hT, hD, hI⟩ := h
  obtain ⟨g, off, n, cap, rfl, hg, hn, hn1, hn2, hnc, hcm, q0, q1, q2, q3⟩ := hT.head
  have hgw : g < w.heap.size := by omega
  have c0 : w.cell? ⟨b, 0, none⟩ = some (.slice (some ⟨g, off, none⟩) n cap) := cell_of_heap h0 0 rfl
  have e1 : ((t.kind : Int) != (kd : Int)) = true := by simp; omega
  have HB : Hid ((w.alloc (.cells #[.int .i64 t.kind, .string ⟨t.text.toArray⟩, .int .i64 t.n, .int .i64 t.line] 42)).heap[b]? = w.heap[b]?) := Lib.hid (heap_alloc_old _ _ hlt)
  obtain ⟨tk, tx, tn, tl⟩ := t
  dsimp only at q0 q1 q2 q3 e1 HB
  clear h0 hT hD hI hk
  go_enter Tryz.func52, Tryz.ntmps52
  go_wp2_with fail
  exact bodyPost_ret (v := .tuple #[.agg #[.int .i64 tk, .string ⟨tx.toArray⟩, .int .i64 tn, .int .i64 tl], .bool false]) (by simp [results, Tryz.results52, go_sem]) rfl ⟨rfl, (NB.refl _ _).alloc _, HB.out⟩

theorem set_heap {w : World} {b : Nat} {cs : Array Value} {t : TypeId} (h : w.heap[b]? = some (.cells cs t (0, 0))) (i : Nat) (v : Value) : (w.setCell ⟨b, i, none⟩ v).heap[b]? = some (.cells (cs.setIfInBounds i v) t (0, 0)) := heap_setCell_same w b i cs t v h
set_option maxRecDepth 100000 in
set_option maxHeartbeats 4000000 in
theorem next_ok (b kd : Nat) (d : Dr.Draft) (t : Lx.Tok) (r : List Lx.Tok) (w : World) (h : PR b w d (t :: r)) (hk : t.kind = kd) (hr : 1 ≤ r.length) :
    Calls Tryz.prog 52 #[.pointer (some ⟨b, 0, none⟩), .int .i64 kd] w fun e w' => e = .returned (.tuple #[tokV t, .bool true]) ∧ NB b w w' ∧ PR b w' d r := by
  have hlt := h.cells
  obtain ⟨lv, dv, iv, h0, hT, hD, hI⟩ := h
  obtain ⟨g, off, n, cap, rfl, hg, hn, hn1, hn2, hnc, hcm, q0, q1, q2, q3⟩ := hT.head
  have hgw : g < w.heap.size := by omega
  have hn3 : 2 ≤ n := by have := hn.out; omega
  have hcap : ¬ cap = 1 := by omega
  have hcap1 : 1 ≤ cap := by omega
  have nI : (1 : Int) ≤ (n : Int) := by omega
  have nI2 : (1 : Int) ≤ (cap : Int) := by omega
  have hbg : b ≠ g := by omega
  have c0 : w.cell? ⟨b, 0, none⟩ = some (.slice (some ⟨g, off, none⟩) n cap) := cell_of_heap h0 0 rfl
  have f0 : w.frozen? ⟨b, 0, none⟩ = false := free_of_heap h0 0
  have e1 : ((t.kind : Int) != (kd : Int)) = false := by rw [hk]; simp
  have HT := Lib.hid hT.tail
  have HP : Hid (∀ w', NB b w w' → w'.heap[b]? = some (.cells #[.slice (some ⟨g, off + 4, none⟩) (n - 1) (cap - 1), dv, iv] 50 (0, 0)) → PR b w' d r) := Lib.hid (fun w' hn hh => PR.adv h0 hD hI hn hh HT.out)
  have H0 := Lib.hid h0
  obtain ⟨tk, tx, tn, tl⟩ := t
  dsimp only at q0 q1 q2 q3 e1
  clear h0 hT hD hI hk
  go_enter Tryz.func52, Tryz.ntmps52
  go_wp2_with fail
  have N1 := (NB.refl b w).set 0 (.slice (some ⟨g, off + 4, none⟩) (n - 1) (cap - 1))
  have h1 := set_heap H0.out 0 (.slice (some ⟨g, off + 4, none⟩) (n - 1) (cap - 1))
  refine bodyPost_ret (v := .tuple #[.agg #[.int .i64 tk, .string ⟨tx.toArray⟩, .int .i64 tn, .int .i64 tl], .bool true]) (by simp [results, Tryz.results52, go_sem]) rfl ⟨rfl, (N1.alloc _).alloc _, HP.out _ ((N1.alloc _).alloc _) ?_⟩
  rw [heap_alloc_old _ _ (by simp; omega), heap_alloc_old _ _ (by simp; omega), h1]; rfl

set_option maxRecDepth 100000 in
set_option maxHeartbeats 4000000 in
theorem closes_end (b : Nat) (d : Dr.Draft) (t : Lx.Tok) (r : List Lx.Tok) (w : World) (h : PR b w d (t :: r)) (hk : t.kind = 4) :
    Calls Tryz.prog 22 #[.pointer (some ⟨b, 0, none⟩)] w fun e w' => e = .returned (.bool true) ∧ w = w' := by
  have hlt := h.cells
  obtain ⟨lv, dv, iv, h0, hT, hD, hI⟩ := h
  obtain ⟨g, off, n, cap, rfl, hg, hn, hn1, hn2, hnc, hcm, q0, q1, q2, q3⟩ := hT.head
  have c0 : w.cell? ⟨b, 0, none⟩ = some (.slice (some ⟨g, off, none⟩) n cap) := cell_of_heap h0 0 rfl
  rw [hk] at q0
  have q4 : w.cell? ⟨g, off, none⟩ = some (.int .i64 4) := q0
  clear h0 hT hD hI hk q0
  go_enter Tryz.func22, Tryz.ntmps22
  go_wp2_with fail
  go_ret
  exact ⟨rfl, rfl⟩
set_option maxRecDepth 100000 in
set_option maxHeartbeats 4000000 in
theorem closes_line (b : Nat) (d : Dr.Draft) (t : Lx.Tok) (r : List Lx.Tok) (w : World) (h : PR b w d (t :: r)) (hk : t.kind = 3) (hr : 1 ≤ r.length) :
    Calls Tryz.prog 22 #[.pointer (some ⟨b, 0, none⟩)] w fun e w' => e = .returned (.bool true) ∧ NB b w w' ∧ PR b w' d r := by
  have hlt := h.cells
  have HP := Lib.hid h
  obtain ⟨lv, dv, iv, h0, hT, hD, hI⟩ := h
  obtain ⟨g, off, n, cap, rfl, hg, hn, hn1, hn2, hnc, hcm, q0, q1, q2, q3⟩ := hT.head
  have c0 : w.cell? ⟨b, 0, none⟩ = some (.slice (some ⟨g, off, none⟩) n cap) := cell_of_heap h0 0 rfl
  rw [hk] at q0
  have q4 : w.cell? ⟨g, off, none⟩ = some (.int .i64 3) := q0
  have HK := Lib.hid hk
  clear h0 hT hD hI hk q0
  go_enter Tryz.func22, Tryz.ntmps22
  go_wp2_with fail
  go_at_call 52; refine (next_ok b 3 d t r _ HP.out HK.out hr).mono ?_; rintro e w1 ⟨rfl, N1, P1⟩
  have HN1 := Lib.hid N1
  have HP1 := Lib.hid P1
  have hlt1 := P1.cells
  clear N1 P1
  unfold tokV
  go_wp2_with fail
  go_ret
  exact ⟨rfl, HN1.out.alloc _, HP1.out.nb ((NB.refl _ _).alloc _) (heap_alloc_old _ _ hlt1)⟩
set_option maxRecDepth 100000 in
set_option maxHeartbeats 4000000 in
theorem closes_no (b : Nat) (d : Dr.Draft) (t : Lx.Tok) (r : List Lx.Tok) (w : World) (h : PR b w d (t :: r)) (hk : t.kind ≠ 3) (hk4 : t.kind ≠ 4) :
    Calls Tryz.prog 22 #[.pointer (some ⟨b, 0, none⟩)] w fun e w' => e = .returned (.bool false) ∧ NB b w w' ∧ w'.heap[b]? = w.heap[b]? := by
  have hlt := h.cells
  have HP := Lib.hid h
  obtain ⟨lv, dv, iv, h0, hT, hD, hI⟩ := h
  obtain ⟨g, off, n, cap, rfl, hg, hn, hn1, hn2, hnc, hcm, q0, q1, q2, q3⟩ := hT.head
  have c0 : w.cell? ⟨b, 0, none⟩ = some (.slice (some ⟨g, off, none⟩) n cap) := cell_of_heap h0 0 rfl
  have e4 : ((t.kind : Int) == 4) = false := beq_eq_false_iff_ne.2 (by omega)
  have HK := Lib.hid hk
  clear h0 hT hD hI hk
  go_enter Tryz.func22, Tryz.ntmps22
  go_wp2_with fail
  go_at_call 52; refine (next_no b 3 d t r _ HP.out HK.out).mono ?_; rintro e w1 ⟨rfl, N1, hb1⟩
  have HN1 := Lib.hid N1
  have HB1 := Lib.hid hb1
  have hlt1 : b < w1.heap.size := Nat.lt_of_lt_of_le hlt N1.size
  clear N1 hb1
  unfold tokV
  go_wp2_with fail
  go_ret
  exact ⟨rfl, HN1.out.alloc _, (heap_alloc_old _ _ hlt1).trans HB1.out⟩
end Go.Proofs.YtnccndfffmaonaaGreatDoor
/- Walks of package draft: deck, row. -/
namespace Go.Proofs.YtnccndfffmaonaaGreatDoor
set_option linter.unusedSimpArgs false
set_option linter.unusedVariables false
open Go.RowKit

theorem own_mono {w : World} {base base' : Nat} {e : TypeId} {sz : Nat} {v : Value} {n : Nat} {xs : List Value} (h : w.ownsRow base e sz v n xs) (hb : base' ≤ base) : w.ownsRow base' e sz v n xs := by
  rcases h.2 with h2 | ⟨g, cap, cur, h1, h2, h3⟩
  · exact ⟨h.1, .inl h2⟩
  · exact ⟨h.1, .inr ⟨g, cap, cur, h1, by omega, h3⟩⟩
theorem own_slice {w : World} {base : Nat} {e : TypeId} {sz : Nat} {v : Value} {n : Nat} {xs : List Value} (h : w.ownsRow base e sz v n xs) : ∃ a cap, v = .slice a n cap ∧ n ≤ 9223372036854775807 := by
  rcases h.2 with ⟨rfl, rfl⟩ | ⟨g, cap, cur, rfl, _, _, h1, h2, _⟩
  · exact ⟨none, 0, rfl, by omega⟩
  · exact ⟨_, cap, rfl, by unfold maxLen at h2; omega⟩
theorem Tryz.deckInfo : (Tryz.prog.info? 45).map (fun i => (i.zero, i.size, i.bytes)) = some (some (.slice none 0 0), 1, 24) := by kernel_rfl
theorem wpList_app_deck {w : World} {ops : Array Oper} {rest : List Oper} {o : Oper} {a : Act} {Q : Exit → Act → World → Prop} (hgd : o.guard = none) (s x : Operand)
    (ho : o.op = .call { callee := .builtin .append, args := #[s, x], argTypes := #[22, 22] })
    (base : Nat) (v : Value) (n : Nat) (xs : List Value) (hs : a.eval s = v) (hown : w.ownsRow base 45 1 v n xs)
    (g c : Nat) (u : Value) (hu : u.oneCell' = true) (hx : a.eval x = .slice (some ⟨g, 0, none⟩) 1 c) (hg : w.heap[g]? = some (.cells #[u] 45 (0, 0)))
    (hsz : n + 1 ≤ 1000000000) (hbase : base ≤ w.heap.size)
    (h : ∀ v' w', w'.ownsRow base 45 1 v' (n + 1) (xs ++ [u]) → w.grownBy w' v.ownBlock → wpList Tryz.prog ops Q rest (a.put o.dst v') w') : wpList Tryz.prog ops Q (o :: rest) a w := by
  obtain ⟨i, hi, hz, hsize, hby⟩ := info_parts Tryz.deckInfo
  refine wpList_append_own w hgd s x _ ho base 45 i _ 1 24 Tryz.underlying22 hi hz hsize hby rfl (by decide) v n xs hs hown ⟨g, 0, none⟩ 1 c [u] hx rfl ?_ ?_ (by unfold maxLen; omega) (by omega) hbase ?_
  · intro j y hj
    have h0 : j = 0 := by
      have := (List.getElem?_eq_some_iff.1 hj).1; simpa using this
    subst h0
    simp at hj; subst hj
    simp [World.cell?, Addr.add, hg]
  · intro y hy
    obtain rfl := List.mem_singleton.1 hy
    exact hu
  · intro v' w' h2 h3 _
    exact h v' w' h2 h3

theorem deck_end {b : Nat} {w w2 : World} {lv dv iv L' v' : Value} {d : Dr.Draft} {r : List Lx.Tok} {o : Obj} {dvs : List Value} {c : Nat} (h0 : w.heap[b]? = some (.cells #[lv, dv, iv] 50 (0, 0))) (hT : TB b w L' r) (hI : IT b w iv d.items)
    (hdv : w.ownsRow (b + 1) 45 1 dv d.decks.length dvs) (hdl : dvs.length = d.decks.length) (hbc : b < c) (hcw : c ≤ w.heap.size)
    (hdk : ∀ i, (h : i < d.decks.length) → (h' : i < dvs.length) → (i + 1 < d.decks.length → OSt (b + 1) w dvs[i] d.decks[i] ∧ ∀ g, dvs[i].ownBlock = some g → g < c) ∧ (i + 1 = d.decks.length → OSt c w dvs[i] d.decks[i]))
    (h1 : w2.ownsRow (b + 1) 45 1 v' (d.decks.length + 1) (dvs ++ [.slice none 0 0])) (hg : ((w.setCell ⟨b, 0, none⟩ L').alloc o).grownBy w2 dv.ownBlock) :
    w2.heap[b]? = some (.cells #[L', dv, iv] 50 (0, 0)) ∧ PR b (w2.setCell ⟨b, 1, none⟩ v') ⟨d.decks ++ [[]], d.items⟩ r ∧ Below b w (w2.setCell ⟨b, 1, none⟩ v') := by
  have hlt : b < w.heap.size := (Array.getElem?_eq_some_iff.1 h0).1
  have N1 : NB b w ((w.setCell ⟨b, 0, none⟩ L').alloc o) := ((NB.refl b w).set 0 L').alloc o
  have H1 : ((w.setCell ⟨b, 0, none⟩ L').alloc o).heap[b]? = some (.cells #[L', dv, iv] 50 (0, 0)) := by
    rw [heap_alloc_old _ _ (by simpa using hlt), set_heap h0]; rfl
  have G2 : GT 45 ((w.setCell ⟨b, 0, none⟩ L').alloc o) w2 := GT.of_own (N1.row hdv (by omega)) hg
  have H2 := G2.heap H1 (by decide)
  have N3 : NB b w2 (w2.setCell ⟨b, 1, none⟩ v') := (NB.refl b w2).set 1 v'
  have H3 : (w2.setCell ⟨b, 1, none⟩ v').heap[b]? = some (.cells #[L', v', iv] 50 (0, 0)) := by rw [set_heap H2]; rfl
  have hB2 : Below b ((w.setCell ⟨b, 0, none⟩ L').alloc o) w2 := by
    refine (Below.refl _ _).grown hg (by simp; omega) (fun k hk => ?_)
    have := (World.ownsRow.lt hdv k hk).1; omega
  have hB : Below b w (w2.setCell ⟨b, 1, none⟩ v') := ((N1.below (Nat.le_refl _) (by omega)).trans hB2).trans (N3.below (Nat.le_refl _) (by have := hB2.size; simp at this; omega))
  refine ⟨H2, ⟨L', v', iv, H3, hT.keep hB, ?_, ((hI.nb N1).gt G2 (by decide) (by decide)).nb N3⟩, hB⟩
  have hcarry : ∀ base u ls, b < base → OSt base w u ls → OSt base (w2.setCell ⟨b, 1, none⟩ v') u ls := fun base u ls hb h => N3.row (G2.row (N1.row h hb) (by decide)) hb
  refine ⟨dvs ++ [.slice none 0 0], (w2.setCell ⟨b, 1, none⟩ v').heap.size, by have := N3.row h1 (by omega); simpa using this, by simp [hdl], by have := hB.size; omega, Nat.le_refl _, fun i hi hi' => ⟨fun e => ?_, fun e => ?_⟩⟩
  · simp only [List.length_append, List.length_singleton] at hi e hi'
    have hid : i < d.decks.length := by omega
    have hiv : i < dvs.length := by omega
    obtain ⟨h6, h7⟩ := hdk i hid hiv
    rw [List.getElem_append_left hiv, List.getElem_append_left hid]
    have ho : OSt (b + 1) w dvs[i] d.decks[i] := by
      by_cases e2 : i + 1 < d.decks.length
      · exact (h6 e2).1
      · exact own_mono (h7 (by omega)) (by omega)
    have ho2 := hcarry (b + 1) _ _ (by omega) ho
    exact ⟨ho2, fun g hg => (World.ownsRow.lt ho2 g hg).2⟩
  · simp only [List.length_append, List.length_singleton] at hi e hi'
    have e1 : (dvs ++ [Value.slice none 0 0])[i] = .slice none 0 0 := by rw [List.getElem_append_right (by omega)]; simp
    have e2 : (d.decks ++ [[]])[i] = [] := by rw [List.getElem_append_right (by omega)]; simp
    rw [e1, e2]
    exact ⟨rfl, .inl ⟨rfl, rfl⟩⟩
set_option maxRecDepth 100000 in
set_option maxHeartbeats 4000000 in
theorem deck_full (b : Nat) (d : Dr.Draft) (ts : List Lx.Tok) (w : World) (h : PR b w d ts) (hf : 4 ≤ d.decks.length) :
    Calls Tryz.prog 49 #[.pointer (some ⟨b, 0, none⟩)] w fun e w' => e = .returned (.int .i64 6) ∧ w = w' := by
  obtain ⟨lv, dv, iv, h0, hT, hD, hI⟩ := h
  obtain ⟨dvs, c, hdv, -⟩ := hD
  obtain ⟨a, ca, rfl, hla⟩ := own_slice hdv
  have c1 : w.cell? ⟨b, 1, none⟩ = some (.slice a d.decks.length ca) := cell_of_heap h0 1 rfl
  have e1 : (4 : Int) ≤ (d.decks.length : Int) := by omega
  clear h0 hT hI hdv
  go_enter Tryz.func49, Tryz.ntmps49
  go_wp2_with fail
  go_ret
  exact ⟨rfl, rfl⟩
set_option maxRecDepth 100000 in
set_option maxHeartbeats 4000000 in
theorem deck_ok (b : Nat) (d : Dr.Draft) (t : Lx.Tok) (r : List Lx.Tok) (w : World) (h : PR b w d (t :: r)) (hf : d.decks.length < 4) (hr : 1 ≤ r.length) :
    Calls Tryz.prog 49 #[.pointer (some ⟨b, 0, none⟩)] w fun e w' => e = .returned (.int .i64 0) ∧ PR b w' ⟨d.decks ++ [[]], d.items⟩ r ∧ Below b w w' := by
  have hlt := h.cells
  obtain ⟨lv, dv, iv, h0, hT, hD, hI⟩ := h
  obtain ⟨g, off, n, cap, rfl, hg, hn, hn1, hn2, hnc, hcm, q0, q1, q2, q3⟩ := hT.head
  obtain ⟨dvs, c, hdv, hdl, hbc, hcw, hdk⟩ := hD
  obtain ⟨a, ca, rfl, hla⟩ := own_slice hdv
  have c0 : w.cell? ⟨b, 0, none⟩ = some (.slice (some ⟨g, off, none⟩) n cap) := cell_of_heap h0 0 rfl
  have c1 : w.cell? ⟨b, 1, none⟩ = some (.slice a d.decks.length ca) := cell_of_heap h0 1 rfl
  have f0 : w.frozen? ⟨b, 0, none⟩ = false := free_of_heap h0 0
  have f1 : w.frozen? ⟨b, 1, none⟩ = false := free_of_heap h0 1
  have hn3 : 2 ≤ n := by have := hn.out; omega
  have hcap : ¬ cap = 1 := by omega
  have hcap1 : 1 ≤ cap := by omega
  have nI : (1 : Int) ≤ (n : Int) := by omega
  have nI2 : (1 : Int) ≤ (cap : Int) := by omega
  have e1 : (d.decks.length : Int) < 4 := by omega
  have HT := Lib.hid hT.tail
  have HI := Lib.hid hI
  have HDV := Lib.hid hdv
  have HDL := Lib.hid hdl
  have HDK := Lib.hid hdk
  have H0 := Lib.hid h0
  clear h0 hT hI hdv hdk hdl
  go_enter Tryz.func49, Tryz.ntmps49
  go_wp2_with (at_builtin; refine wpList_app_deck rfl _ _ rfl (b + 1) _ d.decks.length dvs rfl (World.ownsRow.alloc (((NB.refl b w).set 0 _).row HDV.out (by omega)) _) w.heap.size 1 (.slice none 0 0) rfl rfl ?c1 (by omega) (by simp; omega) ?c2)
  case c1 => simpa using heap_alloc_new (w.setCell ⟨b, 0, none⟩ (.slice (some ⟨g, off + 4, none⟩) (n - 1) (cap - 1))) (.cells #[.slice none 0 0] 45)
  case c2 =>
    intro v' w2 h1 h2
    obtain ⟨a', ca', rfl, -⟩ := own_slice h1
    obtain ⟨h3, h4, h5⟩ := deck_end H0.out HT.out HI.out HDV.out HDL.out hbc hcw HDK.out h1 h2
    have d1 : w2.cell? ⟨b, 1, none⟩ = some (.slice a d.decks.length ca) := cell_of_heap h3 1 rfl
    have k1 : w2.frozen? ⟨b, 1, none⟩ = false := free_of_heap h3 1
    have HP := Lib.hid h4
    have HB := Lib.hid h5
    clear h1 h2 h3 h4 h5
    go_wp2_with fail
    go_ret
    exact ⟨rfl, HP.out, HB.out⟩

theorem last_split {α : Type} (l : List α) (h : l ≠ []) (d : α) : l = l.dropLast ++ [l.getLastD d] := by
  have := List.dropLast_concat_getLast h
  rw [List.getLastD_eq_getLast?, List.getLast?_eq_some_getLast h]; exact this.symm
/-- The last deck. -/
theorem DK.last {b : Nat} {w : World} {decks : List (List (List UInt8))} {dvs : List Value} {c : Nat} (hdl : dvs.length = decks.length)
    (hdk : ∀ i, (h : i < decks.length) → (h' : i < dvs.length) → (i + 1 < decks.length → OSt (b + 1) w dvs[i] decks[i] ∧ ∀ g, dvs[i].ownBlock = some g → g < c) ∧ (i + 1 = decks.length → OSt c w dvs[i] decks[i])) (hne : decks ≠ []) :
    ∃ (n : Nat) (u : Value), n + 1 = decks.length ∧ dvs[n]? = some u ∧ OSt c w u (decks.getLastD []) := by
  have hp : 0 < decks.length := List.length_pos_iff.2 hne
  refine ⟨decks.length - 1, dvs[decks.length - 1]'(by omega), by omega, by simp, ?_⟩
  have := (hdk (decks.length - 1) (by omega) (by omega)).2 (by omega)
  rw [List.getLastD_eq_getLast?, List.getLast?_eq_getElem?, List.getElem?_eq_getElem (by omega)]
  exact this
set_option maxRecDepth 100000 in
set_option maxHeartbeats 4000000 in
theorem row_none (b : Nat) (d : Dr.Draft) (ts : List Lx.Tok) (w : World) (h : PR b w d ts) (hf : d.decks = []) :
    Calls Tryz.prog 50 #[.pointer (some ⟨b, 0, none⟩)] w fun e w' => e = .returned (.int .i64 11) ∧ w = w' := by
  obtain ⟨lv, dv, iv, h0, hT, hD, hI⟩ := h
  obtain ⟨dvs, c, hdv, -⟩ := hD
  obtain ⟨a, ca, rfl, hla⟩ := own_slice hdv
  rw [hf] at h0
  have c1 : w.cell? ⟨b, 1, none⟩ = some (.slice a 0 ca) := cell_of_heap h0 1 rfl
  clear h0 hT hI hdv hf
  go_enter Tryz.func50, Tryz.ntmps50
  go_wp2_with fail
  go_ret
  exact ⟨rfl, rfl⟩
set_option maxRecDepth 100000 in
set_option maxHeartbeats 4000000 in
theorem row_full (b : Nat) (d : Dr.Draft) (ts : List Lx.Tok) (w : World) (h : PR b w d ts) (hne : d.decks ≠ []) (hl : 4096 ≤ (d.decks.getLastD []).length) :
    Calls Tryz.prog 50 #[.pointer (some ⟨b, 0, none⟩)] w fun e w' => e = .returned (.int .i64 6) ∧ w = w' := by
  obtain ⟨lv, dv, iv, h0, hT, hD, hI⟩ := h
  obtain ⟨dvs, c, hdv, hdl, hbc, hcw, hdk⟩ := hD
  obtain ⟨m, u, hm, hu, hou⟩ := DK.last hdl hdk hne
  obtain ⟨g, cd, rfl⟩ : ∃ g cd, dv = .slice (some ⟨g, 0, none⟩) d.decks.length cd := by
    rcases hdv.2 with ⟨-, h⟩ | ⟨g, cap, cur, h, -⟩
    · omega
    · exact ⟨g, cap, h⟩
  obtain ⟨a2, ca2, rfl, hl2⟩ := own_slice hou
  have c1 : w.cell? ⟨b, 1, none⟩ = some (.slice (some ⟨g, 0, none⟩) d.decks.length cd) := cell_of_heap h0 1 rfl
  have q1 : w.cell? ⟨g, m, none⟩ = some (.slice a2 (d.decks.getLastD []).length ca2) := by
    have := hdv.cells (g := g) rfl m _ hu
    have e2 : ((⟨g, 0, none⟩ : Addr).add m) = ⟨g, m, none⟩ := by unfold Addr.add; split <;> simp_all
    rw [e2] at this; exact this
  obtain ⟨n, hn⟩ : ∃ n, n = d.decks.length := ⟨_, rfl⟩
  rw [← hn] at c1 hm
  obtain ⟨k, hk⟩ : ∃ k, k = (d.decks.getLastD []).length := ⟨_, rfl⟩
  rw [← hk] at q1 hl hl2
  obtain rfl : n = m + 1 := hm.symm
  have hn9 : m + 1 ≤ 9223372036854775807 := by have := own_slice hdv; obtain ⟨_, _, _, h⟩ := this; omega
  have mI0 : (0 : Int) ≤ (m : Int) := by omega
  have mI1 : (m : Int) < (m : Int) + 1 := by omega
  have mI2 : (m : Int).toNat = m := by omega
  have mI3 : ((m : Int) + 1 == 0) = false := beq_eq_false_iff_ne.2 (by omega)
  have mI4 : (((m + 1 : Nat) : Int) == 0) = false := beq_eq_false_iff_ne.2 (by omega)
  have kI : (4096 : Int) ≤ (k : Int) := by omega
  clear h0 hT hI hdv hdl hdk hu hou hn hk hne
  go_enter Tryz.func50, Tryz.ntmps50
  go_wp2_with fail
  go_ret
  exact ⟨rfl, rfl⟩

theorem Tryz.strInfo : (Tryz.prog.info? 9).map (fun i => (i.zero, i.size, i.bytes)) = some (some (.string ⟨#[]⟩), 1, 16) := by kernel_rfl
theorem strs_snoc (l : List (List UInt8)) (T : ByteArray) : strs (l ++ [bs T]) = strs l ++ [.string T] := by
  unfold strs
  rw [List.map_append]
  show _ ++ [Value.string ⟨(bs T).toArray⟩] = _
  rw [show (⟨(bs T).toArray⟩ : ByteArray) = T from mk_data T]
theorem row_end {b : Nat} {w1 w2 : World} {lv dv iv v2 u0 : Value} {gd cd m n : Nat} {d : Dr.Draft} {s : List Lx.Tok} {A B : Obj} {dvs : List Value} {c : Nat} {T : ByteArray} {last : List (List UInt8)} (h0 : w1.heap[b]? = some (.cells #[lv, dv, iv] 50 (0, 0))) (hT : TB b w1 lv s) (hI : IT b w1 iv d.items)
    (hdvE : dv = .slice (some ⟨gd, 0, none⟩) n cd) (hn : n = d.decks.length) (hm : m + 1 = n)
    (hdv : w1.ownsRow (b + 1) 45 1 dv d.decks.length dvs) (hdl : dvs.length = d.decks.length) (hbc : b < c) (hcw : c ≤ w1.heap.size) (hlast : d.decks.getLastD [] = last) (hu : dvs[m]? = some u0) (hou : OSt c w1 u0 last)
    (hdk : ∀ i, (h : i < d.decks.length) → (h' : i < dvs.length) → (i + 1 < d.decks.length → OSt (b + 1) w1 dvs[i] d.decks[i] ∧ ∀ g, dvs[i].ownBlock = some g → g < c) ∧ (i + 1 = d.decks.length → OSt c w1 dvs[i] d.decks[i]))
    (h1 : w2.ownsRow c 9 1 v2 (last.length + 1) (strs last ++ [.string T])) (hg : ((w1.alloc A).alloc B).drew.grownBy w2 u0.ownBlock) :
    PR b (w2.setCell ⟨gd, m, none⟩ v2) ⟨d.decks.dropLast ++ [last ++ [bs T]], d.items⟩ s ∧ Below b w1 (w2.setCell ⟨gd, m, none⟩ v2) := by
  subst hdvE
  have hlt : b < w1.heap.size := (Array.getElem?_eq_some_iff.1 h0).1
  have N1 : NB b w1 ((w1.alloc A).alloc B).drew := (((NB.refl b w1).alloc A).alloc B).drew
  have H1 : ((w1.alloc A).alloc B).drew.heap[b]? = some (.cells #[lv, .slice (some ⟨gd, 0, none⟩) n cd, iv] 50 (0, 0)) := by
    show ((w1.alloc A).alloc B).heap[b]? = _
    rw [heap_alloc_old _ _ (by simp; omega), heap_alloc_old _ _ hlt]; exact h0
  have hou1 := N1.row hou hbc
  have G2 : GT 9 ((w1.alloc A).alloc B).drew w2 := GT.of_own hou1 hg
  have H2 := G2.heap H1 (by decide)
  have hdv1 := N1.row hdv (by omega)
  have hdv2 := G2.row hdv1 (by decide)
  rw [← hn] at hdv2
  obtain ⟨hdv3, hg3⟩ := World.ownsRow.stored hdv2 m v2
  have G3 : GT 45 w2 (w2.setCell ⟨gd, m, none⟩ v2) := GT.of_own hdv2 hg3
  have H3 := G3.heap H2 (by decide)
  have hgd : b < gd := by have := World.ownsRow.lt hdv2 gd rfl; omega
  have hB2 : Below b ((w1.alloc A).alloc B).drew w2 := by
    refine (Below.refl _ _).grown hg (by have := N1.size; omega) (fun k hk => ?_)
    have := (World.ownsRow.lt hou1 k hk).1; omega
  have hB : Below b w1 (w2.setCell ⟨gd, m, none⟩ v2) := ((N1.below (Nat.le_refl _) (by omega)).trans hB2).setCell (p := ⟨gd, m, none⟩) (by show b ≤ gd; omega) _
  refine ⟨⟨lv, _, iv, H3, hT.keep hB, ?_, ((hI.nb N1).gt G2 (by decide) (by decide)).gt G3 (by decide) (by decide)⟩, hB⟩
  have hdec : (d.decks.dropLast ++ [last ++ [bs T]]).length = n := by simp; omega
  refine ⟨dvs.set m v2, c, by rw [hdec]; exact hdv3, by rw [hdec]; simp; omega, hbc, by have := hB.size; omega, fun i hi hi' => ⟨fun e => ?_, fun e => ?_⟩⟩
  · rw [hdec] at hi e
    simp only [List.length_set] at hi'
    have him : i ≠ m := by omega
    have hid : i < d.decks.length := by omega
    obtain ⟨h6, h7⟩ := (hdk i hid hi').1 (by omega)
    have e1 : (dvs.set m v2)[i]'(by simpa using hi') = dvs[i] := by rw [List.getElem_set_ne (fun e => him e.symm)]
    have e2 : (d.decks.dropLast ++ [last ++ [bs T]])[i]'(by rw [hdec]; exact hi) = d.decks[i] := by
      rw [List.getElem_append_left (by simp; omega), List.getElem_dropLast]
    rw [e1, e2]
    have k1 := N1.row h6 (by omega)
    have k2 : w2.ownsRow (b + 1) 9 1 dvs[i] d.decks[i].length (strs d.decks[i]) := by
      refine World.ownsRow.kept k1 hg ?_
      cases hv : dvs[i].ownBlock with
      | none => exact .inl rfl
      | some g =>
        refine .inr (fun e => ?_)
        have := h7 g hv
        have := (World.ownsRow.lt hou g e.symm).1; omega
    exact ⟨G3.row k2 (by decide), h7⟩
  · rw [hdec] at hi e
    simp only [List.length_set] at hi'
    obtain rfl : i = m := by omega
    have e1 : (dvs.set i v2)[i]'(by simpa using hi') = v2 := by rw [List.getElem_set_self]
    have e2 : (d.decks.dropLast ++ [last ++ [bs T]])[i]'(by rw [hdec]; exact hi) = last ++ [bs T] := by
      rw [List.getElem_append_right (by simp; omega)]; simp
    rw [e1, e2]
    have := G3.row h1 (by decide)
    unfold OSt
    rw [List.length_append, strs_snoc]; exact this
end Go.Proofs.YtnccndfffmaonaaGreatDoor
/- Walks of package draft: next again, on the parser's block alone; what holds while an item is read. -/
namespace Go.Proofs.YtnccndfffmaonaaGreatDoor
set_option linter.unusedSimpArgs false
set_option linter.unusedVariables false
open Go.RowKit

/-- The parser's block with the tokens that are left. -/
def PT (b : Nat) (dv iv : Value) (w : World) (ts : List Lx.Tok) : Prop := ∃ lv, w.heap[b]? = some (.cells #[lv, dv, iv] 50 (0, 0)) ∧ TB b w lv ts
theorem PT.lt {b : Nat} {dv iv : Value} {w : World} {ts : List Lx.Tok} (h : PT b dv iv w ts) : b < w.heap.size := by
  obtain ⟨lv, h1, -⟩ := h
  exact (Array.getElem?_eq_some_iff.1 h1).1
theorem PT.below {b B : Nat} {dv iv : Value} {w w' : World} {ts : List Lx.Tok} (h : PT b dv iv w ts) (hb : Below B w w') (hB : b < B) : PT b dv iv w' ts := by
  obtain ⟨lv, h1, h2⟩ := h
  exact ⟨lv, (hb.block b hB).trans h1, h2.keep (hb.mono (Nat.le_of_lt hB))⟩
theorem PT.other {b k : Nat} {dv iv : Value} {w w' : World} {ts : List Lx.Tok} (h : PT b dv iv w ts) (hn : NB k w w') (hk : b < k) : PT b dv iv w' ts := by
  obtain ⟨lv, h1, h2⟩ := h
  exact ⟨lv, hn.heap h1 (by omega), h2.keep (hn.below (Nat.le_of_lt hk) (Nat.le_of_lt (PT.lt ⟨lv, h1, h2⟩)))⟩
theorem NB.heapEq {b k : Nat} {w w' : World} {o : Obj} (h : NB b w w') (hk : w.heap[k]? = some o) (hne : k ≠ b) : w'.heap[k]? = some o := h.heap hk hne
set_option maxRecDepth 100000 in
set_option maxHeartbeats 4000000 in
theorem nextT_no (b kd : Nat) (dv iv : Value) (t : Lx.Tok) (r : List Lx.Tok) (w : World) (h : PT b dv iv w (t :: r)) (hk : t.kind ≠ kd) (kdi : Int) (hkd : kdi = (kd : Int)) :
    Calls Tryz.prog 52 #[.pointer (some ⟨b, 0, none⟩), .int .i64 kdi] w fun e w' => e = .returned (.tuple #[tokV t, .bool false]) ∧ NB b w w' ∧ PT b dv iv w' (t :: r) := by
  subst hkd
  have hlt := h.lt
  have HP : Hid (∀ o, PT b dv iv (w.alloc o) (t :: r)) := Lib.hid (fun o => h.below ((Below.refl w.heap.size w).alloc (Nat.le_refl _) o) hlt)
  obtain ⟨lv, h0, hT⟩ := h
  obtain ⟨g, off, n, cap, rfl, hg, hn, hn1, hn2, hnc, hcm, q0, q1, q2, q3⟩ := hT.head
  have hgw : g < w.heap.size := by omega
  have c0 : w.cell? ⟨b, 0, none⟩ = some (.slice (some ⟨g, off, none⟩) n cap) := cell_of_heap h0 0 rfl
  have e1 : ((t.kind : Int) != (kd : Int)) = true := by simp; omega
  obtain ⟨tk, tx, tn, tl⟩ := t
  dsimp only at q0 q1 q2 q3 e1 HP
  clear h0 hT hk
  go_enter Tryz.func52, Tryz.ntmps52
  go_wp2_with fail
  exact bodyPost_ret (v := .tuple #[.agg #[.int .i64 tk, .string ⟨tx.toArray⟩, .int .i64 tn, .int .i64 tl], .bool false]) (by simp [results, Tryz.results52, go_sem]) rfl ⟨rfl, (NB.refl _ _).alloc _, HP.out _⟩
set_option maxRecDepth 100000 in
set_option maxHeartbeats 4000000 in
theorem nextT_ok (b kd : Nat) (dv iv : Value) (t : Lx.Tok) (r : List Lx.Tok) (w : World) (h : PT b dv iv w (t :: r)) (hk : t.kind = kd) (hr : 1 ≤ r.length) (kdi : Int) (hkd : kdi = (kd : Int)) :
    Calls Tryz.prog 52 #[.pointer (some ⟨b, 0, none⟩), .int .i64 kdi] w fun e w' => e = .returned (.tuple #[tokV t, .bool true]) ∧ NB b w w' ∧ PT b dv iv w' r := by
  subst hkd
  have hlt := h.lt
  obtain ⟨lv, h0, hT⟩ := h
  obtain ⟨g, off, n, cap, rfl, hg, hn, hn1, hn2, hnc, hcm, q0, q1, q2, q3⟩ := hT.head
  have hgw : g < w.heap.size := by omega
  have hn3 : 2 ≤ n := by have := hn.out; omega
  have hcap : ¬ cap = 1 := by omega
  have hcap1 : 1 ≤ cap := by omega
  have nI : (1 : Int) ≤ (n : Int) := by omega
  have nI2 : (1 : Int) ≤ (cap : Int) := by omega
  have hbg : b ≠ g := by omega
  have c0 : w.cell? ⟨b, 0, none⟩ = some (.slice (some ⟨g, off, none⟩) n cap) := cell_of_heap h0 0 rfl
  have f0 : w.frozen? ⟨b, 0, none⟩ = false := free_of_heap h0 0
  have e1 : ((t.kind : Int) != (kd : Int)) = false := by rw [hk]; simp
  have HT := Lib.hid hT.tail
  have H0 := Lib.hid h0
  obtain ⟨tk, tx, tn, tl⟩ := t
  dsimp only at q0 q1 q2 q3 e1
  clear h0 hT hk
  go_enter Tryz.func52, Tryz.ntmps52
  go_wp2_with fail
  have N1 := (NB.refl b w).set 0 (.slice (some ⟨g, off + 4, none⟩) (n - 1) (cap - 1))
  have h1 := set_heap H0.out 0 (.slice (some ⟨g, off + 4, none⟩) (n - 1) (cap - 1))
  refine bodyPost_ret (v := .tuple #[.agg #[.int .i64 tk, .string ⟨tx.toArray⟩, .int .i64 tn, .int .i64 tl], .bool true]) (by simp [results, Tryz.results52, go_sem]) rfl ⟨rfl, (N1.alloc _).alloc _, .slice (some ⟨g, off + 4, none⟩) (n - 1) (cap - 1), ?_, HT.out.keep (((N1.alloc _).alloc _).below (Nat.le_refl _) (by omega))⟩
  rw [heap_alloc_old _ _ (by simp; omega), heap_alloc_old _ _ (by simp; omega), h1]; rfl

/-- The names that are still to be given. -/
def namesV (nb j : Nat) : Value := if j = 0 then .slice (some ⟨nb, 0, none⟩) 2 2 else if j = 1 then .slice (some ⟨nb, 1, none⟩) 1 1 else .slice (some ⟨nb, 1, none⟩) 0 0
def xObj (x : Dr.Item) (nv : Value) : Obj := .cells (itemC x nv).toArray 34 (0, 0)
/-- What holds while an item is read: its block, the pointers to its names, the iterator, the numbers, the tokens. -/
structure ItS (b xb : Nat) (P : ByteArray) (dv iv : Value) (w wr : World) (x : Dr.Item) (pos : Nat) (ts : List Lx.Tok) (nv : Value) : Prop where
  hx : wr.heap[xb]? = some (xObj x nv)
  hnm : wr.heap[xb + 1]? = some (.cells #[.pointer (some ⟨xb, 2, none⟩), .pointer (some ⟨xb, 3, none⟩)] 106 (0, 0))
  hit : wr.heap[xb + 3]? = some (.stringIter P pos)
  hN : wr.ownsRow (xb + 4) 3 1 nv x.n.length (ints x.n)
  hP : PT b dv iv wr ts
  hE : EndT ts
  hB : NB b w wr
  hb : b < xb
  hw : w.heap.size ≤ xb
theorem ItS.next {b xb : Nat} {P : ByteArray} {dv iv : Value} {w wr w' : World} {x : Dr.Item} {pos : Nat} {ts us : List Lx.Tok} {nv : Value} (h : ItS b xb P dv iv w wr x pos ts nv) (hn : NB b wr w') (hp : PT b dv iv w' us) (he : EndT us) : ItS b xb P dv iv w w' x pos us nv :=
  have hb := h.hb
  ⟨hn.heap h.hx (by omega), hn.heap h.hnm (by omega), hn.heap h.hit (by omega), hn.row h.hN (by omega), hp, he, h.hB.trans hn, h.hb, h.hw⟩
theorem ItS.alloc {b xb : Nat} {P : ByteArray} {dv iv : Value} {w wr : World} {x : Dr.Item} {pos : Nat} {ts : List Lx.Tok} {nv : Value} (h : ItS b xb P dv iv w wr x pos ts nv) (o : Obj) : ItS b xb P dv iv w (wr.alloc o) x pos ts nv :=
  h.next ((NB.refl _ _).alloc o) (h.hP.below ((Below.refl wr.heap.size wr).alloc (Nat.le_refl _) o) h.hP.lt) h.hE
theorem ItS.drew {b xb : Nat} {P : ByteArray} {dv iv : Value} {w wr : World} {x : Dr.Item} {pos : Nat} {ts : List Lx.Tok} {nv : Value} (h : ItS b xb P dv iv w wr x pos ts nv) : ItS b xb P dv iv w wr.drew x pos ts nv :=
  h.next ((NB.refl _ _).drew) (h.hP.below ((Below.refl wr.heap.size wr).drew) h.hP.lt) h.hE
theorem nb_iterAt {k : Nat} {w : World} (s : ByteArray) (p : Nat) : NB k w (w.iterAt k s p) := ⟨rfl, rfl, rfl, by rw [Lib.iterAt_size]; exact Nat.le_refl _, fun i hi hne => Lib.iterAt_other w k i s p (fun e => hne (by rw [e]))⟩
theorem NB.new {b k : Nat} {w wr w' : World} (h : NB b w wr) (hn : NB k wr w') (hk : w.heap.size ≤ k) : NB b w w' :=
  ⟨hn.os.trans h.os, hn.tape.trans h.tape, hn.output.trans h.output, Nat.le_trans h.size hn.size, fun i hi hne => (hn.block i (Nat.lt_of_lt_of_le hi h.size) (fun e => by injection e with e; omega)).trans (h.block i hi hne)⟩
theorem ItS.iter {b xb : Nat} {P : ByteArray} {dv iv : Value} {w wr : World} {x : Dr.Item} {pos : Nat} {ts : List Lx.Tok} {nv : Value} (h : ItS b xb P dv iv w wr x pos ts nv) (p : Nat) : ItS b xb P dv iv w (wr.iterAt (xb + 3) P p) x p ts nv :=
  have hb := h.hb
  have hw := h.hw
  have hn : NB (xb + 3) wr (wr.iterAt (xb + 3) P p) := nb_iterAt P p
  ⟨hn.heap h.hx (by omega), hn.heap h.hnm (by omega), Lib.iterAt_heap wr (xb + 3) P pos p h.hit, hn.row h.hN (by omega), h.hP.other hn (by omega), h.hE, h.hB.new hn (by omega), h.hb, h.hw⟩
/-- The item's block is written. -/
theorem ItS.put {b xb : Nat} {P : ByteArray} {dv iv : Value} {w wr : World} {x y : Dr.Item} {pos : Nat} {ts : List Lx.Tok} {nv mv : Value} (h : ItS b xb P dv iv w wr x pos ts nv) (i : Nat) (u : Value) (hxy : (itemC x nv).toArray.setIfInBounds i u = (itemC y mv).toArray)
    (hN : (wr.setCell ⟨xb, i, none⟩ u).ownsRow (xb + 4) 3 1 mv y.n.length (ints y.n)) : ItS b xb P dv iv w (wr.setCell ⟨xb, i, none⟩ u) y pos ts mv :=
  have hb := h.hb
  have hw := h.hw
  have hn : NB xb wr (wr.setCell ⟨xb, i, none⟩ u) := (NB.refl xb wr).set i u
  ⟨by have := set_heap h.hx i u; rw [this, hxy]; rfl, hn.heap h.hnm (by omega), hn.heap h.hit (by omega), hN, h.hP.other hn (by omega), h.hE, h.hB.new hn hw, h.hb, h.hw⟩
theorem ItS.name0 {b xb : Nat} {P : ByteArray} {dv iv : Value} {w wr : World} {x : Dr.Item} {pos : Nat} {ts : List Lx.Tok} {nv : Value} (h : ItS b xb P dv iv w wr x pos ts nv) (t : List UInt8) : ItS b xb P dv iv w (wr.setCell ⟨xb, 2, none⟩ (.string ⟨t.toArray⟩)) (Dr.setName x 0 t) pos ts nv :=
  h.put 2 _ rfl (((NB.refl xb wr).set 2 _).row h.hN (by omega))
theorem ItS.name1 {b xb : Nat} {P : ByteArray} {dv iv : Value} {w wr : World} {x : Dr.Item} {pos : Nat} {ts : List Lx.Tok} {nv : Value} (h : ItS b xb P dv iv w wr x pos ts nv) (t : List UInt8) : ItS b xb P dv iv w (wr.setCell ⟨xb, 3, none⟩ (.string ⟨t.toArray⟩)) (Dr.setName x 1 t) pos ts nv :=
  h.put 3 _ rfl (((NB.refl xb wr).set 3 _).row h.hN (by omega))
/-- A number is appended, and the numbers are stored back. -/
theorem ItS.num {b xb : Nat} {P : ByteArray} {dv iv : Value} {w wr w2 : World} {x : Dr.Item} {pos : Nat} {ts : List Lx.Tok} {nv v' : Value} (h : ItS b xb P dv iv w wr x pos ts nv) (k : Int) (hown : w2.ownsRow (xb + 4) 3 1 v' (x.n.length + 1) (ints x.n ++ [.int .i64 k])) (hg : wr.grownBy w2 nv.ownBlock) :
    w2.heap[xb]? = some (xObj x nv) ∧ ItS b xb P dv iv w (w2.setCell ⟨xb, 4, none⟩ v') { x with n := x.n ++ [k] } pos ts v' := by
  have hb := h.hb
  have hw := h.hw
  have hlt : xb + 3 < wr.heap.size := (Array.getElem?_eq_some_iff.1 h.hit).1
  have hB : Below (xb + 4) wr w2 := (Below.refl _ _).grown hg (by omega) (fun k hk => (World.ownsRow.lt h.hN k hk).1)
  have hx2 : w2.heap[xb]? = some (xObj x nv) := (hB.block xb (by omega)).trans h.hx
  refine ⟨hx2, ?_⟩
  have hn : NB xb w2 (w2.setCell ⟨xb, 4, none⟩ v') := (NB.refl xb w2).set 4 v'
  have hB2 : NB b w w2 := ⟨hB.os.trans h.hB.os, hB.tape.trans h.hB.tape, hB.output.trans h.hB.output, Nat.le_trans h.hB.size hB.size, fun i hi hne => (hB.block i (by omega)).trans (h.hB.block i hi hne)⟩
  refine ⟨by rw [set_heap hx2]; rfl, hn.heap ((hB.block (xb + 1) (by omega)).trans h.hnm) (by omega), hn.heap ((hB.block (xb + 3) (by omega)).trans h.hit) (by omega), ?_, (h.hP.below hB (by omega)).other hn hb, h.hE, hB2.new hn hw, hb, hw⟩
  have := hn.row hown (by omega)
  rw [List.length_append]
  have e : ints (x.n ++ [k]) = ints x.n ++ [.int .i64 k] := by simp [ints]
  rw [e]; exact this

theorem Tryz.intInfo : (Tryz.prog.info? 3).map (fun i => (i.zero, i.size, i.bytes)) = some (some (.int .i64 0), 1, 8) := by kernel_rfl
theorem wpList_app_int {w : World} {ops : Array Oper} {rest : List Oper} {o : Oper} {a : Act} {Q : Exit → Act → World → Prop} (hgd : o.guard = none) (s x : Operand)
    (ho : o.op = .call { callee := .builtin .append, args := #[s, x], argTypes := #[32, 32] })
    (base : Nat) (v : Value) (l : List Int) (hs : a.eval s = v) (hown : w.ownsRow base 3 1 v l.length (ints l))
    (g c : Nat) (k : Int) (hx : a.eval x = .slice (some ⟨g, 0, none⟩) 1 c) (hg : w.heap[g]? = some (.cells #[.int .i64 k] 3 (0, 0)))
    (hsz : l.length + 1 ≤ 1000000000) (hbase : base ≤ w.heap.size)
    (h : ∀ v' w', w'.ownsRow base 3 1 v' (l.length + 1) (ints l ++ [.int .i64 k]) → w.grownBy w' v.ownBlock → wpList Tryz.prog ops Q rest (a.put o.dst v') w') : wpList Tryz.prog ops Q (o :: rest) a w := by
  obtain ⟨i, hi, hz, hsize, hby⟩ := info_parts Tryz.intInfo
  refine wpList_append_own w hgd s x _ ho base 3 i _ 1 8 Tryz.underlying32 hi hz hsize hby rfl (by decide) v l.length (ints l) hs hown ⟨g, 0, none⟩ 1 c [.int .i64 k] hx rfl ?_ ?_ (by unfold maxLen; omega) (by omega) hbase ?_
  · intro j y hj
    have h0 : j = 0 := by
      have := (List.getElem?_eq_some_iff.1 hj).1; simpa using this
    subst h0
    simp at hj; subst hj
    simp [World.cell?, Addr.add, hg]
  · intro y hy
    obtain rfl := List.mem_singleton.1 hy
    rfl
  · intro v' w' h2 h3 _
    exact h v' w' h2 h3
end Go.Proofs.YtnccndfffmaonaaGreatDoor
