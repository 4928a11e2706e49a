/- The scanner of package lex: what its block holds; take. -/
import Derived.Test.YtdjiimblfhbcjaaDoorLxW
import Derived.Deep.RegionHeld3
import Derived.Deep.AppendLies
import Derived.Deep.DrawnRows
namespace Go.Proofs.YtdjiimblfhbcjaaDoor
set_option linter.unusedSimpArgs false
open Go.RowKit

def tokC (t : Lx.Tok) : List Value := [.int .i64 t.kind, .string ⟨t.text.toArray⟩, .int .i64 t.n, .int .i64 t.line]
def toksC (ts : List Lx.Tok) : List Value := ts.flatMap tokC
theorem toksC_len (ts : List Lx.Tok) : (toksC ts).length = ts.length * 4 := by
  induction ts with
  | nil => rfl
  | cons t ts ih =>
    show (tokC t ++ toksC ts).length = _
    rw [List.length_append, ih]; simp [tokC]; omega
theorem toksC_append (a b : List Lx.Tok) : toksC (a ++ b) = toksC a ++ toksC b := by simp [toksC]
/-- Block b is a scanner: the source, the place, the line, the tokens so far. -/
def Scn (b : Nat) (src : ByteArray) (k ln : Nat) (ts : List Lx.Tok) (w : World) : Prop :=
  ∃ v, w.heap[b]? = some (.cells #[.string src, .int .i64 k, .int .i64 ln, v] 71 (0, 0)) ∧ w.ownsRow b 42 4 v ts.length (toksC ts)
theorem own_ne {w : World} {B : Nat} {e T : TypeId} {sz : Nat} {v : Value} {n : Nat} {xs : List Value} {b : Nat} {cs : Array Value} {fr : Nat × Nat} (hown : w.ownsRow B e sz v n xs) (hb : w.heap[b]? = some (.cells cs T fr)) (hTe : T ≠ e) : v.ownBlock ≠ some b := by
  rcases hown.2 with ⟨rfl, _⟩ | ⟨g, cap, cur, rfl, _, hg, _⟩
  · simp [Value.ownBlock]
  · intro h
    simp only [Value.ownBlock, Option.some.injEq] at h
    subst h
    rw [hg] at hb
    simp only [Option.some.injEq, Obj.cells.injEq] at hb
    exact hTe hb.2.1.symm
theorem Scn.lt {b : Nat} {src : ByteArray} {k ln : Nat} {ts : List Lx.Tok} {w : World} (h : Scn b src k ln ts w) : b < w.heap.size := by
  obtain ⟨v, hb, _⟩ := h
  rcases Nat.lt_or_ge b w.heap.size with h' | h'
  · exact h'
  · simp [Array.getElem?_eq_none h'] at hb
theorem Scn.setAt {b : Nat} {src : ByteArray} {k ln : Nat} {ts : List Lx.Tok} {w : World} (h : Scn b src k ln ts w) (k' : Nat) : Scn b src k' ln ts (w.setCell ⟨b, 1, none⟩ (.int .i64 k')) := by
  obtain ⟨v, hb, ho⟩ := h
  refine ⟨v, by simp [World.setCell, Array.getElem?_modify, hb], ?_⟩
  exact ho.kept (row := some b) ⟨rfl, rfl, rfl, by simp [World.setCell], fun k _ hk => Below.heap_setCell _ _ _ _ (fun e => hk (by simp [e]))⟩ (Or.inr (own_ne ho hb (by decide)))
theorem Scn.setLine {b : Nat} {src : ByteArray} {k ln : Nat} {ts : List Lx.Tok} {w : World} (h : Scn b src k ln ts w) (l' : Nat) : Scn b src k l' ts (w.setCell ⟨b, 2, none⟩ (.int .i64 l')) := by
  obtain ⟨v, hb, ho⟩ := h
  refine ⟨v, by simp [World.setCell, Array.getElem?_modify, hb], ?_⟩
  exact ho.kept (row := some b) ⟨rfl, rfl, rfl, by simp [World.setCell], fun k _ hk => Below.heap_setCell _ _ _ _ (fun e => hk (by simp [e]))⟩ (Or.inr (own_ne ho hb (by decide)))
theorem Scn.drewN {b : Nat} {src : ByteArray} {k ln : Nat} {ts : List Lx.Tok} {w : World} (h : Scn b src k ln ts w) (n : Nat) : Scn b src k ln ts (w.drewN n) := h
theorem Scn.drew {b : Nat} {src : ByteArray} {k ln : Nat} {ts : List Lx.Tok} {w : World} (h : Scn b src k ln ts w) : Scn b src k ln ts w.drew := h
theorem Scn.keep {b : Nat} {src : ByteArray} {k ln : Nat} {ts : List Lx.Tok} {w w' : World} (h : Scn b src k ln ts w) (hb : Below w.heap.size w w') : Scn b src k ln ts w' := by
  have hlt := h.lt
  obtain ⟨v, hv, ho⟩ := h
  exact ⟨v, (hb.block b hlt).trans hv, ho.kept (row := none) ⟨hb.os, hb.tape, hb.output, hb.size, fun k hk _ => hb.block k hk⟩ (Classical.em _)⟩
theorem Scn.c0 {b : Nat} {src : ByteArray} {k ln : Nat} {ts : List Lx.Tok} {w : World} (h : Scn b src k ln ts w) : w.cell? ⟨b, 0, none⟩ = some (.string src) := by
  obtain ⟨v, hb, ho⟩ := h; simp [World.cell?, hb]
theorem Scn.c1 {b : Nat} {src : ByteArray} {k ln : Nat} {ts : List Lx.Tok} {w : World} (h : Scn b src k ln ts w) : w.cell? ⟨b, 1, none⟩ = some (.int .i64 k) := by
  obtain ⟨v, hb, ho⟩ := h; simp [World.cell?, hb]
theorem Scn.c2 {b : Nat} {src : ByteArray} {k ln : Nat} {ts : List Lx.Tok} {w : World} (h : Scn b src k ln ts w) : w.cell? ⟨b, 2, none⟩ = some (.int .i64 ln) := by
  obtain ⟨v, hb, ho⟩ := h; simp [World.cell?, hb]
theorem Scn.fz {b : Nat} {src : ByteArray} {k ln : Nat} {ts : List Lx.Tok} {w : World} (h : Scn b src k ln ts w) (o : Nat) : w.frozen? ⟨b, o, none⟩ = false := by
  obtain ⟨v, hb, ho⟩ := h; simp [World.frozen?, hb]
/-- Where the scanner stands. -/
def placeOf (b : Nat) (w : World) : Nat := (intOf ((w.cell? ⟨b, 1, none⟩).getD undef)).toNat
theorem Scn.place {b : Nat} {src : ByteArray} {k ln : Nat} {ts : List Lx.Tok} {w : World} (h : Scn b src k ln ts w) : placeOf b w = k := by
  rw [placeOf, h.c1]; simp [intOf]

theorem skip_ix : ∀ (l : List UInt8) (m : Nat), (Lib.indexByte l 10 = m ∨ (Lib.indexByte l 10 = -1 ∧ m = l.length)) → Lx.skip true l = Lx.skip false (l.drop m) ∧ m ≤ l.length := by
  intro l
  induction l with
  | nil =>
    intro m h
    rcases h with h | ⟨_, h⟩
    · exfalso; rw [Lib.indexByte] at h; omega
    · subst h; exact ⟨rfl, Nat.le_refl _⟩
  | cons c l ih =>
    intro m h
    rw [Lib.indexByte] at h
    by_cases hc : c = 10
    · subst hc
      rw [if_pos (by rfl)] at h
      rcases h with h | ⟨h, _⟩
      · obtain rfl : m = 0 := by omega
        rw [Lx.skip, if_pos rfl, List.drop_zero, Lx.skip, if_neg (by decide), if_neg (by decide)]
        exact ⟨rfl, by simp⟩
      · omega
    · rw [if_neg (by simpa using hc)] at h
      rw [Lx.skip, if_neg hc]
      have hge := Lib.indexByte_ge l 10
      by_cases hm1 : Lib.indexByte l 10 = -1
      · rw [if_pos (by rw [hm1]; rfl)] at h
        rcases h with h | ⟨_, h⟩
        · omega
        · subst h
          have := ih l.length (.inr ⟨hm1, rfl⟩)
          rw [this.1, List.length_cons, List.drop_succ_cons]
          exact ⟨rfl, Nat.le_refl _⟩
      · rw [if_neg (by simpa using hm1)] at h
        rcases h with h | ⟨h, _⟩
        · have := ih (m - 1) (.inl (by omega))
          obtain ⟨j, rfl⟩ : ∃ j, m = j + 1 := ⟨m - 1, by omega⟩
          rw [Nat.add_sub_cancel] at this
          rw [this.1, List.drop_succ_cons, List.length_cons]
          exact ⟨rfl, by omega⟩
        · omega
end Go.Proofs.YtdjiimblfhbcjaaDoor
