/- Walks of package lex: take. -/
import Derived.Test.YtdjiimblfhbcjaaDoorLxM
import Derived.Deep.RegionLaw
namespace Go.Proofs.YtdjiimblfhbcjaaDoor
set_option linter.unusedSimpArgs false
open Go.RowKit

theorem Tryd.tokInfo : (Tryd.prog.info? 42).map (fun i => (i.zero, i.size, i.bytes)) = some (some (.agg #[.int .i64 0, .string ⟨#[]⟩, .int .i64 0, .int .i64 0]), 4, 40) := by kernel_rfl
theorem own_new {w : World} {B : Nat} {e : TypeId} {sz : Nat} {v : Value} {n : Nat} {xs : List Value} (hown : w.ownsRow B e sz v n xs) : some w.heap.size ≠ v.ownBlock := by
  rcases hown.2 with ⟨rfl, _⟩ | ⟨g, cap, cur, rfl, _, hg, _⟩
  · simp [Value.ownBlock]
  · intro h
    simp only [Value.ownBlock, Option.some.injEq] at h
    subst h
    simp at hg
theorem fz2 {w : World} {b o : Nat} (h : w.frozen? ⟨b, o, none⟩ = false) (hlt : b < w.heap.size) (A B : Obj) : ((w.alloc A).alloc B).drew.frozen? ⟨b, o, none⟩ = false :=
  ((((Below.refl _ w).alloc (Nat.le_refl _) A).alloc (by simp) B).drew.frozen (p := ⟨b, o, none⟩) hlt).trans h
theorem cl2 {w : World} {b o : Nat} {v : Value} (h : w.cell? ⟨b, o, none⟩ = some v) (hlt : b < w.heap.size) (A B : Obj) : ((w.alloc A).alloc B).drew.cell? ⟨b, o, none⟩ = some v :=
  ((((Below.refl _ w).alloc (Nat.le_refl _) A).alloc (by simp) B).drew.cell (p := ⟨b, o, none⟩) hlt).trans h
theorem heap2 (w : World) (A B : Obj) : ((w.alloc A).alloc B).drew.heap[w.heap.size + 1]? = some B := by
  have := heap_alloc_new (w.alloc A) B
  rwa [show (w.alloc A).heap.size = w.heap.size + 1 by simp] at this
theorem take_end {b : Nat} {src : ByteArray} {k ln e2 : Nat} {ts : List Lx.Tok} {t : Lx.Tok} {v v' : Value} {w w1 : World} {A B : Obj}
    (hb : w.heap[b]? = some (.cells #[.string src, .int .i64 k, .int .i64 ln, v] 71 (0, 0))) (hown : w1.ownsRow b 42 4 v' (ts.length + 1) (toksC (ts ++ [t])))
    (ho : w.ownsRow b 42 4 v ts.length (toksC ts)) (hgrow : ((w.alloc A).alloc B).drew.grownBy w1 v.ownBlock) (hlt : b < w.heap.size) (ne : v.ownBlock ≠ some b) :
    Scn b src e2 ln (ts ++ [t]) ((w1.setCell ⟨b, 3, none⟩ v').setCell ⟨b, 1, none⟩ (.int .i64 e2)) ∧ Below b w ((w1.setCell ⟨b, 3, none⟩ v').setCell ⟨b, 1, none⟩ (.int .i64 e2)) := by
  have hB : Below w.heap.size w ((w.alloc A).alloc B).drew := (((Below.refl _ w).alloc (Nat.le_refl _) A).alloc (by simp) B).drew
  have hb1 : w1.heap[b]? = some (.cells #[.string src, .int .i64 k, .int .i64 ln, v] 71 (0, 0)) := by
    rw [hgrow.block b (Nat.lt_of_lt_of_le hlt hB.size) (fun e => ne e.symm), hB.block b hlt]; exact hb
  have ne' := own_ne hown hb1 (by decide)
  refine ⟨⟨v', ?_, ?_⟩, ?_⟩
  · simp [World.setCell, Array.getElem?_modify, hb1]
  · rw [List.length_append]
    refine World.ownsRow.kept (row := some b) (w := w1) hown ⟨rfl, rfl, rfl, by simp [World.setCell], fun j _ hj => ?_⟩ (Or.inr ne')
    rw [Below.heap_setCell _ _ _ _ (fun e => hj (by simp [e])), Below.heap_setCell _ _ _ _ (fun e => hj (by simp [e]))]
  · refine (((hB.mono (Nat.le_of_lt hlt)).grown hgrow (Nat.le_trans (Nat.le_of_lt hlt) hB.size) ?_).setCell (p := ⟨b, 3, none⟩) (Nat.le_refl _) _).setCell (p := ⟨b, 1, none⟩) (Nat.le_refl _) _
    exact fun j hj => (ho.lt j hj).1
set_option maxRecDepth 100000 in
set_option maxHeartbeats 3200000 in
theorem take_any (b : Nat) (src : ByteArray) (k ln : Nat) (ts : List Lx.Tok) (kd : Nat) (tx : ByteArray) (n l0 : Int) (e2 : Nat) (kk ee : Int) (hkk : kk = (kd : Int)) (hee : ee = (e2 : Int)) (w : World) (h : Scn b src k ln ts w) (hl : ts.length ≤ 1000000000) :
    Calls Tryd.prog 105 #[.pointer (some ⟨b, 0, none⟩), .agg #[.int .i64 kk, .string tx, .int .i64 n, .int .i64 l0], .int .i64 ee] w fun e w' => e = .returned (.tuple #[]) ∧ Scn b src e2 ln (ts ++ [⟨kd, bs tx, n, ln⟩]) w' ∧ Below b w w' := by
  subst hkk hee
  obtain ⟨i0, hi0, hz0, hz1, hz2⟩ := info_parts Tryd.tokInfo
  have hlt := h.lt
  have c2 := h.c2
  have c1 := h.c1
  obtain ⟨v, hb, ho⟩ := h
  have c3 : w.cell? ⟨b, 3, none⟩ = some v := by simp [World.cell?, hb]
  have fz : ∀ o, w.frozen? ⟨b, o, none⟩ = false := by intro o; simp [World.frozen?, hb]
  have f1 := fz 1
  have f3 := fz 3
  have ne := own_ne ho hb (by decide)
  have HO := Lib.hid ho
  have HBB := Lib.hid hb
  clear ho hb fz
  go_enter Tryd.func105, Tryd.ntmps105
  go_wp2_with fail
  go_region_law ((refine step_append_lies _ (by rfl) _ _ _ (by rfl) b 42 i0 _ 4 40 Tryd.underlying37 hi0 hz0 hz1 hz2 rfl (by omega) v ts.length (toksC ts) (by rfl) (((HO.out.alloc _).alloc _).drew) ⟨w.heap.size + 1, 0, none⟩ 1 1 [.int .i64 kd, .string tx, .int .i64 n, .int .i64 ln] (by rfl) (by rfl) (World.news_of_block (cs := #[.int .i64 kd, .string tx, .int .i64 n, .int .i64 ln]) (t := 42) (fr := (0, 0)) (heap2 w _ _)) (by simp [Value.oneCell']) (by omega) (by unfold maxLen; omega) (by omega) (by simp; omega) (w.heap.size + 2) (by simp) ?_; intro g cap w1 hown1 hgrow hat hlt1; have c3' : w1.cell? ⟨b, 3, none⟩ = some v := (hgrow.cell_far ⟨b, 3, none⟩ (by simp; omega) (Ne.symm ne)).trans (cl2 c3 hlt _ _); have c1' : w1.cell? ⟨b, 1, none⟩ = some (.int .i64 k) := (hgrow.cell_far ⟨b, 1, none⟩ (by simp; omega) (Ne.symm ne)).trans (cl2 c1 hlt _ _); have f3' : w1.frozen? ⟨b, 3, none⟩ = false := (hgrow.frozen_far ⟨b, 3, none⟩ (by simp; omega) (Ne.symm ne)).trans (fz2 f3 hlt _ _); have f1' : w1.frozen? ⟨b, 1, none⟩ = false := (hgrow.frozen_far ⟨b, 1, none⟩ (by simp; omega) (Ne.symm ne)).trans (fz2 f1 hlt _ _)))
  all_goals
    go_end0
    exact ⟨rfl, take_end HBB.out (by simp only [toksC_append]; exact hown1) HO.out hgrow hlt ne⟩

theorem end_any (b : Nat) (src : ByteArray) (k ln : Nat) (ts : List Lx.Tok) (w : World) (h : Scn b src k ln ts w) (hl : ts.length ≤ 1000000000) :
    Calls Tryd.prog 78 #[.pointer (some ⟨b, 0, none⟩)] w fun e w' => e = .returned (.int .i64 0) ∧ Scn b src k ln (ts ++ [⟨4, [], 0, ln⟩]) w' ∧ Below b w w' := by
  have c1 := h.c1
  have H := Lib.hid h
  clear h
  go_enter Tryd.func78, Tryd.ntmps78
  go_wp2_with fail
  go_at_call 105; refine (take_any b src k ln ts 4 ⟨#[]⟩ 0 0 k _ _ rfl rfl _ H.out hl).mono ?_; rintro e w' ⟨rfl, h1, h2⟩
  have H1 := Lib.hid h1
  clear h1
  go_wp2_with fail
  go_ret
  exact ⟨rfl, H1.out, h2⟩
theorem feed_any (b : Nat) (src : ByteArray) (k ln : Nat) (ts : List Lx.Tok) (w : World) (h : Scn b src k ln ts w) (hl : ts.length ≤ 1000000000) (hk : k ≤ 1000000000) (hln : ln ≤ 1000000000) :
    Calls Tryd.prog 82 #[.pointer (some ⟨b, 0, none⟩)] w fun e w' => e = .returned (.int .i64 0) ∧ Scn b src (k + 1) (ln + 1) (ts ++ [⟨3, [], 0, ln⟩]) w' ∧ Below b w w' := by
  have c1 := h.c1
  have H := Lib.hid h
  clear h
  go_enter Tryd.func82, Tryd.ntmps82
  go_wp2_with fail
  go_at_call 105; refine (take_any b src k ln ts 3 ⟨#[]⟩ 0 0 (k + 1) _ _ rfl (by omega) _ H.out hl).mono ?_; rintro e w' ⟨rfl, h1, h2⟩
  have d2 := h1.c2
  have f2 := h1.fz 2
  have H1 := Lib.hid h1
  clear h1
  go_wp2_with fail
  go_ret
  exact ⟨rfl, by have := H1.out.setLine (ln + 1); rw [show ((ln + 1 : Nat) : Int) = (ln : Int) + 1 by omega] at this; exact this, h2.setCell (p := ⟨b, 2, none⟩) (Nat.le_refl _) _⟩
theorem wrong_any (b : Nat) (w : World) :
    Calls Tryd.prog 83 #[.pointer (some ⟨b, 0, none⟩)] w fun e w' => e = .returned (.int .i64 11) ∧ w = w' := by
  go_enter Tryd.func83, Tryd.ntmps83
  go_wp2_with fail
  go_ret
  exact ⟨rfl, rfl⟩
end Go.Proofs.YtdjiimblfhbcjaaDoor
