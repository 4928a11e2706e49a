/- Walks: slices.IndexFunc and slices.DeleteFunc over faults. -/
import Derived.Test.YtcdfmgobokjcnaaGa
namespace Go.Proofs.Ytcdfmgobokjcnaa
set_option linter.unusedSimpArgs false
set_option linter.unusedVariables false
open Go.RowKit Go.Sort

/-! ### rows of faults -/
def flts (l : List Fa.Flt) : List Value := l.flatMap fltC
theorem flts_len (l : List Fa.Flt) : (flts l).length = l.length * 3 := by
  unfold flts
  induction l with
  | nil => rfl
  | cons x l ih => simp only [List.flatMap_cons, List.length_append, List.length_cons, ih, fltC_len]; omega
theorem flts_app (l m : List Fa.Flt) : flts (l ++ m) = flts l ++ flts m := by simp [flts]
theorem flts_eq (l : List Fa.Flt) : flts l = (l.map fltC).flatten := by simp [flts, List.flatMap]
theorem flts_one (l : List Fa.Flt) : ∀ u ∈ flts l, u.oneCell' = true := by
  intro u hu
  obtain ⟨x, -, hx⟩ := List.mem_flatMap.1 hu
  simp [fltC] at hx
  rcases hx with rfl | rfl | rfl <;> rfl
theorem flts_take : ∀ (l : List Fa.Flt) (k : Nat), (flts l).take (k * 3) = flts (l.take k)
  | [], k => by simp [flts]
  | x :: l, 0 => by simp [flts]
  | x :: l, k + 1 => by
    show ([Value.int .i64 x.kind, .int .i64 x.a, .int .i64 x.n] ++ flts l).take ((k + 1) * 3) = _
    rw [show (k + 1) * 3 = k * 3 + 1 + 1 + 1 by omega]
    simp only [List.cons_append, List.nil_append, List.take_succ_cons]
    rw [flts_take l k]; rfl
theorem flts_get {l : List Fa.Flt} {i : Nat} (hi : i < l.length) : (flts l)[i * 3]? = some (.int .i64 l[i].kind) ∧ (flts l)[i * 3 + 1]? = some (.int .i64 l[i].a) ∧ (flts l)[i * 3 + 2]? = some (.int .i64 l[i].n) := by
  have h := fun j (hj : j < 3) => get_flatten (l.map fltC) (k := 3) (fun r hr => by obtain ⟨x, -, rfl⟩ := List.mem_map.1 hr; rfl) i (by simpa using hi) j hj
  rw [← flts_eq] at h
  simp only [List.getElem_map] at h
  exact ⟨h 0 (by omega), h 1 (by omega), h 2 (by omega)⟩
theorem flts_set : ∀ (l : List Fa.Flt) (i : Nat) (x : Fa.Flt), i < l.length → (((flts l).set (i * 3) (.int .i64 x.kind)).set (i * 3 + 1) (.int .i64 x.a)).set (i * 3 + 2) (.int .i64 x.n) = flts (l.set i x)
  | [], i, x, h => by simp at h
  | y :: l, 0, x, _ => by simp [flts, fltC]
  | y :: l, i + 1, x, h => by
    have ih := flts_set l i x (by simpa using h)
    show ((([Value.int .i64 y.kind, .int .i64 y.a, .int .i64 y.n] ++ flts l).set ((i + 1) * 3) _).set ((i + 1) * 3 + 1) _).set ((i + 1) * 3 + 2) _ = _
    rw [show (i + 1) * 3 + 2 = (i * 3 + 2) + 1 + 1 + 1 by omega, show (i + 1) * 3 + 1 = (i * 3 + 1) + 1 + 1 + 1 by omega, show (i + 1) * 3 = i * 3 + 1 + 1 + 1 by omega]
    simp only [List.cons_append, List.nil_append, List.set_cons_succ]
    rw [ih]; rfl
/-- A row of faults of a call's own. -/
def FtO (w : World) (base : Nat) (v : Value) (l : List Fa.Flt) : Prop := w.ownsRow base 32 3 v l.length (flts l)
theorem FtO.ftv {w : World} {base : Nat} {v : Value} {l : List Fa.Flt} (h : FtO w base v l) : FtV w v l :=
  Rw.of_own (rows := l.map fltC) (by rw [← flts_eq]; exact h) (by simp) (fun r hr => by obtain ⟨x, -, rfl⟩ := List.mem_map.1 hr; rfl) (by omega)
theorem FtO.keep {w W : World} {base : Nat} {v : Value} {l : List Fa.Flt} (h : FtO w base v l) (hb : Below w.heap.size w W) : FtO W base v l := by
  rcases h.2 with ⟨rfl, h0⟩ | ⟨g, cap, cur, rfl, hbg, hg, hr⟩
  · exact ⟨h.1, .inl ⟨rfl, h0⟩⟩
  · exact ⟨h.1, .inr ⟨g, cap, cur, rfl, hbg, keep_heap hg hb, hr⟩⟩
/-- The block of a row that is not empty. -/
theorem FtO.blk {w : World} {base : Nat} {v : Value} {l : List Fa.Flt} (h : FtO w base v l) (h0 : 0 < l.length) : ∃ g cap cur, v = .slice (some ⟨g, 0, none⟩) l.length cap ∧ base ≤ g ∧ w.heap[g]? = some (.cells cur 32 (0, 0)) ∧ l.length ≤ cap ∧ cap ≤ maxLen ∧ cur.size = cap * 3 ∧ cur.toList.take (l.length * 3) = flts l := by
  rcases h.2 with ⟨rfl, h1⟩ | ⟨g, cap, cur, rfl, hbg, hg, hnc, hcm, hcs, ht⟩
  · omega
  · exact ⟨g, cap, cur, rfl, hbg, hg, hnc, hcm, hcs, ht⟩
/-- Three cells stored one after the other. -/
theorem FtO.set {w : World} {base g cap : Nat} {l : List Fa.Flt} (h : FtO w base (.slice (some ⟨g, 0, none⟩) l.length cap) l) (i : Nat) (hi : i < l.length) (x : Fa.Flt) :
    FtO (((w.setCell ⟨g, i * 3, none⟩ (.int .i64 x.kind)).setCell ⟨g, i * 3 + 1, none⟩ (.int .i64 x.a)).setCell ⟨g, i * 3 + 2, none⟩ (.int .i64 x.n)) base (.slice (some ⟨g, 0, none⟩) l.length cap) (l.set i x) := by
  obtain ⟨g2, c2, cur, e, hbg, hg, hnc, hcm, hcs, ht⟩ := h.blk (by omega)
  injection e with e1 e2 e3
  injection e1 with e1
  injection e1 with e1 e4
  subst e1 e3
  have k1 := set_heap hg (i * 3) (.int .i64 x.kind)
  have k2 := set_heap k1 (i * 3 + 1) (.int .i64 x.a)
  have k3 := set_heap k2 (i * 3 + 2) (.int .i64 x.n)
  refine ⟨by rw [flts_len], .inr ⟨g, cap, _, by rw [List.length_set], hbg, k3, by rw [List.length_set]; exact hnc, hcm, by simpa using hcs, ?_⟩⟩
  rw [List.length_set]
  simp only [Array.toList_setIfInBounds]
  rw [List.take_set, List.take_set, List.take_set, ht]
  exact flts_set l i x hi
theorem setCells_row {g : Nat} {t : TypeId} : ∀ (vs : List Value) (o : Nat) (w : World) (cur : Array Value), w.heap[g]? = some (.cells cur t (0, 0)) →
    ∃ cur' : Array Value, (w.setCells g o vs).heap[g]? = some (.cells cur' t (0, 0)) ∧ cur'.size = cur.size ∧ (cur'.toList.take o = cur.toList.take o) ∧ ∀ B, B ≤ g → Below B w (w.setCells g o vs)
  | [], o, w, cur, h => ⟨cur, h, rfl, rfl, fun B _ => ⟨rfl, rfl, rfl, Nat.le_refl _, fun _ _ => rfl⟩⟩
  | v :: r, o, w, cur, h => by
    obtain ⟨cur', h1, h2, h3, h4⟩ := setCells_row r (o + 1) (w.setCell ⟨g, o, none⟩ v) _ (set_heap h o v)
    refine ⟨cur', h1, by simpa using h2, ?_, fun B hB => ?_⟩
    · have := congrArg (List.take o) h3
      rw [List.take_take, List.take_take, Nat.min_eq_left (by omega)] at this
      rw [this]
      simp only [Array.toList_setIfInBounds]
      rw [List.take_set_of_le (by omega)]
    · exact ((Below.refl B w).setCell (by dsimp only; omega) v).trans (h4 B hB)
theorem zeroFault (w : World) : (zeroValue 32).run Try.prog w = .ok (.agg #[.int .i64 0, .int .i64 0, .int .i64 0]) w := by kernel_rfl
theorem run_clear3 (w : World) (ty : TypeId) (g o n c : Nat) (hn : 0 < n) (cur : Array Value) (hg : w.heap[g]? = some (.cells cur 32 (0, 0))) (ho : o + n * 3 ≤ cur.size) :
    (Builtin.clear_ #[24] ty #[.slice (some ⟨g, o, none⟩) n c]).run Try.prog w = .ok (.tuple #[]) (w.setCells g o (List.replicate (n * 3) (.int .i64 0))) := by
  have hzc : (Builtin.zeroCells #[.int .i64 0, .int .i64 0, .int .i64 0] n).toList = List.replicate (n * 3) (.int .i64 0) := by
    simp [Builtin.zeroCells]
    apply List.ext_getElem
    · simp
    · intro i h1 h2
      simp
      have : i % 3 = 0 ∨ i % 3 = 1 ∨ i % 3 = 2 := by omega
      rcases this with e | e | e <;> simp [e]
  have hst := run_storeCells_cells (P := Try.prog) g o (List.replicate (n * 3) (.int .i64 0)) 0 w (fun j hj => by
    simp only [List.length_replicate] at hj
    simp only [World.cell?, hg, Nat.add_zero, Option.isSome_none, Bool.false_eq_true, if_false]
    rw [Array.getElem?_eq_getElem (by omega)]; rfl) (fun j hj => free_of_heap hg _) (by intro v hv'; rw [List.eq_of_mem_replicate hv']; rfl)
  simp only [Nat.add_zero] at hst
  obtain ⟨m, rfl⟩ : ∃ m, n = m + 1 := ⟨n - 1, by omega⟩
  simp [Builtin.clear_, run_underlying Try.underlying24, zeroFault, Value.cells, hzc, hst]
end Go.Proofs.Ytcdfmgobokjcnaa
