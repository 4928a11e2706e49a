/- Parts Sl, Wb, Sv, Hd of this claim, laid one behind the other: walks and the plain laws behind them; each contract states its own conditions. -/
import Derived.Laws.AppendOwnNone
import Derived.Below
import Derived.ProofKit
import Derived.IntWalk
import Derived.ArgAppend
import Derived.Deep.Draws
import Derived.Test.YtcdfmgobokjcnaaGreatDoorRows
import Derived.Lib.Hide
import Derived.WalkLawsBesides
import Derived.WalkSpells
import Derived.Deep.QuietTactic
import Derived.BigQuiet
import Derived.Deep.DeepCutAuto
import Derived.Deep.RegionHeld3
import Derived.Deep.RegionLaw
import Derived.Deep.AppendLies
import Derived.StillTailTactics
import Derived.Test.YtcdfmgobokjcnaaGreatDoorZA
/- A slice of one-cell elements that reads as a list; append onto a row of the call's own from such a slice. -/
namespace Go.Proofs.YtcdfmgobokjcnaaGreatDoor
open Go.RowKit

/-- The slice value v holds the one-cell elements xs. -/
def Sl (w : World) (v : Value) (xs : List Value) : Prop :=
  ∃ a cap, v = .slice a xs.length cap ∧ xs.length ≤ maxLen ∧ (a = none → cap = 0) ∧ ∀ i, (h : i < xs.length) → ∃ b off, a = some ⟨b, off, none⟩ ∧ w.cell? ⟨b, off + i, none⟩ = some xs[i]

theorem Sl.nil (w : World) : Sl w (.slice none 0 0) [] := ⟨none, 0, rfl, by simp, fun _ => rfl, fun i h => by simp at h⟩
theorem cell_block_lt {w : World} {a : Addr} {v : Value} (h : w.cell? a = some v) : a.block < w.heap.size := by
  unfold World.cell? at h
  split at h
  · rename_i h'; exact (Array.getElem?_eq_some_iff.1 h').1
  · cases h
theorem Sl.below {w W : World} {v : Value} {xs : List Value} (h : Sl w v xs) (hb : Below w.heap.size w W) : Sl W v xs := by
  obtain ⟨a, cap, rfl, hm, hn, hc⟩ := h
  refine ⟨a, cap, rfl, hm, hn, fun i hi => ?_⟩
  obtain ⟨b, off, h1, h2⟩ := hc i hi
  exact ⟨b, off, h1, by rw [hb.cell (cell_block_lt h2)]; exact h2⟩
theorem Sl.of_own {w : World} {base : Nat} {e : TypeId} {v : Value} {n : Nat} {xs : List Value} (h : w.ownsRow base e 1 v n xs) (hm : n ≤ maxLen) : Sl w v xs := by
  have hl : xs.length = n := by have := h.1; omega
  rcases h.2 with ⟨rfl, rfl⟩ | ⟨g, cap, cur, rfl, hb, hh, hnc, hcm, hcs, ht⟩
  · obtain rfl : xs = [] := List.eq_nil_of_length_eq_zero hl
    exact Sl.nil w
  · refine ⟨some ⟨g, 0, none⟩, cap, by rw [hl], by omega, fun h => (by cases h), fun i hi => ⟨g, 0, rfl, ?_⟩⟩
    have hc := h.cells (g := g) rfl i xs[i] (by simp)
    have e2 : ((⟨g, 0, none⟩ : Addr).add i) = ⟨g, 0 + i, none⟩ := by unfold Addr.add; split <;> simp_all
    rw [e2] at hc; exact hc

theorem wpList_append_sl {P : Program} {w : World} {ops : Array Oper} {rest : List Oper} {o : Oper} {a : Act} {Q : Exit → Act → World → Prop} (hgd : o.guard = none) (s x : Operand) (t : TypeId)
    (ho : o.op = .call { callee := .builtin .append, args := #[s, x], argTypes := #[t, t] })
    (base : Nat) (e : TypeId) (z : Value) (bytes : Nat) (ht : P.underlying t = some (.slice e)) (hinfo : (P.info? e).map (fun i => (i.zero, i.size, i.bytes)) = some (some z, 1, bytes)) (hzs : z.cells.size = 1)
    (v : Value) (n : Nat) (xs : List Value) (hs : a.eval s = v) (hown : w.ownsRow base e 1 v n xs)
    (u : Value) (news : List Value) (hx : a.eval x = u) (hr : Sl w u news) (h1 : ∀ u ∈ news, u.oneCell' = true)
    (h63 : n + news.length ≤ maxLen) (hbytes : (n + news.length) * bytes ≤ 140737488355328) (hbase : base ≤ w.heap.size)
    (h : ∀ v' w', w'.ownsRow base e 1 v' (n + news.length) (xs ++ news) → w.grownBy w' v.ownBlock → wpList P ops Q rest (a.put o.dst v') w') : wpList P ops Q (o :: rest) a w := by
  obtain ⟨i, hi, hz, hsize, hby⟩ := info_parts hinfo
  obtain ⟨ad, cap, rfl, hm, hn, hc⟩ := hr
  cases ad with
  | none =>
    obtain rfl := hn rfl
    have h0 : news.length = 0 := by
      rcases Nat.eq_zero_or_pos news.length with h | h
      · exact h
      · obtain ⟨_, _, h', _⟩ := hc 0 h; cases h'
    obtain rfl : news = [] := List.eq_nil_of_length_eq_zero h0
    exact wpList_append_own_none hgd s x t ho base e i 1 ht hi v n xs hs hown hx (h v w (by simpa using hown) (World.grownBy.refl w _))
  | some ad =>
    refine wpList_append_own w hgd s x t ho base e i z 1 bytes ht hi hz hsize hby hzs (by omega) v n xs hs hown ad news.length cap news hx (by omega) (fun j u hu => ?_) h1 h63 hbytes hbase (fun v' w' h2 h3 _ => h v' w' h2 h3)
    obtain ⟨hj, he⟩ := List.getElem?_eq_some_iff.1 hu
    obtain ⟨b, off, h2, h3⟩ := hc j hj
    cases h2
    have e2 : ((⟨b, off, none⟩ : Addr).add j) = ⟨b, off + j, none⟩ := by unfold Addr.add; split <;> simp_all
    rw [e2, h3, he]
end Go.Proofs.YtcdfmgobokjcnaaGreatDoor
/- Small words of the walks of sites: cells of a block known whole, slices of ints, slices of structs. -/
namespace Go.Proofs.YtcdfmgobokjcnaaGreatDoor
set_option linter.unusedSimpArgs false
set_option linter.unusedVariables false
open Go.RowKit

theorem cell_of_heap {w : World} {b : Nat} {cs : Array Value} {t : TypeId} {fr : Nat × Nat} (h : w.heap[b]? = some (.cells cs t fr)) (i : Nat) {v : Value} (hv : cs[i]? = some v) : w.cell? ⟨b, i, none⟩ = some v := by
  simp [World.cell?, h, hv]
theorem free_of_heap {w : World} {b : Nat} {cs : Array Value} {t : TypeId} (h : w.heap[b]? = some (.cells cs t (0, 0))) (i : Nat) : w.frozen? ⟨b, i, none⟩ = false := by
  simp [World.frozen?, h]
theorem set_heap {w : World} {b : Nat} {cs : Array Value} {t : TypeId} (h : w.heap[b]? = some (.cells cs t (0, 0))) (i : Nat) (v : Value) : (w.setCell ⟨b, i, none⟩ v).heap[b]? = some (.cells (cs.setIfInBounds i v) t (0, 0)) := heap_setCell_same w b i cs t v h
theorem heap_lt {w : World} {b : Nat} {o : Obj} (h : w.heap[b]? = some o) : b < w.heap.size := (Array.getElem?_eq_some_iff.1 h).1
theorem keep_heap {w w' : World} {b : Nat} {o : Obj} (h : w.heap[b]? = some o) (hb : Below w.heap.size w w') : w'.heap[b]? = some o := (hb.block b (heap_lt h)).trans h
theorem below_drewN (B : Nat) (w : World) (k : Nat) : Below B w (w.drewN k) := ⟨rfl, rfl, rfl, Nat.le_refl _, fun _ _ => rfl⟩
theorem heap_two3 (w : World) (A B : Obj) : ((w.alloc A).alloc B).heap[w.heap.size + 1]? = some B := by
  have := heap_alloc_new (w.alloc A) B
  simpa using this

theorem own_mono {w : World} {base base' : Nat} {e : TypeId} {sz : Nat} {v : Value} {n : Nat} {xs : List Value} (h : w.ownsRow base e sz v n xs) (hb : base' ≤ base) : w.ownsRow base' e sz v n xs := by
  rcases h.2 with h2 | ⟨g, cap, cur, h1, h2, h3⟩
  · exact ⟨h.1, .inl h2⟩
  · exact ⟨h.1, .inr ⟨g, cap, cur, h1, by omega, h3⟩⟩
theorem own_slice {w : World} {base : Nat} {e : TypeId} {sz : Nat} {v : Value} {n : Nat} {xs : List Value} (h : w.ownsRow base e sz v n xs) : ∃ a cap, v = .slice a n cap ∧ n ≤ 9223372036854775807 := by
  rcases h.2 with ⟨rfl, rfl⟩ | ⟨g, cap, cur, rfl, _, _, h1, h2, _⟩
  · exact ⟨none, 0, rfl, by omega⟩
  · exact ⟨_, cap, rfl, by unfold maxLen at h2; omega⟩
theorem own_max {w : World} {base sz : Nat} {e : TypeId} {v : Value} {n : Nat} {xs : List Value} (h : w.ownsRow base e sz v n xs) : n ≤ maxLen := by
  rcases h.2 with ⟨rfl, h0⟩ | ⟨g, cap, cur, rfl, hb, hh, hnc, hcm, hcs, ht⟩
  · subst h0; omega
  · omega

theorem Sl.some {w : World} {v : Value} {xs : List Value} (h : Sl w v xs) (h0 : 0 < xs.length) : ∃ b off cap, v = .slice (some ⟨b, off, none⟩) xs.length cap ∧ xs.length ≤ maxLen ∧ ∀ i, (h : i < xs.length) → w.cell? ⟨b, off + i, none⟩ = some xs[i] := by
  obtain ⟨a, cap, rfl, hm, hn, hc⟩ := h
  obtain ⟨b, off, rfl, -⟩ := hc 0 h0
  refine ⟨b, off, cap, rfl, hm, fun i hi => ?_⟩
  obtain ⟨b2, off2, h1, h2⟩ := hc i hi
  cases h1
  exact h2
theorem Sl.slice {w : World} {v : Value} {xs : List Value} (h : Sl w v xs) : ∃ a cap, v = .slice a xs.length cap ∧ xs.length ≤ maxLen := by
  obtain ⟨a, cap, rfl, hm, -⟩ := h
  exact ⟨a, cap, rfl, hm⟩

def ints (l : List Int) : List Value := l.map (Value.int .i64)
theorem ints_len (l : List Int) : (ints l).length = l.length := by simp [ints]
/-- A slice of ints. -/
def Is (w : World) (v : Value) (l : List Int) : Prop := Sl w v (ints l)
theorem Is.keep {w W : World} {v : Value} {l : List Int} (h : Is w v l) (hb : Below w.heap.size w W) : Is W v l := Sl.below h hb
theorem Is.form {w : World} {v : Value} {l : List Int} (h : Is w v l) : ∃ a cap, v = .slice a l.length cap ∧ l.length ≤ 9223372036854775807 := by
  obtain ⟨a, cap, h1, h2⟩ := Sl.slice h
  rw [ints_len] at h1 h2
  exact ⟨a, cap, h1, by unfold maxLen at h2; omega⟩
theorem Is.cell {w : World} {a : Option Addr} {n cap : Nat} {l : List Int} (h : Is w (.slice a n cap) l) (i : Nat) (hi : i < l.length) : ∃ b off, a = some ⟨b, off, none⟩ ∧ w.cell? ⟨b, off + i, none⟩ = some (.int .i64 l[i]) := by
  obtain ⟨b, off, cap2, e, -, hc⟩ := Sl.some h (by rw [ints_len]; omega)
  injection e with e1 e2 e3
  subst e1
  exact ⟨b, off, rfl, by rw [hc i (by rw [ints_len]; exact hi)]; simp [ints]⟩
theorem Is.len {w : World} {a : Option Addr} {n cap : Nat} {l : List Int} (h : Is w (.slice a n cap) l) : n = l.length := by
  obtain ⟨a2, c2, e, -⟩ := Is.form h
  injection e

/-- A slice of structs of k cells each. -/
def Rw (w : World) (v : Value) (k : Nat) (xs : List (List Value)) : Prop :=
  ∃ a cap, v = .slice a xs.length cap ∧ xs.length ≤ maxLen ∧ (a = none → cap = 0) ∧ ∀ i, (h : i < xs.length) → ∃ b off, a = some ⟨b, off, none⟩ ∧ b < w.heap.size ∧ ∀ j, j < k → w.cell? ⟨b, off + i * k + j, none⟩ = xs[i][j]?
theorem Rw.keep {w W : World} {v : Value} {k : Nat} {xs : List (List Value)} (h : Rw w v k xs) (hb : Below w.heap.size w W) : Rw W v k xs := by
  obtain ⟨a, cap, rfl, hm, hn, hc⟩ := h
  refine ⟨a, cap, rfl, hm, hn, fun i hi => ?_⟩
  obtain ⟨b, off, h1, h2, h3⟩ := hc i hi
  exact ⟨b, off, h1, Nat.lt_of_lt_of_le h2 hb.size, fun j hj => (hb.cell (p := ⟨b, off + i * k + j, none⟩) h2).trans (h3 j hj)⟩
theorem Rw.form {w : World} {v : Value} {k : Nat} {xs : List (List Value)} (h : Rw w v k xs) : ∃ a cap, v = .slice a xs.length cap ∧ xs.length ≤ 9223372036854775807 := by
  obtain ⟨a, cap, rfl, hm, -⟩ := h
  exact ⟨a, cap, rfl, by unfold maxLen at hm; omega⟩
theorem Rw.cell {w : World} {a : Option Addr} {n cap : Nat} {k : Nat} {xs : List (List Value)} (h : Rw w (.slice a n cap) k xs) (i : Nat) (hi : i < xs.length) : ∃ b off, a = some ⟨b, off, none⟩ ∧ b < w.heap.size ∧ ∀ j, j < k → w.cell? ⟨b, off + i * k + j, none⟩ = xs[i][j]? := by
  obtain ⟨a2, cap2, e, -, -, hc⟩ := h
  injection e with e1 e2 e3
  subst e1
  exact hc i hi
theorem Rw.nil (w : World) (k : Nat) : Rw w (.slice none 0 0) k [] := ⟨none, 0, rfl, by simp, fun _ => rfl, fun i h => by simp at h⟩
theorem map_eq_zip {α β : Type} {l : List (α × β)} {xs : List α} (h : l.map (·.1) = xs) : ∀ i, (hi : i < xs.length) → ∃ hj : i < l.length, xs[i] = l[i].1 := by
  subst h
  intro i hi
  exact ⟨by simpa using hi, by simp⟩
theorem get_flatten {α : Type} {k : Nat} : ∀ (rows : List (List α)), (∀ r ∈ rows, r.length = k) → ∀ i, (hi : i < rows.length) → ∀ j, j < k → rows.flatten[i * k + j]? = rows[i][j]?
  | [], _, i, hi, _, _ => by simp at hi
  | r :: rows, h, i, hi, j, hj => by
    have hr := h r (List.mem_cons_self ..)
    rw [List.flatten_cons]
    cases i with
    | zero => rw [Nat.zero_mul, Nat.zero_add, List.getElem?_append_left (by omega)]; rfl
    | succ i =>
      rw [List.getElem?_append_right (by rw [hr, Nat.add_mul]; omega), hr, show (i + 1) * k + j - k = i * k + j by rw [Nat.add_mul]; omega]
      exact get_flatten rows (fun r hr => h r (List.mem_cons_of_mem _ hr)) i (by simpa using hi) j hj
theorem Rw.of_own {w : World} {base k : Nat} {e : TypeId} {v : Value} {n : Nat} {rows : List (List Value)} (h : w.ownsRow base e k v n rows.flatten) (hn : rows.length = n) (hr : ∀ r ∈ rows, r.length = k) (hk : 0 < k) : Rw w v k rows := by
  have hm := own_max h
  rcases h.2 with ⟨rfl, h0⟩ | ⟨g, cap, cur, rfl, hb, hh, hnc, hcm, hcs, ht⟩
  · have : rows = [] := List.eq_nil_of_length_eq_zero (by omega)
    subst this; exact .nil ..
  · refine ⟨some ⟨g, 0, none⟩, cap, by rw [hn], by omega, (fun h => by cases h), fun i hi => ⟨g, 0, rfl, heap_lt hh, fun j hj => ?_⟩⟩
    have hrl := hr _ (List.getElem_mem hi)
    have e1 := get_flatten rows hr i hi j hj
    obtain ⟨y, hy⟩ : ∃ y, rows[i][j]? = some y := ⟨rows[i][j]'(by omega), List.getElem?_eq_getElem _⟩
    rw [hy] at e1 ⊢
    have hc := h.cells (g := g) rfl (i * k + j) _ e1
    rw [Addr.add_lit, Nat.zero_add] at hc
    rw [Nat.zero_add]; exact hc

/-- Of what was there, at most one block changed, and it holds elements of a type. -/
def GT (e : TypeId) (w w' : World) : Prop := ∃ row, w.grownBy w' row ∧ ∀ k, row = some k → ∃ cs fr, w.heap[k]? = some (.cells cs e fr)
theorem GT.row {base : Nat} {w w' : World} {e e1 : TypeId} {sz : Nat} {v : Value} {n : Nat} {xs : List Value} (h : GT e w w') (ho : w.ownsRow base e1 sz v n xs) (hne : e ≠ e1) : w'.ownsRow base e1 sz v n xs := by
  obtain ⟨row, hg, ht⟩ := h
  refine World.ownsRow.kept ho hg ?_
  rcases ho.2 with ⟨rfl, -⟩ | ⟨g, cap, cur, rfl, hb, hh, -⟩
  · exact .inl rfl
  · refine .inr (fun e2 => ?_)
    obtain ⟨cs, fr, h3⟩ := ht g e2.symm
    rw [hh] at h3
    injection h3 with h3; injection h3 with _ h4
    exact hne h4.symm
theorem GT.heap {w w' : World} {e e1 : TypeId} {k : Nat} {cs : Array Value} {fr : Nat × Nat} (h : GT e w w') (hk : w.heap[k]? = some (.cells cs e1 fr)) (hne : e ≠ e1) : w'.heap[k]? = some (.cells cs e1 fr) := by
  obtain ⟨row, hg, ht⟩ := h
  have hlt : k < w.heap.size := (Array.getElem?_eq_some_iff.1 hk).1
  refine (hg.block k hlt (fun e2 => ?_)).trans hk
  obtain ⟨cs2, fr2, h3⟩ := ht k e2.symm
  rw [hk] at h3
  injection h3 with h3; injection h3 with _ h4
  exact hne h4.symm
theorem GT.size {w w' : World} {e : TypeId} (h : GT e w w') : w.heap.size ≤ w'.heap.size := by obtain ⟨row, hg, -⟩ := h; exact hg.size
theorem GT.of_own {base : Nat} {w w' : World} {e : TypeId} {sz : Nat} {v : Value} {n : Nat} {xs : List Value} (ho : w.ownsRow base e sz v n xs) (hg : w.grownBy w' v.ownBlock) : GT e w w' := by
  refine ⟨_, hg, fun k hk => ?_⟩
  rcases ho.2 with ⟨rfl, -⟩ | ⟨g, cap, cur, rfl, hb, hh, -⟩
  · cases hk
  · injection hk with hk; subst hk; exact ⟨_, _, hh⟩
/-- What grew by a row of the call's own: below the row's base nothing changed. -/
theorem below_own {B base : Nat} {w w' : World} {e : TypeId} {sz : Nat} {v : Value} {n : Nat} {xs : List Value} (ho : w.ownsRow base e sz v n xs) (hg : w.grownBy w' v.ownBlock) (hB : B ≤ base) (hw : B ≤ w.heap.size) : Below B w w' :=
  ⟨hg.os, hg.tape, hg.output, hg.size, fun k hk => hg.block k (by omega) (fun e => by have := World.ownsRow.lt ho k e.symm; omega)⟩
/-- A slice of slices of ints. -/
def Ll (w : World) (v : Value) (ll : List (List Int)) : Prop := ∃ q : List (List Int × Value), q.map (·.1) = ll ∧ Sl w v (q.map (·.2)) ∧ ∀ x ∈ q, Is w x.2 x.1
theorem Ll.keep {w W : World} {v : Value} {ll : List (List Int)} (h : Ll w v ll) (hb : Below w.heap.size w W) : Ll W v ll := by
  obtain ⟨q, h1, h2, h3⟩ := h
  exact ⟨q, h1, h2.below hb, fun x hx => (h3 x hx).keep hb⟩
theorem Ll.form {w : World} {v : Value} {ll : List (List Int)} (h : Ll w v ll) : ∃ a cap, v = .slice a ll.length cap ∧ ll.length ≤ 9223372036854775807 := by
  obtain ⟨q, rfl, h2, -⟩ := h
  obtain ⟨a, cap, e, hm⟩ := h2.slice
  rw [List.length_map] at e hm
  exact ⟨a, cap, by rw [e, List.length_map], by rw [List.length_map]; unfold maxLen at hm; omega⟩
theorem Ll.cell {w : World} {a : Option Addr} {n cap : Nat} {ll : List (List Int)} (h : Ll w (.slice a n cap) ll) (i : Nat) (hi : i < ll.length) : ∃ b off u, a = some ⟨b, off, none⟩ ∧ w.cell? ⟨b, off + i, none⟩ = some u ∧ Is w u ll[i] := by
  obtain ⟨q, h1, h2, h3⟩ := h
  obtain ⟨hj, e⟩ := map_eq_zip h1 i hi
  obtain ⟨b, off, cap2, e1, -, hc⟩ := h2.some (by rw [List.length_map]; omega)
  injection e1 with e1 e2 e3
  subst e1
  have hc' := hc i (by rw [List.length_map]; exact hj)
  rw [List.getElem_map] at hc'
  exact ⟨b, off, q[i].2, rfl, hc', by rw [e]; exact h3 _ (List.getElem_mem hj)⟩
theorem Ll.nil (w : World) : Ll w (.slice none 0 0) [] := ⟨[], rfl, Sl.nil w, fun x hx => by cases hx⟩
/-- A slice of transitions. -/
def Tr (w : World) (v : Value) (l : List (List Int × List Int)) : Prop := ∃ q : List ((List Int × List Int) × Value × Value), q.map (·.1) = l ∧ Rw w v 2 (q.map fun x => [x.2.1, x.2.2]) ∧ ∀ x ∈ q, Is w x.2.1 x.1.1 ∧ Is w x.2.2 x.1.2
theorem Tr.keep {w W : World} {v : Value} {l : List (List Int × List Int)} (h : Tr w v l) (hb : Below w.heap.size w W) : Tr W v l := by
  obtain ⟨q, h1, h2, h3⟩ := h
  exact ⟨q, h1, h2.keep hb, fun x hx => ⟨(h3 x hx).1.keep hb, (h3 x hx).2.keep hb⟩⟩
theorem Tr.form {w : World} {v : Value} {l : List (List Int × List Int)} (h : Tr w v l) : ∃ a cap, v = .slice a l.length cap ∧ l.length ≤ 9223372036854775807 := by
  obtain ⟨q, rfl, h2, -⟩ := h
  simpa using h2.form
theorem Tr.cell {w : World} {a : Option Addr} {n cap : Nat} {l : List (List Int × List Int)} (h : Tr w (.slice a n cap) l) (i : Nat) (hi : i < l.length) : ∃ b off u1 u2, a = some ⟨b, off, none⟩ ∧ b < w.heap.size ∧ w.cell? ⟨b, off + i * 2, none⟩ = some u1 ∧ w.cell? ⟨b, off + i * 2 + 1, none⟩ = some u2 ∧ Is w u1 l[i].1 ∧ Is w u2 l[i].2 := by
  obtain ⟨q, h1, h2, h3⟩ := h
  obtain ⟨hj, e⟩ := map_eq_zip h1 i hi
  obtain ⟨b, off, rfl, hlt, hc⟩ := h2.cell i (by simpa using hj)
  rw [List.getElem_map] at hc
  obtain ⟨k1, k2⟩ := h3 _ (List.getElem_mem hj)
  exact ⟨b, off, _, _, rfl, hlt, hc 0 (by omega), hc 1 (by omega), by rw [e]; exact k1, by rw [e]; exact k2⟩
theorem Tr.nil (w : World) : Tr w (.slice none 0 0) [] := ⟨[], rfl, Rw.nil w 2, fun x hx => by cases hx⟩
end Go.Proofs.YtcdfmgobokjcnaaGreatDoor
/- Sites among the values. -/
namespace Go.Proofs.YtcdfmgobokjcnaaGreatDoor
set_option linter.unusedSimpArgs false
set_option linter.unusedVariables false
open Go.RowKit

def zoneC (z : Si.Zone) (u1 u2 : Value) : List Value := [.string ⟨z.name.toArray⟩, u1, .int .i64 z.speed, .int .i64 z.keep, u2]
def spanC (p : Int × Int) : List Value := [.int .i64 p.1, .int .i64 p.2]
def apartC (p : List UInt8 × List UInt8) : List Value := [.string ⟨p.1.toArray⟩, .string ⟨p.2.toArray⟩]
def shelfC (p : Int × List UInt8) : List Value := [.int .i64 p.1, .string ⟨p.2.toArray⟩]
def ShV (w : World) (v : Value) (l : List (Int × Int)) : Prop := Rw w v 2 (l.map spanC)
def ApV (w : World) (v : Value) (l : List (List UInt8 × List UInt8)) : Prop := Rw w v 2 (l.map apartC)
def SfV (w : World) (v : Value) (l : List (Int × List UInt8)) : Prop := Rw w v 2 (l.map shelfC)
def RbV (w : World) (v : Value) (l : List (Int × Int)) : Prop := Rw w v 2 (l.map spanC)
def ZnV (w : World) (v : Value) (zs : List Si.Zone) : Prop :=
  ∃ l : List (Si.Zone × Value × Value), l.map (·.1) = zs ∧ Rw w v 5 (l.map fun x => zoneC x.1 x.2.1 x.2.2) ∧ ∀ x ∈ l, Is w x.2.1 x.1.cells ∧ ShV w x.2.2 x.1.shut
theorem ZnV.keep {w W : World} {v : Value} {zs : List Si.Zone} (h : ZnV w v zs) (hb : Below w.heap.size w W) : ZnV W v zs := by
  obtain ⟨l, h1, h2, h3⟩ := h
  exact ⟨l, h1, h2.keep hb, fun x hx => ⟨(h3 x hx).1.keep hb, (h3 x hx).2.keep hb⟩⟩
theorem ZnV.form {w : World} {v : Value} {zs : List Si.Zone} (h : ZnV w v zs) : ∃ a cap, v = .slice a zs.length cap ∧ zs.length ≤ 9223372036854775807 := by
  obtain ⟨l, rfl, h2, -⟩ := h
  simpa using h2.form
/-- The cells of a zone. -/
theorem ZnV.cell {w : World} {a : Option Addr} {n cap : Nat} {zs : List Si.Zone} (h : ZnV w (.slice a n cap) zs) (i : Nat) (hi : i < zs.length) : ∃ b off u1 u2, a = some ⟨b, off, none⟩ ∧ b < w.heap.size ∧ Is w u1 zs[i].cells ∧ ShV w u2 zs[i].shut ∧
    w.cell? ⟨b, off + i * 5, none⟩ = some (.string ⟨zs[i].name.toArray⟩) ∧ w.cell? ⟨b, off + i * 5 + 1, none⟩ = some u1 ∧ w.cell? ⟨b, off + i * 5 + 2, none⟩ = some (.int .i64 zs[i].speed) ∧ w.cell? ⟨b, off + i * 5 + 3, none⟩ = some (.int .i64 zs[i].keep) ∧ w.cell? ⟨b, off + i * 5 + 4, none⟩ = some u2 := by
  obtain ⟨l, h1, h2, h3⟩ := h
  obtain ⟨hj, e⟩ := map_eq_zip h1 i hi
  obtain ⟨b, off, rfl, hlt, hc⟩ := h2.cell i (by simpa using hj)
  obtain ⟨k1, k2⟩ := h3 _ (List.getElem_mem hj)
  rw [e]
  rw [List.getElem_map] at hc
  exact ⟨b, off, _, _, rfl, hlt, k1, k2, hc 0 (by omega), hc 1 (by omega), hc 2 (by omega), hc 3 (by omega), hc 4 (by omega)⟩
theorem two_cell {α : Type} {w : World} {a : Option Addr} {n cap : Nat} {l : List α} {f : α → List Value} {g1 g2 : α → Value} (hf : ∀ x, f x = [g1 x, g2 x]) (h : Rw w (.slice a n cap) 2 (l.map f)) (i : Nat) (hi : i < l.length) : ∃ b off, a = some ⟨b, off, none⟩ ∧ b < w.heap.size ∧
    w.cell? ⟨b, off + i * 2, none⟩ = some (g1 l[i]) ∧ w.cell? ⟨b, off + i * 2 + 1, none⟩ = some (g2 l[i]) := by
  obtain ⟨b, off, rfl, hlt, hc⟩ := h.cell i (by simpa using hi)
  rw [List.getElem_map, hf] at hc
  exact ⟨b, off, rfl, hlt, hc 0 (by omega), hc 1 (by omega)⟩
theorem ShV.cell {w : World} {a : Option Addr} {n cap : Nat} {l : List (Int × Int)} (h : ShV w (.slice a n cap) l) (i : Nat) (hi : i < l.length) : ∃ b off, a = some ⟨b, off, none⟩ ∧ b < w.heap.size ∧ w.cell? ⟨b, off + i * 2, none⟩ = some (.int .i64 l[i].1) ∧ w.cell? ⟨b, off + i * 2 + 1, none⟩ = some (.int .i64 l[i].2) :=
  two_cell (f := spanC) (g1 := fun p => .int .i64 p.1) (g2 := fun p => .int .i64 p.2) (fun _ => rfl) h i hi
theorem ApV.cell {w : World} {a : Option Addr} {n cap : Nat} {l : List (List UInt8 × List UInt8)} (h : ApV w (.slice a n cap) l) (i : Nat) (hi : i < l.length) : ∃ b off, a = some ⟨b, off, none⟩ ∧ b < w.heap.size ∧ w.cell? ⟨b, off + i * 2, none⟩ = some (.string ⟨l[i].1.toArray⟩) ∧ w.cell? ⟨b, off + i * 2 + 1, none⟩ = some (.string ⟨l[i].2.toArray⟩) :=
  two_cell (f := apartC) (g1 := fun p => .string ⟨p.1.toArray⟩) (g2 := fun p => .string ⟨p.2.toArray⟩) (fun _ => rfl) h i hi
theorem SfV.cell {w : World} {a : Option Addr} {n cap : Nat} {l : List (Int × List UInt8)} (h : SfV w (.slice a n cap) l) (i : Nat) (hi : i < l.length) : ∃ b off, a = some ⟨b, off, none⟩ ∧ b < w.heap.size ∧ w.cell? ⟨b, off + i * 2, none⟩ = some (.int .i64 l[i].1) ∧ w.cell? ⟨b, off + i * 2 + 1, none⟩ = some (.string ⟨l[i].2.toArray⟩) :=
  two_cell (f := shelfC) (g1 := fun p => .int .i64 p.1) (g2 := fun p => .string ⟨p.2.toArray⟩) (fun _ => rfl) h i hi
theorem two_form {α : Type} {w : World} {v : Value} {l : List α} {f : α → List Value} (h : Rw w v 2 (l.map f)) : ∃ a cap, v = .slice a l.length cap ∧ l.length ≤ 9223372036854775807 := by
  simpa using h.form

/-- A floor: its five cells. -/
structure FlV (w : World) (kv ov : Value) (f : Fl.Floor) : Prop where
  kind : Is w kv f.kind
  out : Is w ov f.out
/-- A site: its nine cells. -/
structure SiV (w : World) (kv ov zv av sv rv : Value) (s : Si.Site) : Prop where
  fl : FlV w kv ov s.floor
  zn : ZnV w zv s.zones
  ap : ApV w av s.aparts
  sf : SfV w sv s.shelves
  rb : RbV w rv s.robots
theorem FlV.keep {w W : World} {kv ov : Value} {f : Fl.Floor} (h : FlV w kv ov f) (hb : Below w.heap.size w W) : FlV W kv ov f := ⟨h.kind.keep hb, h.out.keep hb⟩
theorem SiV.keep {w W : World} {kv ov zv av sv rv : Value} {s : Si.Site} (h : SiV w kv ov zv av sv rv s) (hb : Below w.heap.size w W) : SiV W kv ov zv av sv rv s :=
  ⟨h.fl.keep hb, h.zn.keep hb, Rw.keep h.ap hb, Rw.keep h.sf hb, Rw.keep h.rb hb⟩
end Go.Proofs.YtcdfmgobokjcnaaGreatDoor
/- What the walks of this seat import. -/
