/- Parts DsE of this claim, laid one behind the other: walks and the plain laws behind them; each contract states its own conditions. -/
import Derived.Test.YtnccndfffmaonaaGreatDoorZN
import Derived.Deep.RegionHeld3
/- The statement DraftJoins: the walk. -/
namespace Go.Proofs.YtnccndfffmaonaaGreatDoor
set_option linter.unusedSimpArgs false
set_option linter.unusedVariables false
open Go.RowKit

theorem items_one (l : List (Dr.Item × Value)) (h : ∀ x ∈ l, ∃ a n c, x.2 = Value.slice a n c) : ∀ u ∈ itemsC l, u.oneCell' = true := by
  intro u hu
  obtain ⟨x, hx, hu⟩ := List.mem_flatMap.1 hu
  obtain ⟨a, n, c, e⟩ := h x hx
  simp only [itemC, List.mem_cons, List.not_mem_nil, or_false] at hu
  rcases hu with rfl | rfl | rfl | rfl | rfl
  · rfl
  · rfl
  · rfl
  · rfl
  · rw [e]; rfl
theorem itemsC_len (l : List (Dr.Item × Value)) : (itemsC l).length = l.length * 5 := by
  induction l with
  | nil => rfl
  | cons a l ih =>
    have e : itemsC (a :: l) = itemC a.1 a.2 ++ itemsC l := by simp [itemsC]
    rw [e, List.length_append, ih, show (itemC a.1 a.2).length = 5 from rfl, List.length_cons]; omega
theorem itemsC_cell (l : List (Dr.Item × Value)) (w : World) (b off : Nat) (hc : ∀ i, (h : i < l.length) → w.cell? ⟨b, off + i * 5, none⟩ = some (.int .i64 l[i].1.kind) ∧ w.cell? ⟨b, off + i * 5 + 1, none⟩ = some (.int .i64 l[i].1.line) ∧ w.cell? ⟨b, off + i * 5 + 2, none⟩ = some (.string ⟨l[i].1.name.toArray⟩) ∧
    w.cell? ⟨b, off + i * 5 + 3, none⟩ = some (.string ⟨l[i].1.other.toArray⟩) ∧ w.cell? ⟨b, off + i * 5 + 4, none⟩ = some l[i].2) : ∀ j u, (itemsC l)[j]? = some u → w.cell? ⟨b, off + j, none⟩ = some u := by
  intro j u hu
  obtain ⟨hj, -⟩ := List.getElem?_eq_some_iff.1 hu
  rw [itemsC_len] at hj
  have hi : j / 5 < l.length := by omega
  obtain ⟨k0, k1, k2, k3, k4⟩ := itemsC_at l (j / 5) hi
  obtain ⟨c0, c1, c2, c3, c4⟩ := hc (j / 5) hi
  have hr : j % 5 = 0 ∨ j % 5 = 1 ∨ j % 5 = 2 ∨ j % 5 = 3 ∨ j % 5 = 4 := by omega
  rcases hr with h | h | h | h | h
  · have e : j = j / 5 * 5 := by omega
    rw [show off + j = off + j / 5 * 5 by omega, c0, ← k0, ← e, hu]
  · have e : j = j / 5 * 5 + 1 := by omega
    rw [show off + j = off + j / 5 * 5 + 1 by omega, c1, ← k1, ← e, hu]
  · have e : j = j / 5 * 5 + 2 := by omega
    rw [show off + j = off + j / 5 * 5 + 2 by omega, c2, ← k2, ← e, hu]
  · have e : j = j / 5 * 5 + 3 := by omega
    rw [show off + j = off + j / 5 * 5 + 3 by omega, c3, ← k3, ← e, hu]
  · have e : j = j / 5 * 5 + 4 := by omega
    rw [show off + j = off + j / 5 * 5 + 4 by omega, c4, ← k4, ← e, hu]
/-- Items that are read are appended to items that the call owns. -/
theorem run_append_items (w : World) (base : Nat) (ty : TypeId) (v : Value) (n : Nat) (xs : List Value) (hown : w.ownsRow base 34 5 v n xs) (iv : Value) (l : List (Dr.Item × Value)) (hI : I5 w iv l) (hs : ∀ x ∈ l, ∃ a n c, x.2 = Value.slice a n c)
    (h63 : n + l.length ≤ 1000000) (hbase : base ≤ w.heap.size) :
    ∃ v' w', (Builtin.append_ #[23, 23] ty #[v, iv]).run Tryz.prog w = .ok v' w' ∧ w'.ownsRow base 34 5 v' (n + l.length) (xs ++ itemsC l) ∧ w.grownBy w' v.ownBlock := by
  obtain ⟨i0, hi0, hz0, hz1, hz2⟩ := info_parts Tryz.itemInfo
  obtain ⟨a, cap, rfl, hm, hn, hc⟩ := hI
  cases a with
  | none =>
    obtain rfl := hn rfl
    have h0 : l = [] := by
      cases l with
      | nil => rfl
      | cons u t => obtain ⟨_, _, h', _⟩ := hc 0 (by simp); cases h'
    subst h0
    exact ⟨v, w, run_append_owned_none (P := Tryz.prog) (w := w) base 23 ty 34 i0 5 Tryz.underlying23 hi0 v n xs hown, by simpa [itemsC] using hown, World.grownBy.refl w _⟩
  | some ad =>
    obtain ⟨v', w', hr, h2, h3, -⟩ := run_append_own (P := Tryz.prog) w base 23 ty 34 i0 _ 5 72 Tryz.underlying23 hi0 hz0 hz1 hz2 rfl (by omega) v n xs hown ad l.length cap (itemsC l) (itemsC_len l) (fun j u hu => by
      have hj : j < l.length * 5 := by rw [← itemsC_len]; exact (List.getElem?_eq_some_iff.1 hu).1
      obtain ⟨b, off, e, -⟩ := hc 0 (by omega)
      cases e
      have e2 : ((⟨b, off, none⟩ : Addr).add j) = ⟨b, off + j, none⟩ := by unfold Addr.add; split <;> simp_all
      rw [e2]
      exact itemsC_cell l w b off (fun i hi => by obtain ⟨b', off', e, h⟩ := hc i hi; cases e; exact h) j u hu) (items_one l hs) (by unfold maxLen; omega) (by omega) hbase
    exact ⟨v', w', hr, h2, h3⟩
theorem step_append_items {w : World} {ops : Array Oper} {o : Oper} {a : Act} {K : Act → World → Prop} {Q : Exit → Act → World → Prop} {E : Prop} (hgd : o.guard = none) (s x : Operand)
    (ho : o.op = .call { callee := .builtin .append, args := #[s, x], argTypes := #[23, 23] })
    (base : Nat) (v : Value) (n : Nat) (xs : List Value) (hs : a.eval s = v) (hown : w.ownsRow base 34 5 v n xs)
    (iv : Value) (l : List (Dr.Item × Value)) (hx : a.eval x = iv) (hI : I5 w iv l) (hl : ∀ x ∈ l, ∃ a n c, x.2 = Value.slice a n c) (N : Nat) (XS : List Value) (hN : n + l.length = N) (hXS : xs ++ itemsC l = XS) (h63 : N ≤ 1000000) (hbase : base ≤ w.heap.size)
    (h : ∀ a' cap' w', w'.ownsRow base 34 5 (.slice a' N cap') N XS → w.grownBy w' v.ownBlock → K (a.put o.dst (.slice a' N cap')) w') :
    if Region.wanted o (yielded ops a.tmps) = true then Oper.wp Tryz.prog o a w K Q else E := by
  have hw : Region.wanted o (yielded ops a.tmps) = true := by simp [Region.wanted, hgd]
  rw [if_pos hw]
  subst hN hXS
  obtain ⟨v', w', hr, h2, h3⟩ := run_append_items w base o.type v n xs hown iv l hI hl h63 hbase
  obtain ⟨a', cap', rfl, -⟩ := own_slice h2
  unfold Oper.wp execOp
  simp only [ho, resolve, invoke, builtin, Sem.run_bind, Sem.run_pure, Result.andThen_ok, List.map_toArray, List.map_cons, List.map_nil, hs, hx, hr]
  exact h a' cap' w' h2 h3

theorem draft_put {w5 u2 : World} {zb n : Nat} {v : Value} {XS : List Value} (hz : u2.heap[zb]? = some (.cells #[.slice none 0 0, .slice none 0 0] 25 (0, 0))) (hb : Below w5.heap.size w5 u2) (hzb : w5.heap.size ≤ zb) (ho : u2.ownsRow w5.heap.size 34 5 v n XS) (p q : Value) :
    ((u2.setCell ⟨zb, 0, none⟩ p).setCell ⟨zb, 1, none⟩ q).heap[zb]? = some (.cells #[p, q] 25 (0, 0)) ∧ ((u2.setCell ⟨zb, 0, none⟩ p).setCell ⟨zb, 1, none⟩ q).ownsRow w5.heap.size 34 5 v n XS ∧ Below w5.heap.size w5 ((u2.setCell ⟨zb, 0, none⟩ p).setCell ⟨zb, 1, none⟩ q) := by
  have h1 := set_heap hz 0 p
  have h2 := set_heap h1 1 q
  refine ⟨h2, ?_, ?_⟩
  · exact (GT.of_set h1 1 q).row ((GT.of_set hz 0 p).row ho (by decide)) (by decide)
  · have n1 : NB zb u2 ((u2.setCell ⟨zb, 0, none⟩ p).setCell ⟨zb, 1, none⟩ q) := ((NB.refl zb u2).set 0 p).set 1 q
    exact hb.trans (n1.below hzb hb.size)
theorem read_few {s : List UInt8} {d : Dr.Draft} (h : Dr.read s = .ok d) : d.items.length ≤ 5000 := by
  obtain ⟨ts, hl, hp⟩ := Dr.read_parts h
  have := (Dr.read_right hl hp).1
  unfold Dr.rightD at this
  simp only [Bool.and_eq_true, decide_eq_true_eq] at this
  exact this.2.2.1
theorem sameL_joined {α : Type} (p : α → α → Bool) (f : α → α) (h1 : ∀ a, p a a = true) (h : ∀ a, p (f a) a = true) (l m : List α) : Dr.sameL p (l ++ m.map f) (l ++ m) = true := by
  induction l with
  | nil => exact Dr.sameL_map p f h m
  | cons a l ih => rw [List.cons_append, List.cons_append, Dr.sameL, h1, ih]; rfl
theorem same_joined (x y : Dr.Draft) (m : Nat) : Dr.same ⟨x.decks, x.items ++ y.items.map (Dr.Item.later m)⟩ ⟨x.decks, x.items ++ y.items⟩ = true := by
  unfold Dr.same
  dsimp only
  rw [Dr.sameL_refl _ (fun a => by simp), sameL_joined _ _ (fun a => by simp [Dr.sameI]) (fun a => by simp [Dr.sameI, Dr.Item.later])]
  rfl
/-- What is read of two joined texts. -/
theorem read_joins {a b : List UInt8} {x y : Dr.Draft} (ha : a.length ≤ 2500) (hb : b.length ≤ 2500) (hx : Dr.read a = .ok x) (hy : Dr.read b = .ok y) (hd : y.decks = []) :
    ∃ front m, Lx.lex a 1 = .ok (front ++ [⟨4, [], 0, m⟩]) ∧ m ≤ 2501 ∧ front.length ≤ 2500 ∧ Dr.read (a ++ 10 :: b) = .ok ⟨x.decks, x.items ++ y.items.map (Dr.Item.later m)⟩ := by
  obtain ⟨ta, la, pa⟩ := Dr.read_parts hx
  obtain ⟨tb, lb, pb⟩ := Dr.read_parts hy
  obtain ⟨front, m, tc, h1, h2, h3⟩ := Dr.joins a b ta tb x y ha hb la lb pa pb hd
  subst h1
  obtain ⟨l1, l2, -⟩ := Lx.lex_lines _ a 1 _ (Nat.lt_succ_self _) la
  have l3 := l1 ⟨4, [], 0, m⟩ (by simp)
  simp at l2
  dsimp only at l3
  exact ⟨front, m, la, by omega, by omega, Dr.read_of h2 h3⟩
end Go.Proofs.YtnccndfffmaonaaGreatDoor
