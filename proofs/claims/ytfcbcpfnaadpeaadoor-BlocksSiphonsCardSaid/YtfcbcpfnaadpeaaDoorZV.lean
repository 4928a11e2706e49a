/- Parts Nt of this claim, laid one behind the other: walks and the plain laws behind them; each contract states its own conditions. -/
import Derived.Test.YtfcbcpfnaadpeaaDoorZJ
import Derived.Test.YtfcbcpfnaadpeaaDoorZL
/- Walks of package blocks: Net. -/
namespace Go.Proofs.YtfcbcpfnaadpeaaDoor
set_option linter.unusedSimpArgs false
set_option linter.unusedVariables false
open Go.RowKit

theorem Tryd.tranInfo : (Tryd.prog.info? 81).map (fun i => (i.zero, i.size, i.bytes)) = some (some (.agg #[.slice none 0 0, .slice none 0 0]), 2, 48) := by kernel_rfl
/-- The two slices of a transition of one place each. -/
def one (g : Nat) : Value := .slice (some ⟨g, 0, none⟩) 1 1
def tranRows (gs : List (Nat × Nat)) : List (List Value) := gs.map fun g => [one g.1, one g.2]
def pairT (p : Nat × Nat) : List Int × List Int := ([(p.2 : Int)], [(p.1 : Int)])
/-- Transitions appended so far: from each (a, b) the transition that takes from b's.. place and brings to a's. -/
def TrO (w : World) (base : Nat) (v : Value) (l : List (Nat × Nat)) : Prop := ∃ gs : List (Nat × Nat), gs.length = l.length ∧ w.ownsRow base 81 2 v l.length (tranRows gs).flatten ∧
  ∀ i (h1 : i < l.length) (h2 : i < gs.length), w.heap[gs[i].1]? = some (.cells #[.int .i64 (l[i].2 : Int)] 3 (0, 0)) ∧ w.heap[gs[i].2]? = some (.cells #[.int .i64 (l[i].1 : Int)] 3 (0, 0))
theorem TrO.nil (w : World) (base : Nat) : TrO w base (.slice none 0 0) [] := ⟨[], rfl, World.ownsRow_nil .., fun i h => by simp at h⟩
theorem TrO.below {w w' : World} {base : Nat} {v : Value} {l : List (Nat × Nat)} (h : TrO w base v l) (hb : Below w.heap.size w w') : TrO w' base v l := by
  obtain ⟨gs, a, b, c⟩ := h
  refine ⟨gs, a, ?_, fun i k1 k2 => ⟨keep_heap (c i k1 k2).1 hb, keep_heap (c i k1 k2).2 hb⟩⟩
  refine ⟨b.1, ?_⟩
  rcases b.2 with h | ⟨g, cap, cur, rfl, h1, h2, h3⟩
  · exact .inl h
  · exact .inr ⟨g, cap, cur, rfl, h1, keep_heap h2 hb, h3⟩
theorem TrO.form {w : World} {base : Nat} {v : Value} {l : List (Nat × Nat)} (h : TrO w base v l) : ∃ a cap, v = .slice a l.length cap ∧ l.length ≤ 9223372036854775807 := by
  obtain ⟨gs, -, b, -⟩ := h
  obtain ⟨a, c, rfl, h1⟩ := own_slice b
  exact ⟨a, c, rfl, h1⟩
theorem TrO.own {w : World} {base : Nat} {v : Value} {l : List (Nat × Nat)} (h : TrO w base v l) : ∀ k, v.ownBlock = some k → base ≤ k ∧ k < w.heap.size := by
  obtain ⟨gs, -, b, -⟩ := h
  exact b.lt
theorem one_is {w : World} {g : Nat} {x : Int} (h : w.heap[g]? = some (.cells #[.int .i64 x] 3 (0, 0))) : Is w (one g) [x] :=
  ⟨some ⟨g, 0, none⟩, 1, rfl, by show 1 ≤ maxLen; unfold maxLen; omega, by simp, fun i hi => ⟨g, 0, rfl, by
    have h0 : i = 0 := by simp [ints] at hi; omega
    subst h0
    exact cell_of_heap h 0 rfl⟩⟩
theorem TrO.tr {w : World} {base : Nat} {v : Value} {l : List (Nat × Nat)} (h : TrO w base v l) : Tr w v (l.map pairT) := by
  obtain ⟨gs, a, b, c⟩ := h
  refine ⟨(l.map pairT).zip (gs.map fun g => (one g.1, one g.2)), ?_, ?_, ?_⟩
  · rw [List.map_fst_zip]; simp [a]
  · have e : ((l.map pairT).zip (gs.map fun g => (one g.1, one g.2))).map (fun x => [x.2.1, x.2.2]) = tranRows gs := by
      have : ((l.map pairT).zip (gs.map fun g => (one g.1, one g.2))).map (·.2) = gs.map fun g => (one g.1, one g.2) := List.map_snd_zip (by simp [a])
      rw [show (fun x : (List Int × List Int) × Value × Value => [x.2.1, x.2.2]) = (fun y : Value × Value => [y.1, y.2]) ∘ (·.2) by rfl, ← List.map_map, this, List.map_map]; rfl
    rw [e]
    exact Rw.of_own b (by simp [tranRows, a]) (fun r hr => by
      simp only [tranRows, List.mem_map] at hr
      obtain ⟨e, -, rfl⟩ := hr
      rfl) (by omega)
  · intro x hx
    obtain ⟨i, hi, rfl⟩ := List.getElem_of_mem hx
    have h1 : i < l.length := by simp at hi; omega
    have h2 : i < gs.length := by omega
    obtain ⟨c1, c2⟩ := c i h1 h2
    rw [List.getElem_zip, List.getElem_map, List.getElem_map]
    exact ⟨one_is c1, one_is c2⟩
/-- One more transition. -/
theorem wpList_app_tran {w : World} {ops : Array Oper} {rest : List Oper} {o : Oper} {a : Act} {Q : Exit → Act → World → Prop} (hgd : o.guard = none) (s x : Operand)
    (ho : o.op = .call { callee := .builtin .append, args := #[s, x], argTypes := #[33, 33] })
    (base : Nat) (v : Value) (n : Nat) (l : List (Nat × Nat)) (hn : l.length = n) (hs : a.eval s = v) (hT : TrO w base v l)
    (g c g1 g2 : Nat) (p : Nat × Nat) (hx : a.eval x = .slice (some ⟨g, 0, none⟩) 1 c) (hg : w.heap[g]? = some (.cells #[one g1, one g2] 81 (0, 0)))
    (hg1 : w.heap[g1]? = some (.cells #[.int .i64 (p.2 : Int)] 3 (0, 0))) (hg2 : w.heap[g2]? = some (.cells #[.int .i64 (p.1 : Int)] 3 (0, 0)))
    (hsz : n + 1 ≤ 1000000000) (hbase : base ≤ w.heap.size)
    (h : ∀ a' c' w', TrO w' base (.slice a' (n + 1) c') (l ++ [p]) → GT 81 w w' → Below base w w' → wpList Tryd.prog ops Q rest (a.put o.dst (.slice a' (n + 1) c')) w') : wpList Tryd.prog ops Q (o :: rest) a w := by
  subst hn
  obtain ⟨i, hi, hz, hsize, hby⟩ := info_parts Tryd.tranInfo
  obtain ⟨gs, hgl, hown, hin⟩ := hT
  refine wpList_append_own w hgd s x _ ho base 81 i _ 2 48 Tryd.underlying33 hi hz hsize hby rfl (by decide) v l.length _ hs hown ⟨g, 0, none⟩ 1 c [one g1, one g2] hx rfl ?_ ?_ (by unfold maxLen; omega) (by omega) hbase ?_
  · intro j u hj
    rw [Addr.add_lit]
    have h1 := (List.getElem?_eq_some_iff.1 hj).1
    have h2 : j = 0 ∨ j = 1 := by simp at h1; omega
    rcases h2 with rfl | rfl
    · simp at hj; subst hj; exact cell_of_heap hg 0 rfl
    · simp at hj; subst hj; exact cell_of_heap hg 1 rfl
  · intro u hu
    simp at hu
    rcases hu with rfl | rfl <;> rfl
  · intro v' w' h2 h3 _
    obtain ⟨a', c', rfl, -⟩ := own_slice h2
    have hgt := GT.of_own hown h3
    refine h a' c' w' ⟨gs ++ [(g1, g2)], by simp [hgl], ?_, fun i k1 k2 => ?_⟩ hgt (below_own hown h3 (Nat.le_refl _) hbase)
    · rw [List.length_append, show (tranRows (gs ++ [(g1, g2)])).flatten = (tranRows gs).flatten ++ [one g1, one g2] by simp [tranRows]]
      exact h2
    · by_cases hi2 : i < l.length
      · rw [List.getElem_append_left (by omega), List.getElem_append_left hi2]
        exact ⟨hgt.heap (hin i hi2 (by omega)).1 (by decide), hgt.heap (hin i hi2 (by omega)).2 (by decide)⟩
      · have e : i = l.length := by simp at k1; omega
        subst e
        rw [List.getElem_append_right (by omega), List.getElem_append_right (by omega)]
        simp only [hgl, Nat.sub_self, List.getElem_singleton]
        exact ⟨hgt.heap hg1 (by decide), hgt.heap hg2 (by decide)⟩
end Go.Proofs.YtfcbcpfnaadpeaaDoor
