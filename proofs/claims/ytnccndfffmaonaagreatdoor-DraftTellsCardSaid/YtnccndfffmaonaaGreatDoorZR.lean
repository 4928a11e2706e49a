/- Parts Op, OpD of this claim, laid one behind the other: walks and the plain laws behind them; each contract states its own conditions. -/
import Derived.DataReads
import Derived.ProofKit
import Derived.OpenShut
import Derived.SliceStrings
import Derived.Test.YtnccndfffmaonaaGreatDoorZP
import Derived.RowKit
/- What can be read as data, taken apart: the forms of a string, an int, a bool, a slice and a struct among the cells of an argument. -/
namespace Go.Proofs.YtnccndfffmaonaaGreatDoor
open Go.ChangeShapes Go.WideShapes Go.ChangeAt Go.RowKit

section
variable {H : Type} {enc : TypeId × Value → H} {P : Program} {w : World} {base : Nat} {spare : Nat → Bool} {held : Bool}
/-- The cells can be read as data of the type. -/
def Reads (enc : TypeId × Value → H) (P : Program) (w : World) (base : Nat) (spare : Nat → Bool) (held : Bool) (t : TypeId) (cs : List Value) : Prop := ∃ fuel x, DataW.trod enc P w base spare held fuel t cs = some x
theorem Reads.str {t : TypeId} {cs : List Value} (h : Reads enc P w base spare held t cs) (ht : P.underlying t = some .string) : ∃ s, cs = [.string s] ∧ s.size ≤ maxLen := by
  obtain ⟨fuel, x, h⟩ := h
  cases fuel with
  | zero => simp [DataW.trod] at h
  | succ n =>
    unfold DataW.trod at h
    rw [ht] at h
    split at h <;> simp_all
theorem Reads.int {t : TypeId} {k : IntKind} {cs : List Value} (h : Reads enc P w base spare held t cs) (ht : P.underlying t = some (.int k)) : ∃ n, cs = [.int k n] ∧ (Lit.int k n).wf = true := by
  obtain ⟨fuel, x, h⟩ := h
  cases fuel with
  | zero => simp [DataW.trod] at h
  | succ n =>
    unfold DataW.trod at h
    rw [ht] at h
    split at h <;> simp_all
theorem Reads.bool {t : TypeId} {cs : List Value} (h : Reads enc P w base spare held t cs) (ht : P.underlying t = some .bool) : ∃ b, cs = [.bool b] := by
  obtain ⟨fuel, x, h⟩ := h
  cases fuel with
  | zero => simp [DataW.trod] at h
  | succ n =>
    unfold DataW.trod at h
    rw [ht] at h
    split at h <;> simp_all
theorem addr_plain2 {w : World} {x : Addr} {v : Value} (h : w.cell? (x.add 0) = some v) : x = ⟨x.block, x.off, none⟩ := by
  rcases x with ⟨b, o, s⟩
  cases s with
  | none => rfl
  | some s =>
    simp only [Addr.add, if_true] at h
    unfold World.cell? at h
    split at h <;> simp at h
theorem addr_add2 (b o i : Nat) : (⟨b, o, none⟩ : Addr).add i = ⟨b, o + i, none⟩ := by
  unfold Addr.add; split
  · rename_i h; subst h; rfl
  · rfl
/-- A slice: its elements, cell by cell. -/
theorem Reads.slice {t e : TypeId} {cs : List Value} {size : Nat} (h : Reads enc P w base spare held t cs) (ht : P.underlying t = some (.slice e)) (he : P.cellsOf e = size) (hs : 0 < size) :
    ∃ a len cap, cs = [.slice a len cap] ∧ len ≤ cap ∧ cap ≤ maxLen ∧ (a = none → len = 0 ∧ cap = 0) ∧
      ∀ i, i < len → ∃ b off cs', a = some ⟨b, off, none⟩ ∧ cs'.length = size ∧ (∀ j, j < size → w.cell? ⟨b, off + i * size + j, none⟩ = cs'[j]?) ∧ Reads enc P w base spare held e cs' := by
  obtain ⟨fuel, x, h⟩ := h
  cases fuel with
  | zero => simp [DataW.trod] at h
  | succ n =>
    have hf : cs = [.slice none 0 0] ∨ ∃ a len cap, cs = [.slice (some a) len cap] := by
      have h' := h
      unfold DataW.trod at h'
      rw [ht] at h'
      split at h' <;> first | (exact .inl rfl) | (exact .inr ⟨_, _, _, rfl⟩) | (exfalso; simp_all; done)
    rcases hf with rfl | ⟨a, len, cap, rfl⟩
    · exact ⟨none, 0, 0, rfl, Nat.le_refl _, Nat.zero_le _, fun _ => ⟨rfl, rfl⟩, fun i hi => by omega⟩
    · unfold DataW.trod at h
      rw [ht] at h
      dsimp only at h
      rw [he] at h
      split at h
      · rename_i hb
        refine ⟨some a, len, cap, rfl, hb.2.1, hb.2.2, (fun h => by cases h), fun i hi => ?_⟩
        cases hm : (List.range len).mapM (fun i => (w.cells? base (a.add (i * size)) size).bind (DataW.trod enc P w base spare held n e)) with
        | none => rw [hm] at h; simp at h
        | some ys =>
          have hg := mapM_some_get hm i i (by simp [hi])
          have hl := mapM_some_length hm
          have hy : i < ys.length := by rw [hl]; simpa using hi
          rw [List.getElem?_eq_getElem hy] at hg
          cases hc : w.cells? base (a.add (i * size)) size with
          | none => rw [hc] at hg; simp at hg
          | some cs' =>
            rw [hc] at hg
            simp only [Option.bind_some] at hg
            obtain ⟨-, hl2, hcell⟩ := World.cells?_some hc
            have ha : a = ⟨a.block, a.off, none⟩ := by
              have hg0 := mapM_some_get hm 0 0 (by rw [List.getElem?_range (by omega)])
              have hy0 : 0 < ys.length := by omega
              rw [List.getElem?_eq_getElem hy0] at hg0
              cases hc0 : w.cells? base (a.add (0 * size)) size with
              | none => rw [hc0] at hg0; simp at hg0
              | some cs0 =>
                obtain ⟨-, hl0, hcell0⟩ := World.cells?_some hc0
                have h0 := hcell0 0 hs
                have hadd : a.add (0 * size) = a := by rw [Nat.zero_mul]; simp [Addr.add]
                rw [hadd] at h0
                exact addr_plain2 (v := cs0[0]'(by omega)) (by rw [h0, List.getElem?_eq_getElem])
            refine ⟨a.block, a.off, cs', by rw [← ha], hl2, fun j hj => ?_, n, _, hg⟩
            rw [← hcell j hj]
            conv => rhs; rw [ha, addr_add2, addr_add2]
      · cases h
/-- A struct: its fields. -/
theorem Reads.struct {t : TypeId} {fs : Array Field} {cs : List Value} (h : Reads enc P w base spare held t cs) (ht : P.underlying t = some (.struct fs)) :
    cs.length = P.cellsOf t ∧ ∀ f ∈ fs.toList, Reads enc P w base spare held f.type ((cs.drop f.offset).take (P.cellsOf f.type)) := by
  obtain ⟨fuel, x, h⟩ := h
  cases fuel with
  | zero => simp [DataW.trod] at h
  | succ n =>
    unfold DataW.trod at h
    rw [ht] at h
    dsimp only at h
    split at h
    · rename_i hl
      refine ⟨hl, fun f hf => ?_⟩
      cases hm : fs.toList.mapM (fun f => DataW.trod enc P w base spare held n f.type ((cs.drop f.offset).take (P.cellsOf f.type))) with
      | none => rw [hm] at h; simp at h
      | some ys =>
        obtain ⟨i, hi, hfi⟩ := List.getElem_of_mem hf
        have hg := mapM_some_get hm i f (by rw [List.getElem?_eq_getElem hi, hfi])
        have hy : i < ys.length := by rw [mapM_some_length hm]; exact hi
        rw [List.getElem?_eq_getElem hy] at hg
        exact ⟨n, _, hg⟩
    · cases h
end
end Go.Proofs.YtnccndfffmaonaaGreatDoor
/- A draft among the arguments. -/
namespace Go.Proofs.YtnccndfffmaonaaGreatDoor
set_option linter.unusedVariables false
open Go.ChangeShapes Go.WideShapes Go.ChangeAt Go.RowKit

theorem list_of {α : Type} (R : Nat → α → Prop) : ∀ n, (∀ i, i < n → ∃ x, R i x) → ∃ l : List α, l.length = n ∧ ∀ i, (h : i < l.length) → R i l[i]
  | 0, _ => ⟨[], rfl, fun i h => by simp at h⟩
  | n + 1, h => by
    obtain ⟨l, hl, hr⟩ := list_of R n (fun i hi => h i (by omega))
    obtain ⟨x, hx⟩ := h n (by omega)
    refine ⟨l ++ [x], by simp [hl], fun i hi => ?_⟩
    by_cases hi2 : i < l.length
    · rw [List.getElem_append_left hi2]; exact hr i hi2
    · have e : i = l.length := by simp at hi; omega
      subst e
      rw [List.getElem_append_right (by omega)]
      simp only [Nat.sub_self, List.getElem_cons_zero]
      rw [hl]; exact hx
theorem len5 {α : Type} : ∀ l : List α, l.length = 5 → ∃ c0 c1 c2 c3 c4, l = [c0, c1, c2, c3, c4]
  | [c0, c1, c2, c3, c4], _ => ⟨c0, c1, c2, c3, c4, rfl⟩
theorem len2 {α : Type} : ∀ l : List α, l.length = 2 → ∃ c0 c1, l = [c0, c1]
  | [c0, c1], _ => ⟨c0, c1, rfl⟩
theorem bounds64 {n : Int} (h : (Lit.int .i64 n).wf = true) : -9223372036854775808 ≤ n ∧ n ≤ 9223372036854775807 := by
  simp only [Lit.wf, Bool.and_eq_true, decide_eq_true_eq] at h
  exact ⟨h.1, h.2⟩
section
variable {H : Type} {enc : TypeId × Value → H} {w : World} {base : Nat} {spare : Nat → Bool} {held : Bool}
theorem read_strs {cs : List Value} (h : Reads enc Tryz.prog w base spare held 45 cs) : ∃ u ls, cs = [u] ∧ Sl w u (strs ls) ∧ ∀ s ∈ ls, s.length ≤ 9223372036854775807 := by
  obtain ⟨a, len, cap, rfl, hlc, hcm, hn, hc⟩ := h.slice Tryz.underlying45 (show Tryz.prog.cellsOf 9 = 1 by kernel_rfl) (by omega)
  obtain ⟨ls, hl, hr⟩ := list_of (fun i (s : List UInt8) => ∃ b off, a = some ⟨b, off, none⟩ ∧ w.cell? ⟨b, off + i, none⟩ = some (.string ⟨s.toArray⟩) ∧ s.length ≤ 9223372036854775807) len (fun i hi => by
    obtain ⟨b, off, cs', e1, e2, e3, e4⟩ := hc i hi
    obtain ⟨s, rfl, hs⟩ := e4.str Tryz.underlying9
    have h0 := e3 0 (by omega)
    rw [Nat.mul_one, Nat.add_zero] at h0
    exact ⟨bs s, b, off, e1, by rw [h0]; simp [bs], by rw [bs_len]; exact hs⟩)
  refine ⟨_, ls, rfl, ⟨a, cap, by rw [strs_len2, hl], by rw [strs_len2, hl]; exact Nat.le_trans hlc hcm, fun h => (hn h).2, fun i hi => ?_⟩, fun s hs => ?_⟩
  · rw [strs_len2] at hi
    obtain ⟨b, off, e1, e2, -⟩ := hr i hi
    exact ⟨b, off, e1, by rw [e2]; simp [strs]⟩
  · obtain ⟨i, hi, rfl⟩ := List.getElem_of_mem hs
    obtain ⟨b, off, e1, e2, e3⟩ := hr i hi
    exact e3
theorem read_ints {cs : List Value} (h : Reads enc Tryz.prog w base spare held 32 cs) : ∃ u ns, cs = [u] ∧ Sl w u (ints ns) ∧ capOk u ∧ ∀ n ∈ ns, -9223372036854775808 ≤ n ∧ n ≤ 9223372036854775807 := by
  obtain ⟨a, len, cap, rfl, hlc, hcm, hn, hc⟩ := h.slice Tryz.underlying32 (show Tryz.prog.cellsOf 3 = 1 by kernel_rfl) (by omega)
  obtain ⟨ns, hl, hr⟩ := list_of (fun i (n : Int) => ∃ b off, a = some ⟨b, off, none⟩ ∧ w.cell? ⟨b, off + i, none⟩ = some (.int .i64 n) ∧ -9223372036854775808 ≤ n ∧ n ≤ 9223372036854775807) len (fun i hi => by
    obtain ⟨b, off, cs', e1, e2, e3, e4⟩ := hc i hi
    obtain ⟨n, rfl, hs⟩ := e4.int Tryz.underlying3
    have h0 := e3 0 (by omega)
    rw [Nat.mul_one, Nat.add_zero] at h0
    exact ⟨n, b, off, e1, by rw [h0]; rfl, (bounds64 hs).1, (bounds64 hs).2⟩)
  refine ⟨_, ns, rfl, ⟨a, cap, by rw [ints_len, hl], by rw [ints_len, hl]; exact Nat.le_trans hlc hcm, fun h => (hn h).2, fun i hi => ?_⟩, hlc, fun n hm => ?_⟩
  · rw [ints_len] at hi
    obtain ⟨b, off, e1, e2, -⟩ := hr i hi
    exact ⟨b, off, e1, by rw [e2]; simp [ints]⟩
  · obtain ⟨i, hi, rfl⟩ := List.getElem_of_mem hm
    obtain ⟨b, off, e1, e2, e3⟩ := hr i hi
    exact e3
theorem read_decks {cs : List Value} (h : Reads enc Tryz.prog w base spare held 22 cs) : ∃ u decks, cs = [u] ∧ DVd w u decks ∧ ∀ rows ∈ decks, ∀ s ∈ rows, s.length ≤ 9223372036854775807 := by
  obtain ⟨a, len, cap, rfl, hlc, hcm, hn, hc⟩ := h.slice Tryz.underlying22 (show Tryz.prog.cellsOf 45 = 1 by kernel_rfl) (by omega)
  obtain ⟨l, hl, hr⟩ := list_of (fun i (x : Value × List (List UInt8)) => ∃ b off, a = some ⟨b, off, none⟩ ∧ w.cell? ⟨b, off + i, none⟩ = some x.1 ∧ Sl w x.1 (strs x.2) ∧ ∀ s ∈ x.2, s.length ≤ 9223372036854775807) len (fun i hi => by
    obtain ⟨b, off, cs', e1, e2, e3, e4⟩ := hc i hi
    obtain ⟨u, ls, rfl, h1, h2⟩ := read_strs e4
    have h0 := e3 0 (by omega)
    rw [Nat.mul_one, Nat.add_zero] at h0
    exact ⟨(u, ls), b, off, e1, by rw [h0]; rfl, h1, h2⟩)
  refine ⟨_, l.map (·.2), rfl, ⟨l.map (·.1), ⟨a, cap, by rw [List.length_map, hl], by rw [List.length_map, hl]; exact Nat.le_trans hlc hcm, fun h => (hn h).2, fun i hi => ?_⟩, by simp, fun i hi hi' => ?_⟩, fun rows hm => ?_⟩
  · rw [List.length_map] at hi
    obtain ⟨b, off, e1, e2, -⟩ := hr i hi
    exact ⟨b, off, e1, by rw [e2, List.getElem_map]⟩
  · rw [List.length_map] at hi
    obtain ⟨b, off, e1, e2, e3, -⟩ := hr i hi
    rw [List.getElem_map, List.getElem_map]; exact e3
  · obtain ⟨x, hx, rfl⟩ := List.mem_map.1 hm
    obtain ⟨i, hi, rfl⟩ := List.getElem_of_mem hx
    obtain ⟨b, off, e1, e2, e3, e4⟩ := hr i hi
    exact e4
set_option maxRecDepth 100000 in
theorem read_item {cs : List Value} (h : Reads enc Tryz.prog w base spare held 34 cs) : ∃ (x : Dr.Item) (nv : Value), cs = itemC x nv ∧ Sl w nv (ints x.n) ∧ capOk nv ∧ (∀ n ∈ x.n, -9223372036854775808 ≤ n ∧ n ≤ 9223372036854775807) ∧ x.name.length ≤ 9223372036854775807 ∧ x.other.length ≤ 9223372036854775807 ∧
    (-9223372036854775808 ≤ x.kind ∧ x.kind ≤ 9223372036854775807) ∧ -9223372036854775808 ≤ x.line ∧ x.line ≤ 9223372036854775807 := by
  obtain ⟨hl, hf⟩ := h.struct Tryz.underlying34
  have h5 : cs.length = 5 := hl.trans (by kernel_rfl)
  clear hl
  obtain ⟨c0, c1, c2, c3, c4, rfl⟩ := len5 cs h5
  have f0 := hf _ (List.mem_cons_self ..)
  have f1 := hf _ (List.mem_cons_of_mem _ (List.mem_cons_self ..))
  have f2 := hf _ (List.mem_cons_of_mem _ (List.mem_cons_of_mem _ (List.mem_cons_self ..)))
  have f3 := hf _ (List.mem_cons_of_mem _ (List.mem_cons_of_mem _ (List.mem_cons_of_mem _ (List.mem_cons_self ..))))
  have f4 := hf _ (List.mem_cons_of_mem _ (List.mem_cons_of_mem _ (List.mem_cons_of_mem _ (List.mem_cons_of_mem _ (List.mem_cons_self ..)))))
  have g0 : Reads enc Tryz.prog w base spare held 3 [c0] := f0
  have g1 : Reads enc Tryz.prog w base spare held 3 [c1] := f1
  have g2 : Reads enc Tryz.prog w base spare held 9 [c2] := f2
  have g3 : Reads enc Tryz.prog w base spare held 9 [c3] := f3
  have g4 : Reads enc Tryz.prog w base spare held 32 [c4] := f4
  obtain ⟨k, e0, hk⟩ := g0.int Tryz.underlying3
  obtain ⟨ln, e1, hln⟩ := g1.int Tryz.underlying3
  obtain ⟨nm, e2, hnm⟩ := g2.str Tryz.underlying9
  obtain ⟨ot, e3, hot⟩ := g3.str Tryz.underlying9
  obtain ⟨u, ns, e4, hs, hcp, hb⟩ := read_ints g4
  cases e0; cases e1; cases e2; cases e3; cases e4
  refine ⟨⟨k, ln, bs nm, bs ot, ns⟩, c4, ?_, hs, hcp, hb, by rw [bs_len]; exact hnm, by rw [bs_len]; exact hot, bounds64 hk, bounds64 hln⟩
  simp [itemC, bs]
theorem read_items {cs : List Value} (h : Reads enc Tryz.prog w base spare held 23 cs) : ∃ u items, cs = [u] ∧ DVi w u items ∧ ∀ x ∈ items, (∀ n ∈ x.n, -9223372036854775808 ≤ n ∧ n ≤ 9223372036854775807) ∧ x.name.length ≤ 9223372036854775807 ∧ x.other.length ≤ 9223372036854775807 ∧
    (-9223372036854775808 ≤ x.kind ∧ x.kind ≤ 9223372036854775807) ∧ -9223372036854775808 ≤ x.line ∧ x.line ≤ 9223372036854775807 := by
  obtain ⟨a, len, cap, rfl, hlc, hcm, hn, hc⟩ := h.slice Tryz.underlying23 (show Tryz.prog.cellsOf 34 = 5 by kernel_rfl) (by omega)
  obtain ⟨l, hl, hr⟩ := list_of (fun i (x : Dr.Item × Value) => ∃ b off, a = some ⟨b, off, none⟩ ∧ (∀ j, j < 5 → w.cell? ⟨b, off + i * 5 + j, none⟩ = (itemC x.1 x.2)[j]?) ∧ Sl w x.2 (ints x.1.n) ∧ capOk x.2 ∧ (∀ n ∈ x.1.n, -9223372036854775808 ≤ n ∧ n ≤ 9223372036854775807) ∧ x.1.name.length ≤ 9223372036854775807 ∧ x.1.other.length ≤ 9223372036854775807 ∧
    (-9223372036854775808 ≤ x.1.kind ∧ x.1.kind ≤ 9223372036854775807) ∧ -9223372036854775808 ≤ x.1.line ∧ x.1.line ≤ 9223372036854775807) len (fun i hi => by
    obtain ⟨b, off, cs', e1, e2, e3, e4⟩ := hc i hi
    obtain ⟨x, nv, rfl, h1, h2, h3⟩ := read_item e4
    exact ⟨(x, nv), b, off, e1, e3, h1, h2, h3⟩)
  refine ⟨_, l.map (·.1), rfl, ⟨l, rfl, ⟨a, cap, by rw [hl], by rw [hl]; exact Nat.le_trans hlc hcm, fun h => (hn h).2, fun i hi => ?_⟩, fun x hx => ?_⟩, fun x hm => ?_⟩
  · obtain ⟨b, off, e1, e2, -⟩ := hr i hi
    exact ⟨b, off, e1, e2 0 (by omega), e2 1 (by omega), e2 2 (by omega), e2 3 (by omega), e2 4 (by omega)⟩
  · obtain ⟨i, hi, rfl⟩ := List.getElem_of_mem hx
    obtain ⟨b, off, e1, e2, e3, e4, -⟩ := hr i hi
    exact ⟨e3, e4⟩
  · obtain ⟨y, hy, rfl⟩ := List.mem_map.1 hm
    obtain ⟨i, hi, rfl⟩ := List.getElem_of_mem hy
    obtain ⟨b, off, e1, e2, e3, e4, e5⟩ := hr i hi
    exact e5
/-- What is known of a draft that came in. -/
structure DArg (w : World) (v : Value) (d : Dr.Draft) : Prop where
  form : ∃ dv iv, v = .agg #[dv, iv] ∧ DV w dv iv d
  lens : DrLens d
  nums : DrNums d
  low : ∀ x ∈ d.items, (∀ n ∈ x.n, -9223372036854775808 ≤ n) ∧ (-9223372036854775808 ≤ x.kind ∧ x.kind ≤ 9223372036854775807) ∧ -9223372036854775808 ≤ x.line ∧ x.line ≤ 9223372036854775807
set_option maxRecDepth 100000 in
theorem open_draft {W : World} {base' : Nat} {v : Value} {x : DataW H × List MemPlace} (hok : Value.okWide Tryz.prog W .any base' 25 v)
    (h : ∃ fuel, DataW.trod enc Tryz.prog w base spare held fuel 25 v.cells.toList = some x) : ∃ d, DArg w v d := by
  obtain ⟨cs, rfl, hsz⟩ := okWide_struct Tryz.underlying25 hok
  have hR : Reads enc Tryz.prog w base spare held 25 cs.toList := by
    obtain ⟨fuel, hf⟩ := h
    exact ⟨fuel, x, hf⟩
  obtain ⟨hl, hf⟩ := hR.struct Tryz.underlying25
  have h2 : cs.toList.length = 2 := hl.trans (by kernel_rfl)
  clear hl
  obtain ⟨c0, c1, hcs⟩ := len2 cs.toList h2
  have hcs2 : cs = #[c0, c1] := by
    have := congrArg List.toArray hcs
    simpa using this
  subst hcs2
  have f0 := hf _ (List.mem_cons_self ..)
  have f1 := hf _ (List.mem_cons_of_mem _ (List.mem_cons_self ..))
  have g0 : Reads enc Tryz.prog w base spare held 22 [c0] := f0
  have g1 : Reads enc Tryz.prog w base spare held 23 [c1] := f1
  obtain ⟨u, decks, e0, hd, hdl⟩ := read_decks g0
  obtain ⟨u2, items, e1, hi, hil⟩ := read_items g1
  cases e0; cases e1
  exact ⟨⟨decks, items⟩, ⟨c0, c1, rfl, hd, hi⟩, ⟨hdl, fun x hx => ⟨(hil x hx).2.1, (hil x hx).2.2.1⟩⟩, fun x hx n hn => ((hil x hx).1 n hn).2, fun x hx => ⟨fun n hn => ((hil x hx).1 n hn).1, (hil x hx).2.2.2⟩⟩
end
end Go.Proofs.YtnccndfffmaonaaGreatDoor
