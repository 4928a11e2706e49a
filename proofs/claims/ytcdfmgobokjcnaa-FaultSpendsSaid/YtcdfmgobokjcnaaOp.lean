/- What can be read as data, taken apart: the forms of a string, an int, a bool, a slice and a struct among the cells of an argument. -/
import Derived.DataReads
import Derived.ProofKit
import Derived.OpenShut
import Derived.SliceStrings
namespace Go.Proofs.Ytcdfmgobokjcnaa
open Go.ChangeShapes Go.WideShapes Go.ChangeAt Go.RowKit

section
variable {H : Type} {enc : TypeId × Value → H} {P : Program} {w : World} {base : Nat} {spare : Nat → Bool} {held : Bool}
/-- The cells can be read as data of the type. -/
def Reads (enc : TypeId × Value → H) (P : Program) (w : World) (base : Nat) (spare : Nat → Bool) (held : Bool) (t : TypeId) (cs : List Value) : Prop := ∃ fuel x, DataW.trod enc P w base spare held fuel t cs = some x
theorem Reads.str {t : TypeId} {cs : List Value} (h : Reads enc P w base spare held t cs) (ht : P.underlying t = some .string) : ∃ s, cs = [.string s] ∧ s.size ≤ maxLen := by
  obtain ⟨fuel, x, h⟩ := h
  cases fuel with
  | zero => simp [DataW.trod] at h
  | succ n =>
    unfold DataW.trod at h
    rw [ht] at h
    split at h <;> simp_all
theorem Reads.int {t : TypeId} {k : IntKind} {cs : List Value} (h : Reads enc P w base spare held t cs) (ht : P.underlying t = some (.int k)) : ∃ n, cs = [.int k n] ∧ (Lit.int k n).wf = true := by
  obtain ⟨fuel, x, h⟩ := h
  cases fuel with
  | zero => simp [DataW.trod] at h
  | succ n =>
    unfold DataW.trod at h
    rw [ht] at h
    split at h <;> simp_all
theorem Reads.bool {t : TypeId} {cs : List Value} (h : Reads enc P w base spare held t cs) (ht : P.underlying t = some .bool) : ∃ b, cs = [.bool b] := by
  obtain ⟨fuel, x, h⟩ := h
  cases fuel with
  | zero => simp [DataW.trod] at h
  | succ n =>
    unfold DataW.trod at h
    rw [ht] at h
    split at h <;> simp_all
theorem addr_plain2 {w : World} {x : Addr} {v : Value} (h : w.cell? (x.add 0) = some v) : x = ⟨x.block, x.off, none⟩ := by
  rcases x with ⟨b, o, s⟩
  cases s with
  | none => rfl
  | some s =>
    simp only [Addr.add, if_true] at h
    unfold World.cell? at h
    split at h <;> simp at h
theorem addr_add2 (b o i : Nat) : (⟨b, o, none⟩ : Addr).add i = ⟨b, o + i, none⟩ := by
  unfold Addr.add; split
  · rename_i h; subst h; rfl
  · rfl
/-- A slice: its elements, cell by cell. -/
theorem Reads.slice {t e : TypeId} {cs : List Value} {size : Nat} (h : Reads enc P w base spare held t cs) (ht : P.underlying t = some (.slice e)) (he : P.cellsOf e = size) (hs : 0 < size) :
    ∃ a len cap, cs = [.slice a len cap] ∧ len ≤ cap ∧ cap ≤ maxLen ∧ (a = none → len = 0 ∧ cap = 0) ∧
      ∀ i, i < len → ∃ b off cs', a = some ⟨b, off, none⟩ ∧ cs'.length = size ∧ (∀ j, j < size → w.cell? ⟨b, off + i * size + j, none⟩ = cs'[j]?) ∧ Reads enc P w base spare held e cs' := by
  obtain ⟨fuel, x, h⟩ := h
  cases fuel with
  | zero => simp [DataW.trod] at h
  | succ n =>
    have hf : cs = [.slice none 0 0] ∨ ∃ a len cap, cs = [.slice (some a) len cap] := by
      have h' := h
      unfold DataW.trod at h'
      rw [ht] at h'
      split at h' <;> first | (exact .inl rfl) | (exact .inr ⟨_, _, _, rfl⟩) | (exfalso; simp_all; done)
    rcases hf with rfl | ⟨a, len, cap, rfl⟩
    · exact ⟨none, 0, 0, rfl, Nat.le_refl _, Nat.zero_le _, fun _ => ⟨rfl, rfl⟩, fun i hi => by omega⟩
    · unfold DataW.trod at h
      rw [ht] at h
      dsimp only at h
      rw [he] at h
      split at h
      · rename_i hb
        refine ⟨some a, len, cap, rfl, hb.2.1, hb.2.2, (fun h => by cases h), fun i hi => ?_⟩
        cases hm : (List.range len).mapM (fun i => (w.cells? base (a.add (i * size)) size).bind (DataW.trod enc P w base spare held n e)) with
        | none => rw [hm] at h; simp at h
        | some ys =>
          have hg := mapM_some_get hm i i (by simp [hi])
          have hl := mapM_some_length hm
          have hy : i < ys.length := by rw [hl]; simpa using hi
          rw [List.getElem?_eq_getElem hy] at hg
          cases hc : w.cells? base (a.add (i * size)) size with
          | none => rw [hc] at hg; simp at hg
          | some cs' =>
            rw [hc] at hg
            simp only [Option.bind_some] at hg
            obtain ⟨-, hl2, hcell⟩ := World.cells?_some hc
            have ha : a = ⟨a.block, a.off, none⟩ := by
              have hg0 := mapM_some_get hm 0 0 (by rw [List.getElem?_range (by omega)])
              have hy0 : 0 < ys.length := by omega
              rw [List.getElem?_eq_getElem hy0] at hg0
              cases hc0 : w.cells? base (a.add (0 * size)) size with
              | none => rw [hc0] at hg0; simp at hg0
              | some cs0 =>
                obtain ⟨-, hl0, hcell0⟩ := World.cells?_some hc0
                have h0 := hcell0 0 hs
                have hadd : a.add (0 * size) = a := by rw [Nat.zero_mul]; simp [Addr.add]
                rw [hadd] at h0
                exact addr_plain2 (v := cs0[0]'(by omega)) (by rw [h0, List.getElem?_eq_getElem])
            refine ⟨a.block, a.off, cs', by rw [← ha], hl2, fun j hj => ?_, n, _, hg⟩
            rw [← hcell j hj]
            conv => rhs; rw [ha, addr_add2, addr_add2]
      · cases h
/-- A struct: its fields. -/
theorem Reads.struct {t : TypeId} {fs : Array Field} {cs : List Value} (h : Reads enc P w base spare held t cs) (ht : P.underlying t = some (.struct fs)) :
    cs.length = P.cellsOf t ∧ ∀ f ∈ fs.toList, Reads enc P w base spare held f.type ((cs.drop f.offset).take (P.cellsOf f.type)) := by
  obtain ⟨fuel, x, h⟩ := h
  cases fuel with
  | zero => simp [DataW.trod] at h
  | succ n =>
    unfold DataW.trod at h
    rw [ht] at h
    dsimp only at h
    split at h
    · rename_i hl
      refine ⟨hl, fun f hf => ?_⟩
      cases hm : fs.toList.mapM (fun f => DataW.trod enc P w base spare held n f.type ((cs.drop f.offset).take (P.cellsOf f.type))) with
      | none => rw [hm] at h; simp at h
      | some ys =>
        obtain ⟨i, hi, hfi⟩ := List.getElem_of_mem hf
        have hg := mapM_some_get hm i f (by rw [List.getElem?_eq_getElem hi, hfi])
        have hy : i < ys.length := by rw [mapM_some_length hm]; exact hi
        rw [List.getElem?_eq_getElem hy] at hg
        exact ⟨n, _, hg⟩
    · cases h
end
end Go.Proofs.Ytcdfmgobokjcnaa
