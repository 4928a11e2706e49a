/- A slice of strings among the arguments, as a list of strings. -/
import Derived.Test.YtdjiimblfhbcjaaDoorTxG
import Derived.SliceStrings
import Derived.ProofKit
namespace Go.Proofs.YtdjiimblfhbcjaaDoor
open Go.ChangeShapes Go.WideShapes Go.ChangeAt Go.RowKit

theorem addr_plain {w : World} {x : Addr} {v : Value} (h : w.cell? (x.add 0) = some v) : x = ⟨x.block, x.off, none⟩ := by
  rcases x with ⟨b, o, s⟩
  cases s with
  | none => rfl
  | some s =>
    simp only [Addr.add, if_true] at h
    unfold World.cell? at h
    split at h <;> simp at h
theorem addr_add (b o i : Nat) : (⟨b, o, none⟩ : Addr).add i = ⟨b, o + i, none⟩ := by
  unfold Addr.add; split
  · rename_i h; subst h; rfl
  · rfl
theorem Sl.open_strs {H : Type} {enc : TypeId × Value → H} {P : Program} {w W : World} {base base' : Nat} {spare : Nat → Bool} {held : Bool} {t e : TypeId} {v : Value} {x : DataW H × List MemPlace}
    (ht : P.underlying t = some (.slice e)) (he : P.underlying e = some .string) (hc : P.cellsOf e = 1) (hok : Value.okWide P W .any base' t v)
    (h : ∃ fuel, DataW.trod enc P w base spare held fuel t v.cells.toList = some x) : ∃ ls, Sl w v (strs ls) := by
  obtain ⟨a, len, cap, rfl⟩ := okWide_slice ht hok
  obtain ⟨fuel, hf⟩ := h
  rcases open_strings ht he hc hf with ⟨hcs, _⟩ | ⟨x, l, c, ss, hcs, _, hl, hm, hz, _, hcell, hsz⟩
  · simp [Value.cells] at hcs
    obtain ⟨rfl, rfl, rfl⟩ := hcs
    exact ⟨[], Sl.nil w⟩
  · simp [Value.cells] at hcs
    obtain ⟨rfl, rfl, rfl⟩ := hcs
    have hlen : (ss.take len).length = len := by rw [List.length_take]; split at hz <;> omega
    refine ⟨(ss.take len).map bs, some x, cap, by rw [strs_len, List.length_map, hlen], by rw [strs_len, List.length_map, hlen]; omega, fun h => (by cases h), fun i hi => ?_⟩
    rw [strs_len, List.length_map, hlen] at hi
    have hx := addr_plain (hcell 0 (by rw [List.length_take] at hlen; omega))
    refine ⟨x.block, x.off, by rw [← hx], ?_⟩
    have hi' := hcell i (by rw [List.length_take] at hlen; omega)
    rw [hx, addr_add] at hi'
    rw [hi']
    simp only [strs, List.getElem_map, List.getElem_take]
    have hlt : i < ss.length := by rw [List.length_take] at hlen; omega
    rw [List.getD_eq_getElem?_getD, List.getElem?_eq_getElem hlt, Option.getD_some]
    congr 1
end Go.Proofs.YtdjiimblfhbcjaaDoor
