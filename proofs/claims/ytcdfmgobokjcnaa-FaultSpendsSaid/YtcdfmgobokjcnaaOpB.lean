/- Openers of rows, ints and strings among the arguments. -/
import Derived.Test.YtcdfmgobokjcnaaOp
import Derived.Test.YtcdfmgobokjcnaaSv
import Derived.Test.YtcdfmgobokjcnaaHd
import Derived.RowKit
namespace Go.Proofs.Ytcdfmgobokjcnaa
set_option linter.unusedVariables false
open Go.ChangeShapes Go.WideShapes Go.ChangeAt Go.RowKit

theorem list_of {α : Type} (R : Nat → α → Prop) : ∀ n, (∀ i, i < n → ∃ x, R i x) → ∃ l : List α, l.length = n ∧ ∀ i, (h : i < l.length) → R i l[i]
  | 0, _ => ⟨[], rfl, fun i h => by simp at h⟩
  | n + 1, h => by
    obtain ⟨l, hl, hr⟩ := list_of R n (fun i hi => h i (by omega))
    obtain ⟨x, hx⟩ := h n (by omega)
    refine ⟨l ++ [x], by simp [hl], fun i hi => ?_⟩
    by_cases hi2 : i < l.length
    · rw [List.getElem_append_left hi2]; exact hr i hi2
    · have e : i = l.length := by simp at hi; omega
      subst e
      rw [List.getElem_append_right (by omega)]
      simp only [Nat.sub_self, List.getElem_cons_zero]
      rw [hl]; exact hx
theorem bounds64 {n : Int} (h : (Lit.int .i64 n).wf = true) : -9223372036854775808 ≤ n ∧ n ≤ 9223372036854775807 := by
  simp only [Lit.wf, Bool.and_eq_true, decide_eq_true_eq] at h
  exact ⟨h.1, h.2⟩
theorem len2 {α : Type} : ∀ l : List α, l.length = 2 → ∃ c0 c1, l = [c0, c1]
  | [c0, c1], _ => ⟨c0, c1, rfl⟩
theorem len5 {α : Type} : ∀ l : List α, l.length = 5 → ∃ c0 c1 c2 c3 c4, l = [c0, c1, c2, c3, c4]
  | [c0, c1, c2, c3, c4], _ => ⟨c0, c1, c2, c3, c4, rfl⟩
theorem len9 {α : Type} : ∀ l : List α, l.length = 9 → ∃ c0 c1 c2 c3 c4 c5 c6 c7 c8, l = [c0, c1, c2, c3, c4, c5, c6, c7, c8]
  | [c0, c1, c2, c3, c4, c5, c6, c7, c8], _ => ⟨c0, c1, c2, c3, c4, c5, c6, c7, c8, rfl⟩
section
variable {H : Type} {enc : TypeId × Value → H} {w : World} {base : Nat} {spare : Nat → Bool} {held : Bool}
theorem read_rows {P : Program} {t e : TypeId} {cs : List Value} {k : Nat} {α : Type} (R : α → List Value) (Q : α → Prop) (h : Reads enc P w base spare held t cs) (ht : P.underlying t = some (.slice e)) (he : P.cellsOf e = k) (hk : 0 < k)
    (hR : ∀ cs', Reads enc P w base spare held e cs' → ∃ x, cs' = R x ∧ Q x) : ∃ (u : Value) (l : List α), cs = [u] ∧ Rw w u k (l.map R) ∧ capV u ∧ ∀ x ∈ l, Q x := by
  obtain ⟨a, len, cap, rfl, hlc, hcm, hn, hc⟩ := h.slice ht he hk
  obtain ⟨l, hl, hr⟩ := list_of (fun i (x : α) => ∃ b off, a = some ⟨b, off, none⟩ ∧ b < w.heap.size ∧ (∀ j, j < k → w.cell? ⟨b, off + i * k + j, none⟩ = (R x)[j]?) ∧ Q x) len (fun i hi => by
    obtain ⟨b, off, cs', e1, e2, e3, e4⟩ := hc i hi
    obtain ⟨x, rfl, hx⟩ := hR cs' e4
    have h0 := e3 0 hk
    rw [List.getElem?_eq_getElem (by omega)] at h0
    exact ⟨x, b, off, e1, cell_block_lt h0, e3, hx⟩)
  refine ⟨_, l, rfl, ⟨a, cap, by rw [List.length_map, hl], by rw [List.length_map, hl]; exact Nat.le_trans hlc hcm, fun h => (hn h).2, fun i hi => ?_⟩, ⟨hlc, by unfold maxLen at hcm; omega⟩, fun x hx => ?_⟩
  · rw [List.length_map] at hi
    obtain ⟨b, off, e1, e2, e3, -⟩ := hr i hi
    exact ⟨b, off, e1, e2, by rw [List.getElem_map]; exact e3⟩
  · obtain ⟨i, hi, rfl⟩ := List.getElem_of_mem hx
    obtain ⟨b, off, e1, e2, e3, e4⟩ := hr i hi
    exact e4
def I64 (n : Int) : Prop := -9223372036854775808 ≤ n ∧ n ≤ 9223372036854775807
theorem read_ints {cs : List Value} (h : Reads enc Try.prog w base spare held 29 cs) : ∃ u ns, cs = [u] ∧ Is w u ns ∧ ∀ n ∈ ns, -9223372036854775808 ≤ n ∧ n ≤ 9223372036854775807 := by
  obtain ⟨a, len, cap, rfl, hlc, hcm, hn, hc⟩ := h.slice Try.underlying29 (show Try.prog.cellsOf 3 = 1 by kernel_rfl) (by omega)
  obtain ⟨ns, hl, hr⟩ := list_of (fun i (n : Int) => ∃ b off, a = some ⟨b, off, none⟩ ∧ w.cell? ⟨b, off + i, none⟩ = some (.int .i64 n) ∧ -9223372036854775808 ≤ n ∧ n ≤ 9223372036854775807) len (fun i hi => by
    obtain ⟨b, off, cs', e1, e2, e3, e4⟩ := hc i hi
    obtain ⟨n, rfl, hs⟩ := e4.int Try.underlying3
    have h0 := e3 0 (by omega)
    rw [Nat.mul_one, Nat.add_zero] at h0
    exact ⟨n, b, off, e1, by rw [h0]; rfl, (bounds64 hs).1, (bounds64 hs).2⟩)
  refine ⟨_, ns, rfl, ⟨a, cap, by rw [ints_len, hl], by rw [ints_len, hl]; exact Nat.le_trans hlc hcm, fun h => (hn h).2, fun i hi => ?_⟩, fun n hm => ?_⟩
  · rw [ints_len] at hi
    obtain ⟨b, off, e1, e2, -⟩ := hr i hi
    exact ⟨b, off, e1, by rw [e2]; simp [ints]⟩
  · obtain ⟨i, hi, rfl⟩ := List.getElem_of_mem hm
    obtain ⟨b, off, e1, e2, e3⟩ := hr i hi
    exact e3
theorem read_str {cs : List Value} (h : Reads enc Try.prog w base spare held 9 cs) : ∃ s : List UInt8, cs = [.string ⟨s.toArray⟩] ∧ s.length ≤ 9223372036854775807 := by
  obtain ⟨s, rfl, hs⟩ := h.str Try.underlying9
  exact ⟨s.data.toList, by simp, by unfold maxLen at hs; simpa using hs⟩
theorem read_int {cs : List Value} (h : Reads enc Try.prog w base spare held 3 cs) : ∃ n, cs = [.int .i64 n] ∧ -9223372036854775808 ≤ n ∧ n ≤ 9223372036854775807 := by
  obtain ⟨n, rfl, hs⟩ := h.int Try.underlying3
  exact ⟨n, rfl, (bounds64 hs).1, (bounds64 hs).2⟩
end
end Go.Proofs.Ytcdfmgobokjcnaa
