/- Parts Op, OpB, OpSi, OpFa, OpSt, FrK of this claim, laid one behind the other: walks and the plain laws behind them; each contract states its own conditions. -/
import Derived.DataReads
import Derived.OpenShut
import Derived.SliceStrings
import Derived.LaidMore
import Derived.Lay
import Derived.Stop.Joined
import Derived.Stop.LaidErr
import Derived.Handed
import Derived.Shelf.Vars
import Derived.Lib.LaidTab
import Derived.Test.YtcdfmgobokjcnaaGreatDoorZD
import Derived.Test.YtcdfmgobokjcnaaGreatDoorUJ
import Derived.Test.YtcdfmgobokjcnaaGreatDoorWC
/- What can be read as data, taken apart: the forms of a string, an int, a bool, a slice and a struct among the cells of an argument. -/
namespace Go.Proofs.YtcdfmgobokjcnaaGreatDoor
open Go.ChangeShapes Go.WideShapes Go.ChangeAt Go.RowKit

section
variable {H : Type} {enc : TypeId × Value → H} {P : Program} {w : World} {base : Nat} {spare : Nat → Bool} {held : Bool}
/-- The cells can be read as data of the type. -/
def Reads (enc : TypeId × Value → H) (P : Program) (w : World) (base : Nat) (spare : Nat → Bool) (held : Bool) (t : TypeId) (cs : List Value) : Prop := ∃ fuel x, DataW.trod enc P w base spare held fuel t cs = some x
theorem Reads.str {t : TypeId} {cs : List Value} (h : Reads enc P w base spare held t cs) (ht : P.underlying t = some .string) : ∃ s, cs = [.string s] ∧ s.size ≤ maxLen := by
  obtain ⟨fuel, x, h⟩ := h
  cases fuel with
  | zero => simp [DataW.trod] at h
  | succ n =>
    unfold DataW.trod at h
    rw [ht] at h
    split at h <;> simp_all
theorem Reads.int {t : TypeId} {k : IntKind} {cs : List Value} (h : Reads enc P w base spare held t cs) (ht : P.underlying t = some (.int k)) : ∃ n, cs = [.int k n] ∧ (Lit.int k n).wf = true := by
  obtain ⟨fuel, x, h⟩ := h
  cases fuel with
  | zero => simp [DataW.trod] at h
  | succ n =>
    unfold DataW.trod at h
    rw [ht] at h
    split at h <;> simp_all
theorem Reads.bool {t : TypeId} {cs : List Value} (h : Reads enc P w base spare held t cs) (ht : P.underlying t = some .bool) : ∃ b, cs = [.bool b] := by
  obtain ⟨fuel, x, h⟩ := h
  cases fuel with
  | zero => simp [DataW.trod] at h
  | succ n =>
    unfold DataW.trod at h
    rw [ht] at h
    split at h <;> simp_all
theorem addr_plain2 {w : World} {x : Addr} {v : Value} (h : w.cell? (x.add 0) = some v) : x = ⟨x.block, x.off, none⟩ := by
  rcases x with ⟨b, o, s⟩
  cases s with
  | none => rfl
  | some s =>
    simp only [Addr.add, if_true] at h
    unfold World.cell? at h
    split at h <;> simp at h
theorem addr_add2 (b o i : Nat) : (⟨b, o, none⟩ : Addr).add i = ⟨b, o + i, none⟩ := by
  unfold Addr.add; split
  · rename_i h; subst h; rfl
  · rfl
/-- A slice: its elements, cell by cell. -/
theorem Reads.slice {t e : TypeId} {cs : List Value} {size : Nat} (h : Reads enc P w base spare held t cs) (ht : P.underlying t = some (.slice e)) (he : P.cellsOf e = size) (hs : 0 < size) :
    ∃ a len cap, cs = [.slice a len cap] ∧ len ≤ cap ∧ cap ≤ maxLen ∧ (a = none → len = 0 ∧ cap = 0) ∧
      ∀ i, i < len → ∃ b off cs', a = some ⟨b, off, none⟩ ∧ cs'.length = size ∧ (∀ j, j < size → w.cell? ⟨b, off + i * size + j, none⟩ = cs'[j]?) ∧ Reads enc P w base spare held e cs' := by
  obtain ⟨fuel, x, h⟩ := h
  cases fuel with
  | zero => simp [DataW.trod] at h
  | succ n =>
    have hf : cs = [.slice none 0 0] ∨ ∃ a len cap, cs = [.slice (some a) len cap] := by
      have h' := h
      unfold DataW.trod at h'
      rw [ht] at h'
      split at h' <;> first | (exact .inl rfl) | (exact .inr ⟨_, _, _, rfl⟩) | (exfalso; simp_all; done)
    rcases hf with rfl | ⟨a, len, cap, rfl⟩
    · exact ⟨none, 0, 0, rfl, Nat.le_refl _, Nat.zero_le _, fun _ => ⟨rfl, rfl⟩, fun i hi => by omega⟩
    · unfold DataW.trod at h
      rw [ht] at h
      dsimp only at h
      rw [he] at h
      split at h
      · rename_i hb
        refine ⟨some a, len, cap, rfl, hb.2.1, hb.2.2, (fun h => by cases h), fun i hi => ?_⟩
        cases hm : (List.range len).mapM (fun i => (w.cells? base (a.add (i * size)) size).bind (DataW.trod enc P w base spare held n e)) with
        | none => rw [hm] at h; simp at h
        | some ys =>
          have hg := mapM_some_get hm i i (by simp [hi])
          have hl := mapM_some_length hm
          have hy : i < ys.length := by rw [hl]; simpa using hi
          rw [List.getElem?_eq_getElem hy] at hg
          cases hc : w.cells? base (a.add (i * size)) size with
          | none => rw [hc] at hg; simp at hg
          | some cs' =>
            rw [hc] at hg
            simp only [Option.bind_some] at hg
            obtain ⟨-, hl2, hcell⟩ := World.cells?_some hc
            have ha : a = ⟨a.block, a.off, none⟩ := by
              have hg0 := mapM_some_get hm 0 0 (by rw [List.getElem?_range (by omega)])
              have hy0 : 0 < ys.length := by omega
              rw [List.getElem?_eq_getElem hy0] at hg0
              cases hc0 : w.cells? base (a.add (0 * size)) size with
              | none => rw [hc0] at hg0; simp at hg0
              | some cs0 =>
                obtain ⟨-, hl0, hcell0⟩ := World.cells?_some hc0
                have h0 := hcell0 0 hs
                have hadd : a.add (0 * size) = a := by rw [Nat.zero_mul]; simp [Addr.add]
                rw [hadd] at h0
                exact addr_plain2 (v := cs0[0]'(by omega)) (by rw [h0, List.getElem?_eq_getElem])
            refine ⟨a.block, a.off, cs', by rw [← ha], hl2, fun j hj => ?_, n, _, hg⟩
            rw [← hcell j hj]
            conv => rhs; rw [ha, addr_add2, addr_add2]
      · cases h
/-- A struct: its fields. -/
theorem Reads.struct {t : TypeId} {fs : Array Field} {cs : List Value} (h : Reads enc P w base spare held t cs) (ht : P.underlying t = some (.struct fs)) :
    cs.length = P.cellsOf t ∧ ∀ f ∈ fs.toList, Reads enc P w base spare held f.type ((cs.drop f.offset).take (P.cellsOf f.type)) := by
  obtain ⟨fuel, x, h⟩ := h
  cases fuel with
  | zero => simp [DataW.trod] at h
  | succ n =>
    unfold DataW.trod at h
    rw [ht] at h
    dsimp only at h
    split at h
    · rename_i hl
      refine ⟨hl, fun f hf => ?_⟩
      cases hm : fs.toList.mapM (fun f => DataW.trod enc P w base spare held n f.type ((cs.drop f.offset).take (P.cellsOf f.type))) with
      | none => rw [hm] at h; simp at h
      | some ys =>
        obtain ⟨i, hi, hfi⟩ := List.getElem_of_mem hf
        have hg := mapM_some_get hm i f (by rw [List.getElem?_eq_getElem hi, hfi])
        have hy : i < ys.length := by rw [mapM_some_length hm]; exact hi
        rw [List.getElem?_eq_getElem hy] at hg
        exact ⟨n, _, hg⟩
    · cases h
end
end Go.Proofs.YtcdfmgobokjcnaaGreatDoor
/- Openers of rows, ints and strings among the arguments. -/
namespace Go.Proofs.YtcdfmgobokjcnaaGreatDoor
set_option linter.unusedVariables false
open Go.ChangeShapes Go.WideShapes Go.ChangeAt Go.RowKit

theorem list_of {α : Type} (R : Nat → α → Prop) : ∀ n, (∀ i, i < n → ∃ x, R i x) → ∃ l : List α, l.length = n ∧ ∀ i, (h : i < l.length) → R i l[i]
  | 0, _ => ⟨[], rfl, fun i h => by simp at h⟩
  | n + 1, h => by
    obtain ⟨l, hl, hr⟩ := list_of R n (fun i hi => h i (by omega))
    obtain ⟨x, hx⟩ := h n (by omega)
    refine ⟨l ++ [x], by simp [hl], fun i hi => ?_⟩
    by_cases hi2 : i < l.length
    · rw [List.getElem_append_left hi2]; exact hr i hi2
    · have e : i = l.length := by simp at hi; omega
      subst e
      rw [List.getElem_append_right (by omega)]
      simp only [Nat.sub_self, List.getElem_cons_zero]
      rw [hl]; exact hx
theorem bounds64 {n : Int} (h : (Lit.int .i64 n).wf = true) : -9223372036854775808 ≤ n ∧ n ≤ 9223372036854775807 := by
  simp only [Lit.wf, Bool.and_eq_true, decide_eq_true_eq] at h
  exact ⟨h.1, h.2⟩
theorem len2 {α : Type} : ∀ l : List α, l.length = 2 → ∃ c0 c1, l = [c0, c1]
  | [c0, c1], _ => ⟨c0, c1, rfl⟩
theorem len5 {α : Type} : ∀ l : List α, l.length = 5 → ∃ c0 c1 c2 c3 c4, l = [c0, c1, c2, c3, c4]
  | [c0, c1, c2, c3, c4], _ => ⟨c0, c1, c2, c3, c4, rfl⟩
theorem len9 {α : Type} : ∀ l : List α, l.length = 9 → ∃ c0 c1 c2 c3 c4 c5 c6 c7 c8, l = [c0, c1, c2, c3, c4, c5, c6, c7, c8]
  | [c0, c1, c2, c3, c4, c5, c6, c7, c8], _ => ⟨c0, c1, c2, c3, c4, c5, c6, c7, c8, rfl⟩
def capV : Value → Prop
  | .slice _ n c => n ≤ c ∧ c ≤ 9223372036854775807
  | _ => True
section
variable {H : Type} {enc : TypeId × Value → H} {w : World} {base : Nat} {spare : Nat → Bool} {held : Bool}
theorem read_rows {P : Program} {t e : TypeId} {cs : List Value} {k : Nat} {α : Type} (R : α → List Value) (Q : α → Prop) (h : Reads enc P w base spare held t cs) (ht : P.underlying t = some (.slice e)) (he : P.cellsOf e = k) (hk : 0 < k)
    (hR : ∀ cs', Reads enc P w base spare held e cs' → ∃ x, cs' = R x ∧ Q x) : ∃ (u : Value) (l : List α), cs = [u] ∧ Rw w u k (l.map R) ∧ capV u ∧ ∀ x ∈ l, Q x := by
  obtain ⟨a, len, cap, rfl, hlc, hcm, hn, hc⟩ := h.slice ht he hk
  obtain ⟨l, hl, hr⟩ := list_of (fun i (x : α) => ∃ b off, a = some ⟨b, off, none⟩ ∧ b < w.heap.size ∧ (∀ j, j < k → w.cell? ⟨b, off + i * k + j, none⟩ = (R x)[j]?) ∧ Q x) len (fun i hi => by
    obtain ⟨b, off, cs', e1, e2, e3, e4⟩ := hc i hi
    obtain ⟨x, rfl, hx⟩ := hR cs' e4
    have h0 := e3 0 hk
    rw [List.getElem?_eq_getElem (by omega)] at h0
    exact ⟨x, b, off, e1, cell_block_lt h0, e3, hx⟩)
  refine ⟨_, l, rfl, ⟨a, cap, by rw [List.length_map, hl], by rw [List.length_map, hl]; exact Nat.le_trans hlc hcm, fun h => (hn h).2, fun i hi => ?_⟩, ⟨hlc, by unfold maxLen at hcm; omega⟩, fun x hx => ?_⟩
  · rw [List.length_map] at hi
    obtain ⟨b, off, e1, e2, e3, -⟩ := hr i hi
    exact ⟨b, off, e1, e2, by rw [List.getElem_map]; exact e3⟩
  · obtain ⟨i, hi, rfl⟩ := List.getElem_of_mem hx
    obtain ⟨b, off, e1, e2, e3, e4⟩ := hr i hi
    exact e4
def I64 (n : Int) : Prop := -9223372036854775808 ≤ n ∧ n ≤ 9223372036854775807
theorem read_ints {cs : List Value} (h : Reads enc Tryz.prog w base spare held 22 cs) : ∃ u ns, cs = [u] ∧ Is w u ns ∧ ∀ n ∈ ns, -9223372036854775808 ≤ n ∧ n ≤ 9223372036854775807 := by
  obtain ⟨a, len, cap, rfl, hlc, hcm, hn, hc⟩ := h.slice Tryz.underlying22 (show Tryz.prog.cellsOf 3 = 1 by kernel_rfl) (by omega)
  obtain ⟨ns, hl, hr⟩ := list_of (fun i (n : Int) => ∃ b off, a = some ⟨b, off, none⟩ ∧ w.cell? ⟨b, off + i, none⟩ = some (.int .i64 n) ∧ -9223372036854775808 ≤ n ∧ n ≤ 9223372036854775807) len (fun i hi => by
    obtain ⟨b, off, cs', e1, e2, e3, e4⟩ := hc i hi
    obtain ⟨n, rfl, hs⟩ := e4.int Tryz.underlying3
    have h0 := e3 0 (by omega)
    rw [Nat.mul_one, Nat.add_zero] at h0
    exact ⟨n, b, off, e1, by rw [h0]; rfl, (bounds64 hs).1, (bounds64 hs).2⟩)
  refine ⟨_, ns, rfl, ⟨a, cap, by rw [ints_len, hl], by rw [ints_len, hl]; exact Nat.le_trans hlc hcm, fun h => (hn h).2, fun i hi => ?_⟩, fun n hm => ?_⟩
  · rw [ints_len] at hi
    obtain ⟨b, off, e1, e2, -⟩ := hr i hi
    exact ⟨b, off, e1, by rw [e2]; simp [ints]⟩
  · obtain ⟨i, hi, rfl⟩ := List.getElem_of_mem hm
    obtain ⟨b, off, e1, e2, e3⟩ := hr i hi
    exact e3
theorem read_str {cs : List Value} (h : Reads enc Tryz.prog w base spare held 9 cs) : ∃ s : List UInt8, cs = [.string ⟨s.toArray⟩] ∧ s.length ≤ 9223372036854775807 := by
  obtain ⟨s, rfl, hs⟩ := h.str Tryz.underlying9
  exact ⟨s.data.toList, by simp, by unfold maxLen at hs; simpa using hs⟩
theorem read_int {cs : List Value} (h : Reads enc Tryz.prog w base spare held 3 cs) : ∃ n, cs = [.int .i64 n] ∧ -9223372036854775808 ≤ n ∧ n ≤ 9223372036854775807 := by
  obtain ⟨n, rfl, hs⟩ := h.int Tryz.underlying3
  exact ⟨n, rfl, (bounds64 hs).1, (bounds64 hs).2⟩
end
end Go.Proofs.YtcdfmgobokjcnaaGreatDoor
/- A site among the arguments. -/
namespace Go.Proofs.YtcdfmgobokjcnaaGreatDoor
set_option linter.unusedVariables false
open Go.ChangeShapes Go.WideShapes Go.ChangeAt Go.RowKit

structure FlNum (f : Fl.Floor) : Prop where
  w : -9223372036854775808 ≤ f.w ∧ f.w ≤ 9223372036854775807
  h : -9223372036854775808 ≤ f.h ∧ f.h ≤ 9223372036854775807
  d : -9223372036854775808 ≤ f.d ∧ f.d ≤ 9223372036854775807
  kind : ∀ k ∈ f.kind, -9223372036854775808 ≤ k ∧ k ≤ 9223372036854775807
  out : ∀ k ∈ f.out, -9223372036854775808 ≤ k ∧ k ≤ 9223372036854775807
structure SiNum (s : Si.Site) : Prop where
  fl : FlNum s.floor
  zn : ∀ z ∈ s.zones, z.name.length ≤ 9223372036854775807 ∧ (∀ c ∈ z.cells, -9223372036854775808 ≤ c ∧ c ≤ 9223372036854775807) ∧ (-9223372036854775808 ≤ z.speed ∧ z.speed ≤ 9223372036854775807) ∧ (-9223372036854775808 ≤ z.keep ∧ z.keep ≤ 9223372036854775807) ∧ ∀ p ∈ z.shut, (-9223372036854775808 ≤ p.1 ∧ p.1 ≤ 9223372036854775807) ∧ -9223372036854775808 ≤ p.2 ∧ p.2 ≤ 9223372036854775807
  ap : ∀ p ∈ s.aparts, p.1.length ≤ 9223372036854775807 ∧ p.2.length ≤ 9223372036854775807
  sf : ∀ p ∈ s.shelves, (-9223372036854775808 ≤ p.1 ∧ p.1 ≤ 9223372036854775807) ∧ p.2.length ≤ 9223372036854775807
  rb : ∀ p ∈ s.robots, (-9223372036854775808 ≤ p.1 ∧ p.1 ≤ 9223372036854775807) ∧ -9223372036854775808 ≤ p.2 ∧ p.2 ≤ 9223372036854775807
structure SiCap (zv av sv rv : Value) : Prop where
  z : capV zv
  a : capV av
  s : capV sv
  r : capV rv
section
variable {H : Type} {enc : TypeId × Value → H} {w : World} {base : Nat} {spare : Nat → Bool} {held : Bool}
set_option maxRecDepth 100000 in
theorem read_span {cs : List Value} (h : Reads enc Tryz.prog w base spare held 155 cs) : ∃ p : Int × Int, cs = spanC p ∧ (-9223372036854775808 ≤ p.1 ∧ p.1 ≤ 9223372036854775807) ∧ -9223372036854775808 ≤ p.2 ∧ p.2 ≤ 9223372036854775807 := by
  obtain ⟨hl, hf⟩ := h.struct Tryz.underlying155
  have h5 : cs.length = 2 := hl.trans (by kernel_rfl)
  clear hl
  obtain ⟨c0, c1, rfl⟩ := len2 cs h5
  have g0 : Reads enc Tryz.prog w base spare held 3 [c0] := hf _ (List.mem_cons_self ..)
  have g1 : Reads enc Tryz.prog w base spare held 3 [c1] := hf _ (List.mem_cons_of_mem _ (List.mem_cons_self ..))
  obtain ⟨a, e0, ha⟩ := read_int g0
  obtain ⟨b, e1, hb⟩ := read_int g1
  cases e0; cases e1
  exact ⟨(a, b), rfl, ha, hb⟩
set_option maxRecDepth 100000 in
theorem read_start {cs : List Value} (h : Reads enc Tryz.prog w base spare held 93 cs) : ∃ p : Int × Int, cs = spanC p ∧ (-9223372036854775808 ≤ p.1 ∧ p.1 ≤ 9223372036854775807) ∧ -9223372036854775808 ≤ p.2 ∧ p.2 ≤ 9223372036854775807 := by
  obtain ⟨hl, hf⟩ := h.struct Tryz.underlying93
  have h5 : cs.length = 2 := hl.trans (by kernel_rfl)
  clear hl
  obtain ⟨c0, c1, rfl⟩ := len2 cs h5
  have g0 : Reads enc Tryz.prog w base spare held 3 [c0] := hf _ (List.mem_cons_self ..)
  have g1 : Reads enc Tryz.prog w base spare held 3 [c1] := hf _ (List.mem_cons_of_mem _ (List.mem_cons_self ..))
  obtain ⟨a, e0, ha⟩ := read_int g0
  obtain ⟨b, e1, hb⟩ := read_int g1
  cases e0; cases e1
  exact ⟨(a, b), rfl, ha, hb⟩
set_option maxRecDepth 100000 in
theorem read_shelf {cs : List Value} (h : Reads enc Tryz.prog w base spare held 111 cs) : ∃ p : Int × List UInt8, cs = shelfC p ∧ (-9223372036854775808 ≤ p.1 ∧ p.1 ≤ 9223372036854775807) ∧ p.2.length ≤ 9223372036854775807 := by
  obtain ⟨hl, hf⟩ := h.struct Tryz.underlying111
  have h5 : cs.length = 2 := hl.trans (by kernel_rfl)
  clear hl
  obtain ⟨c0, c1, rfl⟩ := len2 cs h5
  have g0 : Reads enc Tryz.prog w base spare held 3 [c0] := hf _ (List.mem_cons_self ..)
  have g1 : Reads enc Tryz.prog w base spare held 9 [c1] := hf _ (List.mem_cons_of_mem _ (List.mem_cons_self ..))
  obtain ⟨a, e0, ha⟩ := read_int g0
  obtain ⟨b, e1, hb⟩ := read_str g1
  cases e0; cases e1
  exact ⟨(a, b), rfl, ha, hb⟩
set_option maxRecDepth 100000 in
theorem read_apart {cs : List Value} (h : Reads enc Tryz.prog w base spare held 109 cs) : ∃ p : List UInt8 × List UInt8, cs = apartC p ∧ p.1.length ≤ 9223372036854775807 ∧ p.2.length ≤ 9223372036854775807 := by
  obtain ⟨hl, hf⟩ := h.struct Tryz.underlying109
  have h5 : cs.length = 2 := hl.trans (by kernel_rfl)
  clear hl
  obtain ⟨c0, c1, rfl⟩ := len2 cs h5
  have g0 : Reads enc Tryz.prog w base spare held 9 [c0] := hf _ (List.mem_cons_self ..)
  have g1 : Reads enc Tryz.prog w base spare held 9 [c1] := hf _ (List.mem_cons_of_mem _ (List.mem_cons_self ..))
  obtain ⟨a, e0, ha⟩ := read_str g0
  obtain ⟨b, e1, hb⟩ := read_str g1
  cases e0; cases e1
  exact ⟨(a, b), rfl, ha, hb⟩
theorem read_spans {cs : List Value} (h : Reads enc Tryz.prog w base spare held 105 cs) : ∃ u l, cs = [u] ∧ ShV w u l ∧ capV u ∧ ∀ p ∈ l, (-9223372036854775808 ≤ p.1 ∧ p.1 ≤ 9223372036854775807) ∧ -9223372036854775808 ≤ p.2 ∧ p.2 ≤ 9223372036854775807 :=
  read_rows spanC _ h Tryz.underlying105 (show Tryz.prog.cellsOf 155 = 2 by kernel_rfl) (by omega) (fun _ h => read_span h)
theorem read_starts {cs : List Value} (h : Reads enc Tryz.prog w base spare held 28 cs) : ∃ u l, cs = [u] ∧ RbV w u l ∧ capV u ∧ ∀ p ∈ l, (-9223372036854775808 ≤ p.1 ∧ p.1 ≤ 9223372036854775807) ∧ -9223372036854775808 ≤ p.2 ∧ p.2 ≤ 9223372036854775807 :=
  read_rows spanC _ h Tryz.underlying28 (show Tryz.prog.cellsOf 93 = 2 by kernel_rfl) (by omega) (fun _ h => read_start h)
theorem read_shelves {cs : List Value} (h : Reads enc Tryz.prog w base spare held 27 cs) : ∃ u l, cs = [u] ∧ SfV w u l ∧ capV u ∧ ∀ p ∈ l, (-9223372036854775808 ≤ p.1 ∧ p.1 ≤ 9223372036854775807) ∧ p.2.length ≤ 9223372036854775807 :=
  read_rows shelfC _ h Tryz.underlying27 (show Tryz.prog.cellsOf 111 = 2 by kernel_rfl) (by omega) (fun _ h => read_shelf h)
theorem read_aparts {cs : List Value} (h : Reads enc Tryz.prog w base spare held 26 cs) : ∃ u l, cs = [u] ∧ ApV w u l ∧ capV u ∧ ∀ p ∈ l, p.1.length ≤ 9223372036854775807 ∧ p.2.length ≤ 9223372036854775807 :=
  read_rows apartC _ h Tryz.underlying26 (show Tryz.prog.cellsOf 109 = 2 by kernel_rfl) (by omega) (fun _ h => read_apart h)
/-- What is known of the numbers of a zone that came in. -/
def ZnNum (z : Si.Zone) : Prop := z.name.length ≤ 9223372036854775807 ∧ (∀ c ∈ z.cells, -9223372036854775808 ≤ c ∧ c ≤ 9223372036854775807) ∧ (-9223372036854775808 ≤ z.speed ∧ z.speed ≤ 9223372036854775807) ∧ (-9223372036854775808 ≤ z.keep ∧ z.keep ≤ 9223372036854775807) ∧ ∀ p ∈ z.shut, (-9223372036854775808 ≤ p.1 ∧ p.1 ≤ 9223372036854775807) ∧ -9223372036854775808 ≤ p.2 ∧ p.2 ≤ 9223372036854775807
set_option maxRecDepth 100000 in
theorem read_zone {cs : List Value} (h : Reads enc Tryz.prog w base spare held 107 cs) : ∃ x : Si.Zone × Value × Value, cs = zoneC x.1 x.2.1 x.2.2 ∧ (Is w x.2.1 x.1.cells ∧ ShV w x.2.2 x.1.shut) ∧ ZnNum x.1 := by
  obtain ⟨hl, hf⟩ := h.struct Tryz.underlying107
  have h5 : cs.length = 5 := hl.trans (by kernel_rfl)
  clear hl
  obtain ⟨c0, c1, c2, c3, c4, rfl⟩ := len5 cs h5
  have g0 : Reads enc Tryz.prog w base spare held 9 [c0] := hf _ (List.mem_cons_self ..)
  have g1 : Reads enc Tryz.prog w base spare held 22 [c1] := hf _ (List.mem_cons_of_mem _ (List.mem_cons_self ..))
  have g2 : Reads enc Tryz.prog w base spare held 3 [c2] := hf _ (List.mem_cons_of_mem _ (List.mem_cons_of_mem _ (List.mem_cons_self ..)))
  have g3 : Reads enc Tryz.prog w base spare held 3 [c3] := hf _ (List.mem_cons_of_mem _ (List.mem_cons_of_mem _ (List.mem_cons_of_mem _ (List.mem_cons_self ..))))
  have g4 : Reads enc Tryz.prog w base spare held 105 [c4] := hf _ (List.mem_cons_of_mem _ (List.mem_cons_of_mem _ (List.mem_cons_of_mem _ (List.mem_cons_of_mem _ (List.mem_cons_self ..)))))
  obtain ⟨nm, e0, hnm⟩ := read_str g0
  obtain ⟨u, cl, e1, hu, hcl⟩ := read_ints g1
  obtain ⟨sp, e2, hsp⟩ := read_int g2
  obtain ⟨kp, e3, hkp⟩ := read_int g3
  obtain ⟨u2, sh, e4, hu2, -, hsh⟩ := read_spans g4
  cases e0; cases e1; cases e2; cases e3; cases e4
  exact ⟨(⟨nm, cl, sp, kp, sh⟩, c1, c4), rfl, ⟨hu, hu2⟩, hnm, hcl, hsp, hkp, hsh⟩
theorem read_zones {cs : List Value} (h : Reads enc Tryz.prog w base spare held 25 cs) : ∃ u zs, cs = [u] ∧ ZnV w u zs ∧ capV u ∧ ∀ z ∈ zs, ZnNum z := by
  obtain ⟨u, l, rfl, h1, hcv, h2⟩ := read_rows (fun x : Si.Zone × Value × Value => zoneC x.1 x.2.1 x.2.2) (fun x => (Is w x.2.1 x.1.cells ∧ ShV w x.2.2 x.1.shut) ∧ ZnNum x.1) h Tryz.underlying25 (show Tryz.prog.cellsOf 107 = 5 by kernel_rfl) (by omega) (fun _ h => read_zone h)
  refine ⟨u, l.map (·.1), rfl, ⟨l, rfl, h1, fun x hx => (h2 x hx).1⟩, hcv, fun z hz => ?_⟩
  obtain ⟨x, hx, rfl⟩ := List.mem_map.1 hz
  exact (h2 x hx).2
/-- What is known of a site that came in. -/
structure SArg (w : World) (v : Value) (s : Si.Site) : Prop where
  form : ∃ kv ov zv av sv rv, v = .agg #[.int .i64 s.floor.w, .int .i64 s.floor.h, .int .i64 s.floor.d, kv, ov, zv, av, sv, rv] ∧ SiV w kv ov zv av sv rv s ∧ SiCap zv av sv rv
  num : SiNum s
set_option maxRecDepth 100000 in
theorem read_site {cs : List Value} (h : Reads enc Tryz.prog w base spare held 30 cs) : ∃ s : Si.Site, (∃ kv ov zv av sv rv, cs = [.int .i64 s.floor.w, .int .i64 s.floor.h, .int .i64 s.floor.d, kv, ov, zv, av, sv, rv] ∧ SiV w kv ov zv av sv rv s ∧ SiCap zv av sv rv) ∧ SiNum s := by
  obtain ⟨hl, hf⟩ := h.struct Tryz.underlying30
  have h9 : cs.length = 9 := hl.trans (by kernel_rfl)
  clear hl
  obtain ⟨c0, c1, c2, c3, c4, c5, c6, c7, c8, rfl⟩ := len9 cs h9
  have g0 : Reads enc Tryz.prog w base spare held 24 [c0, c1, c2, c3, c4] := hf _ (List.mem_cons_self ..)
  have g5 : Reads enc Tryz.prog w base spare held 25 [c5] := hf _ (List.mem_cons_of_mem _ (List.mem_cons_self ..))
  have g6 : Reads enc Tryz.prog w base spare held 26 [c6] := hf _ (List.mem_cons_of_mem _ (List.mem_cons_of_mem _ (List.mem_cons_self ..)))
  have g7 : Reads enc Tryz.prog w base spare held 27 [c7] := hf _ (List.mem_cons_of_mem _ (List.mem_cons_of_mem _ (List.mem_cons_of_mem _ (List.mem_cons_self ..))))
  have g8 : Reads enc Tryz.prog w base spare held 28 [c8] := hf _ (List.mem_cons_of_mem _ (List.mem_cons_of_mem _ (List.mem_cons_of_mem _ (List.mem_cons_of_mem _ (List.mem_cons_self ..)))))
  obtain ⟨-, hff⟩ := g0.struct Tryz.underlying24
  have f0 : Reads enc Tryz.prog w base spare held 3 [c0] := hff _ (List.mem_cons_self ..)
  have f1 : Reads enc Tryz.prog w base spare held 3 [c1] := hff _ (List.mem_cons_of_mem _ (List.mem_cons_self ..))
  have f2 : Reads enc Tryz.prog w base spare held 3 [c2] := hff _ (List.mem_cons_of_mem _ (List.mem_cons_of_mem _ (List.mem_cons_self ..)))
  have f3 : Reads enc Tryz.prog w base spare held 22 [c3] := hff _ (List.mem_cons_of_mem _ (List.mem_cons_of_mem _ (List.mem_cons_of_mem _ (List.mem_cons_self ..))))
  have f4 : Reads enc Tryz.prog w base spare held 22 [c4] := hff _ (List.mem_cons_of_mem _ (List.mem_cons_of_mem _ (List.mem_cons_of_mem _ (List.mem_cons_of_mem _ (List.mem_cons_self ..)))))
  obtain ⟨fw, e0, h0⟩ := read_int f0
  obtain ⟨fh, e1, h1⟩ := read_int f1
  obtain ⟨fd, e2, h2⟩ := read_int f2
  obtain ⟨u3, kl, e3, h3, k3⟩ := read_ints f3
  obtain ⟨u4, ol, e4, h4, k4⟩ := read_ints f4
  obtain ⟨u5, zs, e5, h5, j5, k5⟩ := read_zones g5
  obtain ⟨u6, al, e6, h6, j6, k6⟩ := read_aparts g6
  obtain ⟨u7, sl, e7, h7, j7, k7⟩ := read_shelves g7
  obtain ⟨u8, rl, e8, h8, j8, k8⟩ := read_starts g8
  cases e0; cases e1; cases e2; cases e3; cases e4; cases e5; cases e6; cases e7; cases e8
  exact ⟨⟨⟨fw, fh, fd, kl, ol⟩, zs, al, sl, rl⟩, ⟨c3, c4, c5, c6, c7, c8, rfl, ⟨⟨h3, h4⟩, h5, h6, h7, h8⟩, ⟨j5, j6, j7, j8⟩⟩, ⟨h0, h1, h2, k3, k4⟩, k5, k6, k7, k8⟩
set_option maxRecDepth 100000 in
theorem open_site {W : World} {base' : Nat} {v : Value} {x : DataW H × List MemPlace} (hok : Value.okWide Tryz.prog W .any base' 30 v)
    (h : ∃ fuel, DataW.trod enc Tryz.prog w base spare held fuel 30 v.cells.toList = some x) : ∃ s, SArg w v s := by
  obtain ⟨cs, rfl, hsz⟩ := okWide_struct Tryz.underlying30 hok
  have hR : Reads enc Tryz.prog w base spare held 30 cs.toList := by
    obtain ⟨fuel, hf⟩ := h
    exact ⟨fuel, x, hf⟩
  obtain ⟨s, ⟨kv, ov, zv, av, sv, rv, e, hs⟩, hn⟩ := read_site hR
  have hcs2 : cs = #[.int .i64 s.floor.w, .int .i64 s.floor.h, .int .i64 s.floor.d, kv, ov, zv, av, sv, rv] := by
    have := congrArg List.toArray e
    simpa using this
  exact ⟨s, ⟨kv, ov, zv, av, sv, rv, by rw [hcs2], hs⟩, hn⟩
end
end Go.Proofs.YtcdfmgobokjcnaaGreatDoor
/- Budgets and lists of faults among the arguments. -/
namespace Go.Proofs.YtcdfmgobokjcnaaGreatDoor
set_option linter.unusedVariables false
open Go.ChangeShapes Go.WideShapes Go.ChangeAt Go.RowKit

theorem len3 {α : Type} : ∀ l : List α, l.length = 3 → ∃ c0 c1 c2, l = [c0, c1, c2]
  | [c0, c1, c2], _ => ⟨c0, c1, c2, rfl⟩
theorem len7 {α : Type} : ∀ l : List α, l.length = 7 → ∃ c0 c1 c2 c3 c4 c5 c6, l = [c0, c1, c2, c3, c4, c5, c6]
  | [c0, c1, c2, c3, c4, c5, c6], _ => ⟨c0, c1, c2, c3, c4, c5, c6, rfl⟩
/-- What is known of a fault that came in. -/
def FltN (x : Fa.Flt) : Prop := I64 x.kind ∧ I64 x.a ∧ I64 x.n
/-- What is known of a budget that came in. -/
structure BArg (w : World) (v : Value) (b : Fa.Bud) : Prop where
  form : v = .agg (budA b)
  num : BudN b
/-- What is known of a fault that came in. -/
structure FltArg (v : Value) (z : Fa.Flt) : Prop where
  form : v = fltV z
  num : FltN z
/-- What is known of a list of faults that came in. -/
structure FtArg (w : World) (v : Value) (l : List Fa.Flt) : Prop where
  form : FtV w v l
  cap : capV v
section
variable {H : Type} {enc : TypeId × Value → H} {w : World} {base : Nat} {spare : Nat → Bool} {held : Bool}
set_option maxRecDepth 100000 in
theorem read_flt {cs : List Value} (h : Reads enc Tryz.prog w base spare held 38 cs) : ∃ x : Fa.Flt, cs = fltC x ∧ FltN x := by
  obtain ⟨hl, hf⟩ := h.struct Tryz.underlying38
  have h5 : cs.length = 3 := hl.trans (by kernel_rfl)
  clear hl
  obtain ⟨c0, c1, c2, rfl⟩ := len3 cs h5
  have g0 : Reads enc Tryz.prog w base spare held 3 [c0] := hf _ (List.mem_cons_self ..)
  have g1 : Reads enc Tryz.prog w base spare held 3 [c1] := hf _ (List.mem_cons_of_mem _ (List.mem_cons_self ..))
  have g2 : Reads enc Tryz.prog w base spare held 3 [c2] := hf _ (List.mem_cons_of_mem _ (List.mem_cons_of_mem _ (List.mem_cons_self ..)))
  obtain ⟨a, e0, ha⟩ := read_int g0
  obtain ⟨b, e1, hb⟩ := read_int g1
  obtain ⟨c, e2, hc⟩ := read_int g2
  cases e0; cases e1; cases e2
  exact ⟨⟨a, b, c⟩, rfl, ha, hb, hc⟩
theorem read_flts {cs : List Value} (h : Reads enc Tryz.prog w base spare held 39 cs) : ∃ u l, cs = [u] ∧ FtV w u l ∧ capV u ∧ ∀ x ∈ l, FltN x :=
  read_rows fltC _ h Tryz.underlying39 (show Tryz.prog.cellsOf 38 = 3 by kernel_rfl) (by omega) (fun _ h => read_flt h)
set_option maxRecDepth 100000 in
theorem read_bud {cs : List Value} (h : Reads enc Tryz.prog w base spare held 36 cs) : ∃ b : Fa.Bud, cs = (budA b).toList ∧ BudN b := by
  obtain ⟨hl, hf⟩ := h.struct Tryz.underlying36
  have hl7 : cs.length = 7 := hl.trans (by kernel_rfl)
  clear hl
  obtain ⟨c0, c1, c2, c3, c4, c5, c6, rfl⟩ := len7 cs hl7
  have g0 : Reads enc Tryz.prog w base spare held 3 [c0] := hf _ (List.mem_cons_self ..)
  have g1 : Reads enc Tryz.prog w base spare held 3 [c1] := hf _ (List.mem_cons_of_mem _ (List.mem_cons_self ..))
  have g2 : Reads enc Tryz.prog w base spare held 3 [c2] := hf _ (List.mem_cons_of_mem _ (List.mem_cons_of_mem _ (List.mem_cons_self ..)))
  have g3 : Reads enc Tryz.prog w base spare held 3 [c3] := hf _ (List.mem_cons_of_mem _ (List.mem_cons_of_mem _ (List.mem_cons_of_mem _ (List.mem_cons_self ..))))
  have g4 : Reads enc Tryz.prog w base spare held 3 [c4] := hf _ (List.mem_cons_of_mem _ (List.mem_cons_of_mem _ (List.mem_cons_of_mem _ (List.mem_cons_of_mem _ (List.mem_cons_self ..)))))
  have g5 : Reads enc Tryz.prog w base spare held 3 [c5] := hf _ (List.mem_cons_of_mem _ (List.mem_cons_of_mem _ (List.mem_cons_of_mem _ (List.mem_cons_of_mem _ (List.mem_cons_of_mem _ (List.mem_cons_self ..))))))
  have g6 : Reads enc Tryz.prog w base spare held 3 [c6] := hf _ (List.mem_cons_of_mem _ (List.mem_cons_of_mem _ (List.mem_cons_of_mem _ (List.mem_cons_of_mem _ (List.mem_cons_of_mem _ (List.mem_cons_of_mem _ (List.mem_cons_self ..)))))))
  obtain ⟨a0, e0, h0⟩ := read_int g0
  obtain ⟨a1, e1, h1⟩ := read_int g1
  obtain ⟨a2, e2, h2⟩ := read_int g2
  obtain ⟨a3, e3, h3⟩ := read_int g3
  obtain ⟨a4, e4, h4⟩ := read_int g4
  obtain ⟨a5, e5, h5⟩ := read_int g5
  obtain ⟨a6, e6, h6⟩ := read_int g6
  cases e0; cases e1; cases e2; cases e3; cases e4; cases e5; cases e6
  clear hl7
  exact ⟨⟨a0, a1, a2, a3, a4, a5, a6⟩, rfl, h0, h1, h2, h3, h4, h5, h6⟩
set_option maxRecDepth 100000 in
theorem open_bud {W : World} {base' : Nat} {v : Value} {x : DataW H × List MemPlace} (hok : Value.okWide Tryz.prog W .any base' 36 v)
    (h : ∃ fuel, DataW.trod enc Tryz.prog w base spare held fuel 36 v.cells.toList = some x) : ∃ b, BArg w v b := by
  obtain ⟨cs, rfl, hsz⟩ := okWide_struct Tryz.underlying36 hok
  have hR : Reads enc Tryz.prog w base spare held 36 cs.toList := by
    obtain ⟨fuel, hf⟩ := h
    exact ⟨fuel, x, hf⟩
  obtain ⟨b, e, hn⟩ := read_bud hR
  have hcs2 : cs = budA b := by
    have := congrArg List.toArray e
    simpa using this
  exact ⟨b, by rw [hcs2], hn⟩
set_option maxRecDepth 100000 in
theorem open_flt {W : World} {base' : Nat} {v : Value} {x : DataW H × List MemPlace} (hok : Value.okWide Tryz.prog W .any base' 38 v)
    (h : ∃ fuel, DataW.trod enc Tryz.prog w base spare held fuel 38 v.cells.toList = some x) : ∃ z : Fa.Flt, FltArg v z := by
  obtain ⟨cs, rfl, hsz⟩ := okWide_struct Tryz.underlying38 hok
  have hR : Reads enc Tryz.prog w base spare held 38 cs.toList := by
    obtain ⟨fuel, hf⟩ := h
    exact ⟨fuel, x, hf⟩
  obtain ⟨z, e, hn⟩ := read_flt hR
  have hcs2 : cs = #[.int .i64 z.kind, .int .i64 z.a, .int .i64 z.n] := by
    have := congrArg List.toArray e
    simpa [fltC] using this
  exact ⟨z, by rw [hcs2]; rfl, hn⟩
set_option maxRecDepth 100000 in
theorem open_flts {W : World} {base' : Nat} {v : Value} {x : DataW H × List MemPlace} (hok : Value.okWide Tryz.prog W .any base' 39 v)
    (h : ∃ fuel, DataW.trod enc Tryz.prog w base spare held fuel 39 v.cells.toList = some x) : ∃ l, FtArg w v l := by
  obtain ⟨a, len, cap, rfl⟩ := okWide_slice Tryz.underlying39 hok
  obtain ⟨fuel, hf⟩ := h
  obtain ⟨u, l, e, h1, h2, -⟩ := read_flts (cs := [.slice a len cap]) ⟨fuel, x, by simpa [Value.cells] using hf⟩
  cases e
  exact ⟨l, h1, h2⟩
end
end Go.Proofs.YtcdfmgobokjcnaaGreatDoor
/- States and lists of ints among the arguments. -/
namespace Go.Proofs.YtcdfmgobokjcnaaGreatDoor
set_option linter.unusedVariables false
open Go.ChangeShapes Go.WideShapes Go.ChangeAt Go.RowKit

theorem len6r {α : Type} : ∀ l : List α, l.length = 6 → ∃ c0 c1 c2 c3 c4 c5, l = [c0, c1, c2, c3, c4, c5]
  | [c0, c1, c2, c3, c4, c5], _ => ⟨c0, c1, c2, c3, c4, c5, rfl⟩
/-- What is known of a state that came in. -/
structure TArg (w : World) (v : Value) (s : Bd.State) : Prop where
  form : ∃ sv rv pv dv kv, v = stV s sv rv pv dv kv ∧ StV w sv rv pv dv kv s
  num : ∀ r ∈ s.robots, RobN r
  tk : -9223372036854775808 ≤ s.tick ∧ s.tick ≤ 9223372036854775807
  chg : ∀ r ∈ s.robots, -9223372036854775808 ≤ r.charge ∧ r.charge ≤ 9223372036854775807
/-- What is known of a list of ints that came in. -/
structure IArg (w : World) (v : Value) (l : List Int) : Prop where
  form : Is w v l
  num : ∀ n ∈ l, I64 n
section
variable {H : Type} {enc : TypeId × Value → H} {w : World} {base : Nat} {spare : Nat → Bool} {held : Bool}
set_option maxRecDepth 100000 in
theorem read_robot {cs : List Value} (h : Reads enc Tryz.prog w base spare held 72 cs) : ∃ r : Bd.Robot, cs = robC r ∧ RobN r ∧ -9223372036854775808 ≤ r.charge ∧ r.charge ≤ 9223372036854775807 := by
  obtain ⟨hl, hf⟩ := h.struct Tryz.underlying72
  have hl6 : cs.length = 6 := hl.trans (by kernel_rfl)
  clear hl
  obtain ⟨c0, c1, c2, c3, c4, c5, rfl⟩ := len6r cs hl6
  clear hl6
  have g0 : Reads enc Tryz.prog w base spare held 3 [c0] := hf _ (List.mem_cons_self ..)
  have g1 : Reads enc Tryz.prog w base spare held 3 [c1] := hf _ (List.mem_cons_of_mem _ (List.mem_cons_self ..))
  have g2 : Reads enc Tryz.prog w base spare held 3 [c2] := hf _ (List.mem_cons_of_mem _ (List.mem_cons_of_mem _ (List.mem_cons_self ..)))
  have g3 : Reads enc Tryz.prog w base spare held 3 [c3] := hf _ (List.mem_cons_of_mem _ (List.mem_cons_of_mem _ (List.mem_cons_of_mem _ (List.mem_cons_self ..))))
  have g4 : Reads enc Tryz.prog w base spare held 3 [c4] := hf _ (List.mem_cons_of_mem _ (List.mem_cons_of_mem _ (List.mem_cons_of_mem _ (List.mem_cons_of_mem _ (List.mem_cons_self ..)))))
  have g5 : Reads enc Tryz.prog w base spare held 4 [c5] := hf _ (List.mem_cons_of_mem _ (List.mem_cons_of_mem _ (List.mem_cons_of_mem _ (List.mem_cons_of_mem _ (List.mem_cons_of_mem _ (List.mem_cons_self ..))))))
  obtain ⟨a0, e0, h0⟩ := read_int g0
  obtain ⟨a1, e1, h1⟩ := read_int g1
  obtain ⟨a2, e2, h2⟩ := read_int g2
  obtain ⟨a3, e3, h3⟩ := read_int g3
  obtain ⟨a4, e4, h4⟩ := read_int g4
  obtain ⟨a5, e5⟩ := g5.bool Tryz.underlying4
  cases e0; cases e1; cases e2; cases e3; cases e4; cases e5
  exact ⟨⟨a0, a1, a2, a3, a4, a5⟩, rfl, ⟨h0, h1⟩, h2⟩
set_option maxRecDepth 100000 in
theorem read_stuck {cs : List Value} (h : Reads enc Tryz.prog w base spare held 164 cs) : ∃ p : Int × Int, cs = spanC p ∧ True := by
  obtain ⟨hl, hf⟩ := h.struct Tryz.underlying164
  have hl2 : cs.length = 2 := hl.trans (by kernel_rfl)
  clear hl
  obtain ⟨c0, c1, rfl⟩ := len2 cs hl2
  clear hl2
  have g0 : Reads enc Tryz.prog w base spare held 3 [c0] := hf _ (List.mem_cons_self ..)
  have g1 : Reads enc Tryz.prog w base spare held 3 [c1] := hf _ (List.mem_cons_of_mem _ (List.mem_cons_self ..))
  obtain ⟨a, e0, -⟩ := read_int g0
  obtain ⟨b, e1, -⟩ := read_int g1
  cases e0; cases e1
  exact ⟨(a, b), rfl, trivial⟩
set_option maxRecDepth 100000 in
theorem read_state {cs : List Value} (h : Reads enc Tryz.prog w base spare held 34 cs) : ∃ s : Bd.State, (∃ sv rv pv dv kv, cs = [.int .i64 s.tick, sv, rv, pv, dv, kv] ∧ StV w sv rv pv dv kv s) ∧ (∀ r ∈ s.robots, RobN r) ∧ (-9223372036854775808 ≤ s.tick ∧ s.tick ≤ 9223372036854775807) ∧ ∀ r ∈ s.robots, -9223372036854775808 ≤ r.charge ∧ r.charge ≤ 9223372036854775807 := by
  obtain ⟨hl, hf⟩ := h.struct Tryz.underlying34
  have hl6 : cs.length = 6 := hl.trans (by kernel_rfl)
  clear hl
  obtain ⟨c0, c1, c2, c3, c4, c5, rfl⟩ := len6r cs hl6
  clear hl6
  have g0 : Reads enc Tryz.prog w base spare held 3 [c0] := hf _ (List.mem_cons_self ..)
  have g1 : Reads enc Tryz.prog w base spare held 22 [c1] := hf _ (List.mem_cons_of_mem _ (List.mem_cons_self ..))
  have g2 : Reads enc Tryz.prog w base spare held 31 [c2] := hf _ (List.mem_cons_of_mem _ (List.mem_cons_of_mem _ (List.mem_cons_self ..)))
  have g3 : Reads enc Tryz.prog w base spare held 22 [c3] := hf _ (List.mem_cons_of_mem _ (List.mem_cons_of_mem _ (List.mem_cons_of_mem _ (List.mem_cons_self ..))))
  have g4 : Reads enc Tryz.prog w base spare held 22 [c4] := hf _ (List.mem_cons_of_mem _ (List.mem_cons_of_mem _ (List.mem_cons_of_mem _ (List.mem_cons_of_mem _ (List.mem_cons_self ..)))))
  have g5 : Reads enc Tryz.prog w base spare held 32 [c5] := hf _ (List.mem_cons_of_mem _ (List.mem_cons_of_mem _ (List.mem_cons_of_mem _ (List.mem_cons_of_mem _ (List.mem_cons_of_mem _ (List.mem_cons_self ..))))))
  obtain ⟨tk, e0, htk⟩ := read_int g0
  obtain ⟨u1, sl, e1, h1, -⟩ := read_ints g1
  obtain ⟨u2, rl, e2, h2, -, k2⟩ := read_rows robC _ g2 Tryz.underlying31 (show Tryz.prog.cellsOf 72 = 6 by kernel_rfl) (by omega) (fun _ h => read_robot h)
  obtain ⟨u3, pl, e3, h3, -⟩ := read_ints g3
  obtain ⟨u4, dl, e4, h4, -⟩ := read_ints g4
  obtain ⟨u5, kl, e5, h5, -, -⟩ := read_rows spanC _ g5 Tryz.underlying32 (show Tryz.prog.cellsOf 164 = 2 by kernel_rfl) (by omega) (fun _ h => read_stuck h)
  cases e0; cases e1; cases e2; cases e3; cases e4; cases e5
  exact ⟨⟨tk, sl, rl, pl, dl, kl⟩, ⟨c1, c2, c3, c4, c5, rfl, ⟨h1, h2, h3, h4, h5⟩⟩, fun r hr => (k2 r hr).1, htk, fun r hr => (k2 r hr).2⟩
set_option maxRecDepth 100000 in
theorem open_state {W : World} {base' : Nat} {v : Value} {x : DataW H × List MemPlace} (hok : Value.okWide Tryz.prog W .any base' 34 v)
    (h : ∃ fuel, DataW.trod enc Tryz.prog w base spare held fuel 34 v.cells.toList = some x) : ∃ s, TArg w v s := by
  obtain ⟨cs, rfl, hsz⟩ := okWide_struct Tryz.underlying34 hok
  have hR : Reads enc Tryz.prog w base spare held 34 cs.toList := by
    obtain ⟨fuel, hf⟩ := h
    exact ⟨fuel, x, hf⟩
  obtain ⟨s, ⟨sv, rv, pv, dv, kv, e, hs⟩, hn⟩ := read_state hR
  have hcs2 : cs = #[.int .i64 s.tick, sv, rv, pv, dv, kv] := by
    have := congrArg List.toArray e
    simpa using this
  exact ⟨s, ⟨sv, rv, pv, dv, kv, by rw [hcs2]; rfl, hs⟩, hn.1, hn.2.1, hn.2.2⟩
set_option maxRecDepth 100000 in
theorem open_ints {W : World} {base' : Nat} {v : Value} {x : DataW H × List MemPlace} (hok : Value.okWide Tryz.prog W .any base' 22 v)
    (h : ∃ fuel, DataW.trod enc Tryz.prog w base spare held fuel 22 v.cells.toList = some x) : ∃ l, IArg w v l := by
  obtain ⟨a, len, cap, rfl⟩ := okWide_slice Tryz.underlying22 hok
  obtain ⟨fuel, hf⟩ := h
  obtain ⟨u, l, e, h1, h2⟩ := read_ints (cs := [.slice a len cap]) ⟨fuel, x, by simpa [Value.cells] using hf⟩
  cases e
  exact ⟨l, h1, h2⟩
end
end Go.Proofs.YtcdfmgobokjcnaaGreatDoor
/- What the listed variables give at the door, and the row's builder with the world's shape and the listed variables at hand. -/
namespace Go.Proofs.YtcdfmgobokjcnaaGreatDoor
open Go.ChangeShapes Go.WideShapes Go.ChangeAt Go.RowKit

theorem returnsInHanded_of_change_laid {H : Type} {enc : TypeId × Value → H} {a : Assume} {C : Checked} {os : Os} {f : FuncId} {fn : Func} {s : ChangeSpec} {conds : List PathCond} {apart fresh handsOn again : Bool} {X : World → Array Value → Prop}
    (hX : ∀ (w w' : World) (args : Array Value), w.heap = w'.heap → X w args → X w' args)
    (own : ownKnob C.prog.godebug = none) (started : os.Started) (noInit : C.prog.inits.idxOf? f = none) (hfn : C.prog.funcs[f]? = some fn)
    (witness : ∃ (w : World) (tape : Tape) (i : Input), w.os = os ∧ (w.forCall tape i).Shaped C.prog ∧ i.vars = [] ∧ Input.okWide C.prog (w.forCall tape i) .any w.heap.size f i ∧
      ((s.pre enc C.prog fn conds apart (w.forCall tape i).memory i.args ∧ X (w.forCall tape i).memory i.args) ∧ sizedMet enc C.prog fn (OpenSpec.ofChange s) apart (w.forCall tape i).memory i.args) ∧ a.holds C.prog (lone (Frame.enter C.prog f i.args .normal) [] (w.forCall tape i)))
    (contract : ∀ (W : World) (base : Nat) (args : Array Value) (ds gs : List (DataW H)) (before : List MemPlace),
      (∀ (j : Nat) t v, fn.params[j]? = some t → args[j]? = some v → Value.okWide C.prog W .any base t v) →
      DataW.Whole enc C.prog fn.params.toList s.vars apart W args.toList ds gs before → X W args → W.ShapedOpen C.prog →
      Calls C.prog f args W fun e W' => ∃ v, e = .returned v ∧ s.post enc C.prog fn apart fresh handsOn again W args v W') :
    ReturnsInHanded a C os f .any (fun w args => (s.pre enc C.prog fn conds apart w args ∧ X w args) ∧ sizedMet enc C.prog fn (OpenSpec.ofChange s) apart w args) (s.post enc C.prog fn apart fresh handsOn again) := by
  refine returnsInHanded_of_calls own started noInit witness ?_
  intro w tape i _ hsh _ hok hpre _
  obtain ⟨_, _, _, fn', hfn', _, _, _, _, hval⟩ := hok
  obtain rfl : fn' = fn := Option.some.inj (hfn'.symm.trans hfn)
  obtain ⟨⟨⟨ds, gs, before, hw, _⟩, hx⟩, _⟩ := hpre
  have hw' := DataW.Whole.of_heap (w' := w.forCall tape i) (by rfl) hw
  refine (contract (w.forCall tape i) w.heap.size i.args ds gs before hval hw' (hX _ _ _ (by rfl) hx) hsh).mono fun e W' ⟨v, he, hp⟩ => ?_
  subst he
  exact ChangeSpec.post_blind hp

/-- The row's list. -/
def Tryz.laidL : List (String × DataW Unit) := Rows.faultTellsRow.laid
theorem Tryz.gSyn : Tryz.prog.globalNamed "strconv.ErrSyntax" = some 1 := by kernel_rfl
theorem Tryz.gRan : Tryz.prog.globalNamed "strconv.ErrRange" = some 2 := by kernel_rfl
theorem Tryz.pow_tab : (Rows.laid_internal_strconv_uint64pow10 : DataW Unit) = Lib.tabData .u64 Lib.pow10Tab := by rfl
theorem Tryz.star_es : "*" ++ "errors.errorString" = "*errors.errorString" := by decide
theorem Tryz.row_es (u : TypeId) (h : Tryz.prog.typeName? 3 u = some "*errors.errorString") : u = 231 :=
  typeName_ptr_named (nm := "errors.errorString") (by rw [Tryz.star_es]; kernel_rfl) (by kernel_rfl) (by decide) u (by rw [Tryz.star_es]; exact h)
/-- What the walk asks of the world: tables and errors. -/
structure EnvK (w : World) : Prop where
  r : EnvR w
theorem EnvK.of_laid {W : World} (h : laidMetH Tryz.prog Tryz.laidL W) (_hsh : W.ShapedOpen Tryz.prog) : EnvK W := by
  rw [MakeChecks.laidMetH_plain _ _ _ (by kernel_rfl)] at h
  have h1 := h.tail
  refine ⟨⟨?_, ?_, Lib.tabIs_of_head (g := 3) (t := 226) (e := 181) (n := 20) Tryz.gPow (by kernel_rfl) Tryz.underlying226 Tryz.underlying181 (by kernel_rfl) (by kernel_rfl) (Tryz.pow_tab ▸ h1.tail)⟩⟩
  · obtain ⟨a, s, hv, -, -, -⟩ := laid_sentinel h1.tail.tail.tail Tryz.gSyn (ti := 143) (by kernel_rfl) Tryz.underlying143 Tryz.row_es Tryz.underlying231 Tryz.underlying233 rfl rfl Tryz.underlying9 (by kernel_rfl) (by kernel_rfl)
    refine ⟨.iface 231 (.pointer (some a)), ?_, .inr ⟨_, _, rfl⟩⟩
    rw [World.var?_cell Tryz.gSyn hv 0]; rfl
  · obtain ⟨a, s, hv, -, -, -⟩ := laid_sentinel h1.tail.tail Tryz.gRan (ti := 143) (by kernel_rfl) Tryz.underlying143 Tryz.row_es Tryz.underlying231 Tryz.underlying233 rfl rfl Tryz.underlying9 (by kernel_rfl) (by kernel_rfl)
    refine ⟨.iface 231 (.pointer (some a)), ?_, .inr ⟨_, _, rfl⟩⟩
    rw [World.var?_cell Tryz.gRan hv 0]; rfl
theorem laid_shaped (os : Os) (args : Array Value) : ((World.laidAll Tryz.prog os Tryz.laidL).forCall (fun _ _ => 0) ⟨#[], args, []⟩).Shaped Tryz.prog :=
  World.shaped_of_ZipB (by kernel_rfl) (by kernel_rfl)
theorem laid_met (os : Os) (args : Array Value) : laidMetH Tryz.prog Tryz.laidL ((World.laidAll Tryz.prog os Tryz.laidL).forCall (fun _ _ => 0) ⟨#[], args, []⟩).memory := by
  rw [MakeChecks.laidMetH_plain _ _ _ (by kernel_rfl)]; exact laidMet_laidAll _ (by kernel_rfl) (by kernel_rfl)
end Go.Proofs.YtcdfmgobokjcnaaGreatDoor
