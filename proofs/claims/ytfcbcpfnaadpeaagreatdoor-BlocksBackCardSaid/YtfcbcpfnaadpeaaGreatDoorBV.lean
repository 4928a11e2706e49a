/- Parts Op, OpB, OpSi, OpCe, FrK of this claim, laid one behind the other: walks and the plain laws behind them; each contract states its own conditions. -/
import Derived.DataReads
import Derived.ProofKit
import Derived.OpenShut
import Derived.SliceStrings
import Derived.Test.YtfcbcpfnaadpeaaGreatDoorBB
import Derived.RowKit
import Derived.Test.YtfcbcpfnaadpeaaGreatDoorBC
import Derived.Test.YtfcbcpfnaadpeaaGreatDoorBQ
import Derived.Test.YtfcbcpfnaadpeaaGreatDoorRows
import Derived.Test.YtfcbcpfnaadpeaaGreatDoorBH
import Derived.Test.YtfcbcpfnaadpeaaGreatDoorBM
import Derived.LaidMore
import Derived.Lay
import Derived.Stop.Joined
import Derived.Stop.LaidErr
import Derived.Handed
import Derived.Shelf.Vars
import Derived.Lib.LaidTab
/- What can be read as data, taken apart: the forms of a string, an int, a bool, a slice and a struct among the cells of an argument. -/
namespace Go.Proofs.YtfcbcpfnaadpeaaGreatDoor
open Go.ChangeShapes Go.WideShapes Go.ChangeAt Go.RowKit

section
variable {H : Type} {enc : TypeId × Value → H} {P : Program} {w : World} {base : Nat} {spare : Nat → Bool} {held : Bool}
/-- The cells can be read as data of the type. -/
def Reads (enc : TypeId × Value → H) (P : Program) (w : World) (base : Nat) (spare : Nat → Bool) (held : Bool) (t : TypeId) (cs : List Value) : Prop := ∃ fuel x, DataW.trod enc P w base spare held fuel t cs = some x
theorem Reads.int {t : TypeId} {k : IntKind} {cs : List Value} (h : Reads enc P w base spare held t cs) (ht : P.underlying t = some (.int k)) : ∃ n, cs = [.int k n] ∧ (Lit.int k n).wf = true := by
  obtain ⟨fuel, x, h⟩ := h
  cases fuel with
  | zero => simp [DataW.trod] at h
  | succ n =>
    unfold DataW.trod at h
    rw [ht] at h
    split at h <;> simp_all
theorem Reads.bool {t : TypeId} {cs : List Value} (h : Reads enc P w base spare held t cs) (ht : P.underlying t = some .bool) : ∃ b, cs = [.bool b] := by
  obtain ⟨fuel, x, h⟩ := h
  cases fuel with
  | zero => simp [DataW.trod] at h
  | succ n =>
    unfold DataW.trod at h
    rw [ht] at h
    split at h <;> simp_all
theorem addr_plain2 {w : World} {x : Addr} {v : Value} (h : w.cell? (x.add 0) = some v) : x = ⟨x.block, x.off, none⟩ := by
  rcases x with ⟨b, o, s⟩
  cases s with
  | none => rfl
  | some s =>
    simp only [Addr.add, if_true] at h
    unfold World.cell? at h
    split at h <;> simp at h
theorem addr_add2 (b o i : Nat) : (⟨b, o, none⟩ : Addr).add i = ⟨b, o + i, none⟩ := by
  unfold Addr.add; split
  · rename_i h; subst h; rfl
  · rfl
/-- A slice: its elements, cell by cell. -/
theorem Reads.slice {t e : TypeId} {cs : List Value} {size : Nat} (h : Reads enc P w base spare held t cs) (ht : P.underlying t = some (.slice e)) (he : P.cellsOf e = size) (hs : 0 < size) :
    ∃ a len cap, cs = [.slice a len cap] ∧ len ≤ cap ∧ cap ≤ maxLen ∧ (a = none → len = 0 ∧ cap = 0) ∧
      ∀ i, i < len → ∃ b off cs', a = some ⟨b, off, none⟩ ∧ cs'.length = size ∧ (∀ j, j < size → w.cell? ⟨b, off + i * size + j, none⟩ = cs'[j]?) ∧ Reads enc P w base spare held e cs' := by
  obtain ⟨fuel, x, h⟩ := h
  cases fuel with
  | zero => simp [DataW.trod] at h
  | succ n =>
    have hf : cs = [.slice none 0 0] ∨ ∃ a len cap, cs = [.slice (some a) len cap] := by
      have h' := h
      unfold DataW.trod at h'
      rw [ht] at h'
      split at h' <;> first | (exact .inl rfl) | (exact .inr ⟨_, _, _, rfl⟩) | (exfalso; simp_all; done)
    rcases hf with rfl | ⟨a, len, cap, rfl⟩
    · exact ⟨none, 0, 0, rfl, Nat.le_refl _, Nat.zero_le _, fun _ => ⟨rfl, rfl⟩, fun i hi => by omega⟩
    · unfold DataW.trod at h
      rw [ht] at h
      dsimp only at h
      rw [he] at h
      split at h
      · rename_i hb
        refine ⟨some a, len, cap, rfl, hb.2.1, hb.2.2, (fun h => by cases h), fun i hi => ?_⟩
        cases hm : (List.range len).mapM (fun i => (w.cells? base (a.add (i * size)) size).bind (DataW.trod enc P w base spare held n e)) with
        | none => rw [hm] at h; simp at h
        | some ys =>
          have hg := mapM_some_get hm i i (by simp [hi])
          have hl := mapM_some_length hm
          have hy : i < ys.length := by rw [hl]; simpa using hi
          rw [List.getElem?_eq_getElem hy] at hg
          cases hc : w.cells? base (a.add (i * size)) size with
          | none => rw [hc] at hg; simp at hg
          | some cs' =>
            rw [hc] at hg
            simp only [Option.bind_some] at hg
            obtain ⟨-, hl2, hcell⟩ := World.cells?_some hc
            have ha : a = ⟨a.block, a.off, none⟩ := by
              have hg0 := mapM_some_get hm 0 0 (by rw [List.getElem?_range (by omega)])
              have hy0 : 0 < ys.length := by omega
              rw [List.getElem?_eq_getElem hy0] at hg0
              cases hc0 : w.cells? base (a.add (0 * size)) size with
              | none => rw [hc0] at hg0; simp at hg0
              | some cs0 =>
                obtain ⟨-, hl0, hcell0⟩ := World.cells?_some hc0
                have h0 := hcell0 0 hs
                have hadd : a.add (0 * size) = a := by rw [Nat.zero_mul]; simp [Addr.add]
                rw [hadd] at h0
                exact addr_plain2 (v := cs0[0]'(by omega)) (by rw [h0, List.getElem?_eq_getElem])
            refine ⟨a.block, a.off, cs', by rw [← ha], hl2, fun j hj => ?_, n, _, hg⟩
            rw [← hcell j hj]
            conv => rhs; rw [ha, addr_add2, addr_add2]
      · cases h
/-- A struct: its fields. -/
theorem Reads.struct {t : TypeId} {fs : Array Field} {cs : List Value} (h : Reads enc P w base spare held t cs) (ht : P.underlying t = some (.struct fs)) :
    cs.length = P.cellsOf t ∧ ∀ f ∈ fs.toList, Reads enc P w base spare held f.type ((cs.drop f.offset).take (P.cellsOf f.type)) := by
  obtain ⟨fuel, x, h⟩ := h
  cases fuel with
  | zero => simp [DataW.trod] at h
  | succ n =>
    unfold DataW.trod at h
    rw [ht] at h
    dsimp only at h
    split at h
    · rename_i hl
      refine ⟨hl, fun f hf => ?_⟩
      cases hm : fs.toList.mapM (fun f => DataW.trod enc P w base spare held n f.type ((cs.drop f.offset).take (P.cellsOf f.type))) with
      | none => rw [hm] at h; simp at h
      | some ys =>
        obtain ⟨i, hi, hfi⟩ := List.getElem_of_mem hf
        have hg := mapM_some_get hm i f (by rw [List.getElem?_eq_getElem hi, hfi])
        have hy : i < ys.length := by rw [mapM_some_length hm]; exact hi
        rw [List.getElem?_eq_getElem hy] at hg
        exact ⟨n, _, hg⟩
    · cases h
end
end Go.Proofs.YtfcbcpfnaadpeaaGreatDoor
/- Openers of rows, ints and strings among the arguments. -/
namespace Go.Proofs.YtfcbcpfnaadpeaaGreatDoor
set_option linter.unusedVariables false
open Go.ChangeShapes Go.WideShapes Go.ChangeAt Go.RowKit

theorem list_of {α : Type} (R : Nat → α → Prop) : ∀ n, (∀ i, i < n → ∃ x, R i x) → ∃ l : List α, l.length = n ∧ ∀ i, (h : i < l.length) → R i l[i]
  | 0, _ => ⟨[], rfl, fun i h => by simp at h⟩
  | n + 1, h => by
    obtain ⟨l, hl, hr⟩ := list_of R n (fun i hi => h i (by omega))
    obtain ⟨x, hx⟩ := h n (by omega)
    refine ⟨l ++ [x], by simp [hl], fun i hi => ?_⟩
    by_cases hi2 : i < l.length
    · rw [List.getElem_append_left hi2]; exact hr i hi2
    · have e : i = l.length := by simp at hi; omega
      subst e
      rw [List.getElem_append_right (by omega)]
      simp only [Nat.sub_self, List.getElem_cons_zero]
      rw [hl]; exact hx
theorem bounds64 {n : Int} (h : (Lit.int .i64 n).wf = true) : -9223372036854775808 ≤ n ∧ n ≤ 9223372036854775807 := by
  simp only [Lit.wf, Bool.and_eq_true, decide_eq_true_eq] at h
  exact ⟨h.1, h.2⟩
theorem len2 {α : Type} : ∀ l : List α, l.length = 2 → ∃ c0 c1, l = [c0, c1]
  | [c0, c1], _ => ⟨c0, c1, rfl⟩
section
variable {H : Type} {enc : TypeId × Value → H} {w : World} {base : Nat} {spare : Nat → Bool} {held : Bool}
theorem read_rows {P : Program} {t e : TypeId} {cs : List Value} {k : Nat} {α : Type} (R : α → List Value) (Q : α → Prop) (h : Reads enc P w base spare held t cs) (ht : P.underlying t = some (.slice e)) (he : P.cellsOf e = k) (hk : 0 < k)
    (hR : ∀ cs', Reads enc P w base spare held e cs' → ∃ x, cs' = R x ∧ Q x) : ∃ (u : Value) (l : List α), cs = [u] ∧ Rw w u k (l.map R) ∧ capV u ∧ ∀ x ∈ l, Q x := by
  obtain ⟨a, len, cap, rfl, hlc, hcm, hn, hc⟩ := h.slice ht he hk
  obtain ⟨l, hl, hr⟩ := list_of (fun i (x : α) => ∃ b off, a = some ⟨b, off, none⟩ ∧ b < w.heap.size ∧ (∀ j, j < k → w.cell? ⟨b, off + i * k + j, none⟩ = (R x)[j]?) ∧ Q x) len (fun i hi => by
    obtain ⟨b, off, cs', e1, e2, e3, e4⟩ := hc i hi
    obtain ⟨x, rfl, hx⟩ := hR cs' e4
    have h0 := e3 0 hk
    rw [List.getElem?_eq_getElem (by omega)] at h0
    exact ⟨x, b, off, e1, cell_block_lt h0, e3, hx⟩)
  refine ⟨_, l, rfl, ⟨a, cap, by rw [List.length_map, hl], by rw [List.length_map, hl]; exact Nat.le_trans hlc hcm, fun h => (hn h).2, fun i hi => ?_⟩, ⟨hlc, by unfold maxLen at hcm; omega⟩, fun x hx => ?_⟩
  · rw [List.length_map] at hi
    obtain ⟨b, off, e1, e2, e3, -⟩ := hr i hi
    exact ⟨b, off, e1, e2, by rw [List.getElem_map]; exact e3⟩
  · obtain ⟨i, hi, rfl⟩ := List.getElem_of_mem hx
    obtain ⟨b, off, e1, e2, e3, e4⟩ := hr i hi
    exact e4
def I64 (n : Int) : Prop := -9223372036854775808 ≤ n ∧ n ≤ 9223372036854775807
theorem read_ints {cs : List Value} (h : Reads enc Tryz.prog w base spare held 22 cs) : ∃ u ns, cs = [u] ∧ Is w u ns ∧ ∀ n ∈ ns, -9223372036854775808 ≤ n ∧ n ≤ 9223372036854775807 := by
  obtain ⟨a, len, cap, rfl, hlc, hcm, hn, hc⟩ := h.slice Tryz.underlying22 (show Tryz.prog.cellsOf 3 = 1 by kernel_rfl) (by omega)
  obtain ⟨ns, hl, hr⟩ := list_of (fun i (n : Int) => ∃ b off, a = some ⟨b, off, none⟩ ∧ w.cell? ⟨b, off + i, none⟩ = some (.int .i64 n) ∧ -9223372036854775808 ≤ n ∧ n ≤ 9223372036854775807) len (fun i hi => by
    obtain ⟨b, off, cs', e1, e2, e3, e4⟩ := hc i hi
    obtain ⟨n, rfl, hs⟩ := e4.int Tryz.underlying3
    have h0 := e3 0 (by omega)
    rw [Nat.mul_one, Nat.add_zero] at h0
    exact ⟨n, b, off, e1, by rw [h0]; rfl, (bounds64 hs).1, (bounds64 hs).2⟩)
  refine ⟨_, ns, rfl, ⟨a, cap, by rw [ints_len, hl], by rw [ints_len, hl]; exact Nat.le_trans hlc hcm, fun h => (hn h).2, fun i hi => ?_⟩, fun n hm => ?_⟩
  · rw [ints_len] at hi
    obtain ⟨b, off, e1, e2, -⟩ := hr i hi
    exact ⟨b, off, e1, by rw [e2]; simp [ints]⟩
  · obtain ⟨i, hi, rfl⟩ := List.getElem_of_mem hm
    obtain ⟨b, off, e1, e2, e3⟩ := hr i hi
    exact e3
theorem read_int {cs : List Value} (h : Reads enc Tryz.prog w base spare held 3 cs) : ∃ n, cs = [.int .i64 n] ∧ -9223372036854775808 ≤ n ∧ n ≤ 9223372036854775807 := by
  obtain ⟨n, rfl, hs⟩ := h.int Tryz.underlying3
  exact ⟨n, rfl, (bounds64 hs).1, (bounds64 hs).2⟩
end
end Go.Proofs.YtfcbcpfnaadpeaaGreatDoor
/- A site among the arguments. -/
namespace Go.Proofs.YtfcbcpfnaadpeaaGreatDoor
set_option linter.unusedVariables false
open Go.ChangeShapes Go.WideShapes Go.ChangeAt Go.RowKit

section
variable {H : Type} {enc : TypeId × Value → H} {w : World} {base : Nat} {spare : Nat → Bool} {held : Bool}
end
end Go.Proofs.YtfcbcpfnaadpeaaGreatDoor
/- A certificate among the arguments. -/
namespace Go.Proofs.YtfcbcpfnaadpeaaGreatDoor
set_option linter.unusedVariables false
open Go.ChangeShapes Go.WideShapes Go.ChangeAt Go.RowKit

theorem sl_of_rw1 {w : World} {v : Value} {xs : List Value} (h : Rw w v 1 (xs.map fun x => [x])) : Sl w v xs := by
  obtain ⟨a, cap, rfl, hm, hn, hc⟩ := h
  rw [List.length_map] at hm
  refine ⟨a, cap, by rw [List.length_map], hm, hn, fun i hi => ?_⟩
  obtain ⟨b, off, h1, -, h3⟩ := hc i (by rw [List.length_map]; exact hi)
  have h4 := h3 0 (by omega)
  rw [Nat.mul_one, Nat.add_zero, List.getElem_map] at h4
  exact ⟨b, off, h1, h4⟩
section
variable {H : Type} {enc : TypeId × Value → H} {w : World} {base : Nat} {spare : Nat → Bool} {held : Bool}
def In64 (l : List Int) : Prop := ∀ x ∈ l, -9223372036854775808 ≤ x ∧ x ≤ 9223372036854775807
theorem read_ll {cs : List Value} (h : Reads enc Tryz.prog w base spare held 36 cs) : ∃ u ll, cs = [u] ∧ Ll w u ll ∧ capV u ∧ ∀ l ∈ ll, In64 l := by
  obtain ⟨u, l, rfl, h1, hcv, h2⟩ := read_rows (fun x : List Int × Value => [x.2]) (fun x => Is w x.2 x.1 ∧ In64 x.1) h Tryz.underlying36 (show Tryz.prog.cellsOf 22 = 1 by kernel_rfl) (by omega) (fun cs' h => by
    obtain ⟨u, ns, rfl, h3, h4⟩ := read_ints h
    exact ⟨(ns, u), rfl, h3, h4⟩)
  refine ⟨u, l.map (·.1), rfl, ⟨l, rfl, sl_of_rw1 (by rw [List.map_map]; exact h1), fun x hx => (h2 x hx).1⟩, hcv, fun z hz => ?_⟩
  obtain ⟨x, hx, rfl⟩ := List.mem_map.1 hz
  exact (h2 x hx).2
set_option maxRecDepth 100000 in
theorem read_tran {cs : List Value} (h : Reads enc Tryz.prog w base spare held 43 cs) : ∃ x : (List Int × List Int) × Value × Value, cs = [x.2.1, x.2.2] ∧ (Is w x.2.1 x.1.1 ∧ Is w x.2.2 x.1.2) ∧ In64 x.1.1 ∧ In64 x.1.2 := by
  obtain ⟨hl, hf⟩ := h.struct Tryz.underlying43
  have h5 : cs.length = 2 := hl.trans (by kernel_rfl)
  clear hl
  obtain ⟨c0, c1, rfl⟩ := len2 cs h5
  have g0 : Reads enc Tryz.prog w base spare held 22 [c0] := hf _ (List.mem_cons_self ..)
  have g1 : Reads enc Tryz.prog w base spare held 22 [c1] := hf _ (List.mem_cons_of_mem _ (List.mem_cons_self ..))
  obtain ⟨u0, l0, e0, h0, k0⟩ := read_ints g0
  obtain ⟨u1, l1, e1, h1, k1⟩ := read_ints g1
  cases e0; cases e1
  exact ⟨((l0, l1), c0, c1), rfl, ⟨h0, h1⟩, k0, k1⟩
theorem read_trans {cs : List Value} (h : Reads enc Tryz.prog w base spare held 33 cs) : ∃ u l, cs = [u] ∧ Tr w u l ∧ capV u ∧ ∀ t ∈ l, In64 t.1 ∧ In64 t.2 := by
  obtain ⟨u, l, rfl, h1, hcv, h2⟩ := read_rows (fun x : (List Int × List Int) × Value × Value => [x.2.1, x.2.2]) (fun x => (Is w x.2.1 x.1.1 ∧ Is w x.2.2 x.1.2) ∧ In64 x.1.1 ∧ In64 x.1.2) h Tryz.underlying33 (show Tryz.prog.cellsOf 43 = 2 by kernel_rfl) (by omega) (fun _ h => read_tran h)
  refine ⟨u, l.map (·.1), rfl, ⟨l, rfl, h1, fun x hx => (h2 x hx).1⟩, hcv, fun z hz => ?_⟩
  obtain ⟨x, hx, rfl⟩ := List.mem_map.1 hz
  exact (h2 x hx).2
/-- What is known of a certificate that came in. -/
structure CArg (w : World) (v : Value) (c : Ve.Cert) : Prop where
  form : ∃ tv cv ke se, v = .agg #[.int .i64 c.places, tv, cv, ke, .int .i64 c.robots, se] ∧ CertV w tv cv ke se c
  num : Ve.Num c
theorem len6 {α : Type} : ∀ l : List α, l.length = 6 → ∃ c0 c1 c2 c3 c4 c5, l = [c0, c1, c2, c3, c4, c5]
  | [c0, c1, c2, c3, c4, c5], _ => ⟨c0, c1, c2, c3, c4, c5, rfl⟩
set_option maxRecDepth 100000 in
theorem read_cert {cs : List Value} (h : Reads enc Tryz.prog w base spare held 38 cs) : ∃ c : Ve.Cert, (∃ tv cv ke se, cs = [.int .i64 c.places, tv, cv, ke, .int .i64 c.robots, se] ∧ CertV w tv cv ke se c) ∧ Ve.Num c := by
  obtain ⟨hl, hf⟩ := h.struct Tryz.underlying38
  have h6 : cs.length = 6 := hl.trans (by kernel_rfl)
  clear hl
  obtain ⟨c0, c1, c2, c3, c4, c5, rfl⟩ := len6 cs h6
  have g0 : Reads enc Tryz.prog w base spare held 35 [c0, c1] := hf _ (List.mem_cons_self ..)
  have g1 : Reads enc Tryz.prog w base spare held 22 [c2] := hf _ (List.mem_cons_of_mem _ (List.mem_cons_self ..))
  have g2 : Reads enc Tryz.prog w base spare held 22 [c3] := hf _ (List.mem_cons_of_mem _ (List.mem_cons_of_mem _ (List.mem_cons_self ..)))
  have g3 : Reads enc Tryz.prog w base spare held 3 [c4] := hf _ (List.mem_cons_of_mem _ (List.mem_cons_of_mem _ (List.mem_cons_of_mem _ (List.mem_cons_self ..))))
  have g4 : Reads enc Tryz.prog w base spare held 36 [c5] := hf _ (List.mem_cons_of_mem _ (List.mem_cons_of_mem _ (List.mem_cons_of_mem _ (List.mem_cons_of_mem _ (List.mem_cons_self ..)))))
  obtain ⟨-, hff⟩ := g0.struct Tryz.underlying35
  have f0 : Reads enc Tryz.prog w base spare held 3 [c0] := hff _ (List.mem_cons_self ..)
  have f1 : Reads enc Tryz.prog w base spare held 33 [c1] := hff _ (List.mem_cons_of_mem _ (List.mem_cons_self ..))
  obtain ⟨pl, e0, h0⟩ := read_int f0
  obtain ⟨u1, tl, e1, h1, -, k1⟩ := read_trans f1
  obtain ⟨u2, cl, e2, h2, k2⟩ := read_ints g1
  obtain ⟨u3, kl, e3, h3, k3⟩ := read_ints g2
  obtain ⟨rb, e4, h4⟩ := read_int g3
  obtain ⟨u5, ll, e5, h5, -, k5⟩ := read_ll g4
  cases e0; cases e1; cases e2; cases e3; cases e4; cases e5
  exact ⟨⟨pl, tl, cl, kl, rb, ll⟩, ⟨c1, c2, c3, c5, rfl, ⟨h1, h2, h3, h5⟩⟩, ⟨h0, h4, k2, k3, k1, k5⟩⟩
set_option maxRecDepth 100000 in
theorem open_cert {W : World} {base' : Nat} {v : Value} {x : DataW H × List MemPlace} (hok : Value.okWide Tryz.prog W .any base' 38 v)
    (h : ∃ fuel, DataW.trod enc Tryz.prog w base spare held fuel 38 v.cells.toList = some x) : ∃ s, CArg w v s := by
  obtain ⟨cs, rfl, hsz⟩ := okWide_struct Tryz.underlying38 hok
  have hR : Reads enc Tryz.prog w base spare held 38 cs.toList := by
    obtain ⟨fuel, hf⟩ := h
    exact ⟨fuel, x, hf⟩
  obtain ⟨s, ⟨tv, cv, ke, se, e, hs⟩, hn⟩ := read_cert hR
  have hcs2 : cs = #[.int .i64 s.places, tv, cv, ke, .int .i64 s.robots, se] := by
    have := congrArg List.toArray e
    simpa using this
  exact ⟨s, ⟨tv, cv, ke, se, by rw [hcs2], hs⟩, hn⟩
end
end Go.Proofs.YtfcbcpfnaadpeaaGreatDoor
/- What the listed variables give at the door, and the row's builder with the world's shape and the listed variables at hand. -/
namespace Go.Proofs.YtfcbcpfnaadpeaaGreatDoor
open Go.ChangeShapes Go.WideShapes Go.ChangeAt Go.RowKit

theorem returnsInHanded_of_change_laid {H : Type} {enc : TypeId × Value → H} {a : Assume} {C : Checked} {os : Os} {f : FuncId} {fn : Func} {s : ChangeSpec} {conds : List PathCond} {apart fresh handsOn again : Bool} {X : World → Array Value → Prop}
    (hX : ∀ (w w' : World) (args : Array Value), w.heap = w'.heap → X w args → X w' args)
    (own : ownKnob C.prog.godebug = none) (started : os.Started) (noInit : C.prog.inits.idxOf? f = none) (hfn : C.prog.funcs[f]? = some fn)
    (witness : ∃ (w : World) (tape : Tape) (i : Input), w.os = os ∧ (w.forCall tape i).Shaped C.prog ∧ i.vars = [] ∧ Input.okWide C.prog (w.forCall tape i) .any w.heap.size f i ∧
      ((s.pre enc C.prog fn conds apart (w.forCall tape i).memory i.args ∧ X (w.forCall tape i).memory i.args) ∧ sizedMet enc C.prog fn (OpenSpec.ofChange s) apart (w.forCall tape i).memory i.args) ∧ a.holds C.prog (lone (Frame.enter C.prog f i.args .normal) [] (w.forCall tape i)))
    (contract : ∀ (W : World) (base : Nat) (args : Array Value) (ds gs : List (DataW H)) (before : List MemPlace),
      (∀ (j : Nat) t v, fn.params[j]? = some t → args[j]? = some v → Value.okWide C.prog W .any base t v) →
      DataW.Whole enc C.prog fn.params.toList s.vars apart W args.toList ds gs before → X W args → W.ShapedOpen C.prog →
      Calls C.prog f args W fun e W' => ∃ v, e = .returned v ∧ s.post enc C.prog fn apart fresh handsOn again W args v W') :
    ReturnsInHanded a C os f .any (fun w args => (s.pre enc C.prog fn conds apart w args ∧ X w args) ∧ sizedMet enc C.prog fn (OpenSpec.ofChange s) apart w args) (s.post enc C.prog fn apart fresh handsOn again) := by
  refine returnsInHanded_of_calls own started noInit witness ?_
  intro w tape i _ hsh _ hok hpre _
  obtain ⟨_, _, _, fn', hfn', _, _, _, _, hval⟩ := hok
  obtain rfl : fn' = fn := Option.some.inj (hfn'.symm.trans hfn)
  obtain ⟨⟨⟨ds, gs, before, hw, _⟩, hx⟩, _⟩ := hpre
  have hw' := DataW.Whole.of_heap (w' := w.forCall tape i) (by rfl) hw
  refine (contract (w.forCall tape i) w.heap.size i.args ds gs before hval hw' (hX _ _ _ (by rfl) hx) hsh).mono fun e W' ⟨v, he, hp⟩ => ?_
  subst he
  exact ChangeSpec.post_blind hp

/-- The row's list. -/
def Tryz.laidL : List (String × DataW Unit) := Rows.blocksBackRow.laid
theorem Tryz.bits_tab : (Rows.laid_math_bits_deBruijn64tab : DataW Unit) = Lib.tabData .u8 (Lib.deBruijn64tab.map Int.ofNat) := by rfl
theorem Tryz.gBits : Tryz.prog.globalNamed "math/bits.deBruijn64tab" = some 0 := by kernel_rfl
theorem Tryz.pow_tab : (Rows.laid_internal_strconv_uint64pow10 : DataW Unit) = Lib.tabData .u64 Lib.pow10Tab := by rfl
theorem Tryz.star_es : "*" ++ "errors.errorString" = "*errors.errorString" := by decide
theorem Tryz.row_es (u : TypeId) (h : Tryz.prog.typeName? 3 u = some "*errors.errorString") : u = 334 :=
  typeName_ptr_named (nm := "errors.errorString") (by rw [Tryz.star_es]; kernel_rfl) (by kernel_rfl) (by decide) u (by rw [Tryz.star_es]; exact h)
/-- What the walk asks of the world: tables and errors. -/
structure EnvK (w : World) : Prop where
  e : Env w
  r : EnvR w
theorem EnvK.of_laid {W : World} (h : laidMetH Tryz.prog Tryz.laidL W) (_hsh : W.ShapedOpen Tryz.prog) : EnvK W := by
  rw [MakeChecks.laidMetH_plain _ _ _ (by kernel_rfl)] at h
  have h1 := h.tail
  have ht := Lib.tabIs_of_head (g := 0) (t := 245) (e := 5) (n := 64) Tryz.gBits (by kernel_rfl) Tryz.underlying245 Tryz.underlying5 (by kernel_rfl) (by kernel_rfl) (Tryz.bits_tab ▸ h1)
  have hc : ∀ j, j < Lib.deBruijn64tab.length → W.cell? ⟨0, j, none⟩ = some (.int .u8 (Lib.deBruijn64tab.getD j 0)) := fun j hj => by
    have h9 := ht.cell Tryz.gBits j (by rw [List.length_map]; exact hj)
    rw [h9]
    simp [List.getD, hj]
  refine ⟨⟨hc, cell_block_lt (hc 0 (by decide))⟩, ?_, ?_, Lib.tabIs_of_head (g := 4) (t := 329) (e := 90) (n := 20) Tryz.gPow (by kernel_rfl) Tryz.underlying329 Tryz.underlying90 (by kernel_rfl) (by kernel_rfl) (Tryz.pow_tab ▸ h1.tail)⟩
  · obtain ⟨a, s, hv, -, -, -⟩ := laid_sentinel h1.tail.tail.tail Tryz.gSyn (ti := 138) (by kernel_rfl) Tryz.underlying138 Tryz.row_es Tryz.underlying334 Tryz.underlying336 rfl rfl Tryz.underlying9 (by kernel_rfl) (by kernel_rfl)
    refine ⟨.iface 334 (.pointer (some a)), ?_, .inr ⟨_, _, rfl⟩⟩
    rw [World.var?_cell Tryz.gSyn hv 0]; rfl
  · obtain ⟨a, s, hv, -, -, -⟩ := laid_sentinel h1.tail.tail Tryz.gRan (ti := 138) (by kernel_rfl) Tryz.underlying138 Tryz.row_es Tryz.underlying334 Tryz.underlying336 rfl rfl Tryz.underlying9 (by kernel_rfl) (by kernel_rfl)
    refine ⟨.iface 334 (.pointer (some a)), ?_, .inr ⟨_, _, rfl⟩⟩
    rw [World.var?_cell Tryz.gRan hv 0]; rfl
theorem laid_shaped (os : Os) (args : Array Value) : ((World.laidAll Tryz.prog os Tryz.laidL).forCall (fun _ _ => 0) ⟨#[], args, []⟩).Shaped Tryz.prog :=
  World.shaped_of_ZipB (by kernel_rfl) (by kernel_rfl)
theorem laid_met (os : Os) (args : Array Value) : laidMetH Tryz.prog Tryz.laidL ((World.laidAll Tryz.prog os Tryz.laidL).forCall (fun _ _ => 0) ⟨#[], args, []⟩).memory := by
  rw [MakeChecks.laidMetH_plain _ _ _ (by kernel_rfl)]; exact laidMet_laidAll _ (by kernel_rfl) (by kernel_rfl)
end Go.Proofs.YtfcbcpfnaadpeaaGreatDoor
