/- Budgets and lists of faults among the arguments. -/
import Derived.Test.YtcdfmgobokjcnaaOpB
import Derived.Test.YtcdfmgobokjcnaaBd
namespace Go.Proofs.Ytcdfmgobokjcnaa
set_option linter.unusedVariables false
open Go.ChangeShapes Go.WideShapes Go.ChangeAt Go.RowKit

theorem len3 {α : Type} : ∀ l : List α, l.length = 3 → ∃ c0 c1 c2, l = [c0, c1, c2]
  | [c0, c1, c2], _ => ⟨c0, c1, c2, rfl⟩
theorem len7 {α : Type} : ∀ l : List α, l.length = 7 → ∃ c0 c1 c2 c3 c4 c5 c6, l = [c0, c1, c2, c3, c4, c5, c6]
  | [c0, c1, c2, c3, c4, c5, c6], _ => ⟨c0, c1, c2, c3, c4, c5, c6, rfl⟩
/-- What is known of a fault that came in. -/
def FltN (x : Fa.Flt) : Prop := I64 x.kind ∧ I64 x.a ∧ I64 x.n
/-- What is known of a budget that came in. -/
structure BArg (w : World) (v : Value) (b : Fa.Bud) : Prop where
  form : v = .agg (budA b)
  num : BudN b
/-- What is known of a fault that came in. -/
structure FltArg (v : Value) (z : Fa.Flt) : Prop where
  form : v = fltV z
  num : FltN z
/-- What is known of a list of faults that came in. -/
structure FtArg (w : World) (v : Value) (l : List Fa.Flt) : Prop where
  form : FtV w v l
  cap : capV v
section
variable {H : Type} {enc : TypeId × Value → H} {w : World} {base : Nat} {spare : Nat → Bool} {held : Bool}
set_option maxRecDepth 100000 in
theorem read_flt {cs : List Value} (h : Reads enc Try.prog w base spare held 32 cs) : ∃ x : Fa.Flt, cs = fltC x ∧ FltN x := by
  obtain ⟨hl, hf⟩ := h.struct Try.underlying32
  have h5 : cs.length = 3 := hl.trans (by kernel_rfl)
  clear hl
  obtain ⟨c0, c1, c2, rfl⟩ := len3 cs h5
  have g0 : Reads enc Try.prog w base spare held 3 [c0] := hf _ (List.mem_cons_self ..)
  have g1 : Reads enc Try.prog w base spare held 3 [c1] := hf _ (List.mem_cons_of_mem _ (List.mem_cons_self ..))
  have g2 : Reads enc Try.prog w base spare held 3 [c2] := hf _ (List.mem_cons_of_mem _ (List.mem_cons_of_mem _ (List.mem_cons_self ..)))
  obtain ⟨a, e0, ha⟩ := read_int g0
  obtain ⟨b, e1, hb⟩ := read_int g1
  obtain ⟨c, e2, hc⟩ := read_int g2
  cases e0; cases e1; cases e2
  exact ⟨⟨a, b, c⟩, rfl, ha, hb, hc⟩
theorem read_flts {cs : List Value} (h : Reads enc Try.prog w base spare held 24 cs) : ∃ u l, cs = [u] ∧ FtV w u l ∧ capV u ∧ ∀ x ∈ l, FltN x :=
  read_rows fltC _ h Try.underlying24 (show Try.prog.cellsOf 32 = 3 by kernel_rfl) (by omega) (fun _ h => read_flt h)
set_option maxRecDepth 100000 in
theorem read_bud {cs : List Value} (h : Reads enc Try.prog w base spare held 23 cs) : ∃ b : Fa.Bud, cs = (budA b).toList ∧ BudN b := by
  obtain ⟨hl, hf⟩ := h.struct Try.underlying23
  have hl7 : cs.length = 7 := hl.trans (by kernel_rfl)
  clear hl
  obtain ⟨c0, c1, c2, c3, c4, c5, c6, rfl⟩ := len7 cs hl7
  have g0 : Reads enc Try.prog w base spare held 3 [c0] := hf _ (List.mem_cons_self ..)
  have g1 : Reads enc Try.prog w base spare held 3 [c1] := hf _ (List.mem_cons_of_mem _ (List.mem_cons_self ..))
  have g2 : Reads enc Try.prog w base spare held 3 [c2] := hf _ (List.mem_cons_of_mem _ (List.mem_cons_of_mem _ (List.mem_cons_self ..)))
  have g3 : Reads enc Try.prog w base spare held 3 [c3] := hf _ (List.mem_cons_of_mem _ (List.mem_cons_of_mem _ (List.mem_cons_of_mem _ (List.mem_cons_self ..))))
  have g4 : Reads enc Try.prog w base spare held 3 [c4] := hf _ (List.mem_cons_of_mem _ (List.mem_cons_of_mem _ (List.mem_cons_of_mem _ (List.mem_cons_of_mem _ (List.mem_cons_self ..)))))
  have g5 : Reads enc Try.prog w base spare held 3 [c5] := hf _ (List.mem_cons_of_mem _ (List.mem_cons_of_mem _ (List.mem_cons_of_mem _ (List.mem_cons_of_mem _ (List.mem_cons_of_mem _ (List.mem_cons_self ..))))))
  have g6 : Reads enc Try.prog w base spare held 3 [c6] := hf _ (List.mem_cons_of_mem _ (List.mem_cons_of_mem _ (List.mem_cons_of_mem _ (List.mem_cons_of_mem _ (List.mem_cons_of_mem _ (List.mem_cons_of_mem _ (List.mem_cons_self ..)))))))
  obtain ⟨a0, e0, h0⟩ := read_int g0
  obtain ⟨a1, e1, h1⟩ := read_int g1
  obtain ⟨a2, e2, h2⟩ := read_int g2
  obtain ⟨a3, e3, h3⟩ := read_int g3
  obtain ⟨a4, e4, h4⟩ := read_int g4
  obtain ⟨a5, e5, h5⟩ := read_int g5
  obtain ⟨a6, e6, h6⟩ := read_int g6
  cases e0; cases e1; cases e2; cases e3; cases e4; cases e5; cases e6
  clear hl7
  exact ⟨⟨a0, a1, a2, a3, a4, a5, a6⟩, rfl, h0, h1, h2, h3, h4, h5, h6⟩
set_option maxRecDepth 100000 in
theorem open_bud {W : World} {base' : Nat} {v : Value} {x : DataW H × List MemPlace} (hok : Value.okWide Try.prog W .any base' 23 v)
    (h : ∃ fuel, DataW.trod enc Try.prog w base spare held fuel 23 v.cells.toList = some x) : ∃ b, BArg w v b := by
  obtain ⟨cs, rfl, hsz⟩ := okWide_struct Try.underlying23 hok
  have hR : Reads enc Try.prog w base spare held 23 cs.toList := by
    obtain ⟨fuel, hf⟩ := h
    exact ⟨fuel, x, hf⟩
  obtain ⟨b, e, hn⟩ := read_bud hR
  have hcs2 : cs = budA b := by
    have := congrArg List.toArray e
    simpa using this
  exact ⟨b, by rw [hcs2], hn⟩
set_option maxRecDepth 100000 in
theorem open_flt {W : World} {base' : Nat} {v : Value} {x : DataW H × List MemPlace} (hok : Value.okWide Try.prog W .any base' 32 v)
    (h : ∃ fuel, DataW.trod enc Try.prog w base spare held fuel 32 v.cells.toList = some x) : ∃ z : Fa.Flt, FltArg v z := by
  obtain ⟨cs, rfl, hsz⟩ := okWide_struct Try.underlying32 hok
  have hR : Reads enc Try.prog w base spare held 32 cs.toList := by
    obtain ⟨fuel, hf⟩ := h
    exact ⟨fuel, x, hf⟩
  obtain ⟨z, e, hn⟩ := read_flt hR
  have hcs2 : cs = #[.int .i64 z.kind, .int .i64 z.a, .int .i64 z.n] := by
    have := congrArg List.toArray e
    simpa [fltC] using this
  exact ⟨z, by rw [hcs2]; rfl, hn⟩
set_option maxRecDepth 100000 in
theorem open_flts {W : World} {base' : Nat} {v : Value} {x : DataW H × List MemPlace} (hok : Value.okWide Try.prog W .any base' 24 v)
    (h : ∃ fuel, DataW.trod enc Try.prog w base spare held fuel 24 v.cells.toList = some x) : ∃ l, FtArg w v l := by
  obtain ⟨a, len, cap, rfl⟩ := okWide_slice Try.underlying24 hok
  obtain ⟨fuel, hf⟩ := h
  obtain ⟨u, l, e, h1, h2, -⟩ := read_flts (cs := [.slice a len cap]) ⟨fuel, x, by simpa [Value.cells] using hf⟩
  cases e
  exact ⟨l, h1, h2⟩
end
end Go.Proofs.Ytcdfmgobokjcnaa
