/- Bytes that a call appends to a slice of its own; Quote of taquinref02. -/
import Derived.Test.YtdjiimblfhbcjaaDoorR2b
import Derived.Deep.AppendLies
namespace Go.Proofs.YtdjiimblfhbcjaaDoor
set_option linter.unusedSimpArgs false
open Go.RowKit

def bc (l : List UInt8) : List Value := l.map fun b => .int .u8 b.toNat
/-- The slice value v owns these bytes. -/
def OB (base : Nat) (w : World) (v : Value) (l : List UInt8) : Prop := w.ownsRow base 5 1 v l.length (bc l)
theorem OB.nil (base : Nat) (w : World) : OB base w (.slice none 0 0) [] := ⟨rfl, .inl ⟨rfl, rfl⟩⟩
theorem OB.keep {base : Nat} {w W : World} {v : Value} {l : List UInt8} (h : OB base w v l) (hb : Below w.heap.size w W) : OB base W v l :=
  World.ownsRow.kept (row := none) h ⟨hb.os, hb.tape, hb.output, hb.size, fun k hk _ => hb.block k hk⟩ (Classical.em _)
theorem OB.fresh {w : World} {base : Nat} (hb : base ≤ w.heap.size) (l : List UInt8) (cs : Array Value) (hcs : cs.toList = bc l) (hl : l.length ≤ maxLen) : OB base (w.alloc (.cells cs 5)) (.slice (some ⟨w.heap.size, 0, none⟩) l.length l.length) l := by
  refine ⟨by simp [bc], .inr ⟨w.heap.size, l.length, cs, rfl, hb, heap_alloc_new _ _, Nat.le_refl _, hl, ?_, ?_⟩⟩
  · have := congrArg List.length hcs
    simp [bc] at this; simpa using this
  · rw [hcs, List.take_of_length_le (by simp [bc])]
theorem wpList_app_bytes {w : World} {ops : Array Oper} {rest : List Oper} {o : Oper} {a : Act} {Q : Exit → Act → World → Prop} (hgd : o.guard = none) (s x : Operand)
    (ho : o.op = .call { callee := .builtin .append, args := #[s, x], argTypes := #[46, 46] })
    (base : Nat) (v : Value) (l : List UInt8) (hs : a.eval s = v) (hown : OB base w v l)
    (g c : Nat) (d : List UInt8) (cs : Array Value) (hx : a.eval x = .slice (some ⟨g, 0, none⟩) d.length c) (hg : w.heap[g]? = some (.cells cs 5 (0, 0))) (hcs : cs.toList = bc d)
    (hsz : l.length + d.length ≤ 1000000000) (hbase : base ≤ w.heap.size)
    (h : ∀ v' w', OB base w' v' (l ++ d) → Below base w w' → wpList Tryd.prog ops Q rest (a.put o.dst v') w') : wpList Tryd.prog ops Q (o :: rest) a w := by
  obtain ⟨i, hi, hz, hsize, hby⟩ := info_parts Tryd.bldByte
  have hlt := hown
  refine wpList_append_own w hgd s x _ ho base 5 i _ 1 1 Tryd.underlying46 hi hz hsize hby rfl (by decide) v l.length (bc l) hs hown ⟨g, 0, none⟩ d.length c (bc d) hx (by simp [bc]) ?_ ?_ (by unfold maxLen; omega) (by omega) hbase ?_
  · intro j u hj
    have e2 : ((⟨g, 0, none⟩ : Addr).add j) = ⟨g, 0 + j, none⟩ := by unfold Addr.add; split <;> simp_all
    rw [e2, Nat.zero_add]
    have : cs[j]? = some u := by rw [← hj, ← hcs]; simp
    simp [World.cell?, hg, this]
  · intro u hu
    obtain ⟨b, _, rfl⟩ := List.mem_map.1 hu
    rfl
  · intro v' w' h2 h3 _
    refine h v' w' ?_ ((Below.refl _ _).grown h3 hbase (fun k hk => (World.ownsRow.lt hlt k hk).1))
    unfold OB
    rw [List.length_append]
    have e : bc (l ++ d) = bc l ++ bc d := by simp [bc]
    rw [e]; exact h2
theorem step_app_bytes {w : World} {ops : Array Oper} {o : Oper} {a : Act} {K : Act → World → Prop} {Q : Exit → Act → World → Prop} {E : Prop} (hgd : o.guard = none) (s x : Operand)
    (ho : o.op = .call { callee := .builtin .append, args := #[s, x], argTypes := #[46, 46] })
    (base : Nat) (v : Value) (l : List UInt8) (hs : a.eval s = v) (hown : OB base w v l)
    (g c : Nat) (d : List UInt8) (cs : Array Value) (hx : a.eval x = .slice (some ⟨g, 0, none⟩) d.length c) (hg : w.heap[g]? = some (.cells cs 5 (0, 0))) (hcs : cs.toList = bc d) (hd : 0 < d.length)
    (hsz : l.length + d.length ≤ 1000000000) (hbase : base ≤ w.heap.size)
    (h : ∀ v' w', OB base w' v' (l ++ d) → Below base w w' → K (a.put o.dst v') w') : if Region.wanted o (yielded ops a.tmps) = true then Oper.wp Tryd.prog o a w K Q else E := by
  obtain ⟨i, hi, hz, hsize, hby⟩ := info_parts Tryd.bldByte
  have hlt := hown
  refine step_append_lies w hgd s x _ ho base 5 i _ 1 1 Tryd.underlying46 hi hz hsize hby rfl (by decide) v l.length (bc l) hs hown ⟨g, 0, none⟩ d.length c (bc d) hx (by simp [bc]) ?_ ?_ hd (by unfold maxLen; omega) (by omega) hbase _ rfl ?_
  · intro j u hj
    have e2 : ((⟨g, 0, none⟩ : Addr).add j) = ⟨g, 0 + j, none⟩ := by unfold Addr.add; split <;> simp_all
    rw [e2, Nat.zero_add]
    have : cs[j]? = some u := by rw [← hj, ← hcs]; simp
    simp [World.cell?, hg, this]
  · intro u hu
    obtain ⟨b, _, rfl⟩ := List.mem_map.1 hu
    rfl
  · intro g' cap' w' h2 h3 _ _
    refine h _ w' ?_ ((Below.refl _ _).grown h3 hbase (fun k hk => (World.ownsRow.lt hlt k hk).1))
    unfold OB
    rw [List.length_append]
    have e : bc (l ++ d) = bc l ++ bc d := by simp [bc]
    rw [e]; exact h2
theorem heap_alloc_drew (w : World) (o : Obj) : (w.alloc o).drew.heap[w.heap.size]? = some o := heap_alloc_new w o
theorem conv_own {w : World} {base : Nat} {v : Value} {l : List UInt8} (h : OB base w v l) : Sem.run Tryd.prog (convert 46 9 v) w = .ok (.string ⟨l.toArray⟩) w := by
  rcases h.2 with ⟨rfl, h0⟩ | ⟨g, cap, cur, rfl, hb, hh, hnc, hcm, hcs, ht⟩
  · obtain rfl : l = [] := List.eq_nil_of_length_eq_zero h0
    rw [run_convert_bytes_string w _ _ _ none 0 0 Tryd.underlying46 Tryd.underlying5 Tryd.underlying9]
    rfl
  · exact run_convert_bytes_back (P := Tryd.prog) w 46 9 5 ⟨g, 0, none⟩ cap l Tryd.underlying46 Tryd.underlying5 Tryd.underlying9 (fun j hj => by
      have hc := World.ownsRow.cells h (g := g) rfl j (.int .u8 l[j].toNat) (by unfold bc; rw [List.getElem?_map, List.getElem?_eq_getElem hj]; rfl)
      exact hc)
end Go.Proofs.YtdjiimblfhbcjaaDoor
