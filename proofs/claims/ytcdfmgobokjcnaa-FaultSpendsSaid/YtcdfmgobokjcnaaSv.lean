/- Sites among the values. -/
import Derived.Test.YtcdfmgobokjcnaaWb
import Derived.Test.YtcdfmgobokjcnaaSiS
namespace Go.Proofs.Ytcdfmgobokjcnaa
set_option linter.unusedSimpArgs false
set_option linter.unusedVariables false
open Go.RowKit

def zoneC (z : Si.Zone) (u1 u2 : Value) : List Value := [.string ⟨z.name.toArray⟩, u1, .int .i64 z.speed, .int .i64 z.keep, u2]
def spanC (p : Int × Int) : List Value := [.int .i64 p.1, .int .i64 p.2]
def apartC (p : List UInt8 × List UInt8) : List Value := [.string ⟨p.1.toArray⟩, .string ⟨p.2.toArray⟩]
def shelfC (p : Int × List UInt8) : List Value := [.int .i64 p.1, .string ⟨p.2.toArray⟩]
def ShV (w : World) (v : Value) (l : List (Int × Int)) : Prop := Rw w v 2 (l.map spanC)
def ApV (w : World) (v : Value) (l : List (List UInt8 × List UInt8)) : Prop := Rw w v 2 (l.map apartC)
def SfV (w : World) (v : Value) (l : List (Int × List UInt8)) : Prop := Rw w v 2 (l.map shelfC)
def RbV (w : World) (v : Value) (l : List (Int × Int)) : Prop := Rw w v 2 (l.map spanC)
def ZnV (w : World) (v : Value) (zs : List Si.Zone) : Prop :=
  ∃ l : List (Si.Zone × Value × Value), l.map (·.1) = zs ∧ Rw w v 5 (l.map fun x => zoneC x.1 x.2.1 x.2.2) ∧ ∀ x ∈ l, Is w x.2.1 x.1.cells ∧ ShV w x.2.2 x.1.shut
theorem ZnV.keep {w W : World} {v : Value} {zs : List Si.Zone} (h : ZnV w v zs) (hb : Below w.heap.size w W) : ZnV W v zs := by
  obtain ⟨l, h1, h2, h3⟩ := h
  exact ⟨l, h1, h2.keep hb, fun x hx => ⟨(h3 x hx).1.keep hb, (h3 x hx).2.keep hb⟩⟩
theorem ZnV.form {w : World} {v : Value} {zs : List Si.Zone} (h : ZnV w v zs) : ∃ a cap, v = .slice a zs.length cap ∧ zs.length ≤ 9223372036854775807 := by
  obtain ⟨l, rfl, h2, -⟩ := h
  simpa using h2.form
/-- The cells of a zone. -/
theorem ZnV.cell {w : World} {a : Option Addr} {n cap : Nat} {zs : List Si.Zone} (h : ZnV w (.slice a n cap) zs) (i : Nat) (hi : i < zs.length) : ∃ b off u1 u2, a = some ⟨b, off, none⟩ ∧ b < w.heap.size ∧ Is w u1 zs[i].cells ∧ ShV w u2 zs[i].shut ∧
    w.cell? ⟨b, off + i * 5, none⟩ = some (.string ⟨zs[i].name.toArray⟩) ∧ w.cell? ⟨b, off + i * 5 + 1, none⟩ = some u1 ∧ w.cell? ⟨b, off + i * 5 + 2, none⟩ = some (.int .i64 zs[i].speed) ∧ w.cell? ⟨b, off + i * 5 + 3, none⟩ = some (.int .i64 zs[i].keep) ∧ w.cell? ⟨b, off + i * 5 + 4, none⟩ = some u2 := by
  obtain ⟨l, h1, h2, h3⟩ := h
  obtain ⟨hj, e⟩ := map_eq_zip h1 i hi
  obtain ⟨b, off, rfl, hlt, hc⟩ := h2.cell i (by simpa using hj)
  obtain ⟨k1, k2⟩ := h3 _ (List.getElem_mem hj)
  rw [e]
  rw [List.getElem_map] at hc
  exact ⟨b, off, _, _, rfl, hlt, k1, k2, hc 0 (by omega), hc 1 (by omega), hc 2 (by omega), hc 3 (by omega), hc 4 (by omega)⟩
theorem two_cell {α : Type} {w : World} {a : Option Addr} {n cap : Nat} {l : List α} {f : α → List Value} {g1 g2 : α → Value} (hf : ∀ x, f x = [g1 x, g2 x]) (h : Rw w (.slice a n cap) 2 (l.map f)) (i : Nat) (hi : i < l.length) : ∃ b off, a = some ⟨b, off, none⟩ ∧ b < w.heap.size ∧
    w.cell? ⟨b, off + i * 2, none⟩ = some (g1 l[i]) ∧ w.cell? ⟨b, off + i * 2 + 1, none⟩ = some (g2 l[i]) := by
  obtain ⟨b, off, rfl, hlt, hc⟩ := h.cell i (by simpa using hi)
  rw [List.getElem_map, hf] at hc
  exact ⟨b, off, rfl, hlt, hc 0 (by omega), hc 1 (by omega)⟩
theorem ShV.cell {w : World} {a : Option Addr} {n cap : Nat} {l : List (Int × Int)} (h : ShV w (.slice a n cap) l) (i : Nat) (hi : i < l.length) : ∃ b off, a = some ⟨b, off, none⟩ ∧ b < w.heap.size ∧ w.cell? ⟨b, off + i * 2, none⟩ = some (.int .i64 l[i].1) ∧ w.cell? ⟨b, off + i * 2 + 1, none⟩ = some (.int .i64 l[i].2) :=
  two_cell (f := spanC) (g1 := fun p => .int .i64 p.1) (g2 := fun p => .int .i64 p.2) (fun _ => rfl) h i hi
theorem ApV.cell {w : World} {a : Option Addr} {n cap : Nat} {l : List (List UInt8 × List UInt8)} (h : ApV w (.slice a n cap) l) (i : Nat) (hi : i < l.length) : ∃ b off, a = some ⟨b, off, none⟩ ∧ b < w.heap.size ∧ w.cell? ⟨b, off + i * 2, none⟩ = some (.string ⟨l[i].1.toArray⟩) ∧ w.cell? ⟨b, off + i * 2 + 1, none⟩ = some (.string ⟨l[i].2.toArray⟩) :=
  two_cell (f := apartC) (g1 := fun p => .string ⟨p.1.toArray⟩) (g2 := fun p => .string ⟨p.2.toArray⟩) (fun _ => rfl) h i hi
theorem SfV.cell {w : World} {a : Option Addr} {n cap : Nat} {l : List (Int × List UInt8)} (h : SfV w (.slice a n cap) l) (i : Nat) (hi : i < l.length) : ∃ b off, a = some ⟨b, off, none⟩ ∧ b < w.heap.size ∧ w.cell? ⟨b, off + i * 2, none⟩ = some (.int .i64 l[i].1) ∧ w.cell? ⟨b, off + i * 2 + 1, none⟩ = some (.string ⟨l[i].2.toArray⟩) :=
  two_cell (f := shelfC) (g1 := fun p => .int .i64 p.1) (g2 := fun p => .string ⟨p.2.toArray⟩) (fun _ => rfl) h i hi
theorem two_form {α : Type} {w : World} {v : Value} {l : List α} {f : α → List Value} (h : Rw w v 2 (l.map f)) : ∃ a cap, v = .slice a l.length cap ∧ l.length ≤ 9223372036854775807 := by
  simpa using h.form

/-- A floor: its five cells. -/
structure FlV (w : World) (kv ov : Value) (f : Fl.Floor) : Prop where
  kind : Is w kv f.kind
  out : Is w ov f.out
/-- A site: its nine cells. -/
structure SiV (w : World) (kv ov zv av sv rv : Value) (s : Si.Site) : Prop where
  fl : FlV w kv ov s.floor
  zn : ZnV w zv s.zones
  ap : ApV w av s.aparts
  sf : SfV w sv s.shelves
  rb : RbV w rv s.robots
theorem FlV.keep {w W : World} {kv ov : Value} {f : Fl.Floor} (h : FlV w kv ov f) (hb : Below w.heap.size w W) : FlV W kv ov f := ⟨h.kind.keep hb, h.out.keep hb⟩
theorem SiV.keep {w W : World} {kv ov zv av sv rv : Value} {s : Si.Site} (h : SiV w kv ov zv av sv rv s) (hb : Below w.heap.size w W) : SiV W kv ov zv av sv rv s :=
  ⟨h.fl.keep hb, h.zn.keep hb, Rw.keep h.ap hb, Rw.keep h.sf hb, Rw.keep h.rb hb⟩
/-- The numbers of a floor are numbers of Go. -/
structure FlNum (f : Fl.Floor) : Prop where
  w : -9223372036854775808 ≤ f.w ∧ f.w ≤ 9223372036854775807
  h : -9223372036854775808 ≤ f.h ∧ f.h ≤ 9223372036854775807
  d : -9223372036854775808 ≤ f.d ∧ f.d ≤ 9223372036854775807
  kind : ∀ k ∈ f.kind, -9223372036854775808 ≤ k ∧ k ≤ 9223372036854775807
  out : ∀ k ∈ f.out, -9223372036854775808 ≤ k ∧ k ≤ 9223372036854775807
structure SiNum (s : Si.Site) : Prop where
  fl : FlNum s.floor
  zn : ∀ z ∈ s.zones, z.name.length ≤ 9223372036854775807 ∧ (∀ c ∈ z.cells, -9223372036854775808 ≤ c ∧ c ≤ 9223372036854775807) ∧ (-9223372036854775808 ≤ z.speed ∧ z.speed ≤ 9223372036854775807) ∧ (-9223372036854775808 ≤ z.keep ∧ z.keep ≤ 9223372036854775807) ∧ ∀ p ∈ z.shut, (-9223372036854775808 ≤ p.1 ∧ p.1 ≤ 9223372036854775807) ∧ -9223372036854775808 ≤ p.2 ∧ p.2 ≤ 9223372036854775807
  ap : ∀ p ∈ s.aparts, p.1.length ≤ 9223372036854775807 ∧ p.2.length ≤ 9223372036854775807
  sf : ∀ p ∈ s.shelves, (-9223372036854775808 ≤ p.1 ∧ p.1 ≤ 9223372036854775807) ∧ p.2.length ≤ 9223372036854775807
  rb : ∀ p ∈ s.robots, (-9223372036854775808 ≤ p.1 ∧ p.1 ≤ 9223372036854775807) ∧ -9223372036854775808 ≤ p.2 ∧ p.2 ≤ 9223372036854775807
end Go.Proofs.Ytcdfmgobokjcnaa
