/- States, faults and budgets among the values. -/
import Derived.Test.YtcdfmgobokjcnaaFw
import Derived.Test.YtcdfmgobokjcnaaFaL
namespace Go.Proofs.Ytcdfmgobokjcnaa
set_option linter.unusedSimpArgs false
set_option linter.unusedVariables false
open Go.RowKit

def robC (r : Bd.Robot) : List Value := [.int .i64 r.cell, .int .i64 r.load, .int .i64 r.charge, .int .i64 r.rest, .int .i64 r.mute, .bool r.dead]
def RoV (w : World) (v : Value) (l : List Bd.Robot) : Prop := Rw w v 6 (l.map robC)
theorem RoV.keep {w W : World} {v : Value} {l : List Bd.Robot} (h : RoV w v l) (hb : Below w.heap.size w W) : RoV W v l := Rw.keep h hb
theorem RoV.form {w : World} {v : Value} {l : List Bd.Robot} (h : RoV w v l) : ∃ a cap, v = .slice a l.length cap ∧ l.length ≤ 9223372036854775807 := by simpa using Rw.form h
theorem RoV.cell {w : World} {a : Option Addr} {n cap : Nat} {l : List Bd.Robot} (h : RoV w (.slice a n cap) l) (i : Nat) (hi : i < l.length) : ∃ b off, a = some ⟨b, off, none⟩ ∧ b < w.heap.size ∧
    w.cell? ⟨b, off + i * 6, none⟩ = some (.int .i64 l[i].cell) ∧ w.cell? ⟨b, off + i * 6 + 1, none⟩ = some (.int .i64 l[i].load) ∧ w.cell? ⟨b, off + i * 6 + 2, none⟩ = some (.int .i64 l[i].charge) ∧
    w.cell? ⟨b, off + i * 6 + 3, none⟩ = some (.int .i64 l[i].rest) ∧ w.cell? ⟨b, off + i * 6 + 4, none⟩ = some (.int .i64 l[i].mute) ∧ w.cell? ⟨b, off + i * 6 + 5, none⟩ = some (.bool l[i].dead) := by
  obtain ⟨b, off, rfl, hlt, hc⟩ := Rw.cell h i (by simpa using hi)
  rw [List.getElem_map] at hc
  exact ⟨b, off, rfl, hlt, hc 0 (by omega), hc 1 (by omega), hc 2 (by omega), hc 3 (by omega), hc 4 (by omega), hc 5 (by omega)⟩
/-- A state: its slices. -/
structure StV (w : World) (sv rv pv dv kv : Value) (s : Bd.State) : Prop where
  sh : Is w sv s.shelves
  ro : RoV w rv s.robots
  pe : Is w pv s.people
  de : Is w dv s.dead
  sk : Rw w kv 2 (s.stuck.map spanC)
theorem StV.keep {w W : World} {sv rv pv dv kv : Value} {s : Bd.State} (h : StV w sv rv pv dv kv s) (hb : Below w.heap.size w W) : StV W sv rv pv dv kv s :=
  ⟨h.sh.keep hb, h.ro.keep hb, h.pe.keep hb, h.de.keep hb, Rw.keep h.sk hb⟩
/-- The value of a state. -/
def stV (s : Bd.State) (sv rv pv dv kv : Value) : Value := .agg #[.int .i64 s.tick, sv, rv, pv, dv, kv]
/-- The slices of a state, opened. -/
theorem StV.open {w : World} {sv rv pv dv kv : Value} {s : Bd.State} (h : StV w sv rv pv dv kv s) : ∃ a1 c1 a2 c2 a3 c3 a4 c4 a5 c5, sv = .slice a1 s.shelves.length c1 ∧ rv = .slice a2 s.robots.length c2 ∧ pv = .slice a3 s.people.length c3 ∧ dv = .slice a4 s.dead.length c4 ∧ kv = .slice a5 s.stuck.length c5 ∧
    s.shelves.length ≤ 9223372036854775807 ∧ s.robots.length ≤ 9223372036854775807 ∧ s.people.length ≤ 9223372036854775807 ∧ s.dead.length ≤ 9223372036854775807 ∧ s.stuck.length ≤ 9223372036854775807 := by
  obtain ⟨a1, c1, e1, m1⟩ := h.sh.form
  obtain ⟨a2, c2, e2, m2⟩ := h.ro.form
  obtain ⟨a3, c3, e3, m3⟩ := h.pe.form
  obtain ⟨a4, c4, e4, m4⟩ := h.de.form
  obtain ⟨a5, c5, e5, m5⟩ := two_form h.sk
  exact ⟨a1, c1, a2, c2, a3, c3, a4, c4, a5, c5, e1, e2, e3, e4, e5, m1, m2, m3, m4, m5⟩
def fltC (x : Fa.Flt) : List Value := [.int .i64 x.kind, .int .i64 x.a, .int .i64 x.n]
theorem fltC_len (x : Fa.Flt) : (fltC x).length = 3 := rfl
/-- The value of a fault. -/
def fltV (x : Fa.Flt) : Value := .agg #[.int .i64 x.kind, .int .i64 x.a, .int .i64 x.n]
/-- A slice of faults. -/
def FtV (w : World) (v : Value) (l : List Fa.Flt) : Prop := Rw w v 3 (l.map fltC)
theorem FtV.keep {w W : World} {v : Value} {l : List Fa.Flt} (h : FtV w v l) (hb : Below w.heap.size w W) : FtV W v l := Rw.keep h hb
theorem FtV.form {w : World} {v : Value} {l : List Fa.Flt} (h : FtV w v l) : ∃ a cap, v = .slice a l.length cap ∧ l.length ≤ 9223372036854775807 := by simpa using Rw.form h
theorem FtV.cell {w : World} {a : Option Addr} {n cap : Nat} {l : List Fa.Flt} (h : FtV w (.slice a n cap) l) (i : Nat) (hi : i < l.length) : ∃ b off, a = some ⟨b, off, none⟩ ∧ b < w.heap.size ∧
    w.cell? ⟨b, off + i * 3, none⟩ = some (.int .i64 l[i].kind) ∧ w.cell? ⟨b, off + i * 3 + 1, none⟩ = some (.int .i64 l[i].a) ∧ w.cell? ⟨b, off + i * 3 + 2, none⟩ = some (.int .i64 l[i].n) := by
  obtain ⟨b, off, rfl, hlt, hc⟩ := Rw.cell h i (by simpa using hi)
  rw [List.getElem_map] at hc
  exact ⟨b, off, rfl, hlt, hc 0 (by omega), hc 1 (by omega), hc 2 (by omega)⟩
/-- The value of a budget. -/
def budA (b : Fa.Bud) : Array Value := #[.int .i64 b.stops, .int .i64 b.cells, .int .i64 b.mutes, .int .i64 b.muteMost, .int .i64 b.lifts, .int .i64 b.liftMost, .int .i64 b.steps]
/-- The numbers of a budget are numbers of Go. -/
structure BudN (b : Fa.Bud) : Prop where
  h1 : -9223372036854775808 ≤ b.stops ∧ b.stops ≤ 9223372036854775807
  h2 : -9223372036854775808 ≤ b.cells ∧ b.cells ≤ 9223372036854775807
  h3 : -9223372036854775808 ≤ b.mutes ∧ b.mutes ≤ 9223372036854775807
  h4 : -9223372036854775808 ≤ b.muteMost ∧ b.muteMost ≤ 9223372036854775807
  h5 : -9223372036854775808 ≤ b.lifts ∧ b.lifts ≤ 9223372036854775807
  h6 : -9223372036854775808 ≤ b.liftMost ∧ b.liftMost ≤ 9223372036854775807
  h7 : -9223372036854775808 ≤ b.steps ∧ b.steps ≤ 9223372036854775807
/-- The value of a site of which only the floor counts. -/
def siF (f : Fl.Floor) (kv ov zv av hv bv : Value) : Value := .agg #[.int .i64 f.w, .int .i64 f.h, .int .i64 f.d, kv, ov, zv, av, hv, bv]
end Go.Proofs.Ytcdfmgobokjcnaa
