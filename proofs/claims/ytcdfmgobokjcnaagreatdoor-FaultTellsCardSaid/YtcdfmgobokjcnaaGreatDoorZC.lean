/- Parts Fw, Bd, Al, Ff of this claim, laid one behind the other: walks and the plain laws behind them; each contract states its own conditions. -/
import Derived.Test.YtcdfmgobokjcnaaGreatDoorZB
/- Walks of package floor: size, is, Cell, At, beside, Next. -/
namespace Go.Proofs.YtcdfmgobokjcnaaGreatDoor
set_option linter.unusedSimpArgs false
set_option linter.unusedVariables false
open Go.RowKit

/-- The value of a floor. -/
def flV (f : Fl.Floor) (kv ov : Value) : Value := .agg #[.int .i64 f.w, .int .i64 f.h, .int .i64 f.d, kv, ov]
/-- The bounds of a floor's numbers. -/
structure FB (f : Fl.Floor) : Prop where
  w1 : 1 ≤ f.w
  h1 : 1 ≤ f.h
  d1 : 1 ≤ f.d
  w2 : f.w ≤ 4096
  h2 : f.h ≤ 4096
  d2 : f.d ≤ 4
theorem FB.of {f : Fl.Floor} (h : Fl.Right f) : FB f := ⟨h.w1, h.h1, h.d1, h.w2, h.h2, h.d2⟩
theorem mul_bd {a b A B : Int} (h1 : 0 ≤ a) (h2 : a ≤ A) (h3 : 0 ≤ b) (h4 : b ≤ B) : 0 ≤ a * b ∧ a * b ≤ A * B :=
  ⟨Int.mul_nonneg h1 h3, Int.mul_le_mul h2 h4 h3 (by omega)⟩
theorem FB.size {f : Fl.Floor} (h : FB f) : (0 ≤ f.w * f.h ∧ f.w * f.h ≤ 16777216) ∧ 0 ≤ f.w * f.h * f.d ∧ f.w * f.h * f.d ≤ 67108864 := by
  have e1 := mul_bd (a := f.w) (b := f.h) (A := 4096) (B := 4096) (by have := h.w1; omega) h.w2 (by have := h.h1; omega) h.h2
  have e2 := mul_bd (a := f.w * f.h) (b := f.d) (A := 16777216) (B := 4) e1.1 e1.2 (by have := h.d1; omega) h.d2
  exact ⟨e1, e2⟩
set_option maxHeartbeats 1000000 in
theorem size_any (f : Fl.Floor) (kv ov : Value) (w : World) (hb : FB f) :
    Calls Tryz.prog 109 #[flV f kv ov] w fun e w' => e = .returned (.int .i64 f.size) ∧ Below w.heap.size w w' := by
  obtain ⟨⟨a1, a2⟩, a3, a4⟩ := hb.size
  obtain ⟨fw, fh, fd, kl, ol⟩ := f
  unfold flV Fl.Floor.size
  dsimp only at a1 a2 a3 a4 ⊢
  clear hb
  go_enter Tryz.func109, Tryz.ntmps109
  go_wp2_with fail
  go_ret
  exact ⟨rfl, (Below.refl _ _).alloc (Nat.le_refl _) _⟩
set_option maxHeartbeats 1000000 in
theorem is_any (f : Fl.Floor) (kv ov : Value) (c : Int) (w : World) (hb : FB f) :
    Calls Tryz.prog 151 #[flV f kv ov, .int .i64 c] w fun e w' => e = .returned (.bool (Fl.isC f c)) ∧ Below w.heap.size w w' := by
  have hc := fun W => size_any f kv ov W hb
  have HS : Hid (Fl.isC f c = (decide (0 ≤ c) && decide (c < f.size))) := Lib.hid rfl
  obtain ⟨S, hS⟩ : ∃ S, f.size = S := ⟨_, rfl⟩
  rw [hS] at hc HS
  unfold flV at hc ⊢
  have HC := Lib.hid hc
  clear hS hc
  by_cases h0 : 0 ≤ c
  · go_enter Tryz.func151, Tryz.ntmps151
    go_wp2_with fail
    go_at_call 109; refine (HC.out _).mono ?_; rintro e w1 ⟨rfl, b1⟩
    have B1 := Lib.hid b1
    clear b1
    go_wp2_with fail
    go_ret
    exact ⟨by rw [HS.out, decide_eq_true h0]; rfl, ((Below.refl _ w).alloc (Nat.le_refl _) _).trans (B1.out.mono (by simp))⟩
  · have HF : Hid (Fl.isC f c = false) := Lib.hid (by rw [HS.out, decide_eq_false h0, Bool.false_and])
    go_enter Tryz.func151, Tryz.ntmps151
    go_wp2_with fail
    go_ret
    exact ⟨by rw [HF.out]; rfl, (Below.refl _ _).alloc (Nat.le_refl _) _⟩
/-- The value of Cell, where there is one. -/
theorem cell_in {f : Fl.Floor} {x y z : Int} (hb : FB f) (x0 : 0 ≤ x) (y0 : 0 ≤ y) (z0 : 0 ≤ z) (x1 : x < f.w) (y1 : y < f.h) (z1 : z < f.d) :
    Fl.cell f x y z = (z * f.h + y) * f.w + x ∧ (0 ≤ z * f.h ∧ z * f.h ≤ 16384) ∧ 0 ≤ (z * f.h + y) * f.w ∧ (z * f.h + y) * f.w ≤ 83886080 := by
  have hw := hb.w2
  have hh := hb.h2
  have hd := hb.d2
  have e1 := mul_bd (a := z) (b := f.h) (A := 4) (B := 4096) z0 (by omega) (by have := hb.h1; omega) hh
  have e2 := mul_bd (a := z * f.h + y) (b := f.w) (A := 20480) (B := 4096) (by omega) (by omega) (by have := hb.w1; omega) hw
  refine ⟨?_, e1, e2⟩
  unfold Fl.cell
  rw [if_neg (by omega)]
theorem cell_out {f : Fl.Floor} {x y z : Int} (h : ¬ (0 ≤ x ∧ 0 ≤ y ∧ 0 ≤ z ∧ x < f.w ∧ y < f.h ∧ z < f.d)) : Fl.cell f x y z = -1 := by
  unfold Fl.cell
  rw [if_pos (by omega)]
set_option maxRecDepth 100000 in
set_option maxHeartbeats 4000000 in
theorem Cell_any (f : Fl.Floor) (kv ov : Value) (x y z : Int) (w : World) (hb : FB f) :
    Calls Tryz.prog 115 #[flV f kv ov, .int .i64 x, .int .i64 y, .int .i64 z] w fun e w' => e = .returned (.int .i64 (Fl.cell f x y z)) ∧ Below w.heap.size w w' := by
  have B1 := Lib.hid ((Below.refl _ w).alloc (Nat.le_refl _) (.cells #[.int .i64 f.w, .int .i64 f.h, .int .i64 f.d, kv, ov] 24))
  by_cases h : 0 ≤ x ∧ 0 ≤ y ∧ 0 ≤ z ∧ x < f.w ∧ y < f.h ∧ z < f.d
  · obtain ⟨x0, y0, z0, x1, y1, z1⟩ := h
    obtain ⟨hc, ⟨e1, e2⟩, e3, e4⟩ := cell_in hb x0 y0 z0 x1 y1 z1
    have HC := Lib.hid hc
    have h1 := hb.w2
    have h2 := hb.h2
    obtain ⟨fw, fh, fd, kl, ol⟩ := f
    unfold flV
    dsimp only at *
    clear hc hb
    go_enter Tryz.func115, Tryz.ntmps115
    go_wp2_with fail
    all_goals
      go_ret
      exact ⟨by rw [HC.out]; rfl, B1.out⟩
  · have HC := Lib.hid (cell_out h)
    obtain ⟨fw, fh, fd, kl, ol⟩ := f
    unfold flV
    dsimp only at *
    have H := Lib.hid h
    clear hb h
    go_enter Tryz.func115, Tryz.ntmps115
    go_wp2_with fail
    all_goals first
      | (exfalso; have := H.out; omega)
      | (go_ret; exact ⟨by rw [HC.out]; rfl, B1.out⟩)
end Go.Proofs.YtcdfmgobokjcnaaGreatDoor
/- States, faults and budgets among the values. -/
namespace Go.Proofs.YtcdfmgobokjcnaaGreatDoor
set_option linter.unusedSimpArgs false
set_option linter.unusedVariables false
open Go.RowKit

def robC (r : Bd.Robot) : List Value := [.int .i64 r.cell, .int .i64 r.load, .int .i64 r.charge, .int .i64 r.rest, .int .i64 r.mute, .bool r.dead]
def RoV (w : World) (v : Value) (l : List Bd.Robot) : Prop := Rw w v 6 (l.map robC)
theorem RoV.keep {w W : World} {v : Value} {l : List Bd.Robot} (h : RoV w v l) (hb : Below w.heap.size w W) : RoV W v l := Rw.keep h hb
theorem RoV.form {w : World} {v : Value} {l : List Bd.Robot} (h : RoV w v l) : ∃ a cap, v = .slice a l.length cap ∧ l.length ≤ 9223372036854775807 := by simpa using Rw.form h
theorem RoV.cell {w : World} {a : Option Addr} {n cap : Nat} {l : List Bd.Robot} (h : RoV w (.slice a n cap) l) (i : Nat) (hi : i < l.length) : ∃ b off, a = some ⟨b, off, none⟩ ∧ b < w.heap.size ∧
    w.cell? ⟨b, off + i * 6, none⟩ = some (.int .i64 l[i].cell) ∧ w.cell? ⟨b, off + i * 6 + 1, none⟩ = some (.int .i64 l[i].load) ∧ w.cell? ⟨b, off + i * 6 + 2, none⟩ = some (.int .i64 l[i].charge) ∧
    w.cell? ⟨b, off + i * 6 + 3, none⟩ = some (.int .i64 l[i].rest) ∧ w.cell? ⟨b, off + i * 6 + 4, none⟩ = some (.int .i64 l[i].mute) ∧ w.cell? ⟨b, off + i * 6 + 5, none⟩ = some (.bool l[i].dead) := by
  obtain ⟨b, off, rfl, hlt, hc⟩ := Rw.cell h i (by simpa using hi)
  rw [List.getElem_map] at hc
  exact ⟨b, off, rfl, hlt, hc 0 (by omega), hc 1 (by omega), hc 2 (by omega), hc 3 (by omega), hc 4 (by omega), hc 5 (by omega)⟩
/-- A state: its slices. -/
structure StV (w : World) (sv rv pv dv kv : Value) (s : Bd.State) : Prop where
  sh : Is w sv s.shelves
  ro : RoV w rv s.robots
  pe : Is w pv s.people
  de : Is w dv s.dead
  sk : Rw w kv 2 (s.stuck.map spanC)
theorem StV.keep {w W : World} {sv rv pv dv kv : Value} {s : Bd.State} (h : StV w sv rv pv dv kv s) (hb : Below w.heap.size w W) : StV W sv rv pv dv kv s :=
  ⟨h.sh.keep hb, h.ro.keep hb, h.pe.keep hb, h.de.keep hb, Rw.keep h.sk hb⟩
/-- The value of a state. -/
def stV (s : Bd.State) (sv rv pv dv kv : Value) : Value := .agg #[.int .i64 s.tick, sv, rv, pv, dv, kv]
/-- The slices of a state, opened. -/
theorem StV.open {w : World} {sv rv pv dv kv : Value} {s : Bd.State} (h : StV w sv rv pv dv kv s) : ∃ a1 c1 a2 c2 a3 c3 a4 c4 a5 c5, sv = .slice a1 s.shelves.length c1 ∧ rv = .slice a2 s.robots.length c2 ∧ pv = .slice a3 s.people.length c3 ∧ dv = .slice a4 s.dead.length c4 ∧ kv = .slice a5 s.stuck.length c5 ∧
    s.shelves.length ≤ 9223372036854775807 ∧ s.robots.length ≤ 9223372036854775807 ∧ s.people.length ≤ 9223372036854775807 ∧ s.dead.length ≤ 9223372036854775807 ∧ s.stuck.length ≤ 9223372036854775807 := by
  obtain ⟨a1, c1, e1, m1⟩ := h.sh.form
  obtain ⟨a2, c2, e2, m2⟩ := h.ro.form
  obtain ⟨a3, c3, e3, m3⟩ := h.pe.form
  obtain ⟨a4, c4, e4, m4⟩ := h.de.form
  obtain ⟨a5, c5, e5, m5⟩ := two_form h.sk
  exact ⟨a1, c1, a2, c2, a3, c3, a4, c4, a5, c5, e1, e2, e3, e4, e5, m1, m2, m3, m4, m5⟩
def fltC (x : Fa.Flt) : List Value := [.int .i64 x.kind, .int .i64 x.a, .int .i64 x.n]
theorem fltC_len (x : Fa.Flt) : (fltC x).length = 3 := rfl
/-- The value of a fault. -/
def fltV (x : Fa.Flt) : Value := .agg #[.int .i64 x.kind, .int .i64 x.a, .int .i64 x.n]
/-- A slice of faults. -/
def FtV (w : World) (v : Value) (l : List Fa.Flt) : Prop := Rw w v 3 (l.map fltC)
theorem FtV.keep {w W : World} {v : Value} {l : List Fa.Flt} (h : FtV w v l) (hb : Below w.heap.size w W) : FtV W v l := Rw.keep h hb
theorem FtV.form {w : World} {v : Value} {l : List Fa.Flt} (h : FtV w v l) : ∃ a cap, v = .slice a l.length cap ∧ l.length ≤ 9223372036854775807 := by simpa using Rw.form h
theorem FtV.cell {w : World} {a : Option Addr} {n cap : Nat} {l : List Fa.Flt} (h : FtV w (.slice a n cap) l) (i : Nat) (hi : i < l.length) : ∃ b off, a = some ⟨b, off, none⟩ ∧ b < w.heap.size ∧
    w.cell? ⟨b, off + i * 3, none⟩ = some (.int .i64 l[i].kind) ∧ w.cell? ⟨b, off + i * 3 + 1, none⟩ = some (.int .i64 l[i].a) ∧ w.cell? ⟨b, off + i * 3 + 2, none⟩ = some (.int .i64 l[i].n) := by
  obtain ⟨b, off, rfl, hlt, hc⟩ := Rw.cell h i (by simpa using hi)
  rw [List.getElem_map] at hc
  exact ⟨b, off, rfl, hlt, hc 0 (by omega), hc 1 (by omega), hc 2 (by omega)⟩
/-- The value of a budget. -/
def budA (b : Fa.Bud) : Array Value := #[.int .i64 b.stops, .int .i64 b.cells, .int .i64 b.mutes, .int .i64 b.muteMost, .int .i64 b.lifts, .int .i64 b.liftMost, .int .i64 b.steps]
/-- The numbers of a budget are numbers of Go. -/
structure BudN (b : Fa.Bud) : Prop where
  h1 : -9223372036854775808 ≤ b.stops ∧ b.stops ≤ 9223372036854775807
  h2 : -9223372036854775808 ≤ b.cells ∧ b.cells ≤ 9223372036854775807
  h3 : -9223372036854775808 ≤ b.mutes ∧ b.mutes ≤ 9223372036854775807
  h4 : -9223372036854775808 ≤ b.muteMost ∧ b.muteMost ≤ 9223372036854775807
  h5 : -9223372036854775808 ≤ b.lifts ∧ b.lifts ≤ 9223372036854775807
  h6 : -9223372036854775808 ≤ b.liftMost ∧ b.liftMost ≤ 9223372036854775807
  h7 : -9223372036854775808 ≤ b.steps ∧ b.steps ≤ 9223372036854775807
/-- The value of a site of which only the floor counts. -/
def siF (f : Fl.Floor) (kv ov zv av hv bv : Value) : Value := .agg #[.int .i64 f.w, .int .i64 f.h, .int .i64 f.d, kv, ov, zv, av, hv, bv]
end Go.Proofs.YtcdfmgobokjcnaaGreatDoor
/- Worlds with a few new blocks: where each lies. -/
namespace Go.Proofs.YtcdfmgobokjcnaaGreatDoor
open Go.RowKit
theorem al1 (w : World) (A : Obj) : (w.alloc A).heap[w.heap.size]? = some A ∧ Below w.heap.size w (w.alloc A) ∧ (w.alloc A).heap.size = w.heap.size + 1 :=
  ⟨heap_alloc_new _ _, (Below.refl _ _).alloc (Nat.le_refl _) _, by simp⟩
theorem al2 (w : World) (A B : Obj) : ((w.alloc A).alloc B).heap[w.heap.size]? = some A ∧ ((w.alloc A).alloc B).heap[w.heap.size + 1]? = some B ∧ Below w.heap.size w ((w.alloc A).alloc B) ∧ ((w.alloc A).alloc B).heap.size = w.heap.size + 2 := by
  obtain ⟨h1, h2, h3⟩ := al1 w A
  obtain ⟨k1, k2, k3⟩ := al1 (w.alloc A) B
  rw [h3] at k1 k2 k3
  exact ⟨(Below.heap_alloc _ _ _ (by omega)).trans h1, k1, h2.trans (k2.mono (by omega)), k3⟩
theorem al3 (w : World) (A B C : Obj) : (((w.alloc A).alloc B).alloc C).heap[w.heap.size]? = some A ∧ (((w.alloc A).alloc B).alloc C).heap[w.heap.size + 1]? = some B ∧ (((w.alloc A).alloc B).alloc C).heap[w.heap.size + 1 + 1]? = some C ∧
    Below w.heap.size w (((w.alloc A).alloc B).alloc C) ∧ (((w.alloc A).alloc B).alloc C).heap.size = w.heap.size + 3 := by
  obtain ⟨h1, h2, h3, h4⟩ := al2 w A B
  obtain ⟨k1, k2, k3⟩ := al1 ((w.alloc A).alloc B) C
  rw [h4] at k1 k2 k3
  exact ⟨(Below.heap_alloc _ _ _ (by omega)).trans h1, (Below.heap_alloc _ _ _ (by omega)).trans h2, k1, h3.trans (k2.mono (by omega)), k3⟩
theorem al4 (w : World) (A B C D : Obj) : ((((w.alloc A).alloc B).alloc C).alloc D).heap[w.heap.size]? = some A ∧ ((((w.alloc A).alloc B).alloc C).alloc D).heap[w.heap.size + 1]? = some B ∧ ((((w.alloc A).alloc B).alloc C).alloc D).heap[w.heap.size + 1 + 1]? = some C ∧
    ((((w.alloc A).alloc B).alloc C).alloc D).heap[w.heap.size + 1 + 1 + 1]? = some D ∧ Below w.heap.size w ((((w.alloc A).alloc B).alloc C).alloc D) ∧ ((((w.alloc A).alloc B).alloc C).alloc D).heap.size = w.heap.size + 4 := by
  obtain ⟨h1, h2, h3, h4, h5⟩ := al3 w A B C
  obtain ⟨k1, k2, k3⟩ := al1 (((w.alloc A).alloc B).alloc C) D
  rw [h5] at k1 k2 k3
  exact ⟨(Below.heap_alloc _ _ _ (by omega)).trans h1, (Below.heap_alloc _ _ _ (by omega)).trans h2, (Below.heap_alloc _ _ _ (by omega)).trans h3, k1, h4.trans (k2.mono (by omega)), k3⟩
end Go.Proofs.YtcdfmgobokjcnaaGreatDoor
/- Walks of package body: Low, High, at, Robot, Person. -/
namespace Go.Proofs.YtcdfmgobokjcnaaGreatDoor
set_option linter.unusedSimpArgs false
set_option linter.unusedVariables false
open Go.RowKit

/-- A number so small that its slots are numbers of Go. -/
def SmC (c : Int) : Prop := -1152921504606846976 ≤ c ∧ c ≤ 1152921504606846976
theorem is_new2 {W : World} {N : Nat} {a b : Int} {t : TypeId} (h : W.heap[N]? = some (.cells #[.int .i64 a, .int .i64 b] t (0, 0))) : Is W (.slice (some ⟨N, 0, none⟩) 2 2) [a, b] := by
  refine ⟨some ⟨N, 0, none⟩, 2, rfl, by simp [ints, maxLen], (fun h => by cases h), fun i hi => ⟨N, 0, rfl, ?_⟩⟩
  have : i = 0 ∨ i = 1 := by simp [ints] at hi; omega
  rcases this with rfl | rfl
  · exact cell_of_heap h 0 rfl
  · exact cell_of_heap h 1 rfl
theorem is_new1 {W : World} {N : Nat} {a : Int} {t : TypeId} (h : W.heap[N]? = some (.cells #[.int .i64 a] t (0, 0))) : Is W (.slice (some ⟨N, 0, none⟩) 1 1) [a] := by
  refine ⟨some ⟨N, 0, none⟩, 1, rfl, by simp [ints, maxLen], (fun h => by cases h), fun i hi => ⟨N, 0, rfl, ?_⟩⟩
  have : i = 0 := by simp [ints] at hi; omega
  subst this
  exact cell_of_heap h 0 rfl
/-- The value of a robot. -/
def robA (r : Bd.Robot) : Array Value := #[.int .i64 r.cell, .int .i64 r.load, .int .i64 r.charge, .int .i64 r.rest, .int .i64 r.mute, .bool r.dead]
theorem getD_lt2 {α : Type} (l : List α) (i : Nat) (x : α) (h : i < l.length) : l.getD i x = l[i] := by simp [List.getD, h]
/-- A new list of numbers is handed back. -/
def LsPost (L : List Int) (w : World) (e : Ending) (w' : World) : Prop := ∃ v, e = .returned v ∧ Is w' v L ∧ Below w.heap.size w w'
set_option maxHeartbeats 1000000 in
theorem Low_any (c : Int) (w : World) (h : SmC c) : Calls Tryz.prog 126 #[.int .i64 c] w fun e w' => e = .returned (.int .i64 (2 * c)) ∧ w = w' := by
  obtain ⟨h1, h2⟩ := h
  go_enter Tryz.func126, Tryz.ntmps126
  go_wp2_with fail
  go_ret
  exact ⟨rfl, rfl⟩
set_option maxHeartbeats 1000000 in
theorem High_any (c : Int) (w : World) (h : SmC c) : Calls Tryz.prog 127 #[.int .i64 c] w fun e w' => e = .returned (.int .i64 (2 * c + 1)) ∧ w = w' := by
  obtain ⟨h1, h2⟩ := h
  go_enter Tryz.func127, Tryz.ntmps127
  go_wp2_with fail
  go_ret
  exact ⟨rfl, rfl⟩
set_option maxRecDepth 100000 in
set_option maxHeartbeats 4000000 in
theorem at_any (r : Bd.Robot) (c : Int) (w : World) (h : SmC c) : Calls Tryz.prog 152 #[.agg (robA r), .int .i64 c] w (LsPost (Bd.atL r.load c) w) := by
  have HLo := Lib.hid (fun W => Low_any c W h)
  have HHi := Lib.hid (fun W => High_any c W h)
  obtain ⟨L, hL⟩ : ∃ L, r.load = L := ⟨_, rfl⟩
  obtain ⟨C, hC⟩ : ∃ L, r.cell = L := ⟨_, rfl⟩
  unfold robA
  rw [hL, hC]
  unfold LsPost
  by_cases h0 : 0 ≤ L
  · have HA : Hid (Bd.atL L c = [2 * c, 2 * c + 1]) := Lib.hid (by unfold Bd.atL; rw [if_pos h0])
    have HB := Lib.hid (al2 w (.cells #[.int .i64 C, .int .i64 L, .int .i64 r.charge, .int .i64 r.rest, .int .i64 r.mute, .bool r.dead] 72) (.cells #[.int .i64 (2 * c), .int .i64 (2 * c + 1)] 3))
    clear hL hC h
    go_enter Tryz.func152, Tryz.ntmps152
    go_wp2_with (first | (go_at_call 126; refine (HLo.out _).mono ?_; rintro e w1 ⟨rfl, rfl⟩) | (go_at_call 127; refine (HHi.out _).mono ?_; rintro e w1 ⟨rfl, rfl⟩))
    go_ret
    exact ⟨_, rfl, by rw [HA.out]; exact is_new2 HB.out.2.1, HB.out.2.2.1⟩
  · have HA : Hid (Bd.atL L c = [2 * c]) := Lib.hid (by unfold Bd.atL; rw [if_neg h0])
    have HB := Lib.hid (al2 w (.cells #[.int .i64 C, .int .i64 L, .int .i64 r.charge, .int .i64 r.rest, .int .i64 r.mute, .bool r.dead] 72) (.cells #[.int .i64 (2 * c)] 3))
    clear hL hC h
    go_enter Tryz.func152, Tryz.ntmps152
    go_wp2_with (first | (go_at_call 126; refine (HLo.out _).mono ?_; rintro e w1 ⟨rfl, rfl⟩) | (go_at_call 127; refine (HHi.out _).mono ?_; rintro e w1 ⟨rfl, rfl⟩))
    go_ret
    exact ⟨_, rfl, by rw [HA.out]; exact is_new1 HB.out.2.1, HB.out.2.2.1⟩
set_option maxRecDepth 100000 in
set_option maxHeartbeats 8000000 in
theorem Robot_any (s : Bd.State) (sv rv pv dv kv : Value) (i : Nat) (w : World) (h : StV w sv rv pv dv kv s) (hi : i < s.robots.length) (hc : SmC s.robots[i].cell) :
    Calls Tryz.prog 120 #[stV s sv rv pv dv kv, .int .i64 (i : Int)] w (LsPost (Bd.robotL s.robots[i]) w) := by
  obtain ⟨a1, c1, a2, c2, a3, c3, a4, c4, a5, c5, rfl, rfl, rfl, rfl, rfl, m1, m2, m3, m4, m5⟩ := h.open
  obtain ⟨rb, ro, rfl, hrb, r0, r1, r2, r3, r4, r5⟩ := h.ro.cell i hi
  obtain ⟨X, hX⟩ : ∃ X, s.robots[i] = X := ⟨_, rfl⟩
  rw [hX] at r0 r1 r2 r3 r4 r5 hc ⊢
  have HAT := Lib.hid (fun W => at_any X X.cell W hc)
  unfold Bd.robotL
  obtain ⟨RL, hRL⟩ : ∃ R, Bd.atL X.load X.cell = R := ⟨_, rfl⟩
  rw [hRL] at HAT ⊢
  unfold robA at HAT
  unfold stV LsPost at *
  obtain ⟨n1, e1⟩ : ∃ n, s.shelves.length = n := ⟨_, rfl⟩
  obtain ⟨n2, e2⟩ : ∃ n, s.robots.length = n := ⟨_, rfl⟩
  obtain ⟨n3, e3⟩ : ∃ n, s.people.length = n := ⟨_, rfl⟩
  obtain ⟨n4, e4⟩ : ∃ n, s.dead.length = n := ⟨_, rfl⟩
  obtain ⟨n5, e5⟩ : ∃ n, s.stuck.length = n := ⟨_, rfl⟩
  rw [e2] at hi m2
  rw [e1, e2, e3, e4, e5]
  obtain ⟨w1, hw1⟩ : ∃ W, W = w.alloc (.cells #[.int .i64 s.tick, .slice a1 n1 c1, .slice (some ⟨rb, ro, none⟩) n2 c2, .slice a3 n3 c3, .slice a4 n4 c4, .slice a5 n5 c5] 34) := ⟨_, rfl⟩
  have HB := Lib.hid (al1 w (.cells #[.int .i64 s.tick, .slice a1 n1 c1, .slice (some ⟨rb, ro, none⟩) n2 c2, .slice a3 n3 c3, .slice a4 n4 c4, .slice a5 n5 c5] 34))
  rw [← hw1] at HB
  have HW := Lib.hid hw1
  have HBb := HB.out.2.1
  rw [← HBb.cell (p := ⟨rb, ro + i * 6, none⟩) hrb] at r0
  rw [← HBb.cell (p := ⟨rb, ro + i * 6 + 1, none⟩) hrb] at r1
  rw [← HBb.cell (p := ⟨rb, ro + i * 6 + 2, none⟩) hrb] at r2
  rw [← HBb.cell (p := ⟨rb, ro + i * 6 + 3, none⟩) hrb] at r3
  rw [← HBb.cell (p := ⟨rb, ro + i * 6 + 4, none⟩) hrb] at r4
  rw [← HBb.cell (p := ⟨rb, ro + i * 6 + 5, none⟩) hrb] at r5
  clear HBb e1 e2 e3 e4 e5 h hX hc hRL hw1
  have i0 : (0 : Int) ≤ (i : Int) := by omega
  have i1 : (i : Int) < (n2 : Int) := by omega
  go_enter Tryz.func120, Tryz.ntmps120
  go_upto_region 1 with fail
  rw [← HW.out]
  have HI := cell_of_heap HB.out.1 2 (v := .slice (some ⟨rb, ro, none⟩) n2 c2) rfl
  go_upto_region 3 with fail
  have BX : Below w1.heap.size w1 w1.drew := below_drewN _ _ 1
  have lw : w.heap.size < w1.heap.size := by have := HB.out.2.2; omega
  have lr : rb < w1.heap.size := by omega
  go_region_held3 (fun w' => w'.cell? ⟨w.heap.size, 2, none⟩ = some (.slice (some ⟨rb, ro, none⟩) n2 c2) ∧ w'.cell? ⟨rb, ro + i * 6, none⟩ = some (.int .i64 X.cell) ∧ w'.cell? ⟨rb, ro + i * 6 + 1, none⟩ = some (.int .i64 X.load) ∧ w'.cell? ⟨rb, ro + i * 6 + 2, none⟩ = some (.int .i64 X.charge) ∧ w'.cell? ⟨rb, ro + i * 6 + 3, none⟩ = some (.int .i64 X.rest) ∧ w'.cell? ⟨rb, ro + i * 6 + 4, none⟩ = some (.int .i64 X.mute) ∧ w'.cell? ⟨rb, ro + i * 6 + 5, none⟩ = some (.bool X.dead)) (go_keep)
    ((go_at_call 152; refine (HAT.out _).mono ?_; rintro e w5 ⟨v5, rfl, l5, b5⟩; have BX : Below w1.heap.size w1 w5 := BX.trans (b5.mono BX.size); have s0 := (BX.cell (p := ⟨w.heap.size, 2, none⟩) lw).trans HI; have s1 := (BX.cell (p := ⟨rb, ro + i * 6, none⟩) lr).trans r0; have s2 := (BX.cell (p := ⟨rb, ro + i * 6 + 1, none⟩) lr).trans r1; have s3 := (BX.cell (p := ⟨rb, ro + i * 6 + 2, none⟩) lr).trans r2; have s4 := (BX.cell (p := ⟨rb, ro + i * 6 + 3, none⟩) lr).trans r3; have s5 := (BX.cell (p := ⟨rb, ro + i * 6 + 4, none⟩) lr).trans r4; have s6 := (BX.cell (p := ⟨rb, ro + i * 6 + 5, none⟩) lr).trans r5; clear b5))
  all_goals go_wp2_with fail
  all_goals
    go_ret
    exact ⟨_, rfl, l5, HB.out.2.1.trans (BX.mono (by omega))⟩
end Go.Proofs.YtcdfmgobokjcnaaGreatDoor
