import Derived.Test.YtcdfmgobokjcnaaGreatDoorZC
/- Parts Rk, Rl, Rm, Rn, Rv, Rh, Ro of this claim, laid one behind the other: walks and the plain laws behind them; each contract states its own conditions. -/
/- Walks of package taquinref11, in few words: Name. -/
namespace Go.Proofs.YtcdfmgobokjcnaaGreatDoor
set_option linter.unusedSimpArgs false
set_option linter.unusedVariables false
open Go.RowKit

def IsB (v : Value) : Prop := ∃ d : Bool, v = .bool d
def ABool (e : Ending) : Prop := ∃ r : Bool, e = .returned (.bool r)
end Go.Proofs.YtcdfmgobokjcnaaGreatDoor
/- Walks of package taquinref11, in few words: shelfAt, robotAt. -/
namespace Go.Proofs.YtcdfmgobokjcnaaGreatDoor
set_option linter.unusedSimpArgs false
set_option linter.unusedVariables false
open Go.RowKit

/-- None of the pairs begins with a number. -/
def noAt {α : Type} (l : List (Int × α)) (c : Int) : Prop := ∀ x ∈ l, x.1 ≠ c
end Go.Proofs.YtcdfmgobokjcnaaGreatDoor
/- Walks of package taquinref11, in few words: named, spans. -/
namespace Go.Proofs.YtcdfmgobokjcnaaGreatDoor
set_option linter.unusedSimpArgs false
set_option linter.unusedVariables false
open Go.RowKit

end Go.Proofs.YtcdfmgobokjcnaaGreatDoor
/- Walks of package taquinref11, in few words: spans. -/
namespace Go.Proofs.YtcdfmgobokjcnaaGreatDoor
set_option linter.unusedSimpArgs false
set_option linter.unusedVariables false
open Go.RowKit

end Go.Proofs.YtcdfmgobokjcnaaGreatDoor
/- Walks of package taquinref11, exact: shelfAt, robotAt, named, spans. -/
namespace Go.Proofs.YtcdfmgobokjcnaaGreatDoor
set_option linter.unusedSimpArgs false
set_option linter.unusedVariables false
open Go.RowKit

/-- The first place of a list that has a property; -1, if there is none. -/
def idxI {α : Type} (p : α → Bool) : List α → Int
  | [] => -1
  | x :: l => if p x = true then 0 else if idxI p l < 0 then -1 else idxI p l + 1
theorem idxI_lt {α : Type} (p : α → Bool) : ∀ l : List α, -1 ≤ idxI p l ∧ idxI p l < l.length
  | [] => by simp [idxI]
  | x :: l => by
    have ih := idxI_lt p l
    rw [idxI, List.length_cons]
    split
    · omega
    · split <;> omega
theorem idxI_neg {α : Type} (p : α → Bool) : ∀ l : List α, idxI p l < 0 ↔ ∀ x ∈ l, p x = false
  | [] => by simp [idxI]
  | x :: l => by
    have ih := idxI_neg p l
    have hr := idxI_lt p l
    rw [idxI]
    by_cases hx : p x = true
    · rw [if_pos hx]
      constructor
      · intro h; omega
      · intro h; have := h x (List.mem_cons_self ..); rw [hx] at this; cases this
    · rw [if_neg hx]
      have hx' : p x = false := by simpa using hx
      by_cases hl : idxI p l < 0
      · rw [if_pos hl]
        refine ⟨fun _ y hy => ?_, fun _ => by omega⟩
        rcases List.mem_cons.1 hy with rfl | hy
        · exact hx'
        · exact ih.1 hl y hy
      · rw [if_neg hl]
        exact ⟨fun h => by omega, fun h => absurd (ih.2 fun y hy => h y (List.mem_cons_of_mem _ hy)) hl⟩
def sIdx {α : Type} (l : List (Int × α)) (c : Int) : Int := idxI (fun x => decide (x.1 = c)) l
theorem sIdx_neg {α : Type} (l : List (Int × α)) (c : Int) : sIdx l c < 0 ↔ noAt l c := by
  unfold sIdx noAt
  rw [idxI_neg]
  simp
end Go.Proofs.YtcdfmgobokjcnaaGreatDoor
/- Walks of package taquinref07: Size, Is, Cell, Has, Same, Few. -/
namespace Go.Proofs.YtcdfmgobokjcnaaGreatDoor
set_option linter.unusedSimpArgs false
set_option linter.unusedVariables false
open Go.RowKit

set_option maxHeartbeats 1000000 in
theorem rSize_any (f : Fl.Floor) (kv ov : Value) (w : World) (hb : FB f) :
    Calls Tryz.prog 171 #[flV f kv ov] w fun e w' => e = .returned (.int .i64 f.size) ∧ Below w.heap.size w w' := by
  obtain ⟨⟨a1, a2⟩, a3, a4⟩ := hb.size
  obtain ⟨fw, fh, fd, kl, ol⟩ := f
  unfold flV Fl.Floor.size
  dsimp only at a1 a2 a3 a4 ⊢
  clear hb
  go_enter Tryz.func171, Tryz.ntmps171
  go_wp2_with fail
  go_ret
  exact ⟨rfl, (Below.refl _ _).alloc (Nat.le_refl _) _⟩
set_option maxHeartbeats 1000000 in
theorem rIs_any (f : Fl.Floor) (kv ov : Value) (c : Int) (w : World) (hb : FB f) :
    Calls Tryz.prog 144 #[flV f kv ov, .int .i64 c] w fun e w' => e = .returned (.bool (Fl.isC f c)) ∧ Below w.heap.size w w' := by
  have hc := fun W => rSize_any f kv ov W hb
  have HS : Hid (Fl.isC f c = (decide (0 ≤ c) && decide (c < f.size))) := Lib.hid rfl
  obtain ⟨S, hS⟩ : ∃ S, f.size = S := ⟨_, rfl⟩
  rw [hS] at hc HS
  unfold flV at hc ⊢
  have HC := Lib.hid hc
  clear hS hc
  by_cases h0 : 0 ≤ c
  · go_enter Tryz.func144, Tryz.ntmps144
    go_wp2_with fail
    go_at_call 171; refine (HC.out _).mono ?_; rintro e w1 ⟨rfl, b1⟩
    have B1 := Lib.hid b1
    clear b1
    go_wp2_with fail
    go_ret
    exact ⟨by rw [HS.out, decide_eq_true h0]; rfl, ((Below.refl _ w).alloc (Nat.le_refl _) _).trans (B1.out.mono (by simp))⟩
  · have HF : Hid (Fl.isC f c = false) := Lib.hid (by rw [HS.out, decide_eq_false h0, Bool.false_and])
    go_enter Tryz.func144, Tryz.ntmps144
    go_wp2_with fail
    go_ret
    exact ⟨by rw [HF.out]; rfl, (Below.refl _ _).alloc (Nat.le_refl _) _⟩
set_option maxRecDepth 100000 in
set_option maxHeartbeats 4000000 in
theorem rCell_any (f : Fl.Floor) (kv ov : Value) (x y z : Int) (w : World) (hb : FB f) :
    Calls Tryz.prog 173 #[flV f kv ov, .int .i64 x, .int .i64 y, .int .i64 z] w fun e w' => e = .returned (.int .i64 (Fl.cell f x y z)) ∧ Below w.heap.size w w' := by
  have B1 := Lib.hid ((Below.refl _ w).alloc (Nat.le_refl _) (.cells #[.int .i64 f.w, .int .i64 f.h, .int .i64 f.d, kv, ov] 24))
  by_cases h : 0 ≤ x ∧ 0 ≤ y ∧ 0 ≤ z ∧ x < f.w ∧ y < f.h ∧ z < f.d
  · obtain ⟨x0, y0, z0, x1, y1, z1⟩ := h
    obtain ⟨hc, ⟨e1, e2⟩, e3, e4⟩ := cell_in hb x0 y0 z0 x1 y1 z1
    have HC := Lib.hid hc
    have h1 := hb.w2
    have h2 := hb.h2
    obtain ⟨fw, fh, fd, kl, ol⟩ := f
    unfold flV
    dsimp only at *
    clear hc hb
    go_enter Tryz.func173, Tryz.ntmps173
    go_wp2_with fail
    all_goals
      go_ret
      exact ⟨by rw [HC.out]; rfl, B1.out⟩
  · have HC := Lib.hid (cell_out h)
    obtain ⟨fw, fh, fd, kl, ol⟩ := f
    unfold flV
    dsimp only at *
    have H := Lib.hid h
    clear hb h
    go_enter Tryz.func173, Tryz.ntmps173
    go_wp2_with fail
    all_goals first
      | (exfalso; have := H.out; omega)
      | (go_ret; exact ⟨by rw [HC.out]; rfl, B1.out⟩)
set_option maxRecDepth 100000 in
set_option maxHeartbeats 4000000 in
theorem Has_any (v : Value) (l : List Int) (x : Int) (w : World) (h : Is w v l) :
    Calls Tryz.prog 39 #[v, .int .i64 x] w fun e w' => e = .returned (.bool (l.any fun y => decide (y = x))) ∧ w = w' := by
  obtain ⟨a, cap, rfl, hm⟩ := h.form
  obtain ⟨R, hR⟩ : ∃ R, (l.any fun y => decide (y = x)) = R := ⟨_, rfl⟩
  have HR : Hid (((l.drop 0).any fun y => decide (y = x)) = R) := Lib.hid hR
  rw [hR]
  obtain ⟨n, hn⟩ : ∃ n, l.length = n := ⟨_, rfl⟩
  have H := Lib.hid h
  rw [hn] at hm H ⊢
  have HN := Lib.hid hn
  clear h hR hn
  go_enter Tryz.func39, Tryz.ntmps39
  go_wp2_with fail
  go_loop [5] (fun iv => ∃ k : Nat, k ≤ n ∧ iv = .int .i64 k ∧ Hid (((l.drop k).any fun y => decide (y = x)) = R)) (fun iv => n - (intOf iv).toNat)
  case atStart => exact ⟨0, by omega, rfl, HR⟩
  case round =>
    obtain ⟨k, hk, rfl, HK⟩ := hrel
    by_cases hkn : k < n
    · have hkl : k < l.length := by rw [HN.out]; exact hkn
      obtain ⟨b, off, e1, c0⟩ := H.out.cell k hkl
      subst e1
      obtain ⟨y, hy⟩ : ∃ y, l[k] = y := ⟨_, rfl⟩
      rw [hy] at c0
      have HD : Hid ((decide (y = x) || (l.drop (k + 1)).any fun y => decide (y = x)) = R) := Lib.hid (by rw [← HK.out, List.drop_eq_getElem_cons hkl, List.any_cons, hy])
      have k1 : (k : Int) < (n : Int) := by omega
      have k0 : (0 : Int) ≤ (k : Int) := by omega
      clear hy
      by_cases hyx : y = x
      · have hb : (y == x) = true := by simp [hyx]
        have HF : Hid (R = true) := Lib.hid (by rw [← HD.out, decide_eq_true hyx, Bool.true_or])
        clear hyx
        go_wp2_with fail
        go_ret
        exact ⟨by rw [HF.out]; rfl, rfl⟩
      · have hb : (y == x) = false := by simp [hyx]
        have HF : Hid (((l.drop (k + 1)).any fun y => decide (y = x)) = R) := Lib.hid (by rw [← HD.out, decide_eq_false hyx, Bool.false_or])
        clear hyx
        go_wp2_with fail
        go_round
        case rel => exact ⟨k + 1, by omega, by go_num, HF⟩
        case measure => simp [intOf]; omega
    · have HF : Hid (R = false) := Lib.hid (by rw [← HK.out, List.drop_eq_nil_of_le (by rw [HN.out]; omega)]; rfl)
      go_wp2_with fail
      go_ret
      exact ⟨by rw [HF.out]; rfl, rfl⟩
set_option maxRecDepth 100000 in
set_option maxHeartbeats 4000000 in
theorem rFew_any (f : Fl.Floor) (kv ov : Value) (c : Int) (w : World) (h : FlV w kv ov f) :
    Calls Tryz.prog 68 #[flV f kv ov, .int .i64 c] w fun e w' => e = .returned (.bool (decide ((f.kind.length : Int) ≤ c) && decide ((f.out.length : Int) ≤ c))) ∧ Below w.heap.size w w' := by
  obtain ⟨a1, c1, rfl, m1⟩ := h.kind.form
  obtain ⟨a2, c2, rfl, m2⟩ := h.out.form
  clear h
  unfold flV
  obtain ⟨n1, e1⟩ : ∃ n, f.kind.length = n := ⟨_, rfl⟩
  obtain ⟨n2, e2⟩ : ∃ n, f.out.length = n := ⟨_, rfl⟩
  rw [e1] at m1 ⊢
  rw [e2] at m2 ⊢
  clear e1 e2
  by_cases h1 : (n1 : Int) ≤ c
  · go_enter Tryz.func68, Tryz.ntmps68
    go_wp2_with fail
    go_ret
    exact ⟨by simp [h1], (Below.refl _ _).alloc (Nat.le_refl _) _⟩
  · go_enter Tryz.func68, Tryz.ntmps68
    go_wp2_with fail
    go_ret
    exact ⟨by simp [h1]; omega, (Below.refl _ _).alloc (Nat.le_refl _) _⟩
end Go.Proofs.YtcdfmgobokjcnaaGreatDoor
/- Walks of package taquinref11: zoneAt. -/
namespace Go.Proofs.YtcdfmgobokjcnaaGreatDoor
set_option linter.unusedSimpArgs false
set_option linter.unusedVariables false
open Go.RowKit

/-- Whether a cell lies in one of the zones. -/
def zoned (l : List Si.Zone) (c : Int) : Bool := l.any fun z => z.cells.any fun y => decide (y = c)
end Go.Proofs.YtcdfmgobokjcnaaGreatDoor

/- Parts Rq, So, Rw, Rt, Ru, Ry, Rr of this claim, laid one behind the other: walks and the plain laws behind them; each contract states its own conditions. -/
/- Walks of package taquinref11: stands, zoned, charger. -/
namespace Go.Proofs.YtcdfmgobokjcnaaGreatDoor
set_option linter.unusedSimpArgs false
set_option linter.unusedVariables false
open Go.RowKit

end Go.Proofs.YtcdfmgobokjcnaaGreatDoor
/- The value of a site; its slices. -/
namespace Go.Proofs.YtcdfmgobokjcnaaGreatDoor
set_option linter.unusedSimpArgs false
set_option linter.unusedVariables false
open Go.RowKit

/-- The value of a site. -/
def siV (s : Si.Site) (kv ov zv av sv rv : Value) : Value := .agg #[.int .i64 s.floor.w, .int .i64 s.floor.h, .int .i64 s.floor.d, kv, ov, zv, av, sv, rv]
/-- The nine cells of a site, its slices open. -/
theorem SiV.open {w : World} {kv ov zv av sv rv : Value} {s : Si.Site} (h : SiV w kv ov zv av sv rv s) : ∃ a1 c1 a2 c2 a3 c3 a4 c4 a5 c5 a6 c6, kv = .slice a1 s.floor.kind.length c1 ∧ ov = .slice a2 s.floor.out.length c2 ∧ zv = .slice a3 s.zones.length c3 ∧ av = .slice a4 s.aparts.length c4 ∧ sv = .slice a5 s.shelves.length c5 ∧ rv = .slice a6 s.robots.length c6 ∧
    s.floor.kind.length ≤ 9223372036854775807 ∧ s.floor.out.length ≤ 9223372036854775807 ∧ s.zones.length ≤ 9223372036854775807 ∧ s.aparts.length ≤ 9223372036854775807 ∧ s.shelves.length ≤ 9223372036854775807 ∧ s.robots.length ≤ 9223372036854775807 := by
  obtain ⟨a1, c1, e1, m1⟩ := h.fl.kind.form
  obtain ⟨a2, c2, e2, m2⟩ := h.fl.out.form
  obtain ⟨a3, c3, e3, m3⟩ := h.zn.form
  obtain ⟨a4, c4, e4, m4⟩ := two_form h.ap
  obtain ⟨a5, c5, e5, m5⟩ := two_form h.sf
  obtain ⟨a6, c6, e6, m6⟩ := two_form h.rb
  exact ⟨a1, c1, a2, c2, a3, c3, a4, c4, a5, c5, a6, c6, e1, e2, e3, e4, e5, e6, m1, m2, m3, m4, m5, m6⟩
theorem heap_two0 (w : World) (A B : Obj) : ((w.alloc A).alloc B).heap[w.heap.size]? = some A :=
  (Below.heap_alloc (w.alloc A) B w.heap.size (by simp)).trans (heap_alloc_new w A)
end Go.Proofs.YtcdfmgobokjcnaaGreatDoor
/- Walks of package taquinref11: blanks. -/
namespace Go.Proofs.YtcdfmgobokjcnaaGreatDoor
set_option linter.unusedSimpArgs false
set_option linter.unusedVariables false
open Go.RowKit

end Go.Proofs.YtcdfmgobokjcnaaGreatDoor
/- Walks of package taquinref11: charger. -/
namespace Go.Proofs.YtcdfmgobokjcnaaGreatDoor
set_option linter.unusedSimpArgs false
set_option linter.unusedVariables false
open Go.RowKit

end Go.Proofs.YtcdfmgobokjcnaaGreatDoor
/- Walks of package taquinref11, in few words: Apart. -/
namespace Go.Proofs.YtcdfmgobokjcnaaGreatDoor
set_option linter.unusedSimpArgs false
set_option linter.unusedVariables false
open Go.RowKit

end Go.Proofs.YtcdfmgobokjcnaaGreatDoor
/- Walks of package taquinref11, one value whatever the world: Name, Apart. -/
namespace Go.Proofs.YtcdfmgobokjcnaaGreatDoor
set_option linter.unusedSimpArgs false
set_option linter.unusedVariables false
open Go.RowKit

end Go.Proofs.YtcdfmgobokjcnaaGreatDoor
/- Walks of package taquinref07: Right. -/
namespace Go.Proofs.YtcdfmgobokjcnaaGreatDoor
set_option linter.unusedSimpArgs false
set_option linter.unusedVariables false
open Go.RowKit

/-- The first cells are right. -/
def okTo (f : Fl.Floor) (k : Nat) : Prop := ∀ i, i < k → (∀ h : i < f.kind.length, 0 ≤ f.kind[i] ∧ f.kind[i] < 7) ∧ ∀ h : i < f.out.length, 0 ≤ f.out[i] ∧ f.out[i] ≤ 63
theorem right_of {f : Fl.Floor} (hb : FB f) (hs : f.size ≤ 4096) (h1 : (f.kind.length : Int) = f.size) (h2 : (f.out.length : Int) = f.size) (h : okTo f f.kind.length) : Fl.Right f := by
  have e : f.out.length = f.kind.length := by omega
  refine ⟨hb.w1, hb.h1, hb.d1, hb.w2, hb.h2, hb.d2, h1, e, hs, fun k hk => ?_, fun o ho => ?_⟩
  · obtain ⟨i, hi, rfl⟩ := List.getElem_of_mem hk
    exact (h i hi).1 hi
  · obtain ⟨i, hi, rfl⟩ := List.getElem_of_mem ho
    exact (h i (by omega)).2 hi
end Go.Proofs.YtcdfmgobokjcnaaGreatDoor

/- Parts Rz of this claim, laid one behind the other: walks and the plain laws behind them; each contract states its own conditions. -/
/- Walks of package taquinref11: rightZones. -/
namespace Go.Proofs.YtcdfmgobokjcnaaGreatDoor
set_option linter.unusedSimpArgs false
set_option linter.unusedVariables false
open Go.RowKit

def znKind (f : Fl.Floor) (c : Int) : Prop := Fl.isC f c = true ∧ Si.kindAt f c ≠ 0 ∧ Si.kindAt f c ≠ 4 ∧ Si.kindAt f c ≠ 5
def znNum (z : Si.Zone) : Prop := z.cells ≠ [] ∧ z.cells.Pairwise (· < ·) ∧ 0 ≤ z.keep ∧ 1 ≤ z.speed ∧ z.speed ≤ 100
structure ZOk (f : Fl.Floor) (zs : List Si.Zone) : Prop where
  a : ∀ z ∈ zs, znNum z
  b : ∀ z ∈ zs, ∀ c ∈ z.cells, znKind f c
  d : zs.Pairwise (fun y z => ∀ c ∈ y.cells, c ∉ z.cells)
theorem ZOk.nil (f : Fl.Floor) : ZOk f [] := ⟨fun z h => (by cases h), fun z h => (by cases h), List.Pairwise.nil⟩
theorem ZOk.step {f : Fl.Floor} {zs : List Si.Zone} {k : Nat} (h : ZOk f (zs.take k)) (hk : k < zs.length) (h1 : znNum zs[k]) (h2 : ∀ c ∈ zs[k].cells, znKind f c ∧ zoned (zs.take k) c = false) : ZOk f (zs.take (k + 1)) := by
  rw [List.take_succ_eq_append_getElem hk]
  refine ⟨fun z hz => ?_, fun z hz => ?_, ?_⟩
  · rcases List.mem_append.1 hz with h3 | h3
    · exact h.a z h3
    · rw [List.mem_singleton] at h3; subst h3; exact h1
  · rcases List.mem_append.1 hz with h3 | h3
    · exact h.b z h3
    · rw [List.mem_singleton] at h3; subst h3; exact fun c hc => (h2 c hc).1
  · rw [List.pairwise_append]
    refine ⟨h.d, by simp, fun y hy z hz c hc hcz => ?_⟩
    rw [List.mem_singleton] at hz; subst hz
    have := (h2 c hcz).2
    unfold zoned at this
    rw [List.any_eq_false] at this
    have := this y hy
    rw [List.any_eq_true] at this
    exact this ⟨c, hc, by simp⟩
/-- The first cells of a zone are right. -/
structure COk (f : Fl.Floor) (zs : List Si.Zone) (l : List Int) : Prop where
  a : ∀ c ∈ l, znKind f c ∧ zoned zs c = false
  p : l.Pairwise (· < ·)
theorem COk.nil (f : Fl.Floor) (zs : List Si.Zone) : COk f zs [] := ⟨fun z h => (by cases h), List.Pairwise.nil⟩
theorem COk.step {f : Fl.Floor} {zs : List Si.Zone} {l : List Int} {j : Nat} (h : COk f zs (l.take j)) (hj : j < l.length) (h1 : znKind f l[j]) (h2 : zoned zs l[j] = false) (h3 : ∀ p, j = p + 1 → (hp : p < l.length) → l[p] < l[j]) : COk f zs (l.take (j + 1)) := by
  rw [List.take_succ_eq_append_getElem hj]
  refine ⟨fun c hc => ?_, ?_⟩
  · rcases List.mem_append.1 hc with h4 | h4
    · exact h.a c h4
    · rw [List.mem_singleton] at h4; subst h4; exact ⟨h1, h2⟩
  · rw [List.pairwise_append]
    refine ⟨h.p, by simp, fun x hx y hy => ?_⟩
    rw [List.mem_singleton] at hy; subst hy
    cases j with
    | zero => simp at hx
    | succ p =>
      have hl := h3 p rfl (by omega)
      have hp := h.p
      rw [List.take_succ_eq_append_getElem (by omega)] at hx hp
      rw [List.pairwise_append] at hp
      rcases List.mem_append.1 hx with h4 | h4
      · have := hp.2.2 x h4 l[p] (by simp); omega
      · rw [List.mem_singleton] at h4; subst h4; exact hl
theorem Rw.take {w : World} {a : Option Addr} {n cap k : Nat} {xs : List (List Value)} (h : Rw w (.slice a n cap) k xs) (i : Nat) (hi : i ≤ xs.length) : Rw w (.slice a i cap) k (xs.take i) := by
  obtain ⟨a2, cap2, e, hm, hn, hc⟩ := h
  injection e with e1 e2 e3
  subst e1 e3
  refine ⟨a, cap, by rw [List.length_take, Nat.min_eq_left hi], by rw [List.length_take]; omega, hn, fun j hj => ?_⟩
  rw [List.length_take] at hj
  obtain ⟨b, off, h1, h2, h3⟩ := hc j (by omega)
  exact ⟨b, off, h1, h2, by rw [List.getElem_take]; exact h3⟩
theorem ZnV.take {w : World} {a : Option Addr} {n cap : Nat} {zs : List Si.Zone} (h : ZnV w (.slice a n cap) zs) (i : Nat) (hi : i ≤ zs.length) : ZnV w (.slice a i cap) (zs.take i) := by
  obtain ⟨l, h1, h2, h3⟩ := h
  have hl : l.length = zs.length := by rw [← h1, List.length_map]
  refine ⟨l.take i, by rw [List.map_take, h1], by rw [List.map_take]; exact h2.take i (by rw [List.length_map]; omega), fun x hx => h3 x (List.mem_of_mem_take hx)⟩
theorem SfV.take {w : World} {a : Option Addr} {n cap : Nat} {l : List (Int × List UInt8)} (h : SfV w (.slice a n cap) l) (i : Nat) (hi : i ≤ l.length) : SfV w (.slice a i cap) (l.take i) := by
  unfold SfV; rw [List.map_take]; exact Rw.take h i (by rw [List.length_map]; exact hi)
theorem RbV.take {w : World} {a : Option Addr} {n cap : Nat} {l : List (Int × Int)} (h : RbV w (.slice a n cap) l) (i : Nat) (hi : i ≤ l.length) : RbV w (.slice a i cap) (l.take i) := by
  unfold RbV; rw [List.map_take]; exact Rw.take h i (by rw [List.length_map]; exact hi)
theorem ApV.take {w : World} {a : Option Addr} {n cap : Nat} {l : List (List UInt8 × List UInt8)} (h : ApV w (.slice a n cap) l) (i : Nat) (hi : i ≤ l.length) : ApV w (.slice a i cap) (l.take i) := by
  unfold ApV; rw [List.map_take]; exact Rw.take h i (by rw [List.length_map]; exact hi)
/-- Two answers: a bool; where it is true, something holds. -/
def TruePost (p : Prop) (e : Ending) : Prop := ∃ r : Bool, e = .returned (.bool r) ∧ (r = true → p)
theorem TruePost.no (p : Prop) : TruePost p (.returned (.bool false)) := ⟨false, rfl, fun h => by cases h⟩
end Go.Proofs.YtcdfmgobokjcnaaGreatDoor
