/- Walks of package floor: size, is, Cell, At, beside, Next. -/
import Derived.Test.YtcdfmgobokjcnaaHd
namespace Go.Proofs.Ytcdfmgobokjcnaa
set_option linter.unusedSimpArgs false
set_option linter.unusedVariables false
open Go.RowKit

/-- The value of a floor. -/
def flV (f : Fl.Floor) (kv ov : Value) : Value := .agg #[.int .i64 f.w, .int .i64 f.h, .int .i64 f.d, kv, ov]
/-- The bounds of a floor's numbers. -/
structure FB (f : Fl.Floor) : Prop where
  w1 : 1 ≤ f.w
  h1 : 1 ≤ f.h
  d1 : 1 ≤ f.d
  w2 : f.w ≤ 4096
  h2 : f.h ≤ 4096
  d2 : f.d ≤ 4
theorem FB.of {f : Fl.Floor} (h : Fl.Right f) : FB f := ⟨h.w1, h.h1, h.d1, h.w2, h.h2, h.d2⟩
theorem mul_bd {a b A B : Int} (h1 : 0 ≤ a) (h2 : a ≤ A) (h3 : 0 ≤ b) (h4 : b ≤ B) : 0 ≤ a * b ∧ a * b ≤ A * B :=
  ⟨Int.mul_nonneg h1 h3, Int.mul_le_mul h2 h4 h3 (by omega)⟩
theorem FB.size {f : Fl.Floor} (h : FB f) : (0 ≤ f.w * f.h ∧ f.w * f.h ≤ 16777216) ∧ 0 ≤ f.w * f.h * f.d ∧ f.w * f.h * f.d ≤ 67108864 := by
  have e1 := mul_bd (a := f.w) (b := f.h) (A := 4096) (B := 4096) (by have := h.w1; omega) h.w2 (by have := h.h1; omega) h.h2
  have e2 := mul_bd (a := f.w * f.h) (b := f.d) (A := 16777216) (B := 4) e1.1 e1.2 (by have := h.d1; omega) h.d2
  exact ⟨e1, e2⟩
set_option maxHeartbeats 1000000 in
theorem size_any (f : Fl.Floor) (kv ov : Value) (w : World) (hb : FB f) :
    Calls Try.prog 86 #[flV f kv ov] w fun e w' => e = .returned (.int .i64 f.size) ∧ Below w.heap.size w w' := by
  obtain ⟨⟨a1, a2⟩, a3, a4⟩ := hb.size
  obtain ⟨fw, fh, fd, kl, ol⟩ := f
  unfold flV Fl.Floor.size
  dsimp only at a1 a2 a3 a4 ⊢
  clear hb
  go_enter Try.func86, Try.ntmps86
  go_wp2_with fail
  go_ret
  exact ⟨rfl, (Below.refl _ _).alloc (Nat.le_refl _) _⟩
set_option maxHeartbeats 1000000 in
theorem is_any (f : Fl.Floor) (kv ov : Value) (c : Int) (w : World) (hb : FB f) :
    Calls Try.prog 73 #[flV f kv ov, .int .i64 c] w fun e w' => e = .returned (.bool (Fl.isC f c)) ∧ Below w.heap.size w w' := by
  have hc := fun W => size_any f kv ov W hb
  have HS : Hid (Fl.isC f c = (decide (0 ≤ c) && decide (c < f.size))) := Lib.hid rfl
  obtain ⟨S, hS⟩ : ∃ S, f.size = S := ⟨_, rfl⟩
  rw [hS] at hc HS
  unfold flV at hc ⊢
  have HC := Lib.hid hc
  clear hS hc
  by_cases h0 : 0 ≤ c
  · go_enter Try.func73, Try.ntmps73
    go_wp2_with fail
    go_at_call 86; refine (HC.out _).mono ?_; rintro e w1 ⟨rfl, b1⟩
    have B1 := Lib.hid b1
    clear b1
    go_wp2_with fail
    go_ret
    exact ⟨by rw [HS.out, decide_eq_true h0]; rfl, ((Below.refl _ w).alloc (Nat.le_refl _) _).trans (B1.out.mono (by simp))⟩
  · have HF : Hid (Fl.isC f c = false) := Lib.hid (by rw [HS.out, decide_eq_false h0, Bool.false_and])
    go_enter Try.func73, Try.ntmps73
    go_wp2_with fail
    go_ret
    exact ⟨by rw [HF.out]; rfl, (Below.refl _ _).alloc (Nat.le_refl _) _⟩
/-- The value of Cell, where there is one. -/
theorem cell_in {f : Fl.Floor} {x y z : Int} (hb : FB f) (x0 : 0 ≤ x) (y0 : 0 ≤ y) (z0 : 0 ≤ z) (x1 : x < f.w) (y1 : y < f.h) (z1 : z < f.d) :
    Fl.cell f x y z = (z * f.h + y) * f.w + x ∧ (0 ≤ z * f.h ∧ z * f.h ≤ 16384) ∧ 0 ≤ (z * f.h + y) * f.w ∧ (z * f.h + y) * f.w ≤ 83886080 := by
  have hw := hb.w2
  have hh := hb.h2
  have hd := hb.d2
  have e1 := mul_bd (a := z) (b := f.h) (A := 4) (B := 4096) z0 (by omega) (by have := hb.h1; omega) hh
  have e2 := mul_bd (a := z * f.h + y) (b := f.w) (A := 20480) (B := 4096) (by omega) (by omega) (by have := hb.w1; omega) hw
  refine ⟨?_, e1, e2⟩
  unfold Fl.cell
  rw [if_neg (by omega)]
theorem cell_out {f : Fl.Floor} {x y z : Int} (h : ¬ (0 ≤ x ∧ 0 ≤ y ∧ 0 ≤ z ∧ x < f.w ∧ y < f.h ∧ z < f.d)) : Fl.cell f x y z = -1 := by
  unfold Fl.cell
  rw [if_pos (by omega)]
set_option maxRecDepth 100000 in
set_option maxHeartbeats 4000000 in
theorem Cell_any (f : Fl.Floor) (kv ov : Value) (x y z : Int) (w : World) (hb : FB f) :
    Calls Try.prog 89 #[flV f kv ov, .int .i64 x, .int .i64 y, .int .i64 z] w fun e w' => e = .returned (.int .i64 (Fl.cell f x y z)) ∧ Below w.heap.size w w' := by
  have B1 := Lib.hid ((Below.refl _ w).alloc (Nat.le_refl _) (.cells #[.int .i64 f.w, .int .i64 f.h, .int .i64 f.d, kv, ov] 37))
  by_cases h : 0 ≤ x ∧ 0 ≤ y ∧ 0 ≤ z ∧ x < f.w ∧ y < f.h ∧ z < f.d
  · obtain ⟨x0, y0, z0, x1, y1, z1⟩ := h
    obtain ⟨hc, ⟨e1, e2⟩, e3, e4⟩ := cell_in hb x0 y0 z0 x1 y1 z1
    have HC := Lib.hid hc
    have h1 := hb.w2
    have h2 := hb.h2
    obtain ⟨fw, fh, fd, kl, ol⟩ := f
    unfold flV
    dsimp only at *
    clear hc hb
    go_enter Try.func89, Try.ntmps89
    go_wp2_with fail
    all_goals
      go_ret
      exact ⟨by rw [HC.out]; rfl, B1.out⟩
  · have HC := Lib.hid (cell_out h)
    obtain ⟨fw, fh, fd, kl, ol⟩ := f
    unfold flV
    dsimp only at *
    have H := Lib.hid h
    clear hb h
    go_enter Try.func89, Try.ntmps89
    go_wp2_with fail
    all_goals first
      | (exfalso; have := H.out; omega)
      | (go_ret; exact ⟨by rw [HC.out]; rfl, B1.out⟩)
end Go.Proofs.Ytcdfmgobokjcnaa
