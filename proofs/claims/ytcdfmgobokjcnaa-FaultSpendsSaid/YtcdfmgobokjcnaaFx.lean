/- Walks of package floor: At, beside. -/
import Derived.Test.YtcdfmgobokjcnaaFw
namespace Go.Proofs.Ytcdfmgobokjcnaa
set_option linter.unusedSimpArgs false
set_option linter.unusedVariables false
open Go.RowKit

set_option maxRecDepth 100000 in
set_option maxHeartbeats 4000000 in
theorem At_any (f : Fl.Floor) (kv ov : Value) (c : Int) (w : World) (hb : FB f) :
    Calls Try.prog 87 #[flV f kv ov, .int .i64 c] w fun e w' => e = .returned (.tuple #[.int .i64 (Fl.atX f c), .int .i64 (Fl.atY f c), .int .i64 (Fl.atZ f c)]) ∧ Below w.heap.size w w' := by
  have hc := fun W => is_any f kv ov c W hb
  obtain ⟨⟨a1, a2⟩, a3, a4⟩ := hb.size
  have HS : Hid (Fl.atX f c = if Fl.isC f c = true then c % f.w else 0) := Lib.hid rfl
  have HY : Hid (Fl.atY f c = if Fl.isC f c = true then c / f.w % f.h else 0) := Lib.hid rfl
  have HZ : Hid (Fl.atZ f c = if Fl.isC f c = true then c / (f.w * f.h) else 0) := Lib.hid rfl
  have hS : Fl.isC f c = true → 0 ≤ c ∧ c < f.w * f.h * f.d := by
    intro h
    unfold Fl.isC Fl.Floor.size at h
    simpa using h
  obtain ⟨B, hB⟩ : ∃ B, Fl.isC f c = B := ⟨_, rfl⟩
  rw [hB] at hc HS HY HZ hS
  have h1 := hb.w1
  have h2 := hb.h1
  have h3 := hb.w2
  have h4 := hb.h2
  have hp : 1 ≤ f.w * f.h := by
    have := Int.mul_le_mul h1 h2 (by omega) (by omega : (0 : Int) ≤ f.w)
    omega
  have B1 := Lib.hid ((Below.refl _ w).alloc (Nat.le_refl _) (.cells #[.int .i64 f.w, .int .i64 f.h, .int .i64 f.d, kv, ov] 37))
  have HC := Lib.hid hc
  unfold flV at HC ⊢
  cases B with
  | false =>
    clear hB hc hS
    go_enter Try.func87, Try.ntmps87
    go_wp2_with fail
    go_at_call 73; refine (HC.out _).mono ?_; rintro e w1 ⟨rfl, b1⟩
    have B2 := Lib.hid (B1.out.trans (b1.mono B1.out.size))
    clear b1
    go_wp2_with fail
    go_ret3
    exact ⟨by rw [HS.out, HY.out, HZ.out]; rfl, B2.out⟩
  | true =>
    obtain ⟨c0, c1⟩ := hS rfl
    have c2 : 0 ≤ c / f.w := Int.ediv_nonneg c0 (by omega)
    clear hB hc hS
    go_enter Try.func87, Try.ntmps87
    go_wp2_with fail
    go_at_call 73; refine (HC.out _).mono ?_; rintro e w1 ⟨rfl, b1⟩
    have i1 : w1.heap[w.heap.size]? = some (.cells #[.int .i64 f.w, .int .i64 f.h, .int .i64 f.d, kv, ov] 37 (0, 0)) := (b1.block w.heap.size (by simp)).trans (heap_alloc_new _ _)
    have d0 : w1.cell? ⟨w.heap.size, 0, none⟩ = some (.int .i64 f.w) := cell_of_heap i1 0 rfl
    have d1 : w1.cell? ⟨w.heap.size, 1, none⟩ = some (.int .i64 f.h) := cell_of_heap i1 1 rfl
    have B2 := Lib.hid (B1.out.trans (b1.mono B1.out.size))
    clear b1 i1
    go_wp2_with fail
    go_quiet (fail)
    go_wp2_with fail
    go_ret3
    exact ⟨by rw [HS.out, HY.out, HZ.out]; rfl, B2.out.trans (below_drewN _ _ _)⟩
end Go.Proofs.Ytcdfmgobokjcnaa
