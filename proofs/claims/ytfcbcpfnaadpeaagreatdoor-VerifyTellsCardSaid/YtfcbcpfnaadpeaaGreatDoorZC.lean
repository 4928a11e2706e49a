/- Parts Fw, Rk, Rl, Rm, Rn, Rv, Rh, Ro, Rq, So, Rw, Rt, Ru, Ri, Ry, Rr, Bd of this claim, laid one behind the other: walks and the plain laws behind them; each contract states its own conditions. -/
import Derived.Test.YtfcbcpfnaadpeaaGreatDoorZB
import Derived.Test.YtfcbcpfnaadpeaaGreatDoorZA
namespace Go.Proofs.YtfcbcpfnaadpeaaGreatDoor
set_option maxRecDepth 100000
set_option maxHeartbeats 64000000
set_option linter.unusedSimpArgs false
set_option linter.unusedVariables false
open Go.RowKit
def flV (f : Fl.Floor) (kv ov : Value) : Value := .agg #[.int .i64 f.w, .int .i64 f.h, .int .i64 f.d, kv, ov]
structure FB (f : Fl.Floor) : Prop where
 w1 : 1 ≤ f.w
 h1 : 1 ≤ f.h
 d1 : 1 ≤ f.d
 w2 : f.w ≤ 4096
 h2 : f.h ≤ 4096
 d2 : f.d ≤ 4
theorem FB.of {f : Fl.Floor} (h : Fl.Right f) : FB f := ⟨h.w1, h.h1, h.d1, h.w2, h.h2, h.d2⟩
theorem mul_bd {a b A B : Int} (h1 : 0 ≤ a) (h2 : a ≤ A) (h3 : 0 ≤ b) (h4 : b ≤ B) : 0 ≤ a * b ∧ a * b ≤ A * B :=
 ⟨Int.mul_nonneg h1 h3, Int.mul_le_mul h2 h4 h3 (by omega)⟩
theorem FB.size {f : Fl.Floor} (h : FB f) : (0 ≤ f.w * f.h ∧ f.w * f.h ≤ 16777216) ∧ 0 ≤ f.w * f.h * f.d ∧ f.w * f.h * f.d ≤ 67108864 := by
 have e1 := mul_bd (a := f.w) (b := f.h) (A := 4096) (B := 4096) (by have := h.w1; omega) h.w2 (by have := h.h1; omega) h.h2
 have e2 := mul_bd (a := f.w * f.h) (b := f.d) (A := 16777216) (B := 4) e1.1 e1.2 (by have := h.d1; omega) h.d2
 exact ⟨e1, e2⟩
theorem size_any (f : Fl.Floor) (kv ov : Value) (w : World) (hb : FB f) :
 Calls Tryz.prog 115 #[flV f kv ov] w fun e w' => e = .returned (.int .i64 f.size) ∧ Below w.heap.size w w' := by
 obtain ⟨⟨a1, a2⟩, a3, a4⟩ := hb.size
 obtain ⟨fw, fh, fd, kl, ol⟩ := f
 unfold flV Fl.Floor.size
 dsimp only at a1 a2 a3 a4 ⊢
 clear hb
 go_enter Tryz.func115, Tryz.ntmps115
 go_wp2_with fail
 go_ret
 exact ⟨rfl, (Below.refl _ _).alloc (Nat.le_refl _) _⟩
theorem is_any (f : Fl.Floor) (kv ov : Value) (c : Int) (w : World) (hb : FB f) :
 Calls Tryz.prog 250 #[flV f kv ov, .int .i64 c] w fun e w' => e = .returned (.bool (Fl.isC f c)) ∧ Below w.heap.size w w' := by
 have hc := fun W => size_any f kv ov W hb
 have HS : Hid (Fl.isC f c = (decide (0 ≤ c) && decide (c < f.size))) := hid rfl
 obtain ⟨S, hS⟩ : ∃ S, f.size = S := ⟨_, rfl⟩
 rw [hS] at hc HS
 unfold flV at hc ⊢
 have HC := hid hc
 clear hS hc
 by_cases h0 : 0 ≤ c
 · go_enter Tryz.func250, Tryz.ntmps250
   go_wp2_with fail
   go_at_call 115; refine (HC.out _).mono ?_; rintro e w1 ⟨rfl, b1⟩
   have B1 := hid b1
   clear b1
   go_wp2_with fail
   go_ret
   exact ⟨by rw [HS.out, decide_eq_true h0]; rfl, ((Below.refl _ w).alloc (Nat.le_refl _) _).trans (B1.out.mono (by simp))⟩
 · have HF : Hid (Fl.isC f c = false) := hid (by rw [HS.out, decide_eq_false h0, Bool.false_and])
   go_enter Tryz.func250, Tryz.ntmps250
   go_wp2_with fail
   go_ret
   exact ⟨by rw [HF.out]; rfl, (Below.refl _ _).alloc (Nat.le_refl _) _⟩
theorem cell_in {f : Fl.Floor} {x y z : Int} (hb : FB f) (x0 : 0 ≤ x) (y0 : 0 ≤ y) (z0 : 0 ≤ z) (x1 : x < f.w) (y1 : y < f.h) (z1 : z < f.d) :
 Fl.cell f x y z = (z * f.h + y) * f.w + x ∧ (0 ≤ z * f.h ∧ z * f.h ≤ 16384) ∧ 0 ≤ (z * f.h + y) * f.w ∧ (z * f.h + y) * f.w ≤ 83886080 := by
 have hw := hb.w2
 have hh := hb.h2
 have hd := hb.d2
 have e1 := mul_bd (a := z) (b := f.h) (A := 4) (B := 4096) z0 (by omega) (by have := hb.h1; omega) hh
 have e2 := mul_bd (a := z * f.h + y) (b := f.w) (A := 20480) (B := 4096) (by omega) (by omega) (by have := hb.w1; omega) hw
 refine ⟨?_, e1, e2⟩
 unfold Fl.cell
 rw [if_neg (by omega)]
theorem cell_out {f : Fl.Floor} {x y z : Int} (h : ¬ (0 ≤ x ∧ 0 ≤ y ∧ 0 ≤ z ∧ x < f.w ∧ y < f.h ∧ z < f.d)) : Fl.cell f x y z = -1 := by
 unfold Fl.cell
 rw [if_pos (by omega)]
theorem Cell_any (f : Fl.Floor) (kv ov : Value) (x y z : Int) (w : World) (hb : FB f) :
 Calls Tryz.prog 204 #[flV f kv ov, .int .i64 x, .int .i64 y, .int .i64 z] w fun e w' => e = .returned (.int .i64 (Fl.cell f x y z)) ∧ Below w.heap.size w w' := by
 have B1 := hid ((Below.refl _ w).alloc (Nat.le_refl _) (.cells #[.int .i64 f.w, .int .i64 f.h, .int .i64 f.d, kv, ov] 24))
 by_cases h : 0 ≤ x ∧ 0 ≤ y ∧ 0 ≤ z ∧ x < f.w ∧ y < f.h ∧ z < f.d
 · obtain ⟨x0, y0, z0, x1, y1, z1⟩ := h
   obtain ⟨hc, ⟨e1, e2⟩, e3, e4⟩ := cell_in hb x0 y0 z0 x1 y1 z1
   have HC := hid hc
   have h1 := hb.w2
   have h2 := hb.h2
   obtain ⟨fw, fh, fd, kl, ol⟩ := f
   unfold flV
   dsimp only at *
   clear hc hb
   go_enter Tryz.func204, Tryz.ntmps204
   go_wp2_with fail
   all_goals
    go_ret
    exact ⟨by rw [HC.out]; rfl, B1.out⟩
 · have HC := hid (cell_out h)
   obtain ⟨fw, fh, fd, kl, ol⟩ := f
   unfold flV
   dsimp only at *
   have H := hid h
   clear hb h
   go_enter Tryz.func204, Tryz.ntmps204
   go_wp2_with fail
   all_goals first
    | (exfalso; have := H.out; omega)
    | (go_ret; exact ⟨by rw [HC.out]; rfl, B1.out⟩)
def IsB (v : Value) : Prop := ∃ d : Bool, v = .bool d
def ABool (e : Ending) : Prop := ∃ r : Bool, e = .returned (.bool r)
def noAt {α : Type} (l : List (Int × α)) (c : Int) : Prop := ∀ x ∈ l, x.1 ≠ c
def idxI {α : Type} (p : α → Bool) : List α → Int
 | [] => -1
 | x :: l => if p x = true then 0 else if idxI p l < 0 then -1 else idxI p l + 1
theorem idxI_lt {α : Type} (p : α → Bool) : ∀ l : List α, -1 ≤ idxI p l ∧ idxI p l < l.length
 | [] => by simp [idxI]
 | x :: l => by
  have ih := idxI_lt p l
  rw [idxI, List.length_cons]
  split
  · omega
  · split <;> omega
theorem idxI_neg {α : Type} (p : α → Bool) : ∀ l : List α, idxI p l < 0 ↔ ∀ x ∈ l, p x = false
 | [] => by simp [idxI]
 | x :: l => by
  have ih := idxI_neg p l
  have hr := idxI_lt p l
  rw [idxI]
  by_cases hx : p x = true
  · rw [if_pos hx]
    constructor
    · intro h; omega
    · intro h; have := h x (List.mem_cons_self ..); rw [hx] at this; cases this
  · rw [if_neg hx]
    have hx' : p x = false := by simpa using hx
    by_cases hl : idxI p l < 0
    · rw [if_pos hl]
      refine ⟨fun _ y hy => ?_, fun _ => by omega⟩
      rcases List.mem_cons.1 hy with rfl | hy
      · exact hx'
      · exact ih.1 hl y hy
    · rw [if_neg hl]
      exact ⟨fun h => by omega, fun h => absurd (ih.2 fun y hy => h y (List.mem_cons_of_mem _ hy)) hl⟩
def sIdx {α : Type} (l : List (Int × α)) (c : Int) : Int := idxI (fun x => decide (x.1 = c)) l
theorem sIdx_neg {α : Type} (l : List (Int × α)) (c : Int) : sIdx l c < 0 ↔ noAt l c := by
 unfold sIdx noAt
 rw [idxI_neg]
 simp
theorem rSize_any (f : Fl.Floor) (kv ov : Value) (w : World) (hb : FB f) :
 Calls Tryz.prog 221 #[flV f kv ov] w fun e w' => e = .returned (.int .i64 f.size) ∧ Below w.heap.size w w' := by
 obtain ⟨⟨a1, a2⟩, a3, a4⟩ := hb.size
 obtain ⟨fw, fh, fd, kl, ol⟩ := f
 unfold flV Fl.Floor.size
 dsimp only at a1 a2 a3 a4 ⊢
 clear hb
 go_enter Tryz.func221, Tryz.ntmps221
 go_wp2_with fail
 go_ret
 exact ⟨rfl, (Below.refl _ _).alloc (Nat.le_refl _) _⟩
theorem rIs_any (f : Fl.Floor) (kv ov : Value) (c : Int) (w : World) (hb : FB f) :
 Calls Tryz.prog 170 #[flV f kv ov, .int .i64 c] w fun e w' => e = .returned (.bool (Fl.isC f c)) ∧ Below w.heap.size w w' := by
 have hc := fun W => rSize_any f kv ov W hb
 have HS : Hid (Fl.isC f c = (decide (0 ≤ c) && decide (c < f.size))) := hid rfl
 obtain ⟨S, hS⟩ : ∃ S, f.size = S := ⟨_, rfl⟩
 rw [hS] at hc HS
 unfold flV at hc ⊢
 have HC := hid hc
 clear hS hc
 by_cases h0 : 0 ≤ c
 · go_enter Tryz.func170, Tryz.ntmps170
   go_wp2_with fail
   go_at_call 221; refine (HC.out _).mono ?_; rintro e w1 ⟨rfl, b1⟩
   have B1 := hid b1
   clear b1
   go_wp2_with fail
   go_ret
   exact ⟨by rw [HS.out, decide_eq_true h0]; rfl, ((Below.refl _ w).alloc (Nat.le_refl _) _).trans (B1.out.mono (by simp))⟩
 · have HF : Hid (Fl.isC f c = false) := hid (by rw [HS.out, decide_eq_false h0, Bool.false_and])
   go_enter Tryz.func170, Tryz.ntmps170
   go_wp2_with fail
   go_ret
   exact ⟨by rw [HF.out]; rfl, (Below.refl _ _).alloc (Nat.le_refl _) _⟩
theorem rCell_any (f : Fl.Floor) (kv ov : Value) (x y z : Int) (w : World) (hb : FB f) :
 Calls Tryz.prog 281 #[flV f kv ov, .int .i64 x, .int .i64 y, .int .i64 z] w fun e w' => e = .returned (.int .i64 (Fl.cell f x y z)) ∧ Below w.heap.size w w' := by
 have B1 := hid ((Below.refl _ w).alloc (Nat.le_refl _) (.cells #[.int .i64 f.w, .int .i64 f.h, .int .i64 f.d, kv, ov] 24))
 by_cases h : 0 ≤ x ∧ 0 ≤ y ∧ 0 ≤ z ∧ x < f.w ∧ y < f.h ∧ z < f.d
 · obtain ⟨x0, y0, z0, x1, y1, z1⟩ := h
   obtain ⟨hc, ⟨e1, e2⟩, e3, e4⟩ := cell_in hb x0 y0 z0 x1 y1 z1
   have HC := hid hc
   have h1 := hb.w2
   have h2 := hb.h2
   obtain ⟨fw, fh, fd, kl, ol⟩ := f
   unfold flV
   dsimp only at *
   clear hc hb
   go_enter Tryz.func281, Tryz.ntmps281
   go_wp2_with fail
   all_goals
    go_ret
    exact ⟨by rw [HC.out]; rfl, B1.out⟩
 · have HC := hid (cell_out h)
   obtain ⟨fw, fh, fd, kl, ol⟩ := f
   unfold flV
   dsimp only at *
   have H := hid h
   clear hb h
   go_enter Tryz.func281, Tryz.ntmps281
   go_wp2_with fail
   all_goals first
    | (exfalso; have := H.out; omega)
    | (go_ret; exact ⟨by rw [HC.out]; rfl, B1.out⟩)
theorem Has_any (v : Value) (l : List Int) (x : Int) (w : World) (h : Is w v l) :
 Calls Tryz.prog 20 #[v, .int .i64 x] w fun e w' => e = .returned (.bool (l.any fun y => decide (y = x))) ∧ w = w' := by
 obtain ⟨a, cap, rfl, hm⟩ := h.form
 obtain ⟨R, hR⟩ : ∃ R, (l.any fun y => decide (y = x)) = R := ⟨_, rfl⟩
 have HR : Hid (((l.drop 0).any fun y => decide (y = x)) = R) := hid hR
 rw [hR]
 obtain ⟨n, hn⟩ : ∃ n, l.length = n := ⟨_, rfl⟩
 have H := hid h
 rw [hn] at hm H ⊢
 have HN := hid hn
 clear h hR hn
 go_enter Tryz.func20, Tryz.ntmps20
 go_wp2_with fail
 go_loop [5] (fun iv => ∃ k : Nat, k ≤ n ∧ iv = .int .i64 k ∧ Hid (((l.drop k).any fun y => decide (y = x)) = R)) (fun iv => n - (intOf iv).toNat)
 case atStart => exact ⟨0, by omega, rfl, HR⟩
 case round =>
  obtain ⟨k, hk, rfl, HK⟩ := hrel
  by_cases hkn : k < n
  · have hkl : k < l.length := by rw [HN.out]; exact hkn
    obtain ⟨b, off, e1, c0⟩ := H.out.cell k hkl
    subst e1
    obtain ⟨y, hy⟩ : ∃ y, l[k] = y := ⟨_, rfl⟩
    rw [hy] at c0
    have HD : Hid ((decide (y = x) || (l.drop (k + 1)).any fun y => decide (y = x)) = R) := hid (by rw [← HK.out, List.drop_eq_getElem_cons hkl, List.any_cons, hy])
    have k1 : (k : Int) < (n : Int) := by omega
    have k0 : (0 : Int) ≤ (k : Int) := by omega
    clear hy
    by_cases hyx : y = x
    · have hb : (y == x) = true := by simp [hyx]
      have HF : Hid (R = true) := hid (by rw [← HD.out, decide_eq_true hyx, Bool.true_or])
      clear hyx
      go_wp2_with fail
      go_ret
      exact ⟨by rw [HF.out]; rfl, rfl⟩
    · have hb : (y == x) = false := by simp [hyx]
      have HF : Hid (((l.drop (k + 1)).any fun y => decide (y = x)) = R) := hid (by rw [← HD.out, decide_eq_false hyx, Bool.false_or])
      clear hyx
      go_wp2_with fail
      go_round
      case rel => exact ⟨k + 1, by omega, by go_num, HF⟩
      case measure => simp [intOf]; omega
  · have HF : Hid (R = false) := hid (by rw [← HK.out, List.drop_eq_nil_of_le (by rw [HN.out]; omega)]; rfl)
    go_wp2_with fail
    go_ret
    exact ⟨by rw [HF.out]; rfl, rfl⟩
theorem rFew_any (f : Fl.Floor) (kv ov : Value) (c : Int) (w : World) (h : FlV w kv ov f) :
 Calls Tryz.prog 116 #[flV f kv ov, .int .i64 c] w fun e w' => e = .returned (.bool (decide ((f.kind.length : Int) ≤ c) && decide ((f.out.length : Int) ≤ c))) ∧ Below w.heap.size w w' := by
 obtain ⟨a1, c1, rfl, m1⟩ := h.kind.form
 obtain ⟨a2, c2, rfl, m2⟩ := h.out.form
 clear h
 unfold flV
 obtain ⟨n1, e1⟩ : ∃ n, f.kind.length = n := ⟨_, rfl⟩
 obtain ⟨n2, e2⟩ : ∃ n, f.out.length = n := ⟨_, rfl⟩
 rw [e1] at m1 ⊢
 rw [e2] at m2 ⊢
 clear e1 e2
 by_cases h1 : (n1 : Int) ≤ c
 · go_enter Tryz.func116, Tryz.ntmps116
   go_wp2_with fail
   go_ret
   exact ⟨by simp [h1], (Below.refl _ _).alloc (Nat.le_refl _) _⟩
 · go_enter Tryz.func116, Tryz.ntmps116
   go_wp2_with fail
   go_ret
   exact ⟨by simp [h1]; omega, (Below.refl _ _).alloc (Nat.le_refl _) _⟩
theorem drop_eq {α : Type} [DecidableEq α] (xs ys : List α) (k : Nat) (h : k < xs.length) (h' : k < ys.length) : decide (xs.drop k = ys.drop k) = (decide (xs[k] = ys[k]) && decide (xs.drop (k + 1) = ys.drop (k + 1))) := by
 rw [List.drop_eq_getElem_cons h, List.drop_eq_getElem_cons h']
 by_cases h1 : xs[k] = ys[k]
 · rw [decide_eq_true h1, Bool.true_and, h1]; exact decide_eq_decide.2 ⟨fun e => (by injection e), fun e => (by rw [e])⟩
 · rw [decide_eq_false h1, Bool.false_and]; exact decide_eq_false (fun e => h1 (by injection e))
theorem drop_all2 {α : Type} [DecidableEq α] (xs ys : List α) (k : Nat) (h : xs.length ≤ k) (h' : ys.length ≤ k) : decide (xs.drop k = ys.drop k) = true := by
 rw [List.drop_eq_nil_of_le h, List.drop_eq_nil_of_le h']; rfl
theorem rSame_any (va vb : Value) (xs ys : List Int) (w : World) (ha : Sl w va (ints xs)) (hb : Sl w vb (ints ys)) :
 Calls Tryz.prog 28 #[va, vb] w fun e w' => e = .returned (.bool (decide (xs = ys))) ∧ Below w.heap.size w w' := by
 have hav := ha
 have hbv := hb
 obtain ⟨a1, c1, rfl, m1⟩ := hav.slice
 obtain ⟨a2, c2, rfl, m2⟩ := hbv.slice
 rw [ints_len] at m1 m2 ⊢
 rw [ints_len]
 have mx1 : xs.length ≤ 9223372036854775807 := by unfold maxLen at m1; omega
 have mx2 : ys.length ≤ 9223372036854775807 := by unfold maxLen at m2; omega
 by_cases hl : xs.length = ys.length
 · have HA := hid ha
   have HB := hid hb
   obtain ⟨G, hG⟩ : ∃ G, G = decide (xs = ys) := ⟨_, rfl⟩
   rw [← hG]
   have HG := hid hG
   obtain ⟨n, hn⟩ : ∃ n, n = xs.length := ⟨_, rfl⟩
   have HN := hid hn
   have HN2 := hid (show n = ys.length by omega)
   have hn2 : ys.length = n := by omega
   rw [← hn] at mx1 ⊢
   rw [hn2]
   have hne : ((n : Int) != (n : Int)) = false := by simp
   clear ha hb hav hbv hG hn hn2 hl m1 m2 mx2
   go_enter Tryz.func28, Tryz.ntmps28
   go_wp2_with fail
   go_loopw [5] (fun iv wr => ∃ k : Nat, k ≤ n ∧ iv = .int .i64 k ∧ Hid (G = decide (xs.drop k = ys.drop k)) ∧ Hid (Below w.heap.size w wr)) (fun iv _ => n - (intOf iv).toNat)
   case atStart => exact ⟨0, by omega, rfl, HG, hid (Below.refl _ _)⟩
   case round =>
    obtain ⟨k, hk, rfl, HR, HW⟩ := hrel
    by_cases hkn : k < n
    · have hx : k < xs.length := by rw [← HN.out]; exact hkn
      have hy : k < ys.length := by rw [← HN2.out]; exact hkn
      obtain ⟨b1, o1, c1', e1, -, k1⟩ := (HA.out.below HW.out).some (by rw [ints_len]; omega)
      obtain ⟨b2, o2, c2', e2, -, k2⟩ := (HB.out.below HW.out).some (by rw [ints_len]; omega)
      injection e1 with e1 e3 e4
      injection e2 with e2 e5 e6
      subst e1 e2
      have p1 : wr.cell? ⟨b1, o1 + k, none⟩ = some (.int .i64 xs[k]) := (k1 k (by rw [ints_len]; exact hx)).trans (by simp [ints])
      have p2 : wr.cell? ⟨b2, o2 + k, none⟩ = some (.int .i64 ys[k]) := (k2 k (by rw [ints_len]; exact hy)).trans (by simp [ints])
      have hst := HR.out.trans (drop_eq xs ys k hx hy)
      obtain ⟨x, hxe⟩ : ∃ x, x = xs[k] := ⟨_, rfl⟩
      obtain ⟨y, hye⟩ : ∃ y, y = ys[k] := ⟨_, rfl⟩
      rw [← hxe] at p1 hst
      rw [← hye] at p2 hst
      have kI0 : (0 : Int) ≤ (k : Int) := by omega
      have kI1 : (k : Int) < (n : Int) := by omega
      clear k1 k2 e3 e4 e5 e6 hxe hye
      by_cases hq : x = y
      · have HS : Hid (G = decide (xs.drop (k + 1) = ys.drop (k + 1))) := hid (by rw [hst, decide_eq_true hq, Bool.true_and])
        have hne2 : (x != y) = false := by rw [hq]; simp
        clear hst hq
        go_wp2_with fail
        go_quiet (fail)
        all_goals
         go_wp2_with fail
         go_roundw
         case rel => exact ⟨k + 1, by omega, by go_num, HS, hid (HW.out.trans (below_drewN _ _ _))⟩
         case measure => simp [intOf]; omega
      · have HS : Hid (G = false) := hid (by rw [hst, decide_eq_false hq, Bool.false_and])
        have hne2 : (x != y) = true := by simpa using hq
        clear hst hq
        go_wp2_with fail
        go_quiet (fail)
        all_goals
         go_wp2_with fail
         go_ret
         exact ⟨by rw [HS.out]; rfl, HW.out.trans (below_drewN _ _ _)⟩
    · have hS := HR.out.trans (drop_all2 xs ys k (by rw [← HN.out]; omega) (by rw [← HN2.out]; omega))
      have HS := hid hS
      clear hS
      go_wp2_with fail
      go_ret
      exact ⟨by rw [HS.out]; rfl, HW.out⟩
 · have HS : Hid (decide (xs = ys) = false) := hid (decide_eq_false (fun h => hl (by rw [h])))
   have hne : ((xs.length : Int) != (ys.length : Int)) = true := by simp; omega
   obtain ⟨n, hn⟩ : ∃ n, n = xs.length := ⟨_, rfl⟩
   obtain ⟨m, hm⟩ : ∃ m, m = ys.length := ⟨_, rfl⟩
   rw [← hn] at hne ⊢
   rw [← hm] at hne ⊢
   clear ha hb hav hbv m1 m2 mx1 mx2 hl hn hm
   go_enter Tryz.func28, Tryz.ntmps28
   go_wp2_with fail
   go_ret
   exact ⟨by rw [HS.out]; rfl, Below.refl _ _⟩
def zoned (l : List Si.Zone) (c : Int) : Bool := l.any fun z => z.cells.any fun y => decide (y = c)
def siV (s : Si.Site) (kv ov zv av sv rv : Value) : Value := .agg #[.int .i64 s.floor.w, .int .i64 s.floor.h, .int .i64 s.floor.d, kv, ov, zv, av, sv, rv]
theorem SiV.open {w : World} {kv ov zv av sv rv : Value} {s : Si.Site} (h : SiV w kv ov zv av sv rv s) : ∃ a1 c1 a2 c2 a3 c3 a4 c4 a5 c5 a6 c6, kv = .slice a1 s.floor.kind.length c1 ∧ ov = .slice a2 s.floor.out.length c2 ∧ zv = .slice a3 s.zones.length c3 ∧ av = .slice a4 s.aparts.length c4 ∧ sv = .slice a5 s.shelves.length c5 ∧ rv = .slice a6 s.robots.length c6 ∧
 s.floor.kind.length ≤ 9223372036854775807 ∧ s.floor.out.length ≤ 9223372036854775807 ∧ s.zones.length ≤ 9223372036854775807 ∧ s.aparts.length ≤ 9223372036854775807 ∧ s.shelves.length ≤ 9223372036854775807 ∧ s.robots.length ≤ 9223372036854775807 := by
 obtain ⟨a1, c1, e1, m1⟩ := h.fl.kind.form
 obtain ⟨a2, c2, e2, m2⟩ := h.fl.out.form
 obtain ⟨a3, c3, e3, m3⟩ := h.zn.form
 obtain ⟨a4, c4, e4, m4⟩ := two_form h.ap
 obtain ⟨a5, c5, e5, m5⟩ := two_form h.sf
 obtain ⟨a6, c6, e6, m6⟩ := two_form h.rb
 exact ⟨a1, c1, a2, c2, a3, c3, a4, c4, a5, c5, a6, c6, e1, e2, e3, e4, e5, e6, m1, m2, m3, m4, m5, m6⟩
theorem heap_two0 (w : World) (A B : Obj) : ((w.alloc A).alloc B).heap[w.heap.size]? = some A :=
 (Below.heap_alloc (w.alloc A) B w.heap.size (by simp)).trans (heap_alloc_new w A)
theorem rAt_any (f : Fl.Floor) (kv ov : Value) (c : Int) (w : World) (hb : FB f) :
 Calls Tryz.prog 280 #[flV f kv ov, .int .i64 c] w fun e w' => e = .returned (.tuple #[.int .i64 (Fl.atX f c), .int .i64 (Fl.atY f c), .int .i64 (Fl.atZ f c)]) ∧ Below w.heap.size w w' := by
 have hc := fun W => rIs_any f kv ov c W hb
 obtain ⟨⟨a1, a2⟩, a3, a4⟩ := hb.size
 have HS : Hid (Fl.atX f c = if Fl.isC f c = true then c % f.w else 0) := hid rfl
 have HY : Hid (Fl.atY f c = if Fl.isC f c = true then c / f.w % f.h else 0) := hid rfl
 have HZ : Hid (Fl.atZ f c = if Fl.isC f c = true then c / (f.w * f.h) else 0) := hid rfl
 have hS : Fl.isC f c = true → 0 ≤ c ∧ c < f.w * f.h * f.d := by
  intro h
  unfold Fl.isC Fl.Floor.size at h
  simpa using h
 obtain ⟨B, hB⟩ : ∃ B, Fl.isC f c = B := ⟨_, rfl⟩
 rw [hB] at hc HS HY HZ hS
 have h1 := hb.w1
 have h2 := hb.h1
 have h3 := hb.w2
 have h4 := hb.h2
 have hp : 1 ≤ f.w * f.h := by
  have := Int.mul_le_mul h1 h2 (by omega) (by omega : (0 : Int) ≤ f.w)
  omega
 have B1 := hid ((Below.refl _ w).alloc (Nat.le_refl _) (.cells #[.int .i64 f.w, .int .i64 f.h, .int .i64 f.d, kv, ov] 24))
 have HC := hid hc
 unfold flV at HC ⊢
 cases B with
 | false =>
  clear hB hc hS
  go_enter Tryz.func280, Tryz.ntmps280
  go_wp2_with fail
  go_at_call 170; refine (HC.out _).mono ?_; rintro e w1 ⟨rfl, b1⟩
  have B2 := hid (B1.out.trans (b1.mono B1.out.size))
  clear b1
  go_wp2_with fail
  go_ret3
  exact ⟨by rw [HS.out, HY.out, HZ.out]; rfl, B2.out⟩
 | true =>
  obtain ⟨c0, c1⟩ := hS rfl
  have c2 : 0 ≤ c / f.w := Int.ediv_nonneg c0 (by omega)
  have HX2 : Hid (Fl.atX f c = c % f.w) := hid (by rw [HS.out]; rfl)
  have HY2 : Hid (Fl.atY f c = c / f.w % f.h) := hid (by rw [HY.out]; rfl)
  have HZ2 : Hid (Fl.atZ f c = c / (f.w * f.h)) := hid (by rw [HZ.out]; rfl)
  have HW : Hid (wrap64 ((c / f.w).tdiv f.h) = c / (f.w * f.h)) := hid (by
   rw [Int.tdiv_eq_ediv_of_nonneg c2, Int.ediv_ediv, if_neg (by omega), Int.sub_zero]
   have q0 : 0 ≤ c / (f.w * f.h) := Int.ediv_nonneg c0 (by omega)
   have q1 : c / (f.w * f.h) ≤ c := Int.ediv_le_self _ c0
   unfold wrap64
   omega)
  clear hB hc hS
  go_enter Tryz.func280, Tryz.ntmps280
  go_wp2_with fail
  go_at_call 170; refine (HC.out _).mono ?_; rintro e w1 ⟨rfl, b1⟩
  have i1 : w1.heap[w.heap.size]? = some (.cells #[.int .i64 f.w, .int .i64 f.h, .int .i64 f.d, kv, ov] 24 (0, 0)) := (b1.block w.heap.size (by simp)).trans (heap_alloc_new _ _)
  have d0 : w1.cell? ⟨w.heap.size, 0, none⟩ = some (.int .i64 f.w) := cell_of_heap i1 0 rfl
  have d1 : w1.cell? ⟨w.heap.size, 1, none⟩ = some (.int .i64 f.h) := cell_of_heap i1 1 rfl
  have B2 := hid (B1.out.trans (b1.mono B1.out.size))
  clear b1 i1
  go_wp2_with fail
  go_quiet (fail)
  go_wp2_with fail
  go_ret3
  exact ⟨by rw [HX2.out, HY2.out, HZ2.out, ← HW.out]; rfl, B2.out.trans (below_drewN _ _ _)⟩
def okTo (f : Fl.Floor) (k : Nat) : Prop := ∀ i, i < k → (∀ h : i < f.kind.length, 0 ≤ f.kind[i] ∧ f.kind[i] < 7) ∧ ∀ h : i < f.out.length, 0 ≤ f.out[i] ∧ f.out[i] ≤ 63
theorem right_of {f : Fl.Floor} (hb : FB f) (hs : f.size ≤ 4096) (h1 : (f.kind.length : Int) = f.size) (h2 : (f.out.length : Int) = f.size) (h : okTo f f.kind.length) : Fl.Right f := by
 have e : f.out.length = f.kind.length := by omega
 refine ⟨hb.w1, hb.h1, hb.d1, hb.w2, hb.h2, hb.d2, h1, e, hs, fun k hk => ?_, fun o ho => ?_⟩
 · obtain ⟨i, hi, rfl⟩ := List.getElem_of_mem hk
   exact (h i hi).1 hi
 · obtain ⟨i, hi, rfl⟩ := List.getElem_of_mem ho
   exact (h i (by omega)).2 hi
def robC (r : Bd.Robot) : List Value := [.int .i64 r.cell, .int .i64 r.load, .int .i64 r.charge, .int .i64 r.rest, .int .i64 r.mute, .bool r.dead]
def RoV (w : World) (v : Value) (l : List Bd.Robot) : Prop := Rw w v 6 (l.map robC)
theorem RoV.keep {w W : World} {v : Value} {l : List Bd.Robot} (h : RoV w v l) (hb : Below w.heap.size w W) : RoV W v l := Rw.keep h hb
theorem RoV.form {w : World} {v : Value} {l : List Bd.Robot} (h : RoV w v l) : ∃ a cap, v = .slice a l.length cap ∧ l.length ≤ 9223372036854775807 := by simpa using Rw.form h
theorem RoV.cell {w : World} {a : Option Addr} {n cap : Nat} {l : List Bd.Robot} (h : RoV w (.slice a n cap) l) (i : Nat) (hi : i < l.length) : ∃ b off, a = some ⟨b, off, none⟩ ∧ b < w.heap.size ∧
 w.cell? ⟨b, off + i * 6, none⟩ = some (.int .i64 l[i].cell) ∧ w.cell? ⟨b, off + i * 6 + 1, none⟩ = some (.int .i64 l[i].load) ∧ w.cell? ⟨b, off + i * 6 + 2, none⟩ = some (.int .i64 l[i].charge) ∧
 w.cell? ⟨b, off + i * 6 + 3, none⟩ = some (.int .i64 l[i].rest) ∧ w.cell? ⟨b, off + i * 6 + 4, none⟩ = some (.int .i64 l[i].mute) ∧ w.cell? ⟨b, off + i * 6 + 5, none⟩ = some (.bool l[i].dead) := by
 obtain ⟨b, off, rfl, hlt, hc⟩ := Rw.cell h i (by simpa using hi)
 rw [List.getElem_map] at hc
 exact ⟨b, off, rfl, hlt, hc 0 (by omega), hc 1 (by omega), hc 2 (by omega), hc 3 (by omega), hc 4 (by omega), hc 5 (by omega)⟩
structure StV (w : World) (sv rv pv dv kv : Value) (s : Bd.State) : Prop where
 sh : Is w sv s.shelves
 ro : RoV w rv s.robots
 pe : Is w pv s.people
 de : Is w dv s.dead
 sk : Rw w kv 2 (s.stuck.map spanC)
theorem StV.keep {w W : World} {sv rv pv dv kv : Value} {s : Bd.State} (h : StV w sv rv pv dv kv s) (hb : Below w.heap.size w W) : StV W sv rv pv dv kv s :=
 ⟨h.sh.keep hb, h.ro.keep hb, h.pe.keep hb, h.de.keep hb, Rw.keep h.sk hb⟩
def stV (s : Bd.State) (sv rv pv dv kv : Value) : Value := .agg #[.int .i64 s.tick, sv, rv, pv, dv, kv]
theorem StV.open {w : World} {sv rv pv dv kv : Value} {s : Bd.State} (h : StV w sv rv pv dv kv s) : ∃ a1 c1 a2 c2 a3 c3 a4 c4 a5 c5, sv = .slice a1 s.shelves.length c1 ∧ rv = .slice a2 s.robots.length c2 ∧ pv = .slice a3 s.people.length c3 ∧ dv = .slice a4 s.dead.length c4 ∧ kv = .slice a5 s.stuck.length c5 ∧
 s.shelves.length ≤ 9223372036854775807 ∧ s.robots.length ≤ 9223372036854775807 ∧ s.people.length ≤ 9223372036854775807 ∧ s.dead.length ≤ 9223372036854775807 ∧ s.stuck.length ≤ 9223372036854775807 := by
 obtain ⟨a1, c1, e1, m1⟩ := h.sh.form
 obtain ⟨a2, c2, e2, m2⟩ := h.ro.form
 obtain ⟨a3, c3, e3, m3⟩ := h.pe.form
 obtain ⟨a4, c4, e4, m4⟩ := h.de.form
 obtain ⟨a5, c5, e5, m5⟩ := two_form h.sk
 exact ⟨a1, c1, a2, c2, a3, c3, a4, c4, a5, c5, e1, e2, e3, e4, e5, m1, m2, m3, m4, m5⟩
def fltC (x : Fa.Flt) : List Value := [.int .i64 x.kind, .int .i64 x.a, .int .i64 x.n]
def FtV (w : World) (v : Value) (l : List Fa.Flt) : Prop := Rw w v 3 (l.map fltC)
theorem FtV.keep {w W : World} {v : Value} {l : List Fa.Flt} (h : FtV w v l) (hb : Below w.heap.size w W) : FtV W v l := Rw.keep h hb
theorem FtV.form {w : World} {v : Value} {l : List Fa.Flt} (h : FtV w v l) : ∃ a cap, v = .slice a l.length cap ∧ l.length ≤ 9223372036854775807 := by simpa using Rw.form h
theorem FtV.cell {w : World} {a : Option Addr} {n cap : Nat} {l : List Fa.Flt} (h : FtV w (.slice a n cap) l) (i : Nat) (hi : i < l.length) : ∃ b off, a = some ⟨b, off, none⟩ ∧ b < w.heap.size ∧
 w.cell? ⟨b, off + i * 3, none⟩ = some (.int .i64 l[i].kind) ∧ w.cell? ⟨b, off + i * 3 + 1, none⟩ = some (.int .i64 l[i].a) ∧ w.cell? ⟨b, off + i * 3 + 2, none⟩ = some (.int .i64 l[i].n) := by
 obtain ⟨b, off, rfl, hlt, hc⟩ := Rw.cell h i (by simpa using hi)
 rw [List.getElem_map] at hc
 exact ⟨b, off, rfl, hlt, hc 0 (by omega), hc 1 (by omega), hc 2 (by omega)⟩
end Go.Proofs.YtfcbcpfnaadpeaaGreatDoor
