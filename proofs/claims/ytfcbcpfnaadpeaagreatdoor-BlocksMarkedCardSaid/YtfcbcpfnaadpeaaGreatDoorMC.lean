/- Parts Fw, Rk, Rl, Rm, Rn, Rv, Rh, Ro, Rq, So, Rw, Rt, Ru, Ri, Ry, Rr, Bd of this claim, laid one behind the other: walks and the plain laws behind them; each contract states its own conditions. -/
import Derived.Test.YtfcbcpfnaadpeaaGreatDoorMB
namespace Go.Proofs.YtfcbcpfnaadpeaaGreatDoor
set_option maxRecDepth 100000
set_option maxHeartbeats 64000000
set_option linter.unusedSimpArgs false
set_option linter.unusedVariables false
open Go.RowKit
def flV (f : Fl.Floor) (kv ov : Value) : Value := .agg #[.int .i64 f.w, .int .i64 f.h, .int .i64 f.d, kv, ov]
structure FB (f : Fl.Floor) : Prop where
 w1 : 1 ≤ f.w
 h1 : 1 ≤ f.h
 d1 : 1 ≤ f.d
 w2 : f.w ≤ 4096
 h2 : f.h ≤ 4096
 d2 : f.d ≤ 4
theorem FB.of {f : Fl.Floor} (h : Fl.Right f) : FB f := ⟨h.w1, h.h1, h.d1, h.w2, h.h2, h.d2⟩
theorem mul_bd {a b A B : Int} (h1 : 0 ≤ a) (h2 : a ≤ A) (h3 : 0 ≤ b) (h4 : b ≤ B) : 0 ≤ a * b ∧ a * b ≤ A * B :=
 ⟨Int.mul_nonneg h1 h3, Int.mul_le_mul h2 h4 h3 (by omega)⟩
theorem FB.size {f : Fl.Floor} (h : FB f) : (0 ≤ f.w * f.h ∧ f.w * f.h ≤ 16777216) ∧ 0 ≤ f.w * f.h * f.d ∧ f.w * f.h * f.d ≤ 67108864 := by
 have e1 := mul_bd (a := f.w) (b := f.h) (A := 4096) (B := 4096) (by have := h.w1; omega) h.w2 (by have := h.h1; omega) h.h2
 have e2 := mul_bd (a := f.w * f.h) (b := f.d) (A := 16777216) (B := 4) e1.1 e1.2 (by have := h.d1; omega) h.d2
 exact ⟨e1, e2⟩
theorem size_any (f : Fl.Floor) (kv ov : Value) (w : World) (hb : FB f) :
 Calls Tryz.prog 115 #[flV f kv ov] w fun e w' => e = .returned (.int .i64 f.size) ∧ Below w.heap.size w w' := by
 obtain ⟨⟨a1, a2⟩, a3, a4⟩ := hb.size
 obtain ⟨fw, fh, fd, kl, ol⟩ := f
 unfold flV Fl.Floor.size
 dsimp only at a1 a2 a3 a4 ⊢
 clear hb
 go_enter Tryz.func115, Tryz.ntmps115
 go_wp2_with fail
 go_ret
 exact ⟨rfl, (Below.refl _ _).alloc (Nat.le_refl _) _⟩
theorem is_any (f : Fl.Floor) (kv ov : Value) (c : Int) (w : World) (hb : FB f) :
 Calls Tryz.prog 250 #[flV f kv ov, .int .i64 c] w fun e w' => e = .returned (.bool (Fl.isC f c)) ∧ Below w.heap.size w w' := by
 have hc := fun W => size_any f kv ov W hb
 have HS : Hid (Fl.isC f c = (decide (0 ≤ c) && decide (c < f.size))) := hid rfl
 obtain ⟨S, hS⟩ : ∃ S, f.size = S := ⟨_, rfl⟩
 rw [hS] at hc HS
 unfold flV at hc ⊢
 have HC := hid hc
 clear hS hc
 by_cases h0 : 0 ≤ c
 · go_enter Tryz.func250, Tryz.ntmps250
   go_wp2_with fail
   go_at_call 115; refine (HC.out _).mono ?_; rintro e w1 ⟨rfl, b1⟩
   have B1 := hid b1
   clear b1
   go_wp2_with fail
   go_ret
   exact ⟨by rw [HS.out, decide_eq_true h0]; rfl, ((Below.refl _ w).alloc (Nat.le_refl _) _).trans (B1.out.mono (by simp))⟩
 · have HF : Hid (Fl.isC f c = false) := hid (by rw [HS.out, decide_eq_false h0, Bool.false_and])
   go_enter Tryz.func250, Tryz.ntmps250
   go_wp2_with fail
   go_ret
   exact ⟨by rw [HF.out]; rfl, (Below.refl _ _).alloc (Nat.le_refl _) _⟩
theorem cell_in {f : Fl.Floor} {x y z : Int} (hb : FB f) (x0 : 0 ≤ x) (y0 : 0 ≤ y) (z0 : 0 ≤ z) (x1 : x < f.w) (y1 : y < f.h) (z1 : z < f.d) :
 Fl.cell f x y z = (z * f.h + y) * f.w + x ∧ (0 ≤ z * f.h ∧ z * f.h ≤ 16384) ∧ 0 ≤ (z * f.h + y) * f.w ∧ (z * f.h + y) * f.w ≤ 83886080 := by
 have hw := hb.w2
 have hh := hb.h2
 have hd := hb.d2
 have e1 := mul_bd (a := z) (b := f.h) (A := 4) (B := 4096) z0 (by omega) (by have := hb.h1; omega) hh
 have e2 := mul_bd (a := z * f.h + y) (b := f.w) (A := 20480) (B := 4096) (by omega) (by omega) (by have := hb.w1; omega) hw
 refine ⟨?_, e1, e2⟩
 unfold Fl.cell
 rw [if_neg (by omega)]
theorem cell_out {f : Fl.Floor} {x y z : Int} (h : ¬ (0 ≤ x ∧ 0 ≤ y ∧ 0 ≤ z ∧ x < f.w ∧ y < f.h ∧ z < f.d)) : Fl.cell f x y z = -1 := by
 unfold Fl.cell
 rw [if_pos (by omega)]
theorem Cell_any (f : Fl.Floor) (kv ov : Value) (x y z : Int) (w : World) (hb : FB f) :
 Calls Tryz.prog 204 #[flV f kv ov, .int .i64 x, .int .i64 y, .int .i64 z] w fun e w' => e = .returned (.int .i64 (Fl.cell f x y z)) ∧ Below w.heap.size w w' := by
 have B1 := hid ((Below.refl _ w).alloc (Nat.le_refl _) (.cells #[.int .i64 f.w, .int .i64 f.h, .int .i64 f.d, kv, ov] 24))
 by_cases h : 0 ≤ x ∧ 0 ≤ y ∧ 0 ≤ z ∧ x < f.w ∧ y < f.h ∧ z < f.d
 · obtain ⟨x0, y0, z0, x1, y1, z1⟩ := h
   obtain ⟨hc, ⟨e1, e2⟩, e3, e4⟩ := cell_in hb x0 y0 z0 x1 y1 z1
   have HC := hid hc
   have h1 := hb.w2
   have h2 := hb.h2
   obtain ⟨fw, fh, fd, kl, ol⟩ := f
   unfold flV
   dsimp only at *
   clear hc hb
   go_enter Tryz.func204, Tryz.ntmps204
   go_wp2_with fail
   all_goals
    go_ret
    exact ⟨by rw [HC.out]; rfl, B1.out⟩
 · have HC := hid (cell_out h)
   obtain ⟨fw, fh, fd, kl, ol⟩ := f
   unfold flV
   dsimp only at *
   have H := hid h
   clear hb h
   go_enter Tryz.func204, Tryz.ntmps204
   go_wp2_with fail
   all_goals first
    | (exfalso; have := H.out; omega)
    | (go_ret; exact ⟨by rw [HC.out]; rfl, B1.out⟩)
def ABool (e : Ending) : Prop := ∃ r : Bool, e = .returned (.bool r)
def noAt {α : Type} (l : List (Int × α)) (c : Int) : Prop := ∀ x ∈ l, x.1 ≠ c
def IsPost (no : Prop) (e : Ending) : Prop := ∃ r : Bool, e = .returned (.bool r) ∧ (r = false ↔ no)
theorem robotAt_any (v : Value) (l : List (Int × Int)) (c : Int) (w : World) (h : RbV w v l) :
 Calls Tryz.prog 173 #[v, .int .i64 c] w fun e w' => IsPost (noAt l c) e ∧ w = w' := by
 obtain ⟨a, cap, rfl, hm⟩ := two_form h
 have H := hid (show ShV w (.slice a l.length cap) l from h)
 obtain ⟨n, hn⟩ : ∃ n, l.length = n := ⟨_, rfl⟩
 rw [hn] at hm H ⊢
 have HN := hid hn
 clear h hn
 go_enter Tryz.func173, Tryz.ntmps173
 go_wp2_with fail
 go_loop [5] (fun iv => ∃ k : Nat, k ≤ n ∧ iv = .int .i64 k ∧ Hid (∀ x ∈ l.take k, x.1 ≠ c)) (fun iv => n - (intOf iv).toNat)
 case atStart => exact ⟨0, by omega, rfl, hid (by simp)⟩
 case round =>
  obtain ⟨k, hk, rfl, HK⟩ := hrel
  by_cases hkn : k < n
  · have hkl : k < l.length := by rw [HN.out]; exact hkn
    obtain ⟨b, off, e1, -, c0, -⟩ := H.out.cell k hkl
    subst e1
    obtain ⟨y, hy⟩ : ∃ y, l[k].1 = y := ⟨_, rfl⟩
    rw [hy] at c0
    have HY := hid hy
    have HMM : Hid (l[k] ∈ l) := hid (List.getElem_mem hkl)
    have HTK : Hid (l.take (k + 1) = l.take k ++ [l[k]]) := hid (List.take_succ_eq_append_getElem hkl)
    have k1 : (k : Int) < (n : Int) := by omega
    have k0 : (0 : Int) ≤ (k : Int) := by omega
    clear hy
    by_cases hyx : y = c
    · have hb : (y == c) = true := by simp [hyx]
      have HNO : Hid (¬ noAt l c) := hid (fun h => h _ HMM.out (HY.out.trans hyx))
      clear hyx
      go_wp2_with fail
      go_ret
      exact ⟨⟨true, rfl, ⟨fun h => (by cases h), fun h => absurd h HNO.out⟩⟩, rfl⟩
    · have hb : (y == c) = false := by simp [hyx]
      have HNX : Hid (∀ x ∈ l.take (k + 1), x.1 ≠ c) := hid (by
       rw [HTK.out]
       intro x hx
       rcases List.mem_append.1 hx with h | h
       · exact HK.out x h
       · rw [List.mem_singleton] at h; subst h; rw [HY.out]; exact hyx)
      clear hyx
      go_wp2_with fail
      go_round
      case rel => exact ⟨k + 1, by omega, by go_num, HNX⟩
      case measure => simp [intOf]; omega
  · have HA : Hid (noAt l c) := hid (by have := HK.out; rwa [List.take_of_length_le (by rw [HN.out]; omega)] at this)
    go_wp2_with fail
    go_ret
    exact ⟨⟨false, rfl, ⟨fun _ => HA.out, fun _ => rfl⟩⟩, rfl⟩
def idxI {α : Type} (p : α → Bool) : List α → Int
 | [] => -1
 | x :: l => if p x = true then 0 else if idxI p l < 0 then -1 else idxI p l + 1
theorem idxI_lt {α : Type} (p : α → Bool) : ∀ l : List α, -1 ≤ idxI p l ∧ idxI p l < l.length
 | [] => by simp [idxI]
 | x :: l => by
  have ih := idxI_lt p l
  rw [idxI, List.length_cons]
  split
  · omega
  · split <;> omega
theorem idxI_neg {α : Type} (p : α → Bool) : ∀ l : List α, idxI p l < 0 ↔ ∀ x ∈ l, p x = false
 | [] => by simp [idxI]
 | x :: l => by
  have ih := idxI_neg p l
  have hr := idxI_lt p l
  rw [idxI]
  by_cases hx : p x = true
  · rw [if_pos hx]
    constructor
    · intro h; omega
    · intro h; have := h x (List.mem_cons_self ..); rw [hx] at this; cases this
  · rw [if_neg hx]
    have hx' : p x = false := by simpa using hx
    by_cases hl : idxI p l < 0
    · rw [if_pos hl]
      refine ⟨fun _ y hy => ?_, fun _ => by omega⟩
      rcases List.mem_cons.1 hy with rfl | hy
      · exact hx'
      · exact ih.1 hl y hy
    · rw [if_neg hl]
      exact ⟨fun h => by omega, fun h => absurd (ih.2 fun y hy => h y (List.mem_cons_of_mem _ hy)) hl⟩
def idxF {α : Type} (p : α → Bool) (l : List α) (k : Nat) : Int := if idxI p (l.drop k) < 0 then -1 else idxI p (l.drop k) + k
theorem idxF_zero {α : Type} (p : α → Bool) (l : List α) : idxF p l 0 = idxI p l := by
 unfold idxF
 rw [List.drop_zero]
 have := idxI_lt p l
 split <;> omega
theorem idxF_hit {α : Type} (p : α → Bool) (l : List α) (k : Nat) (h : k < l.length) (hp : p l[k] = true) : idxF p l k = k := by
 unfold idxF
 rw [List.drop_eq_getElem_cons h, idxI, if_pos hp]
 simp
theorem idxF_miss {α : Type} (p : α → Bool) (l : List α) (k : Nat) (h : k < l.length) (hp : p l[k] = false) : idxF p l k = idxF p l (k + 1) := by
 unfold idxF
 have h1 : idxI p (l[k] :: l.drop (k + 1)) = if idxI p (l.drop (k + 1)) < 0 then -1 else idxI p (l.drop (k + 1)) + 1 := by rw [idxI, if_neg (by rw [hp]; simp)]
 rw [List.drop_eq_getElem_cons h, h1]
 have e : ∀ d : Int, (if (if d < 0 then (-1 : Int) else d + 1) < 0 then (-1 : Int) else (if d < 0 then -1 else d + 1) + (k : Int)) = if d < 0 then -1 else d + ((k + 1 : Nat) : Int) := by
  intro d
  by_cases h : d < 0
  · simp [h]
  · simp only [h, if_false]
    rw [if_neg (by omega)]; omega
 exact e _
theorem idxF_end {α : Type} (p : α → Bool) (l : List α) : idxF p l l.length = -1 := by
 unfold idxF; rw [List.drop_length]; rfl
def sIdx {α : Type} (l : List (Int × α)) (c : Int) : Int := idxI (fun x => decide (x.1 = c)) l
theorem sIdx_neg {α : Type} (l : List (Int × α)) (c : Int) : sIdx l c < 0 ↔ noAt l c := by
 unfold sIdx noAt
 rw [idxI_neg]
 simp
theorem shelfAt_is (v : Value) (l : List (Int × List UInt8)) (c : Int) (w : World) (h : SfV w v l) :
 Calls Tryz.prog 172 #[v, .int .i64 c] w fun e w' => e = .returned (.int .i64 (sIdx l c)) ∧ w = w' := by
 obtain ⟨a, cap, rfl, hm⟩ := two_form h
 have H := hid h
 obtain ⟨G, hG⟩ : ∃ G, sIdx l c = G := ⟨_, rfl⟩
 have HG0 : Hid (G = idxF (fun x => decide (x.1 = c)) l 0) := hid (by rw [idxF_zero]; exact hG.symm)
 rw [hG]
 obtain ⟨n, hn⟩ : ∃ n, l.length = n := ⟨_, rfl⟩
 rw [hn] at hm H ⊢
 have HN := hid hn
 clear h hn hG
 go_enter Tryz.func172, Tryz.ntmps172
 go_wp2_with fail
 go_loop [5] (fun iv => ∃ k : Nat, k ≤ n ∧ iv = .int .i64 k ∧ Hid (G = idxF (fun x => decide (x.1 = c)) l k)) (fun iv => n - (intOf iv).toNat)
 case atStart => exact ⟨0, by omega, rfl, HG0⟩
 case round =>
  obtain ⟨k, hk, rfl, HK⟩ := hrel
  by_cases hkn : k < n
  · have hkl : k < l.length := by rw [HN.out]; exact hkn
    obtain ⟨b, off, e1, -, c0, -⟩ := H.out.cell k hkl
    subst e1
    obtain ⟨y, hy⟩ : ∃ y, l[k].1 = y := ⟨_, rfl⟩
    rw [hy] at c0
    have HH : Hid (y = c → G = (k : Int)) := hid (fun h => by rw [HK.out]; exact idxF_hit _ l k hkl (decide_eq_true (hy.trans h)))
    have HM : Hid (¬ y = c → G = idxF (fun x => decide (x.1 = c)) l (k + 1)) := hid (fun h => by rw [HK.out]; exact idxF_miss _ l k hkl (decide_eq_false (by rw [hy]; exact h)))
    have k1 : (k : Int) < (n : Int) := by omega
    have k0 : (0 : Int) ≤ (k : Int) := by omega
    clear hy
    by_cases hyx : y = c
    · have hb : (y == c) = true := by simp [hyx]
      have HF : Hid (G = (k : Int)) := hid (HH.out hyx)
      clear hyx
      go_wp2_with fail
      go_ret
      exact ⟨by rw [HF.out]; rfl, rfl⟩
    · have hb : (y == c) = false := by simp [hyx]
      have HF := hid (HM.out hyx)
      clear hyx
      go_wp2_with fail
      go_round
      case rel => exact ⟨k + 1, by omega, by go_num, HF⟩
      case measure => simp [intOf]; omega
  · obtain rfl : k = n := by omega
    have HF : Hid (G = -1) := hid (by rw [HK.out, ← HN.out]; exact idxF_end _ l)
    go_wp2_with fail
    go_ret
    exact ⟨by rw [HF.out]; rfl, rfl⟩
theorem robotAt_is (v : Value) (l : List (Int × Int)) (c : Int) (w : World) (h : RbV w v l) :
 Calls Tryz.prog 173 #[v, .int .i64 c] w fun e w' => e = .returned (.bool (decide (0 ≤ sIdx l c))) ∧ w = w' := by
 have hd : decide (0 ≤ sIdx l c) = true ∨ decide (0 ≤ sIdx l c) = false := by cases decide (0 ≤ sIdx l c) <;> simp
 refine (robotAt_any v l c w h).mono ?_
 rintro e w' ⟨⟨r, rfl, hr⟩, rfl⟩
 refine ⟨?_, rfl⟩
 congr 2
 have h2 := sIdx_neg l c
 cases r with
 | false => rw [decide_eq_false]; have := h2.2 (hr.1 rfl); omega
 | true =>
  rw [decide_eq_true]
  apply Decidable.byContradiction
  intro hc
  have := hr.2 (h2.1 (by omega))
  cases this
def nIdx (l : List Si.Zone) (nm : ByteArray) : Int := idxI (fun z => (⟨z.name.toArray⟩ : ByteArray).toList == nm.toList) l
theorem named_is (v : Value) (l : List Si.Zone) (nm : ByteArray) (w : World) (h : ZnV w v l) :
 Calls Tryz.prog 230 #[v, .string nm] w fun e w' => e = .returned (.int .i64 (nIdx l nm)) ∧ w = w' := by
 obtain ⟨a, cap, rfl, hm⟩ := h.form
 have H := hid h
 obtain ⟨G, hG⟩ : ∃ G, nIdx l nm = G := ⟨_, rfl⟩
 have HG0 : Hid (G = idxF (fun z : Si.Zone => (⟨z.name.toArray⟩ : ByteArray).toList == nm.toList) l 0) := hid (by rw [idxF_zero]; exact hG.symm)
 rw [hG]
 obtain ⟨n, hn⟩ : ∃ n, l.length = n := ⟨_, rfl⟩
 rw [hn] at hm H ⊢
 have HN := hid hn
 clear h hn hG
 go_enter Tryz.func230, Tryz.ntmps230
 go_wp2_with fail
 go_loop [5] (fun iv => ∃ k : Nat, k ≤ n ∧ iv = .int .i64 k ∧ Hid (G = idxF (fun z : Si.Zone => (⟨z.name.toArray⟩ : ByteArray).toList == nm.toList) l k)) (fun iv => n - (intOf iv).toNat)
 case atStart => exact ⟨0, by omega, rfl, HG0⟩
 case round =>
  obtain ⟨k, hk, rfl, HK⟩ := hrel
  by_cases hkn : k < n
  · have hkl : k < l.length := by rw [HN.out]; exact hkn
    obtain ⟨b, off, u1, u2, e1, -, -, -, c0, -⟩ := H.out.cell k hkl
    subst e1
    obtain ⟨y, hy⟩ : ∃ y : ByteArray, ⟨l[k].name.toArray⟩ = y := ⟨_, rfl⟩
    rw [hy] at c0
    have HH : Hid ((y.toList == nm.toList) = true → G = (k : Int)) := hid (fun h => by rw [HK.out]; exact idxF_hit _ l k hkl (by rw [hy]; exact h))
    have HM : Hid ((y.toList == nm.toList) = false → G = idxF (fun z : Si.Zone => (⟨z.name.toArray⟩ : ByteArray).toList == nm.toList) l (k + 1)) := hid (fun h => by rw [HK.out]; exact idxF_miss _ l k hkl (by rw [hy]; exact h))
    have k1 : (k : Int) < (n : Int) := by omega
    have k0 : (0 : Int) ≤ (k : Int) := by omega
    clear hy
    cases hb : (y.toList == nm.toList)
    · have HF := hid (HM.out hb)
      go_wp2_with fail
      go_round
      case rel => exact ⟨k + 1, by omega, by go_num, HF⟩
      case measure => simp [intOf]; omega
    · have HF := hid (HH.out hb)
      go_wp2_with fail
      go_ret
      exact ⟨by rw [HF.out]; rfl, rfl⟩
  · obtain rfl : k = n := by omega
    have HF : Hid (G = -1) := hid (by rw [HK.out, ← HN.out]; exact idxF_end _ l)
    go_wp2_with fail
    go_ret
    exact ⟨by rw [HF.out]; rfl, rfl⟩
def spansB (x : Int) : List (Int × Int) → Bool
 | [] => true
 | p :: l => !decide (p.1 < x) && (!decide (p.1 ≥ p.2) && (!decide (p.2 > 20000) && spansB p.2 l))
theorem spansB_drop (x : Int) (l : List (Int × Int)) (k : Nat) (h : k < l.length) : spansB x (l.drop k) = (!decide (l[k].1 < x) && (!decide (l[k].1 ≥ l[k].2) && (!decide (l[k].2 > 20000) && spansB l[k].2 (l.drop (k + 1))))) := by
 rw [List.drop_eq_getElem_cons h, spansB]
theorem drewN_two {w W : World} (h : ∃ q, W = w.drewN q) (n : Nat) : ∃ q, W.drewN n = w.drewN q := by
 obtain ⟨q, rfl⟩ := h
 exact ⟨q + n, World.drewN_drewN ..⟩
theorem drewN_zero (w : World) : ∃ q, w = w.drewN q := ⟨0, rfl⟩
theorem drewN_below {B : Nat} {w W : World} (h : ∃ q, W = w.drewN q) : Below B w W := by obtain ⟨q, rfl⟩ := h; exact below_drewN _ _ _
theorem spans_is (v : Value) (l : List (Int × Int)) (w : World) (h : ShV w v l) :
 Calls Tryz.prog 231 #[v] w fun e w' => e = .returned (.bool (spansB 0 l)) ∧ ∃ q, w' = w.drewN q := by
 obtain ⟨a, cap, rfl, hm⟩ := two_form h
 have H := hid h
 obtain ⟨G, hG⟩ : ∃ G, spansB 0 l = G := ⟨_, rfl⟩
 have HG0 : Hid (G = spansB 0 (l.drop 0)) := hid (by rw [List.drop_zero]; exact hG.symm)
 rw [hG]
 obtain ⟨n, hn⟩ : ∃ n, l.length = n := ⟨_, rfl⟩
 rw [hn] at hm H ⊢
 have HN := hid hn
 clear h hn hG
 go_enter Tryz.func231, Tryz.ntmps231
 go_wp2_with fail
 go_loopw [3, 4] (fun lv iv wr => ∃ (k : Nat) (x : Int), k ≤ n ∧ iv = .int .i64 k ∧ lv = .int .i64 x ∧ Hid (G = spansB x (l.drop k)) ∧ Hid (∃ q, wr = w.drewN q)) (fun _ iv _ => n - (intOf iv).toNat)
 case atStart => exact ⟨0, 0, by omega, rfl, rfl, HG0, hid (drewN_zero w)⟩
 case round =>
  obtain ⟨k, x, hk, rfl, rfl, HK, HB⟩ := hrel
  by_cases hkn : k < n
  · have hkl : k < l.length := by rw [HN.out]; exact hkn
    obtain ⟨b, off, e1, -, c0, c1⟩ := ShV.cell (show ShV wr _ l from Rw.keep H.out (drewN_below HB.out)) k hkl
    subst e1
    have HS := hid (HK.out.trans (spansB_drop x l k hkl))
    obtain ⟨y, hy⟩ : ∃ y, l[k].1 = y := ⟨_, rfl⟩
    obtain ⟨z, hz⟩ : ∃ y, l[k].2 = y := ⟨_, rfl⟩
    rw [hy] at c0 HS
    rw [hz] at c1 HS
    have k1 : (k : Int) < (n : Int) := by omega
    have k0 : (0 : Int) ≤ (k : Int) := by omega
    clear hy hz
    have hab : ∀ p : Bool, p = true ∨ p = false := fun p => by cases p <;> simp
    have HD : Hid (∀ q, ∃ q', wr.drewN q = w.drewN q') := hid (fun q => drewN_two HB.out q)
    rcases hab (decide (y < x)) with hA | hA
    · have HF : Hid (G = false) := hid (by rw [HS.out, hA]; rfl)
      go_wp2_with fail
      go_quiet (fail)
      go_wp2_with fail
      go_ret
      exact ⟨by rw [HF.out]; rfl, HD.out _⟩
    · rcases hab (decide (y ≥ z)) with hB | hB
      · have HF : Hid (G = false) := hid (by rw [HS.out, hA, hB]; rfl)
        go_wp2_with fail
        go_quiet (fail)
        go_wp2_with fail
        go_ret
        exact ⟨by rw [HF.out]; rfl, HD.out _⟩
      · rcases hab (decide (z > 20000)) with hC | hC
        · have HF : Hid (G = false) := hid (by rw [HS.out, hA, hB, hC]; rfl)
          go_wp2_with fail
          go_quiet (fail)
          go_wp2_with fail
          go_ret
          exact ⟨by rw [HF.out]; rfl, HD.out _⟩
        · have HF : Hid (G = spansB z (l.drop (k + 1))) := hid (by rw [HS.out, hA, hB, hC]; rfl)
          go_wp2_with fail
          go_quiet (fail)
          go_wp2_with fail
          go_roundw
          case rel => exact ⟨k + 1, _, by omega, by go_num, rfl, HF, hid (HD.out _)⟩
          case measure => simp [intOf]; omega
  · have HF : Hid (G = true) := hid (by rw [HK.out, List.drop_eq_nil_of_le (by rw [HN.out]; omega)]; rfl)
    go_wp2_with fail
    go_ret
    exact ⟨by rw [HF.out]; rfl, HB.out⟩
theorem rSize_any (f : Fl.Floor) (kv ov : Value) (w : World) (hb : FB f) :
 Calls Tryz.prog 221 #[flV f kv ov] w fun e w' => e = .returned (.int .i64 f.size) ∧ Below w.heap.size w w' := by
 obtain ⟨⟨a1, a2⟩, a3, a4⟩ := hb.size
 obtain ⟨fw, fh, fd, kl, ol⟩ := f
 unfold flV Fl.Floor.size
 dsimp only at a1 a2 a3 a4 ⊢
 clear hb
 go_enter Tryz.func221, Tryz.ntmps221
 go_wp2_with fail
 go_ret
 exact ⟨rfl, (Below.refl _ _).alloc (Nat.le_refl _) _⟩
theorem rIs_any (f : Fl.Floor) (kv ov : Value) (c : Int) (w : World) (hb : FB f) :
 Calls Tryz.prog 170 #[flV f kv ov, .int .i64 c] w fun e w' => e = .returned (.bool (Fl.isC f c)) ∧ Below w.heap.size w w' := by
 have hc := fun W => rSize_any f kv ov W hb
 have HS : Hid (Fl.isC f c = (decide (0 ≤ c) && decide (c < f.size))) := hid rfl
 obtain ⟨S, hS⟩ : ∃ S, f.size = S := ⟨_, rfl⟩
 rw [hS] at hc HS
 unfold flV at hc ⊢
 have HC := hid hc
 clear hS hc
 by_cases h0 : 0 ≤ c
 · go_enter Tryz.func170, Tryz.ntmps170
   go_wp2_with fail
   go_at_call 221; refine (HC.out _).mono ?_; rintro e w1 ⟨rfl, b1⟩
   have B1 := hid b1
   clear b1
   go_wp2_with fail
   go_ret
   exact ⟨by rw [HS.out, decide_eq_true h0]; rfl, ((Below.refl _ w).alloc (Nat.le_refl _) _).trans (B1.out.mono (by simp))⟩
 · have HF : Hid (Fl.isC f c = false) := hid (by rw [HS.out, decide_eq_false h0, Bool.false_and])
   go_enter Tryz.func170, Tryz.ntmps170
   go_wp2_with fail
   go_ret
   exact ⟨by rw [HF.out]; rfl, (Below.refl _ _).alloc (Nat.le_refl _) _⟩
theorem rCell_any (f : Fl.Floor) (kv ov : Value) (x y z : Int) (w : World) (hb : FB f) :
 Calls Tryz.prog 281 #[flV f kv ov, .int .i64 x, .int .i64 y, .int .i64 z] w fun e w' => e = .returned (.int .i64 (Fl.cell f x y z)) ∧ Below w.heap.size w w' := by
 have B1 := hid ((Below.refl _ w).alloc (Nat.le_refl _) (.cells #[.int .i64 f.w, .int .i64 f.h, .int .i64 f.d, kv, ov] 24))
 by_cases h : 0 ≤ x ∧ 0 ≤ y ∧ 0 ≤ z ∧ x < f.w ∧ y < f.h ∧ z < f.d
 · obtain ⟨x0, y0, z0, x1, y1, z1⟩ := h
   obtain ⟨hc, ⟨e1, e2⟩, e3, e4⟩ := cell_in hb x0 y0 z0 x1 y1 z1
   have HC := hid hc
   have h1 := hb.w2
   have h2 := hb.h2
   obtain ⟨fw, fh, fd, kl, ol⟩ := f
   unfold flV
   dsimp only at *
   clear hc hb
   go_enter Tryz.func281, Tryz.ntmps281
   go_wp2_with fail
   all_goals
    go_ret
    exact ⟨by rw [HC.out]; rfl, B1.out⟩
 · have HC := hid (cell_out h)
   obtain ⟨fw, fh, fd, kl, ol⟩ := f
   unfold flV
   dsimp only at *
   have H := hid h
   clear hb h
   go_enter Tryz.func281, Tryz.ntmps281
   go_wp2_with fail
   all_goals first
    | (exfalso; have := H.out; omega)
    | (go_ret; exact ⟨by rw [HC.out]; rfl, B1.out⟩)
theorem Has_any (v : Value) (l : List Int) (x : Int) (w : World) (h : Is w v l) :
 Calls Tryz.prog 20 #[v, .int .i64 x] w fun e w' => e = .returned (.bool (l.any fun y => decide (y = x))) ∧ w = w' := by
 obtain ⟨a, cap, rfl, hm⟩ := h.form
 obtain ⟨R, hR⟩ : ∃ R, (l.any fun y => decide (y = x)) = R := ⟨_, rfl⟩
 have HR : Hid (((l.drop 0).any fun y => decide (y = x)) = R) := hid hR
 rw [hR]
 obtain ⟨n, hn⟩ : ∃ n, l.length = n := ⟨_, rfl⟩
 have H := hid h
 rw [hn] at hm H ⊢
 have HN := hid hn
 clear h hR hn
 go_enter Tryz.func20, Tryz.ntmps20
 go_wp2_with fail
 go_loop [5] (fun iv => ∃ k : Nat, k ≤ n ∧ iv = .int .i64 k ∧ Hid (((l.drop k).any fun y => decide (y = x)) = R)) (fun iv => n - (intOf iv).toNat)
 case atStart => exact ⟨0, by omega, rfl, HR⟩
 case round =>
  obtain ⟨k, hk, rfl, HK⟩ := hrel
  by_cases hkn : k < n
  · have hkl : k < l.length := by rw [HN.out]; exact hkn
    obtain ⟨b, off, e1, c0⟩ := H.out.cell k hkl
    subst e1
    obtain ⟨y, hy⟩ : ∃ y, l[k] = y := ⟨_, rfl⟩
    rw [hy] at c0
    have HD : Hid ((decide (y = x) || (l.drop (k + 1)).any fun y => decide (y = x)) = R) := hid (by rw [← HK.out, List.drop_eq_getElem_cons hkl, List.any_cons, hy])
    have k1 : (k : Int) < (n : Int) := by omega
    have k0 : (0 : Int) ≤ (k : Int) := by omega
    clear hy
    by_cases hyx : y = x
    · have hb : (y == x) = true := by simp [hyx]
      have HF : Hid (R = true) := hid (by rw [← HD.out, decide_eq_true hyx, Bool.true_or])
      clear hyx
      go_wp2_with fail
      go_ret
      exact ⟨by rw [HF.out]; rfl, rfl⟩
    · have hb : (y == x) = false := by simp [hyx]
      have HF : Hid (((l.drop (k + 1)).any fun y => decide (y = x)) = R) := hid (by rw [← HD.out, decide_eq_false hyx, Bool.false_or])
      clear hyx
      go_wp2_with fail
      go_round
      case rel => exact ⟨k + 1, by omega, by go_num, HF⟩
      case measure => simp [intOf]; omega
  · have HF : Hid (R = false) := hid (by rw [← HK.out, List.drop_eq_nil_of_le (by rw [HN.out]; omega)]; rfl)
    go_wp2_with fail
    go_ret
    exact ⟨by rw [HF.out]; rfl, rfl⟩
theorem rFew_any (f : Fl.Floor) (kv ov : Value) (c : Int) (w : World) (h : FlV w kv ov f) :
 Calls Tryz.prog 116 #[flV f kv ov, .int .i64 c] w fun e w' => e = .returned (.bool (decide ((f.kind.length : Int) ≤ c) && decide ((f.out.length : Int) ≤ c))) ∧ Below w.heap.size w w' := by
 obtain ⟨a1, c1, rfl, m1⟩ := h.kind.form
 obtain ⟨a2, c2, rfl, m2⟩ := h.out.form
 clear h
 unfold flV
 obtain ⟨n1, e1⟩ : ∃ n, f.kind.length = n := ⟨_, rfl⟩
 obtain ⟨n2, e2⟩ : ∃ n, f.out.length = n := ⟨_, rfl⟩
 rw [e1] at m1 ⊢
 rw [e2] at m2 ⊢
 clear e1 e2
 by_cases h1 : (n1 : Int) ≤ c
 · go_enter Tryz.func116, Tryz.ntmps116
   go_wp2_with fail
   go_ret
   exact ⟨by simp [h1], (Below.refl _ _).alloc (Nat.le_refl _) _⟩
 · go_enter Tryz.func116, Tryz.ntmps116
   go_wp2_with fail
   go_ret
   exact ⟨by simp [h1]; omega, (Below.refl _ _).alloc (Nat.le_refl _) _⟩
theorem drop_eq {α : Type} [DecidableEq α] (xs ys : List α) (k : Nat) (h : k < xs.length) (h' : k < ys.length) : decide (xs.drop k = ys.drop k) = (decide (xs[k] = ys[k]) && decide (xs.drop (k + 1) = ys.drop (k + 1))) := by
 rw [List.drop_eq_getElem_cons h, List.drop_eq_getElem_cons h']
 by_cases h1 : xs[k] = ys[k]
 · rw [decide_eq_true h1, Bool.true_and, h1]; exact decide_eq_decide.2 ⟨fun e => (by injection e), fun e => (by rw [e])⟩
 · rw [decide_eq_false h1, Bool.false_and]; exact decide_eq_false (fun e => h1 (by injection e))
theorem drop_all2 {α : Type} [DecidableEq α] (xs ys : List α) (k : Nat) (h : xs.length ≤ k) (h' : ys.length ≤ k) : decide (xs.drop k = ys.drop k) = true := by
 rw [List.drop_eq_nil_of_le h, List.drop_eq_nil_of_le h']; rfl
theorem rSame_any (va vb : Value) (xs ys : List Int) (w : World) (ha : Sl w va (ints xs)) (hb : Sl w vb (ints ys)) :
 Calls Tryz.prog 28 #[va, vb] w fun e w' => e = .returned (.bool (decide (xs = ys))) ∧ Below w.heap.size w w' := by
 have hav := ha
 have hbv := hb
 obtain ⟨a1, c1, rfl, m1⟩ := hav.slice
 obtain ⟨a2, c2, rfl, m2⟩ := hbv.slice
 rw [ints_len] at m1 m2 ⊢
 rw [ints_len]
 have mx1 : xs.length ≤ 9223372036854775807 := by unfold maxLen at m1; omega
 have mx2 : ys.length ≤ 9223372036854775807 := by unfold maxLen at m2; omega
 by_cases hl : xs.length = ys.length
 · have HA := hid ha
   have HB := hid hb
   obtain ⟨G, hG⟩ : ∃ G, G = decide (xs = ys) := ⟨_, rfl⟩
   rw [← hG]
   have HG := hid hG
   obtain ⟨n, hn⟩ : ∃ n, n = xs.length := ⟨_, rfl⟩
   have HN := hid hn
   have HN2 := hid (show n = ys.length by omega)
   have hn2 : ys.length = n := by omega
   rw [← hn] at mx1 ⊢
   rw [hn2]
   have hne : ((n : Int) != (n : Int)) = false := by simp
   clear ha hb hav hbv hG hn hn2 hl m1 m2 mx2
   go_enter Tryz.func28, Tryz.ntmps28
   go_wp2_with fail
   go_loopw [5] (fun iv wr => ∃ k : Nat, k ≤ n ∧ iv = .int .i64 k ∧ Hid (G = decide (xs.drop k = ys.drop k)) ∧ Hid (Below w.heap.size w wr)) (fun iv _ => n - (intOf iv).toNat)
   case atStart => exact ⟨0, by omega, rfl, HG, hid (Below.refl _ _)⟩
   case round =>
    obtain ⟨k, hk, rfl, HR, HW⟩ := hrel
    by_cases hkn : k < n
    · have hx : k < xs.length := by rw [← HN.out]; exact hkn
      have hy : k < ys.length := by rw [← HN2.out]; exact hkn
      obtain ⟨b1, o1, c1', e1, -, k1⟩ := (HA.out.below HW.out).some (by rw [ints_len]; omega)
      obtain ⟨b2, o2, c2', e2, -, k2⟩ := (HB.out.below HW.out).some (by rw [ints_len]; omega)
      injection e1 with e1 e3 e4
      injection e2 with e2 e5 e6
      subst e1 e2
      have p1 : wr.cell? ⟨b1, o1 + k, none⟩ = some (.int .i64 xs[k]) := (k1 k (by rw [ints_len]; exact hx)).trans (by simp [ints])
      have p2 : wr.cell? ⟨b2, o2 + k, none⟩ = some (.int .i64 ys[k]) := (k2 k (by rw [ints_len]; exact hy)).trans (by simp [ints])
      have hst := HR.out.trans (drop_eq xs ys k hx hy)
      obtain ⟨x, hxe⟩ : ∃ x, x = xs[k] := ⟨_, rfl⟩
      obtain ⟨y, hye⟩ : ∃ y, y = ys[k] := ⟨_, rfl⟩
      rw [← hxe] at p1 hst
      rw [← hye] at p2 hst
      have kI0 : (0 : Int) ≤ (k : Int) := by omega
      have kI1 : (k : Int) < (n : Int) := by omega
      clear k1 k2 e3 e4 e5 e6 hxe hye
      by_cases hq : x = y
      · have HS : Hid (G = decide (xs.drop (k + 1) = ys.drop (k + 1))) := hid (by rw [hst, decide_eq_true hq, Bool.true_and])
        have hne2 : (x != y) = false := by rw [hq]; simp
        clear hst hq
        go_wp2_with fail
        go_quiet (fail)
        all_goals
         go_wp2_with fail
         go_roundw
         case rel => exact ⟨k + 1, by omega, by go_num, HS, hid (HW.out.trans (below_drewN _ _ _))⟩
         case measure => simp [intOf]; omega
      · have HS : Hid (G = false) := hid (by rw [hst, decide_eq_false hq, Bool.false_and])
        have hne2 : (x != y) = true := by simpa using hq
        clear hst hq
        go_wp2_with fail
        go_quiet (fail)
        all_goals
         go_wp2_with fail
         go_ret
         exact ⟨by rw [HS.out]; rfl, HW.out.trans (below_drewN _ _ _)⟩
    · have hS := HR.out.trans (drop_all2 xs ys k (by rw [← HN.out]; omega) (by rw [← HN2.out]; omega))
      have HS := hid hS
      clear hS
      go_wp2_with fail
      go_ret
      exact ⟨by rw [HS.out]; rfl, HW.out⟩
 · have HS : Hid (decide (xs = ys) = false) := hid (decide_eq_false (fun h => hl (by rw [h])))
   have hne : ((xs.length : Int) != (ys.length : Int)) = true := by simp; omega
   obtain ⟨n, hn⟩ : ∃ n, n = xs.length := ⟨_, rfl⟩
   obtain ⟨m, hm⟩ : ∃ m, m = ys.length := ⟨_, rfl⟩
   rw [← hn] at hne ⊢
   rw [← hm] at hne ⊢
   clear ha hb hav hbv m1 m2 mx1 mx2 hl hn hm
   go_enter Tryz.func28, Tryz.ntmps28
   go_wp2_with fail
   go_ret
   exact ⟨by rw [HS.out]; rfl, Below.refl _ _⟩
def zoned (l : List Si.Zone) (c : Int) : Bool := l.any fun z => z.cells.any fun y => decide (y = c)
theorem zoneAt_any (v : Value) (l : List Si.Zone) (c : Int) (w : World) (h : ZnV w v l) :
 Calls Tryz.prog 233 #[v, .int .i64 c] w fun e w' => e = .returned (.bool (zoned l c)) ∧ w = w' := by
 obtain ⟨a, cap, rfl, hm⟩ := h.form
 have H := hid h
 obtain ⟨R, hR⟩ : ∃ R, zoned l c = R := ⟨_, rfl⟩
 have HR : Hid (zoned (l.drop 0) c = R) := hid hR
 rw [hR]
 obtain ⟨n, hn⟩ : ∃ n, l.length = n := ⟨_, rfl⟩
 rw [hn] at hm H ⊢
 have HN := hid hn
 clear h hn hR
 go_enter Tryz.func233, Tryz.ntmps233
 go_wp2_with fail
 go_loop [5] (fun iv => ∃ k : Nat, k ≤ n ∧ iv = .int .i64 k ∧ Hid (zoned (l.drop k) c = R)) (fun iv => n - (intOf iv).toNat)
 case atStart => exact ⟨0, by omega, rfl, HR⟩
 case round =>
  obtain ⟨k, hk, rfl, HK⟩ := hrel
  by_cases hkn : k < n
  · have hkl : k < l.length := by rw [HN.out]; exact hkn
    obtain ⟨b, off, u1, u2, e1, -, hu1, -, -, c1, -⟩ := H.out.cell k hkl
    subst e1
    have HD : Hid (((l[k].cells.any fun y => decide (y = c)) || zoned (l.drop (k + 1)) c) = R) := hid (by rw [← HK.out, List.drop_eq_getElem_cons hkl]; rfl)
    have HT := hid (Has_any u1 l[k].cells c w hu1)
    obtain ⟨z, hz⟩ : ∃ z, (l[k].cells.any fun y => decide (y = c)) = z := ⟨_, rfl⟩
    rw [hz] at HD HT
    obtain ⟨ua, uc, hua, -⟩ := hu1.form
    subst hua
    have k1 : (k : Int) < (n : Int) := by omega
    have k0 : (0 : Int) ≤ (k : Int) := by omega
    clear hz hu1
    cases z
    · have HF : Hid (zoned (l.drop (k + 1)) c = R) := hid (by have := HD.out; rwa [Bool.false_or] at this)
      go_wp2_with fail
      go_at_call 20; refine HT.out.mono ?_; rintro e w3 ⟨rfl, rfl⟩
      go_wp2_with fail
      go_round
      case rel => exact ⟨k + 1, by omega, by go_num, HF⟩
      case measure => simp [intOf]; omega
    · have HF : Hid (R = true) := hid (by rw [← HD.out, Bool.true_or])
      go_wp2_with fail
      go_at_call 20; refine HT.out.mono ?_; rintro e w3 ⟨rfl, rfl⟩
      go_wp2_with fail
      go_ret
      exact ⟨by rw [HF.out]; rfl, rfl⟩
  · have HF : Hid (R = false) := hid (by rw [← HK.out, List.drop_eq_nil_of_le (by rw [HN.out]; omega)]; rfl)
    go_wp2_with fail
    go_ret
    exact ⟨by rw [HF.out]; rfl, rfl⟩
theorem stands_any (k : Int) (w : World) :
 Calls Tryz.prog 171 #[.int .i64 k] w fun e w' => e = .returned (.bool (decide (k = 1) || decide (k = 2))) ∧ w = w' := by
 go_enter Tryz.func171, Tryz.ntmps171
 by_cases h1 : k = 1
 · have e1 : (k == 1) = true := by simp [h1]
   go_wp2_with fail
   go_ret
   exact ⟨by simp [h1], rfl⟩
 · have e1 : (k == 1) = false := by simp [h1]
   go_wp2_with fail
   go_ret
   exact ⟨by simp [h1]; rfl, rfl⟩
theorem rzoned_any (k : Int) (w : World) :
 Calls Tryz.prog 232 #[.int .i64 k] w fun e w' => e = .returned (.bool (!(decide (k = 0)) && (!(decide (k = 4)) && !(decide (k = 5))))) ∧ w = w' := by
 go_enter Tryz.func232, Tryz.ntmps232
 by_cases h1 : k = 0
 · have e1 : (k != 0) = false := by simp [h1]
   go_wp2_with fail
   all_goals
    go_ret
    exact ⟨by simp [h1], rfl⟩
 · have e1 : (k != 0) = true := by simp [h1]
   by_cases h2 : k = 4
   · have e2 : (k != 4) = false := by simp [h2]
     go_wp2_with fail
     all_goals
      go_ret
      exact ⟨by simp [h2], rfl⟩
   · have e2 : (k != 4) = true := by simp [h2]
     go_wp2_with fail
     all_goals
      go_ret
      exact ⟨by simp [h1, h2]; rfl, rfl⟩
def siV (s : Si.Site) (kv ov zv av sv rv : Value) : Value := .agg #[.int .i64 s.floor.w, .int .i64 s.floor.h, .int .i64 s.floor.d, kv, ov, zv, av, sv, rv]
theorem SiV.open {w : World} {kv ov zv av sv rv : Value} {s : Si.Site} (h : SiV w kv ov zv av sv rv s) : ∃ a1 c1 a2 c2 a3 c3 a4 c4 a5 c5 a6 c6, kv = .slice a1 s.floor.kind.length c1 ∧ ov = .slice a2 s.floor.out.length c2 ∧ zv = .slice a3 s.zones.length c3 ∧ av = .slice a4 s.aparts.length c4 ∧ sv = .slice a5 s.shelves.length c5 ∧ rv = .slice a6 s.robots.length c6 ∧
 s.floor.kind.length ≤ 9223372036854775807 ∧ s.floor.out.length ≤ 9223372036854775807 ∧ s.zones.length ≤ 9223372036854775807 ∧ s.aparts.length ≤ 9223372036854775807 ∧ s.shelves.length ≤ 9223372036854775807 ∧ s.robots.length ≤ 9223372036854775807 := by
 obtain ⟨a1, c1, e1, m1⟩ := h.fl.kind.form
 obtain ⟨a2, c2, e2, m2⟩ := h.fl.out.form
 obtain ⟨a3, c3, e3, m3⟩ := h.zn.form
 obtain ⟨a4, c4, e4, m4⟩ := two_form h.ap
 obtain ⟨a5, c5, e5, m5⟩ := two_form h.sf
 obtain ⟨a6, c6, e6, m6⟩ := two_form h.rb
 exact ⟨a1, c1, a2, c2, a3, c3, a4, c4, a5, c5, a6, c6, e1, e2, e3, e4, e5, e6, m1, m2, m3, m4, m5, m6⟩
theorem heap_two0 (w : World) (A B : Obj) : ((w.alloc A).alloc B).heap[w.heap.size]? = some A :=
 (Below.heap_alloc (w.alloc A) B w.heap.size (by simp)).trans (heap_alloc_new w A)
def BlPost (n : Nat) (e : Ending) : Prop := ∃ m : Nat, e = .returned (.int .i64 (m : Int)) ∧ m ≤ n
theorem qsame {P : Program} {f : FuncId} {args : Array Value} {w : World} {n : Nat} {v : Value}
 (h : Calls P f args (w.drewN n) fun e w' => e = .returned v ∧ w.drewN n = w') : Calls P f args (w.drewN n) fun e w'' => e = .returned v ∧ ∃ m, w'' = w.drewN m :=
 h.mono fun _ _ ⟨he, hm⟩ => ⟨he, n, hm.symm⟩
theorem blanks_any (s : Si.Site) (kv ov zv av sv rv : Value) (z : Si.Zone) (u1 u2 : Value) (w : World) (h : SiV w kv ov zv av sv rv s) (h1 : Is w u1 z.cells) (h2 : ShV w u2 z.shut) (hc : ∀ c ∈ z.cells, 0 ≤ c ∧ c.toNat < s.floor.kind.length) :
 Calls Tryz.prog 174 #[siV s kv ov zv av sv rv, .agg #[.string ⟨z.name.toArray⟩, u1, .int .i64 z.speed, .int .i64 z.keep, u2]] w fun e w' => BlPost z.cells.length e ∧ Below w.heap.size w w' := by
 obtain ⟨a1, c1, a2, c2, a3, c3, a4, c4, a5, c5, a6, c6, rfl, rfl, rfl, rfl, rfl, rfl, m1, m2, m3, m4, m5, m6⟩ := h.open
 obtain ⟨b1, d1, rfl, n1⟩ := h1.form
 obtain ⟨b2, d2, rfl, n2⟩ := two_form h2
 have HK := hid h.fl.kind
 have HF := hid h.sf
 have HC := hid h1
 have HR := hid hc
 obtain ⟨l1, e1⟩ : ∃ n, s.floor.kind.length = n := ⟨_, rfl⟩
 obtain ⟨l2, e2⟩ : ∃ n, s.floor.out.length = n := ⟨_, rfl⟩
 obtain ⟨l3, e3⟩ : ∃ n, s.zones.length = n := ⟨_, rfl⟩
 obtain ⟨l4, e4⟩ : ∃ n, s.aparts.length = n := ⟨_, rfl⟩
 obtain ⟨l5, e5⟩ : ∃ n, s.shelves.length = n := ⟨_, rfl⟩
 obtain ⟨l6, e6⟩ : ∃ n, s.robots.length = n := ⟨_, rfl⟩
 obtain ⟨n, e7⟩ : ∃ n, z.cells.length = n := ⟨_, rfl⟩
 obtain ⟨m, e8⟩ : ∃ n, z.shut.length = n := ⟨_, rfl⟩
 unfold siV
 rw [e1] at HR HK
 rw [e5] at HF
 rw [e7] at HC n1
 rw [e1, e2, e3, e4, e5, e6, e7, e8]
 have HN := hid e7
 have HL := hid e1
 have B1 := hid (((Below.refl _ w).alloc (Nat.le_refl _) (.cells #[.int .i64 s.floor.w, .int .i64 s.floor.h, .int .i64 s.floor.d, .slice a1 l1 c1, .slice a2 l2 c2, .slice a3 l3 c3, .slice a4 l4 c4, .slice a5 l5 c5, .slice a6 l6 c6] 30)).alloc (by simp) (.cells #[.string ⟨z.name.toArray⟩, .slice b1 n d1, .int .i64 z.speed, .int .i64 z.keep, .slice b2 m d2] 80))
 have I0 := hid (heap_two0 w (.cells #[.int .i64 s.floor.w, .int .i64 s.floor.h, .int .i64 s.floor.d, .slice a1 l1 c1, .slice a2 l2 c2, .slice a3 l3 c3, .slice a4 l4 c4, .slice a5 l5 c5, .slice a6 l6 c6] 30) (.cells #[.string ⟨z.name.toArray⟩, .slice b1 n d1, .int .i64 z.speed, .int .i64 z.keep, .slice b2 m d2] 80))
 have I1 := hid (heap_two3 w (.cells #[.int .i64 s.floor.w, .int .i64 s.floor.h, .int .i64 s.floor.d, .slice a1 l1 c1, .slice a2 l2 c2, .slice a3 l3 c3, .slice a4 l4 c4, .slice a5 l5 c5, .slice a6 l6 c6] 30) (.cells #[.string ⟨z.name.toArray⟩, .slice b1 n d1, .int .i64 z.speed, .int .i64 z.keep, .slice b2 m d2] 80))
 clear h h1 h2 hc e1 e2 e3 e4 e5 e6 e7 e8
 go_enter Tryz.func174, Tryz.ntmps174
 go_wp2_with fail
 go_loopw [5, 6] (fun mv iv wr => ∃ k j : Nat, k ≤ n ∧ j ≤ k ∧ iv = .int .i64 k ∧ mv = .int .i64 j ∧ Hid (Below w.heap.size w wr) ∧
  Hid (wr.heap[w.heap.size]? = some (.cells #[.int .i64 s.floor.w, .int .i64 s.floor.h, .int .i64 s.floor.d, .slice a1 l1 c1, .slice a2 l2 c2, .slice a3 l3 c3, .slice a4 l4 c4, .slice a5 l5 c5, .slice a6 l6 c6] 30 (0, 0))) ∧
  Hid (wr.heap[w.heap.size + 1]? = some (.cells #[.string ⟨z.name.toArray⟩, .slice b1 n d1, .int .i64 z.speed, .int .i64 z.keep, .slice b2 m d2] 80 (0, 0)))) (fun _ iv _ => n - (intOf iv).toNat)
 case atStart => exact ⟨0, 0, by omega, by omega, rfl, rfl, B1, I0, I1⟩
 case round =>
  obtain ⟨k, j, hk, hj, rfl, rfl, HB, J0, J1⟩ := hrel
  have p3 : wr.cell? ⟨w.heap.size, 3, none⟩ = some (.slice a1 l1 c1) := cell_of_heap J0.out 3 rfl
  have p7 : wr.cell? ⟨w.heap.size, 7, none⟩ = some (.slice a5 l5 c5) := cell_of_heap J0.out 7 rfl
  have q1 : wr.cell? ⟨w.heap.size + 1, 1, none⟩ = some (.slice b1 n d1) := cell_of_heap J1.out 1 rfl
  by_cases hkn : k < n
  · have hkl : k < z.cells.length := by rw [HN.out]; exact hkn
    obtain ⟨g1, o1, t1, r1⟩ := (HC.out.keep HB.out).cell k hkl
    subst t1
    obtain ⟨x0, x1⟩ := HR.out _ (List.getElem_mem hkl)
    obtain ⟨C, hC⟩ : ∃ C : Nat, z.cells[k] = (C : Int) := ⟨z.cells[k].toNat, by omega⟩
    rw [hC] at r1 x1
    rw [Int.toNat_natCast] at x1
    have x2 : C < s.floor.kind.length := by rw [HL.out]; exact x1
    obtain ⟨g2, o2, t2, r2⟩ := (HK.out.keep HB.out).cell C x2
    subst t2
    obtain ⟨K, hK⟩ : ∃ K, s.floor.kind[C] = K := ⟨_, rfl⟩
    rw [hK] at r2
    have HST := hid (stands_any K)
    obtain ⟨B, hB⟩ : ∃ B, (decide (K = 1) || decide (K = 2)) = B := ⟨_, rfl⟩
    rw [hB] at HST
    have HSH := hid (fun W hb => shelfAt_is _ s.shelves (C : Int) W (Rw.keep HF.out hb))
    obtain ⟨D, hD⟩ : ∃ D, sIdx s.shelves (C : Int) = D := ⟨_, rfl⟩
    rw [hD] at HSH
    have HD : Hid (∀ q, Below w.heap.size w (wr.drewN q)) := hid (fun q => HB.out.trans (below_drewN _ _ _))
    have k1 : (k : Int) < (n : Int) := by omega
    have k0 : (0 : Int) ≤ (k : Int) := by omega
    have k2 : (C : Int) < (l1 : Int) := by omega
    have k3 : (0 : Int) ≤ (C : Int) := by omega
    clear hC hK hB hD x0
    cases B with
    | false =>
     go_wp2_with fail
     go_quiet ((go_at_call 171; exact qsame (HST.out _)))
     go_wp2_with fail
     go_roundw
     case rel => exact ⟨k + 1, j, by omega, by omega, by go_num, rfl, hid (HD.out _), J0, J1⟩
     case measure => simp [intOf]; omega
    | true =>
     have hab : ∀ p : Bool, p = true ∨ p = false := fun p => by cases p <;> simp
     rcases hab (decide (D < 0)) with hA | hA
     · go_wp2_with fail
       go_quiet (first
        | (go_at_call 171; exact qsame (HST.out _))
        | (go_at_call 172; exact qsame (HSH.out _ (HD.out _))))
       go_wp2_with fail
       go_roundw
       case rel => exact ⟨k + 1, j + 1, by omega, by omega, by go_num, by go_num, hid (HD.out _), J0, J1⟩
       case measure => simp [intOf]; omega
     · go_wp2_with fail
       go_quiet (first
        | (go_at_call 171; exact qsame (HST.out _))
        | (go_at_call 172; exact qsame (HSH.out _ (HD.out _))))
       go_wp2_with fail
       go_roundw
       case rel => exact ⟨k + 1, j, by omega, by omega, by go_num, rfl, hid (HD.out _), J0, J1⟩
       case measure => simp [intOf]; omega
  · go_wp2_with fail
    go_ret
    exact ⟨⟨j, rfl, by omega⟩, HB.out⟩
theorem charger_any (f : Fl.Floor) (kv ov : Value) (w : World) (h : FlV w kv ov f) :
 Calls Tryz.prog 176 #[flV f kv ov] w fun e w' => ABool e ∧ Below w.heap.size w w' := by
 have HT := hid (fun W (hb : Below w.heap.size w W) => Has_any kv f.kind 3 W (h.kind.keep hb))
 obtain ⟨a1, c1, rfl, m1⟩ := h.kind.form
 have HB : Hid (∀ b : Bool, ABool (.returned (.bool b))) := hid (fun b => ⟨b, rfl⟩)
 obtain ⟨R, hR⟩ : ∃ R, (f.kind.any fun y => decide (y = 3)) = R := ⟨_, rfl⟩
 rw [hR] at HT
 unfold flV
 clear h hR
 go_enter Tryz.func176, Tryz.ntmps176
 go_wp2_with fail
 go_at_call 20; refine (HT.out _ ((Below.refl _ w).alloc (Nat.le_refl _) _)).mono ?_; rintro e w3 ⟨rfl, rfl⟩
 go_wp2_with fail
 go_ret
 exact ⟨HB.out _, (Below.refl _ w).alloc (Nat.le_refl _) _⟩
theorem rAt_any (f : Fl.Floor) (kv ov : Value) (c : Int) (w : World) (hb : FB f) :
 Calls Tryz.prog 280 #[flV f kv ov, .int .i64 c] w fun e w' => e = .returned (.tuple #[.int .i64 (Fl.atX f c), .int .i64 (Fl.atY f c), .int .i64 (Fl.atZ f c)]) ∧ Below w.heap.size w w' := by
 have hc := fun W => rIs_any f kv ov c W hb
 obtain ⟨⟨a1, a2⟩, a3, a4⟩ := hb.size
 have HS : Hid (Fl.atX f c = if Fl.isC f c = true then c % f.w else 0) := hid rfl
 have HY : Hid (Fl.atY f c = if Fl.isC f c = true then c / f.w % f.h else 0) := hid rfl
 have HZ : Hid (Fl.atZ f c = if Fl.isC f c = true then c / (f.w * f.h) else 0) := hid rfl
 have hS : Fl.isC f c = true → 0 ≤ c ∧ c < f.w * f.h * f.d := by
  intro h
  unfold Fl.isC Fl.Floor.size at h
  simpa using h
 obtain ⟨B, hB⟩ : ∃ B, Fl.isC f c = B := ⟨_, rfl⟩
 rw [hB] at hc HS HY HZ hS
 have h1 := hb.w1
 have h2 := hb.h1
 have h3 := hb.w2
 have h4 := hb.h2
 have hp : 1 ≤ f.w * f.h := by
  have := Int.mul_le_mul h1 h2 (by omega) (by omega : (0 : Int) ≤ f.w)
  omega
 have B1 := hid ((Below.refl _ w).alloc (Nat.le_refl _) (.cells #[.int .i64 f.w, .int .i64 f.h, .int .i64 f.d, kv, ov] 24))
 have HC := hid hc
 unfold flV at HC ⊢
 cases B with
 | false =>
  clear hB hc hS
  go_enter Tryz.func280, Tryz.ntmps280
  go_wp2_with fail
  go_at_call 170; refine (HC.out _).mono ?_; rintro e w1 ⟨rfl, b1⟩
  have B2 := hid (B1.out.trans (b1.mono B1.out.size))
  clear b1
  go_wp2_with fail
  go_ret3
  exact ⟨by rw [HS.out, HY.out, HZ.out]; rfl, B2.out⟩
 | true =>
  obtain ⟨c0, c1⟩ := hS rfl
  have c2 : 0 ≤ c / f.w := Int.ediv_nonneg c0 (by omega)
  have HX2 : Hid (Fl.atX f c = c % f.w) := hid (by rw [HS.out]; rfl)
  have HY2 : Hid (Fl.atY f c = c / f.w % f.h) := hid (by rw [HY.out]; rfl)
  have HZ2 : Hid (Fl.atZ f c = c / (f.w * f.h)) := hid (by rw [HZ.out]; rfl)
  have HW : Hid (wrap64 ((c / f.w).tdiv f.h) = c / (f.w * f.h)) := hid (by
   rw [Int.tdiv_eq_ediv_of_nonneg c2, Int.ediv_ediv, if_neg (by omega), Int.sub_zero]
   have q0 : 0 ≤ c / (f.w * f.h) := Int.ediv_nonneg c0 (by omega)
   have q1 : c / (f.w * f.h) ≤ c := Int.ediv_le_self _ c0
   unfold wrap64
   omega)
  clear hB hc hS
  go_enter Tryz.func280, Tryz.ntmps280
  go_wp2_with fail
  go_at_call 170; refine (HC.out _).mono ?_; rintro e w1 ⟨rfl, b1⟩
  have i1 : w1.heap[w.heap.size]? = some (.cells #[.int .i64 f.w, .int .i64 f.h, .int .i64 f.d, kv, ov] 24 (0, 0)) := (b1.block w.heap.size (by simp)).trans (heap_alloc_new _ _)
  have d0 : w1.cell? ⟨w.heap.size, 0, none⟩ = some (.int .i64 f.w) := cell_of_heap i1 0 rfl
  have d1 : w1.cell? ⟨w.heap.size, 1, none⟩ = some (.int .i64 f.h) := cell_of_heap i1 1 rfl
  have B2 := hid (B1.out.trans (b1.mono B1.out.size))
  clear b1 i1
  go_wp2_with fail
  go_quiet (fail)
  go_wp2_with fail
  go_ret3
  exact ⟨by rw [HX2.out, HY2.out, HZ2.out, ← HW.out]; rfl, B2.out.trans (below_drewN _ _ _)⟩
def digI (x : Int) : Bool := decide (48 ≤ x) && decide (x ≤ 57)
def chrI (x : Int) : Bool := (decide (97 ≤ x) && decide (x ≤ 122)) || ((decide (65 ≤ x) && decide (x ≤ 90)) || (digI x || (decide (x = 95) || decide (x = 45))))
def badI (k : Nat) (x : Int) : Bool := !chrI x || (decide (k = 0) && digI x)
theorem rName_ex (b : ByteArray) (hb : b.size ≤ 1000000) :
 ∃ r : Bool, ∀ w, Calls Tryz.prog 168 #[.string b] w fun e w' => e = .returned (.bool r) ∧ w = w' := by
 obtain ⟨R, hR⟩ : ∃ R : Bool, R = true ↔ ((∀ i, (h : i < b.size) → badI i (b[i].toNat : Int) = false) ∧ (1 ≤ b.size ∧ b.size ≤ 20)) := ⟨@decide _ (Classical.propDecidable _), @decide_eq_true_iff _ (Classical.propDecidable _)⟩
 refine ⟨R, fun w => ?_⟩
 obtain ⟨n, hn⟩ : ∃ n, b.size = n := ⟨_, rfl⟩
 have HN := hid hn
 have HR := hid hR
 rw [hn] at hb
 clear hR
 go_enter Tryz.func168, Tryz.ntmps168
 go_wp2_with fail
 go_loop [3] (fun iv => ∃ k : Nat, k ≤ n ∧ iv = .int .i64 k ∧ Hid (∀ i, (h : i < b.size) → i < k → badI i (b[i].toNat : Int) = false)) (fun iv => n - (intOf iv).toNat)
 case atStart => exact ⟨0, by omega, rfl, hid (fun i _ h => by omega)⟩
 case round =>
  obtain ⟨k, hk, rfl, HK⟩ := hrel
  by_cases hkn : k < n
  · have k1 : (k : Int) < (n : Int) := by omega
    have k0 : (0 : Int) ≤ (k : Int) := by omega
    have k2 : k < b.size := by omega
    have HBAD : Hid (badI k (b[k].toNat : Int) = true → R = false) := hid (fun h => by
     cases hRR : R with
     | false => rfl
     | true => have := (HR.out.1 hRR).1 k k2; rw [h] at this; cases this)
    have HGOOD : Hid (badI k (b[k].toNat : Int) = false → ∀ i, (h : i < b.size) → i < k + 1 → badI i (b[i].toNat : Int) = false) := hid (fun h i hi hik => by
     by_cases e : i = k
     · subst e; exact h
     · exact HK.out i hi (by omega))
    go_upto_region 5 with fail
    go_cut [5] (fun v wx => v = .bool (digI (b[k].toNat : Int)) ∧ wx = w)
    case first =>
     go_wp2_with fail
     all_goals
      go_meet
      refine ⟨?_, rfl⟩
      congr 1; simp [digI]; omega
    case rest =>
     obtain ⟨rfl, rfl⟩ := hcut
     obtain ⟨x, hx⟩ : ∃ x, (b[k].toNat : Int) = x := ⟨_, rfl⟩
     obtain ⟨dg, hdg⟩ : ∃ dg, digI x = dg := ⟨_, rfl⟩
     rw [hx] at HBAD HGOOD ⊢
     rw [hdg]
     have HDG := hid hdg
     have HX := hid hx
     clear hdg hx
     go_upto_region 6 with fail
     go_cut [3, 4, 53] (fun iv cv v wx => iv = .int .i64 (k : Int) ∧ v = .bool (badI k x) ∧ wx = wc)
     case first =>
      cases dg
      all_goals go_wp2_with fail
      all_goals
       go_meet
       refine ⟨by first | rfl | (congr 1; omega), ?_, rfl⟩
       have h1 := HDG.out
       first
        | (congr 1; simp [badI, chrI, h1]; omega)
        | (congr 1; simp [badI, chrI, h1])
     case rest =>
      obtain ⟨rfl, rfl, rfl⟩ := hcut
      cases hbd : badI k x
      · have HF := hid (HGOOD.out hbd)
        go_wp2_with fail
        go_round
        case rel => exact ⟨k + 1, by omega, by go_num, HF⟩
        case measure => simp [intOf]; omega
      · have HF := hid (HBAD.out hbd)
        go_wp2_with fail
        go_ret
        exact ⟨by rw [HF.out]; rfl, rfl⟩
  · have HA : Hid (∀ i, (h : i < b.size) → badI i (b[i].toNat : Int) = false) := hid (fun i h => HK.out i h (by have := HN.out; omega))
    have HT : Hid (1 ≤ n → n ≤ 20 → R = true) := hid (fun h1 h2 => HR.out.2 ⟨HA.out, by have := HN.out; omega⟩)
    have HFF : Hid (¬ (1 ≤ n ∧ n ≤ 20) → R = false) := hid (fun h1 => by
     cases hRR : R with
     | false => rfl
     | true => exact absurd (by have := (HR.out.1 hRR).2; have := HN.out; omega) h1)
    by_cases g1 : 1 ≤ n
    · by_cases g2 : n ≤ 20
      · have HF := hid (HT.out g1 g2)
        have j1 : (n : Int) ≥ 1 := by omega
        have j2 : (n : Int) ≤ 20 := by omega
        go_wp2_with fail
        go_ret
        exact ⟨by rw [HF.out]; rfl, rfl⟩
      · have HF := hid (HFF.out (fun h => g2 h.2))
        have j1 : (n : Int) ≥ 1 := by omega
        have j2 : ¬ (n : Int) ≤ 20 := by omega
        go_wp2_with fail
        go_ret
        exact ⟨by rw [HF.out]; rfl, rfl⟩
    · have HF := hid (HFF.out (fun h => g1 h.1))
      have j1 : ¬ (n : Int) ≥ 1 := by omega
      go_wp2_with fail
      go_ret
      exact ⟨by rw [HF.out]; rfl, rfl⟩
def hitA (y z s t : List UInt8) : Prop := (y = s ∧ z = t) ∨ (y = t ∧ z = s)
theorem Apart_ex (l : List (List UInt8 × List UInt8)) (s t : ByteArray) :
 ∃ r : Bool, ∀ v w, ApV w v l → Calls Tryz.prog 169 #[v, .string s, .string t] w fun e w' => e = .returned (.bool r) ∧ w = w' := by
 obtain ⟨R, hR⟩ : ∃ R : Bool, R = true ↔ (s.toList ≠ [] ∧ t.toList ≠ [] ∧ ∃ i, ∃ h : i < l.length, hitA (⟨l[i].1.toArray⟩ : ByteArray).toList (⟨l[i].2.toArray⟩ : ByteArray).toList s.toList t.toList) := ⟨@decide _ (Classical.propDecidable _), @decide_eq_true_iff _ (Classical.propDecidable _)⟩
 refine ⟨R, fun v w h => ?_⟩
 obtain ⟨a, cap, rfl, hm⟩ := two_form h
 have H := hid h
 have HR := hid hR
 have HS0 : Hid (s.toList = [] → R = false) := hid (fun h => by
  cases hRR : R with
  | false => rfl
  | true => exact absurd h (HR.out.1 hRR).1)
 have HT0 : Hid (((!s.toList.isEmpty) = false ∨ (!t.toList.isEmpty) = false) → R = false) := hid (fun h => by
  cases hRR : R with
  | false => rfl
  | true =>
   obtain ⟨h1, h2, -⟩ := HR.out.1 hRR
   exfalso
   rcases h with h | h
   · exact h1 (by simpa using h)
   · exact h2 (by simpa using h))
 obtain ⟨n, hn⟩ : ∃ n, l.length = n := ⟨_, rfl⟩
 rw [hn] at hm H ⊢
 have HN := hid hn
 clear h hn hR
 go_enter Tryz.func169, Tryz.ntmps169
 go_wp2_with fail
 go_loop [7] (fun iv => ∃ k : Nat, k ≤ n ∧ iv = .int .i64 k ∧ Hid (∀ i, (h : i < l.length) → i < k → ¬ hitA (⟨l[i].1.toArray⟩ : ByteArray).toList (⟨l[i].2.toArray⟩ : ByteArray).toList s.toList t.toList)) (fun iv => n - (intOf iv).toNat)
 case atStart => exact ⟨0, by omega, rfl, hid (fun i _ h => by omega)⟩
 case round =>
  obtain ⟨k, hk, rfl, HK⟩ := hrel
  by_cases hkn : k < n
  · have hkl : k < l.length := by rw [HN.out]; exact hkn
    obtain ⟨b, off, e1, -, c0, c1⟩ := H.out.cell k hkl
    subst e1
    have HHIT : Hid (s.toList ≠ [] → t.toList ≠ [] → hitA (⟨l[k].1.toArray⟩ : ByteArray).toList (⟨l[k].2.toArray⟩ : ByteArray).toList s.toList t.toList → R = true) := hid (fun h1 h2 h3 => HR.out.2 ⟨h1, h2, k, hkl, h3⟩)
    have HMISS : Hid (¬ hitA (⟨l[k].1.toArray⟩ : ByteArray).toList (⟨l[k].2.toArray⟩ : ByteArray).toList s.toList t.toList → ∀ i, (h : i < l.length) → i < k + 1 → ¬ hitA (⟨l[i].1.toArray⟩ : ByteArray).toList (⟨l[i].2.toArray⟩ : ByteArray).toList s.toList t.toList) := hid (fun h1 i hi hik => by
     by_cases e : i = k
     · subst e; exact h1
     · exact HK.out i hi (by omega))
    obtain ⟨y, hy⟩ : ∃ y : ByteArray, ⟨l[k].1.toArray⟩ = y := ⟨_, rfl⟩
    obtain ⟨z, hz⟩ : ∃ y : ByteArray, ⟨l[k].2.toArray⟩ = y := ⟨_, rfl⟩
    rw [hy] at c0
    rw [hz] at c1
    rw [hy, hz] at HHIT HMISS
    have k1 : (k : Int) < (n : Int) := by omega
    have k0 : (0 : Int) ≤ (k : Int) := by omega
    clear hy hz
    go_wp2_with fail
    all_goals first
     | (go_ret; refine ⟨?_, rfl⟩; rw [HS0.out]; all_goals first | rfl | assumption)
     | (go_ret; refine ⟨?_, rfl⟩; rw [HT0.out]; all_goals first | rfl | assumption)
     | (go_ret; refine ⟨?_, rfl⟩; rw [HHIT.out]; all_goals first | rfl | assumption | (simp_all [hitA]; done))
     | (go_round
        case rel => refine ⟨k + 1, by omega, by go_num, hid (HMISS.out ?_)⟩; simp_all [hitA]
        case measure => simp [intOf]; omega)
  · have HF : Hid (R = false) := hid (by
     cases hRR : R with
     | false => rfl
     | true =>
      obtain ⟨-, -, i, hi, h⟩ := HR.out.1 hRR
      exact absurd h (HK.out i hi (by have := HN.out; omega)))
    go_wp2_with fail
    all_goals
     go_ret
     exact ⟨by rw [HF.out]; rfl, rfl⟩
def RFPost (f : Fl.Floor) (e : Ending) : Prop := ∃ r : Bool, e = .returned (.bool r) ∧ (r = true → Fl.Right f)
def okTo (f : Fl.Floor) (k : Nat) : Prop := ∀ i, i < k → (∀ h : i < f.kind.length, 0 ≤ f.kind[i] ∧ f.kind[i] < 7) ∧ ∀ h : i < f.out.length, 0 ≤ f.out[i] ∧ f.out[i] ≤ 63
theorem right_of {f : Fl.Floor} (hb : FB f) (hs : f.size ≤ 4096) (h1 : (f.kind.length : Int) = f.size) (h2 : (f.out.length : Int) = f.size) (h : okTo f f.kind.length) : Fl.Right f := by
 have e : f.out.length = f.kind.length := by omega
 refine ⟨hb.w1, hb.h1, hb.d1, hb.w2, hb.h2, hb.d2, h1, e, hs, fun k hk => ?_, fun o ho => ?_⟩
 · obtain ⟨i, hi, rfl⟩ := List.getElem_of_mem hk
   exact (h i hi).1 hi
 · obtain ⟨i, hi, rfl⟩ := List.getElem_of_mem ho
   exact (h i (by omega)).2 hi
theorem rFloor_any (f : Fl.Floor) (kv ov : Value) (w : World) (h : FlV w kv ov f) :
 Calls Tryz.prog 166 #[flV f kv ov] w fun e w' => RFPost f e ∧ Below w.heap.size w w' := by
 obtain ⟨a1, c1, rfl, m1⟩ := h.kind.form
 obtain ⟨a2, c2, rfl, m2⟩ := h.out.form
 have B1 := hid ((Below.refl _ w).alloc (Nat.le_refl _) (.cells #[.int .i64 f.w, .int .i64 f.h, .int .i64 f.d, .slice a1 f.kind.length c1, .slice a2 f.out.length c2] 24))
 by_cases hb : FB f
 · obtain ⟨⟨p1, p2⟩, p3, p4⟩ := hb.size
   obtain ⟨b1, b2, b3, b4, b5, b6⟩ := (⟨hb.w1, hb.h1, hb.d1, hb.w2, hb.h2, hb.d2⟩ : 1 ≤ f.w ∧ 1 ≤ f.h ∧ 1 ≤ f.d ∧ f.w ≤ 4096 ∧ f.h ≤ 4096 ∧ f.d ≤ 4)
   by_cases hg : f.w * f.h * f.d ≤ 4096 ∧ (f.kind.length : Int) = f.w * f.h * f.d ∧ (f.out.length : Int) = f.w * f.h * f.d
   · obtain ⟨g1, g2, g3⟩ := hg
     have HFL := hid h
     have HGO : Hid (okTo f f.kind.length → Fl.Right f) := hid (fun ho => right_of hb g1 g2 g3 ho)
     have HO0 : Hid (okTo f 0) := hid (fun i hi => absurd hi (by omega))
     obtain ⟨n, hn⟩ : ∃ n, f.kind.length = n := ⟨_, rfl⟩
     obtain ⟨n2, hn2⟩ : ∃ n, f.out.length = n := ⟨_, rfl⟩
     rw [hn] at g2 m1 HFL HGO B1 ⊢
     rw [hn2] at g3 m2 HFL B1 ⊢
     have HN := hid hn
     have HN2 := hid hn2
     obtain rfl : n2 = n := by omega
     have e1 : ((n2 : Int) != f.w * f.h * f.d) = false := by rw [g2]; simp
     unfold flV
     clear h hb hn hn2 g3
     go_enter Tryz.func166, Tryz.ntmps166
     go_upto_region 7 with fail
     go_wp2_with fail
     go_loopw [4] (fun iv wr => ∃ k : Nat, k ≤ n2 ∧ iv = .int .i64 k ∧ Hid (okTo f k) ∧ Hid (Below w.heap.size w wr) ∧ Hid (wr.heap[w.heap.size]? = some (.cells #[.int .i64 f.w, .int .i64 f.h, .int .i64 f.d, .slice a1 n2 c1, .slice a2 n2 c2] 24 (0, 0)))) (fun iv _ => n2 - (intOf iv).toNat)
     case atStart => exact ⟨0, by omega, rfl, HO0, B1, hid (heap_alloc_new _ _)⟩
     case round =>
      obtain ⟨k, hk, rfl, HO, HB, HI⟩ := hrel
      have d0 := cell_of_heap HI.out 3 (v := .slice a1 n2 c1) rfl
      have d1 := cell_of_heap HI.out 4 (v := .slice a2 n2 c2) rfl
      by_cases hkn : k < n2
      · have hk1 : k < f.kind.length := by rw [HN.out]; exact hkn
        have hk2 : k < f.out.length := by rw [HN2.out]; exact hkn
        obtain ⟨x1, y1, q1, t1⟩ := (HFL.out.keep HB.out).kind.cell k hk1
        obtain ⟨x2, y2, q2, t2⟩ := (HFL.out.keep HB.out).out.cell k hk2
        subst q1 q2
        obtain ⟨K, hK⟩ : ∃ K, f.kind[k] = K := ⟨_, rfl⟩
        obtain ⟨O, hO⟩ : ∃ O, f.out[k] = O := ⟨_, rfl⟩
        rw [hK] at t1
        rw [hO] at t2
        have HNX : Hid (0 ≤ K → K < 7 → 0 ≤ O → O ≤ 63 → okTo f (k + 1)) := hid (by
         intro r1 r2 r3 r4 i hi
         by_cases hik : i < k
         · exact HO.out i hik
         · obtain rfl : i = k := by omega
           exact ⟨fun _ => by rw [hK]; exact ⟨r1, r2⟩, fun _ => by rw [hO]; exact ⟨r3, r4⟩⟩)
        have k0 : (0 : Int) ≤ (k : Int) := by omega
        have k1 : (k : Int) < (n2 : Int) := by omega
        have k2 : (k : Int) < f.w * f.h * f.d := by omega
        clear hK hO
        go_wp2_with fail
        all_goals first
         | (go_ret; exact ⟨⟨false, rfl, fun h => by cases h⟩, HB.out⟩)
         | (go_roundw
            case rel => exact ⟨k + 1, by omega, by go_num, hid (HNX.out (by omega) (by omega) (by omega) (by omega)), HB, HI⟩
            case measure => simp [intOf]; omega)
      · obtain rfl : k = n2 := by omega
        have k2 : ((k : Int) < f.w * f.h * f.d) = False := by simp only [eq_iff_iff, iff_false]; omega
        go_wp2_with fail
        go_ret
        exact ⟨⟨true, rfl, fun _ => HGO.out HO.out⟩, HB.out⟩
   · obtain ⟨S, hS⟩ : ∃ S, f.w * f.h * f.d = S := ⟨_, rfl⟩
     have key : S > 4096 ∨ (S ≤ 4096 ∧ (f.kind.length : Int) ≠ S) ∨ (S ≤ 4096 ∧ (f.kind.length : Int) = S ∧ (f.out.length : Int) ≠ S) := by
      rw [hS] at hg
      by_cases q1 : S ≤ 4096
      · by_cases q2 : (f.kind.length : Int) = S
        · exact .inr (.inr ⟨q1, q2, fun q3 => hg ⟨q1, q2, q3⟩⟩)
        · exact .inr (.inl ⟨q1, q2⟩)
      · exact .inl (by omega)
     subst hS
     unfold flV
     clear h hb hg
     rcases key with q1 | ⟨q1, q2⟩ | ⟨q1, q2, q3⟩
     · go_enter Tryz.func166, Tryz.ntmps166
       go_wp2_with fail
       go_ret
       exact ⟨⟨false, rfl, fun h => by cases h⟩, B1.out⟩
     · have e2 : ((f.kind.length : Int) != f.w * f.h * f.d) = true := by simp [q2]
       clear q2
       go_enter Tryz.func166, Tryz.ntmps166
       go_wp2_with fail
       go_ret
       exact ⟨⟨false, rfl, fun h => by cases h⟩, B1.out⟩
     · have e2 : ((f.kind.length : Int) != f.w * f.h * f.d) = false := by simp [q2]
       have e3 : ((f.out.length : Int) != f.w * f.h * f.d) = true := by simp [q3]
       clear q2 q3
       go_enter Tryz.func166, Tryz.ntmps166
       go_wp2_with fail
       go_ret
       exact ⟨⟨false, rfl, fun h => by cases h⟩, B1.out⟩
 · have H := hid hb
   unfold flV
   clear h
   go_enter Tryz.func166, Tryz.ntmps166
   go_upto_region 3 with fail
   all_goals first
    | (go_ret; exact ⟨⟨false, rfl, fun h => by cases h⟩, B1.out⟩)
    | (exfalso; exact H.out ⟨by omega, by omega, by omega, by omega, by omega, by omega⟩)
def robC (r : Bd.Robot) : List Value := [.int .i64 r.cell, .int .i64 r.load, .int .i64 r.charge, .int .i64 r.rest, .int .i64 r.mute, .bool r.dead]
def RoV (w : World) (v : Value) (l : List Bd.Robot) : Prop := Rw w v 6 (l.map robC)
theorem RoV.keep {w W : World} {v : Value} {l : List Bd.Robot} (h : RoV w v l) (hb : Below w.heap.size w W) : RoV W v l := Rw.keep h hb
theorem RoV.form {w : World} {v : Value} {l : List Bd.Robot} (h : RoV w v l) : ∃ a cap, v = .slice a l.length cap ∧ l.length ≤ 9223372036854775807 := by simpa using Rw.form h
theorem RoV.cell {w : World} {a : Option Addr} {n cap : Nat} {l : List Bd.Robot} (h : RoV w (.slice a n cap) l) (i : Nat) (hi : i < l.length) : ∃ b off, a = some ⟨b, off, none⟩ ∧ b < w.heap.size ∧
 w.cell? ⟨b, off + i * 6, none⟩ = some (.int .i64 l[i].cell) ∧ w.cell? ⟨b, off + i * 6 + 1, none⟩ = some (.int .i64 l[i].load) ∧ w.cell? ⟨b, off + i * 6 + 2, none⟩ = some (.int .i64 l[i].charge) ∧
 w.cell? ⟨b, off + i * 6 + 3, none⟩ = some (.int .i64 l[i].rest) ∧ w.cell? ⟨b, off + i * 6 + 4, none⟩ = some (.int .i64 l[i].mute) ∧ w.cell? ⟨b, off + i * 6 + 5, none⟩ = some (.bool l[i].dead) := by
 obtain ⟨b, off, rfl, hlt, hc⟩ := Rw.cell h i (by simpa using hi)
 rw [List.getElem_map] at hc
 exact ⟨b, off, rfl, hlt, hc 0 (by omega), hc 1 (by omega), hc 2 (by omega), hc 3 (by omega), hc 4 (by omega), hc 5 (by omega)⟩
structure StV (w : World) (sv rv pv dv kv : Value) (s : Bd.State) : Prop where
 sh : Is w sv s.shelves
 ro : RoV w rv s.robots
 pe : Is w pv s.people
 de : Is w dv s.dead
 sk : Rw w kv 2 (s.stuck.map spanC)
theorem StV.keep {w W : World} {sv rv pv dv kv : Value} {s : Bd.State} (h : StV w sv rv pv dv kv s) (hb : Below w.heap.size w W) : StV W sv rv pv dv kv s :=
 ⟨h.sh.keep hb, h.ro.keep hb, h.pe.keep hb, h.de.keep hb, Rw.keep h.sk hb⟩
def stV (s : Bd.State) (sv rv pv dv kv : Value) : Value := .agg #[.int .i64 s.tick, sv, rv, pv, dv, kv]
theorem StV.open {w : World} {sv rv pv dv kv : Value} {s : Bd.State} (h : StV w sv rv pv dv kv s) : ∃ a1 c1 a2 c2 a3 c3 a4 c4 a5 c5, sv = .slice a1 s.shelves.length c1 ∧ rv = .slice a2 s.robots.length c2 ∧ pv = .slice a3 s.people.length c3 ∧ dv = .slice a4 s.dead.length c4 ∧ kv = .slice a5 s.stuck.length c5 ∧
 s.shelves.length ≤ 9223372036854775807 ∧ s.robots.length ≤ 9223372036854775807 ∧ s.people.length ≤ 9223372036854775807 ∧ s.dead.length ≤ 9223372036854775807 ∧ s.stuck.length ≤ 9223372036854775807 := by
 obtain ⟨a1, c1, e1, m1⟩ := h.sh.form
 obtain ⟨a2, c2, e2, m2⟩ := h.ro.form
 obtain ⟨a3, c3, e3, m3⟩ := h.pe.form
 obtain ⟨a4, c4, e4, m4⟩ := h.de.form
 obtain ⟨a5, c5, e5, m5⟩ := two_form h.sk
 exact ⟨a1, c1, a2, c2, a3, c3, a4, c4, a5, c5, e1, e2, e3, e4, e5, m1, m2, m3, m4, m5⟩
def fltC (x : Fa.Flt) : List Value := [.int .i64 x.kind, .int .i64 x.a, .int .i64 x.n]
def FtV (w : World) (v : Value) (l : List Fa.Flt) : Prop := Rw w v 3 (l.map fltC)
theorem FtV.keep {w W : World} {v : Value} {l : List Fa.Flt} (h : FtV w v l) (hb : Below w.heap.size w W) : FtV W v l := Rw.keep h hb
theorem FtV.form {w : World} {v : Value} {l : List Fa.Flt} (h : FtV w v l) : ∃ a cap, v = .slice a l.length cap ∧ l.length ≤ 9223372036854775807 := by simpa using Rw.form h
theorem FtV.cell {w : World} {a : Option Addr} {n cap : Nat} {l : List Fa.Flt} (h : FtV w (.slice a n cap) l) (i : Nat) (hi : i < l.length) : ∃ b off, a = some ⟨b, off, none⟩ ∧ b < w.heap.size ∧
 w.cell? ⟨b, off + i * 3, none⟩ = some (.int .i64 l[i].kind) ∧ w.cell? ⟨b, off + i * 3 + 1, none⟩ = some (.int .i64 l[i].a) ∧ w.cell? ⟨b, off + i * 3 + 2, none⟩ = some (.int .i64 l[i].n) := by
 obtain ⟨b, off, rfl, hlt, hc⟩ := Rw.cell h i (by simpa using hi)
 rw [List.getElem_map] at hc
 exact ⟨b, off, rfl, hlt, hc 0 (by omega), hc 1 (by omega), hc 2 (by omega)⟩
end Go.Proofs.YtfcbcpfnaadpeaaGreatDoor
