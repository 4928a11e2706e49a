/- Parts Fw, Rk, Rl, Rm, Rn, Rv, Rh, Ro, Rq, So, Rw, Rt, Ru, Ri of this claim, laid one behind the other: walks and the plain laws behind them; each contract states its own conditions. -/
import Derived.Test.YtfcbcpfnaadpeaaGreatDoorZB
/- Walks of package floor: size, is, Cell, At, beside, Next. -/
namespace Go.Proofs.YtfcbcpfnaadpeaaGreatDoor
set_option linter.unusedSimpArgs false
set_option linter.unusedVariables false
open Go.RowKit

/-- The value of a floor. -/
def flV (f : Fl.Floor) (kv ov : Value) : Value := .agg #[.int .i64 f.w, .int .i64 f.h, .int .i64 f.d, kv, ov]
/-- The bounds of a floor's numbers. -/
structure FB (f : Fl.Floor) : Prop where
  w1 : 1 ≤ f.w
  h1 : 1 ≤ f.h
  d1 : 1 ≤ f.d
  w2 : f.w ≤ 4096
  h2 : f.h ≤ 4096
  d2 : f.d ≤ 4
theorem FB.of {f : Fl.Floor} (h : Fl.Right f) : FB f := ⟨h.w1, h.h1, h.d1, h.w2, h.h2, h.d2⟩
theorem mul_bd {a b A B : Int} (h1 : 0 ≤ a) (h2 : a ≤ A) (h3 : 0 ≤ b) (h4 : b ≤ B) : 0 ≤ a * b ∧ a * b ≤ A * B :=
  ⟨Int.mul_nonneg h1 h3, Int.mul_le_mul h2 h4 h3 (by omega)⟩
theorem FB.size {f : Fl.Floor} (h : FB f) : (0 ≤ f.w * f.h ∧ f.w * f.h ≤ 16777216) ∧ 0 ≤ f.w * f.h * f.d ∧ f.w * f.h * f.d ≤ 67108864 := by
  have e1 := mul_bd (a := f.w) (b := f.h) (A := 4096) (B := 4096) (by have := h.w1; omega) h.w2 (by have := h.h1; omega) h.h2
  have e2 := mul_bd (a := f.w * f.h) (b := f.d) (A := 16777216) (B := 4) e1.1 e1.2 (by have := h.d1; omega) h.d2
  exact ⟨e1, e2⟩
set_option maxHeartbeats 1000000 in
theorem size_any (f : Fl.Floor) (kv ov : Value) (w : World) (hb : FB f) :
    Calls Tryz.prog 115 #[flV f kv ov] w fun e w' => e = .returned (.int .i64 f.size) ∧ Below w.heap.size w w' := by
  obtain ⟨⟨a1, a2⟩, a3, a4⟩ := hb.size
  obtain ⟨fw, fh, fd, kl, ol⟩ := f
  unfold flV Fl.Floor.size
  dsimp only at a1 a2 a3 a4 ⊢
  clear hb
  go_enter Tryz.func115, Tryz.ntmps115
  go_wp2_with fail
  go_ret
  exact ⟨rfl, (Below.refl _ _).alloc (Nat.le_refl _) _⟩
set_option maxHeartbeats 1000000 in
theorem is_any (f : Fl.Floor) (kv ov : Value) (c : Int) (w : World) (hb : FB f) :
    Calls Tryz.prog 250 #[flV f kv ov, .int .i64 c] w fun e w' => e = .returned (.bool (Fl.isC f c)) ∧ Below w.heap.size w w' := by
  have hc := fun W => size_any f kv ov W hb
  have HS : Hid (Fl.isC f c = (decide (0 ≤ c) && decide (c < f.size))) := Lib.hid rfl
  obtain ⟨S, hS⟩ : ∃ S, f.size = S := ⟨_, rfl⟩
  rw [hS] at hc HS
  unfold flV at hc ⊢
  have HC := Lib.hid hc
  clear hS hc
  by_cases h0 : 0 ≤ c
  · go_enter Tryz.func250, Tryz.ntmps250
    go_wp2_with fail
    go_at_call 115; refine (HC.out _).mono ?_; rintro e w1 ⟨rfl, b1⟩
    have B1 := Lib.hid b1
    clear b1
    go_wp2_with fail
    go_ret
    exact ⟨by rw [HS.out, decide_eq_true h0]; rfl, ((Below.refl _ w).alloc (Nat.le_refl _) _).trans (B1.out.mono (by simp))⟩
  · have HF : Hid (Fl.isC f c = false) := Lib.hid (by rw [HS.out, decide_eq_false h0, Bool.false_and])
    go_enter Tryz.func250, Tryz.ntmps250
    go_wp2_with fail
    go_ret
    exact ⟨by rw [HF.out]; rfl, (Below.refl _ _).alloc (Nat.le_refl _) _⟩
/-- The value of Cell, where there is one. -/
theorem cell_in {f : Fl.Floor} {x y z : Int} (hb : FB f) (x0 : 0 ≤ x) (y0 : 0 ≤ y) (z0 : 0 ≤ z) (x1 : x < f.w) (y1 : y < f.h) (z1 : z < f.d) :
    Fl.cell f x y z = (z * f.h + y) * f.w + x ∧ (0 ≤ z * f.h ∧ z * f.h ≤ 16384) ∧ 0 ≤ (z * f.h + y) * f.w ∧ (z * f.h + y) * f.w ≤ 83886080 := by
  have hw := hb.w2
  have hh := hb.h2
  have hd := hb.d2
  have e1 := mul_bd (a := z) (b := f.h) (A := 4) (B := 4096) z0 (by omega) (by have := hb.h1; omega) hh
  have e2 := mul_bd (a := z * f.h + y) (b := f.w) (A := 20480) (B := 4096) (by omega) (by omega) (by have := hb.w1; omega) hw
  refine ⟨?_, e1, e2⟩
  unfold Fl.cell
  rw [if_neg (by omega)]
theorem cell_out {f : Fl.Floor} {x y z : Int} (h : ¬ (0 ≤ x ∧ 0 ≤ y ∧ 0 ≤ z ∧ x < f.w ∧ y < f.h ∧ z < f.d)) : Fl.cell f x y z = -1 := by
  unfold Fl.cell
  rw [if_pos (by omega)]
set_option maxRecDepth 100000 in
set_option maxHeartbeats 4000000 in
theorem Cell_any (f : Fl.Floor) (kv ov : Value) (x y z : Int) (w : World) (hb : FB f) :
    Calls Tryz.prog 204 #[flV f kv ov, .int .i64 x, .int .i64 y, .int .i64 z] w fun e w' => e = .returned (.int .i64 (Fl.cell f x y z)) ∧ Below w.heap.size w w' := by
  have B1 := Lib.hid ((Below.refl _ w).alloc (Nat.le_refl _) (.cells #[.int .i64 f.w, .int .i64 f.h, .int .i64 f.d, kv, ov] 24))
  by_cases h : 0 ≤ x ∧ 0 ≤ y ∧ 0 ≤ z ∧ x < f.w ∧ y < f.h ∧ z < f.d
  · obtain ⟨x0, y0, z0, x1, y1, z1⟩ := h
    obtain ⟨hc, ⟨e1, e2⟩, e3, e4⟩ := cell_in hb x0 y0 z0 x1 y1 z1
    have HC := Lib.hid hc
    have h1 := hb.w2
    have h2 := hb.h2
    obtain ⟨fw, fh, fd, kl, ol⟩ := f
    unfold flV
    dsimp only at *
    clear hc hb
    go_enter Tryz.func204, Tryz.ntmps204
    go_wp2_with fail
    all_goals
      go_ret
      exact ⟨by rw [HC.out]; rfl, B1.out⟩
  · have HC := Lib.hid (cell_out h)
    obtain ⟨fw, fh, fd, kl, ol⟩ := f
    unfold flV
    dsimp only at *
    have H := Lib.hid h
    clear hb h
    go_enter Tryz.func204, Tryz.ntmps204
    go_wp2_with fail
    all_goals first
      | (exfalso; have := H.out; omega)
      | (go_ret; exact ⟨by rw [HC.out]; rfl, B1.out⟩)
end Go.Proofs.YtfcbcpfnaadpeaaGreatDoor
/- Walks of package taquinref11, in few words: Name. -/
namespace Go.Proofs.YtfcbcpfnaadpeaaGreatDoor
set_option linter.unusedSimpArgs false
set_option linter.unusedVariables false
open Go.RowKit

def IsB (v : Value) : Prop := ∃ d : Bool, v = .bool d
def ABool (e : Ending) : Prop := ∃ r : Bool, e = .returned (.bool r)
set_option maxRecDepth 100000 in
set_option maxHeartbeats 8000000 in
theorem rName_any (b : ByteArray) (w : World) (hb : b.size ≤ 1000000) :
    Calls Tryz.prog 168 #[.string b] w fun e w' => ABool e ∧ w = w' := by
  obtain ⟨n, hn⟩ : ∃ n, b.size = n := ⟨_, rfl⟩
  have HN := Lib.hid hn
  rw [hn] at hb
  go_enter Tryz.func168, Tryz.ntmps168
  go_wp2_with fail
  go_loop [3] (fun iv => ∃ k : Nat, k ≤ n ∧ iv = .int .i64 k) (fun iv => n - (intOf iv).toNat)
  case atStart => exact ⟨0, by omega, rfl⟩
  case round =>
    obtain ⟨k, hk, rfl⟩ := hrel
    by_cases hkn : k < n
    · have k1 : (k : Int) < (n : Int) := by omega
      have k0 : (0 : Int) ≤ (k : Int) := by omega
      have k2 : k < b.size := by omega
      go_upto_region 5 with fail
      go_cut [5] (fun v wx => IsB v ∧ wx = w)
      case first =>
        go_wp2_with fail
        all_goals
          go_meet
          exact ⟨⟨_, rfl⟩, rfl⟩
      case rest =>
        obtain ⟨⟨dg, rfl⟩, rfl⟩ := hcut
        go_upto_region 6 with fail
        go_cut [3, 4, 53] (fun iv cv v wx => iv = .int .i64 (k : Int) ∧ IsB v ∧ wx = wc)
        case first =>
          cases dg
          all_goals go_wp2_with fail
          all_goals
            go_meet
            exact ⟨by first | rfl | (congr 1; omega), ⟨_, rfl⟩, rfl⟩
        case rest =>
          obtain ⟨rfl, ⟨bd, rfl⟩, rfl⟩ := hcut
          cases bd
          · go_wp2_with fail
            go_round
            case rel => exact ⟨k + 1, by omega, by go_num⟩
            case measure => simp [intOf]; omega
          · go_wp2_with fail
            go_ret
            exact ⟨⟨_, rfl⟩, rfl⟩
    · go_wp2_with fail
      all_goals
        go_ret
        exact ⟨⟨_, rfl⟩, rfl⟩
end Go.Proofs.YtfcbcpfnaadpeaaGreatDoor
/- Walks of package taquinref11, in few words: shelfAt, robotAt. -/
namespace Go.Proofs.YtfcbcpfnaadpeaaGreatDoor
set_option linter.unusedSimpArgs false
set_option linter.unusedVariables false
open Go.RowKit

/-- None of the pairs begins with a number. -/
def noAt {α : Type} (l : List (Int × α)) (c : Int) : Prop := ∀ x ∈ l, x.1 ≠ c
def AtPost (n : Nat) (no : Prop) (e : Ending) : Prop := ∃ r : Int, e = .returned (.int .i64 r) ∧ -1 ≤ r ∧ r < n ∧ (r < 0 ↔ no)
def IsPost (no : Prop) (e : Ending) : Prop := ∃ r : Bool, e = .returned (.bool r) ∧ (r = false ↔ no)
set_option maxRecDepth 100000 in
set_option maxHeartbeats 4000000 in
theorem shelfAt_any (v : Value) (l : List (Int × List UInt8)) (c : Int) (w : World) (h : SfV w v l) :
    Calls Tryz.prog 172 #[v, .int .i64 c] w fun e w' => AtPost l.length (noAt l c) e ∧ w = w' := by
  obtain ⟨a, cap, rfl, hm⟩ := two_form h
  have H := Lib.hid h
  obtain ⟨n, hn⟩ : ∃ n, l.length = n := ⟨_, rfl⟩
  rw [hn] at hm H ⊢
  have HN := Lib.hid hn
  clear h hn
  go_enter Tryz.func172, Tryz.ntmps172
  go_wp2_with fail
  go_loop [5] (fun iv => ∃ k : Nat, k ≤ n ∧ iv = .int .i64 k ∧ Hid (∀ x ∈ l.take k, x.1 ≠ c)) (fun iv => n - (intOf iv).toNat)
  case atStart => exact ⟨0, by omega, rfl, Lib.hid (by simp)⟩
  case round =>
    obtain ⟨k, hk, rfl, HK⟩ := hrel
    by_cases hkn : k < n
    · have hkl : k < l.length := by rw [HN.out]; exact hkn
      obtain ⟨b, off, e1, -, c0, -⟩ := H.out.cell k hkl
      subst e1
      obtain ⟨y, hy⟩ : ∃ y, l[k].1 = y := ⟨_, rfl⟩
      rw [hy] at c0
      have HY := Lib.hid hy
      have HMM : Hid (l[k] ∈ l) := Lib.hid (List.getElem_mem hkl)
      have HTK : Hid (l.take (k + 1) = l.take k ++ [l[k]]) := Lib.hid (List.take_succ_eq_append_getElem hkl)
      have k1 : (k : Int) < (n : Int) := by omega
      have k0 : (0 : Int) ≤ (k : Int) := by omega
      clear hy
      by_cases hyx : y = c
      · have hb : (y == c) = true := by simp [hyx]
        have HNO : Hid (¬ noAt l c) := Lib.hid (fun h => h _ HMM.out (HY.out.trans hyx))
        clear hyx
        go_wp2_with fail
        go_ret
        exact ⟨⟨(k : Int), rfl, by omega, by omega, ⟨fun h => absurd h (by omega), fun h => absurd h HNO.out⟩⟩, rfl⟩
      · have hb : (y == c) = false := by simp [hyx]
        have HNX : Hid (∀ x ∈ l.take (k + 1), x.1 ≠ c) := Lib.hid (by
          rw [HTK.out]
          intro x hx
          rcases List.mem_append.1 hx with h | h
          · exact HK.out x h
          · rw [List.mem_singleton] at h; subst h; rw [HY.out]; exact hyx)
        clear hyx
        go_wp2_with fail
        go_round
        case rel => exact ⟨k + 1, by omega, by go_num, HNX⟩
        case measure => simp [intOf]; omega
    · have HA : Hid (noAt l c) := Lib.hid (by have := HK.out; rwa [List.take_of_length_le (by rw [HN.out]; omega)] at this)
      go_wp2_with fail
      go_ret
      exact ⟨⟨-1, rfl, by omega, by omega, ⟨fun _ => HA.out, fun _ => by omega⟩⟩, rfl⟩
set_option maxRecDepth 100000 in
set_option maxHeartbeats 4000000 in
theorem robotAt_any (v : Value) (l : List (Int × Int)) (c : Int) (w : World) (h : RbV w v l) :
    Calls Tryz.prog 173 #[v, .int .i64 c] w fun e w' => IsPost (noAt l c) e ∧ w = w' := by
  obtain ⟨a, cap, rfl, hm⟩ := two_form h
  have H := Lib.hid (show ShV w (.slice a l.length cap) l from h)
  obtain ⟨n, hn⟩ : ∃ n, l.length = n := ⟨_, rfl⟩
  rw [hn] at hm H ⊢
  have HN := Lib.hid hn
  clear h hn
  go_enter Tryz.func173, Tryz.ntmps173
  go_wp2_with fail
  go_loop [5] (fun iv => ∃ k : Nat, k ≤ n ∧ iv = .int .i64 k ∧ Hid (∀ x ∈ l.take k, x.1 ≠ c)) (fun iv => n - (intOf iv).toNat)
  case atStart => exact ⟨0, by omega, rfl, Lib.hid (by simp)⟩
  case round =>
    obtain ⟨k, hk, rfl, HK⟩ := hrel
    by_cases hkn : k < n
    · have hkl : k < l.length := by rw [HN.out]; exact hkn
      obtain ⟨b, off, e1, -, c0, -⟩ := H.out.cell k hkl
      subst e1
      obtain ⟨y, hy⟩ : ∃ y, l[k].1 = y := ⟨_, rfl⟩
      rw [hy] at c0
      have HY := Lib.hid hy
      have HMM : Hid (l[k] ∈ l) := Lib.hid (List.getElem_mem hkl)
      have HTK : Hid (l.take (k + 1) = l.take k ++ [l[k]]) := Lib.hid (List.take_succ_eq_append_getElem hkl)
      have k1 : (k : Int) < (n : Int) := by omega
      have k0 : (0 : Int) ≤ (k : Int) := by omega
      clear hy
      by_cases hyx : y = c
      · have hb : (y == c) = true := by simp [hyx]
        have HNO : Hid (¬ noAt l c) := Lib.hid (fun h => h _ HMM.out (HY.out.trans hyx))
        clear hyx
        go_wp2_with fail
        go_ret
        exact ⟨⟨true, rfl, ⟨fun h => (by cases h), fun h => absurd h HNO.out⟩⟩, rfl⟩
      · have hb : (y == c) = false := by simp [hyx]
        have HNX : Hid (∀ x ∈ l.take (k + 1), x.1 ≠ c) := Lib.hid (by
          rw [HTK.out]
          intro x hx
          rcases List.mem_append.1 hx with h | h
          · exact HK.out x h
          · rw [List.mem_singleton] at h; subst h; rw [HY.out]; exact hyx)
        clear hyx
        go_wp2_with fail
        go_round
        case rel => exact ⟨k + 1, by omega, by go_num, HNX⟩
        case measure => simp [intOf]; omega
    · have HA : Hid (noAt l c) := Lib.hid (by have := HK.out; rwa [List.take_of_length_le (by rw [HN.out]; omega)] at this)
      go_wp2_with fail
      go_ret
      exact ⟨⟨false, rfl, ⟨fun _ => HA.out, fun _ => rfl⟩⟩, rfl⟩
end Go.Proofs.YtfcbcpfnaadpeaaGreatDoor
/- Walks of package taquinref11, in few words: named, spans. -/
namespace Go.Proofs.YtfcbcpfnaadpeaaGreatDoor
set_option linter.unusedSimpArgs false
set_option linter.unusedVariables false
open Go.RowKit

set_option maxRecDepth 100000 in
set_option maxHeartbeats 4000000 in
theorem named_any (v : Value) (l : List Si.Zone) (nm : ByteArray) (w : World) (h : ZnV w v l) :
    Calls Tryz.prog 230 #[v, .string nm] w fun e w' => (∃ r : Int, e = .returned (.int .i64 r) ∧ -1 ≤ r ∧ r < l.length) ∧ w = w' := by
  obtain ⟨a, cap, rfl, hm⟩ := h.form
  have H := Lib.hid h
  obtain ⟨n, hn⟩ : ∃ n, l.length = n := ⟨_, rfl⟩
  rw [hn] at hm H ⊢
  have HN := Lib.hid hn
  clear h hn
  go_enter Tryz.func230, Tryz.ntmps230
  go_wp2_with fail
  go_loop [5] (fun iv => ∃ k : Nat, k ≤ n ∧ iv = .int .i64 k) (fun iv => n - (intOf iv).toNat)
  case atStart => exact ⟨0, by omega, rfl⟩
  case round =>
    obtain ⟨k, hk, rfl⟩ := hrel
    by_cases hkn : k < n
    · have hkl : k < l.length := by rw [HN.out]; exact hkn
      obtain ⟨b, off, u1, u2, e1, -, -, -, c0, -⟩ := H.out.cell k hkl
      subst e1
      obtain ⟨y, hy⟩ : ∃ y : ByteArray, ⟨l[k].name.toArray⟩ = y := ⟨_, rfl⟩
      rw [hy] at c0
      have k1 : (k : Int) < (n : Int) := by omega
      have k0 : (0 : Int) ≤ (k : Int) := by omega
      clear hy
      cases hb : (y.toList == nm.toList)
      · go_wp2_with fail
        go_round
        case rel => exact ⟨k + 1, by omega, by go_num⟩
        case measure => simp [intOf]; omega
      · go_wp2_with fail
        go_ret
        exact ⟨⟨(k : Int), rfl, by omega, by omega⟩, rfl⟩
    · go_wp2_with fail
      go_ret
      exact ⟨⟨-1, rfl, by omega, by omega⟩, rfl⟩
end Go.Proofs.YtfcbcpfnaadpeaaGreatDoor
/- Walks of package taquinref11, in few words: spans. -/
namespace Go.Proofs.YtfcbcpfnaadpeaaGreatDoor
set_option linter.unusedSimpArgs false
set_option linter.unusedVariables false
open Go.RowKit

set_option maxRecDepth 100000 in
set_option maxHeartbeats 4000000 in
theorem spans_any (v : Value) (l : List (Int × Int)) (w : World) (h : ShV w v l) :
    Calls Tryz.prog 231 #[v] w fun e w' => ABool e ∧ Below w.heap.size w w' := by
  obtain ⟨a, cap, rfl, hm⟩ := two_form h
  have H := Lib.hid h
  obtain ⟨n, hn⟩ : ∃ n, l.length = n := ⟨_, rfl⟩
  rw [hn] at hm H ⊢
  have HN := Lib.hid hn
  clear h hn
  go_enter Tryz.func231, Tryz.ntmps231
  go_wp2_with fail
  go_loopw [3, 4] (fun lv iv wr => ∃ (k : Nat) (x : Int), k ≤ n ∧ iv = .int .i64 k ∧ lv = .int .i64 x ∧ Hid (Below w.heap.size w wr)) (fun _ iv _ => n - (intOf iv).toNat)
  case atStart => exact ⟨0, 0, by omega, rfl, rfl, Lib.hid (Below.refl _ _)⟩
  case round =>
    obtain ⟨k, x, hk, rfl, rfl, HB⟩ := hrel
    by_cases hkn : k < n
    · have hkl : k < l.length := by rw [HN.out]; exact hkn
      obtain ⟨b, off, e1, -, c0, c1⟩ := ShV.cell (show ShV wr _ l from Rw.keep H.out HB.out) k hkl
      subst e1
      obtain ⟨y, hy⟩ : ∃ y, l[k].1 = y := ⟨_, rfl⟩
      obtain ⟨z, hz⟩ : ∃ y, l[k].2 = y := ⟨_, rfl⟩
      rw [hy] at c0
      rw [hz] at c1
      have k1 : (k : Int) < (n : Int) := by omega
      have k0 : (0 : Int) ≤ (k : Int) := by omega
      clear hy hz
      have hab : ∀ p : Bool, p = true ∨ p = false := fun p => by cases p <;> simp
      have HD : Hid (∀ q, Below w.heap.size w (wr.drewN q)) := Lib.hid (fun q => HB.out.trans (below_drewN _ _ _))
      rcases hab (decide (y < x)) with hA | hA
      · go_wp2_with fail
        go_quiet (fail)
        go_wp2_with fail
        go_ret
        exact ⟨⟨_, rfl⟩, HD.out _⟩
      · rcases hab (decide (y ≥ z)) with hB | hB
        · go_wp2_with fail
          go_quiet (fail)
          go_wp2_with fail
          go_ret
          exact ⟨⟨_, rfl⟩, HD.out _⟩
        · rcases hab (decide (z > 20000)) with hC | hC
          · go_wp2_with fail
            go_quiet (fail)
            go_wp2_with fail
            go_ret
            exact ⟨⟨_, rfl⟩, HD.out _⟩
          · go_wp2_with fail
            go_quiet (fail)
            go_wp2_with fail
            go_roundw
            case rel => exact ⟨k + 1, _, by omega, by go_num, rfl, Lib.hid (HD.out _)⟩
            case measure => simp [intOf]; omega
    · go_wp2_with fail
      go_ret
      exact ⟨⟨_, rfl⟩, HB.out⟩
end Go.Proofs.YtfcbcpfnaadpeaaGreatDoor
/- Walks of package taquinref11, exact: shelfAt, robotAt, named, spans. -/
namespace Go.Proofs.YtfcbcpfnaadpeaaGreatDoor
set_option linter.unusedSimpArgs false
set_option linter.unusedVariables false
open Go.RowKit

/-- The first place of a list that has a property; -1, if there is none. -/
def idxI {α : Type} (p : α → Bool) : List α → Int
  | [] => -1
  | x :: l => if p x = true then 0 else if idxI p l < 0 then -1 else idxI p l + 1
theorem idxI_lt {α : Type} (p : α → Bool) : ∀ l : List α, -1 ≤ idxI p l ∧ idxI p l < l.length
  | [] => by simp [idxI]
  | x :: l => by
    have ih := idxI_lt p l
    rw [idxI, List.length_cons]
    split
    · omega
    · split <;> omega
theorem idxI_neg {α : Type} (p : α → Bool) : ∀ l : List α, idxI p l < 0 ↔ ∀ x ∈ l, p x = false
  | [] => by simp [idxI]
  | x :: l => by
    have ih := idxI_neg p l
    have hr := idxI_lt p l
    rw [idxI]
    by_cases hx : p x = true
    · rw [if_pos hx]
      constructor
      · intro h; omega
      · intro h; have := h x (List.mem_cons_self ..); rw [hx] at this; cases this
    · rw [if_neg hx]
      have hx' : p x = false := by simpa using hx
      by_cases hl : idxI p l < 0
      · rw [if_pos hl]
        refine ⟨fun _ y hy => ?_, fun _ => by omega⟩
        rcases List.mem_cons.1 hy with rfl | hy
        · exact hx'
        · exact ih.1 hl y hy
      · rw [if_neg hl]
        exact ⟨fun h => by omega, fun h => absurd (ih.2 fun y hy => h y (List.mem_cons_of_mem _ hy)) hl⟩
/-- The same, of the list from a number on. -/
def idxF {α : Type} (p : α → Bool) (l : List α) (k : Nat) : Int := if idxI p (l.drop k) < 0 then -1 else idxI p (l.drop k) + k
theorem idxF_zero {α : Type} (p : α → Bool) (l : List α) : idxF p l 0 = idxI p l := by
  unfold idxF
  rw [List.drop_zero]
  have := idxI_lt p l
  split <;> omega
theorem idxF_hit {α : Type} (p : α → Bool) (l : List α) (k : Nat) (h : k < l.length) (hp : p l[k] = true) : idxF p l k = k := by
  unfold idxF
  rw [List.drop_eq_getElem_cons h, idxI, if_pos hp]
  simp
theorem idxF_miss {α : Type} (p : α → Bool) (l : List α) (k : Nat) (h : k < l.length) (hp : p l[k] = false) : idxF p l k = idxF p l (k + 1) := by
  unfold idxF
  have h1 : idxI p (l[k] :: l.drop (k + 1)) = if idxI p (l.drop (k + 1)) < 0 then -1 else idxI p (l.drop (k + 1)) + 1 := by rw [idxI, if_neg (by rw [hp]; simp)]
  rw [List.drop_eq_getElem_cons h, h1]
  have e : ∀ d : Int, (if (if d < 0 then (-1 : Int) else d + 1) < 0 then (-1 : Int) else (if d < 0 then -1 else d + 1) + (k : Int)) = if d < 0 then -1 else d + ((k + 1 : Nat) : Int) := by
    intro d
    by_cases h : d < 0
    · simp [h]
    · simp only [h, if_false]
      rw [if_neg (by omega)]; omega
  exact e _
theorem idxF_end {α : Type} (p : α → Bool) (l : List α) : idxF p l l.length = -1 := by
  unfold idxF; rw [List.drop_length]; rfl

def sIdx {α : Type} (l : List (Int × α)) (c : Int) : Int := idxI (fun x => decide (x.1 = c)) l
theorem sIdx_neg {α : Type} (l : List (Int × α)) (c : Int) : sIdx l c < 0 ↔ noAt l c := by
  unfold sIdx noAt
  rw [idxI_neg]
  simp
set_option maxRecDepth 100000 in
set_option maxHeartbeats 4000000 in
theorem shelfAt_is (v : Value) (l : List (Int × List UInt8)) (c : Int) (w : World) (h : SfV w v l) :
    Calls Tryz.prog 172 #[v, .int .i64 c] w fun e w' => e = .returned (.int .i64 (sIdx l c)) ∧ w = w' := by
  obtain ⟨a, cap, rfl, hm⟩ := two_form h
  have H := Lib.hid h
  obtain ⟨G, hG⟩ : ∃ G, sIdx l c = G := ⟨_, rfl⟩
  have HG0 : Hid (G = idxF (fun x => decide (x.1 = c)) l 0) := Lib.hid (by rw [idxF_zero]; exact hG.symm)
  rw [hG]
  obtain ⟨n, hn⟩ : ∃ n, l.length = n := ⟨_, rfl⟩
  rw [hn] at hm H ⊢
  have HN := Lib.hid hn
  clear h hn hG
  go_enter Tryz.func172, Tryz.ntmps172
  go_wp2_with fail
  go_loop [5] (fun iv => ∃ k : Nat, k ≤ n ∧ iv = .int .i64 k ∧ Hid (G = idxF (fun x => decide (x.1 = c)) l k)) (fun iv => n - (intOf iv).toNat)
  case atStart => exact ⟨0, by omega, rfl, HG0⟩
  case round =>
    obtain ⟨k, hk, rfl, HK⟩ := hrel
    by_cases hkn : k < n
    · have hkl : k < l.length := by rw [HN.out]; exact hkn
      obtain ⟨b, off, e1, -, c0, -⟩ := H.out.cell k hkl
      subst e1
      obtain ⟨y, hy⟩ : ∃ y, l[k].1 = y := ⟨_, rfl⟩
      rw [hy] at c0
      have HH : Hid (y = c → G = (k : Int)) := Lib.hid (fun h => by rw [HK.out]; exact idxF_hit _ l k hkl (decide_eq_true (hy.trans h)))
      have HM : Hid (¬ y = c → G = idxF (fun x => decide (x.1 = c)) l (k + 1)) := Lib.hid (fun h => by rw [HK.out]; exact idxF_miss _ l k hkl (decide_eq_false (by rw [hy]; exact h)))
      have k1 : (k : Int) < (n : Int) := by omega
      have k0 : (0 : Int) ≤ (k : Int) := by omega
      clear hy
      by_cases hyx : y = c
      · have hb : (y == c) = true := by simp [hyx]
        have HF : Hid (G = (k : Int)) := Lib.hid (HH.out hyx)
        clear hyx
        go_wp2_with fail
        go_ret
        exact ⟨by rw [HF.out]; rfl, rfl⟩
      · have hb : (y == c) = false := by simp [hyx]
        have HF := Lib.hid (HM.out hyx)
        clear hyx
        go_wp2_with fail
        go_round
        case rel => exact ⟨k + 1, by omega, by go_num, HF⟩
        case measure => simp [intOf]; omega
    · obtain rfl : k = n := by omega
      have HF : Hid (G = -1) := Lib.hid (by rw [HK.out, ← HN.out]; exact idxF_end _ l)
      go_wp2_with fail
      go_ret
      exact ⟨by rw [HF.out]; rfl, rfl⟩
set_option maxRecDepth 100000 in
set_option maxHeartbeats 4000000 in
theorem robotAt_is (v : Value) (l : List (Int × Int)) (c : Int) (w : World) (h : RbV w v l) :
    Calls Tryz.prog 173 #[v, .int .i64 c] w fun e w' => e = .returned (.bool (decide (0 ≤ sIdx l c))) ∧ w = w' := by
  have hd : decide (0 ≤ sIdx l c) = true ∨ decide (0 ≤ sIdx l c) = false := by cases decide (0 ≤ sIdx l c) <;> simp
  refine (robotAt_any v l c w h).mono ?_
  rintro e w' ⟨⟨r, rfl, hr⟩, rfl⟩
  refine ⟨?_, rfl⟩
  congr 2
  have h2 := sIdx_neg l c
  cases r with
  | false => rw [decide_eq_false]; have := h2.2 (hr.1 rfl); omega
  | true =>
    rw [decide_eq_true]
    apply Decidable.byContradiction
    intro hc
    have := hr.2 (h2.1 (by omega))
    cases this
def nIdx (l : List Si.Zone) (nm : ByteArray) : Int := idxI (fun z => (⟨z.name.toArray⟩ : ByteArray).toList == nm.toList) l
set_option maxRecDepth 100000 in
set_option maxHeartbeats 4000000 in
theorem named_is (v : Value) (l : List Si.Zone) (nm : ByteArray) (w : World) (h : ZnV w v l) :
    Calls Tryz.prog 230 #[v, .string nm] w fun e w' => e = .returned (.int .i64 (nIdx l nm)) ∧ w = w' := by
  obtain ⟨a, cap, rfl, hm⟩ := h.form
  have H := Lib.hid h
  obtain ⟨G, hG⟩ : ∃ G, nIdx l nm = G := ⟨_, rfl⟩
  have HG0 : Hid (G = idxF (fun z : Si.Zone => (⟨z.name.toArray⟩ : ByteArray).toList == nm.toList) l 0) := Lib.hid (by rw [idxF_zero]; exact hG.symm)
  rw [hG]
  obtain ⟨n, hn⟩ : ∃ n, l.length = n := ⟨_, rfl⟩
  rw [hn] at hm H ⊢
  have HN := Lib.hid hn
  clear h hn hG
  go_enter Tryz.func230, Tryz.ntmps230
  go_wp2_with fail
  go_loop [5] (fun iv => ∃ k : Nat, k ≤ n ∧ iv = .int .i64 k ∧ Hid (G = idxF (fun z : Si.Zone => (⟨z.name.toArray⟩ : ByteArray).toList == nm.toList) l k)) (fun iv => n - (intOf iv).toNat)
  case atStart => exact ⟨0, by omega, rfl, HG0⟩
  case round =>
    obtain ⟨k, hk, rfl, HK⟩ := hrel
    by_cases hkn : k < n
    · have hkl : k < l.length := by rw [HN.out]; exact hkn
      obtain ⟨b, off, u1, u2, e1, -, -, -, c0, -⟩ := H.out.cell k hkl
      subst e1
      obtain ⟨y, hy⟩ : ∃ y : ByteArray, ⟨l[k].name.toArray⟩ = y := ⟨_, rfl⟩
      rw [hy] at c0
      have HH : Hid ((y.toList == nm.toList) = true → G = (k : Int)) := Lib.hid (fun h => by rw [HK.out]; exact idxF_hit _ l k hkl (by rw [hy]; exact h))
      have HM : Hid ((y.toList == nm.toList) = false → G = idxF (fun z : Si.Zone => (⟨z.name.toArray⟩ : ByteArray).toList == nm.toList) l (k + 1)) := Lib.hid (fun h => by rw [HK.out]; exact idxF_miss _ l k hkl (by rw [hy]; exact h))
      have k1 : (k : Int) < (n : Int) := by omega
      have k0 : (0 : Int) ≤ (k : Int) := by omega
      clear hy
      cases hb : (y.toList == nm.toList)
      · have HF := Lib.hid (HM.out hb)
        go_wp2_with fail
        go_round
        case rel => exact ⟨k + 1, by omega, by go_num, HF⟩
        case measure => simp [intOf]; omega
      · have HF := Lib.hid (HH.out hb)
        go_wp2_with fail
        go_ret
        exact ⟨by rw [HF.out]; rfl, rfl⟩
    · obtain rfl : k = n := by omega
      have HF : Hid (G = -1) := Lib.hid (by rw [HK.out, ← HN.out]; exact idxF_end _ l)
      go_wp2_with fail
      go_ret
      exact ⟨by rw [HF.out]; rfl, rfl⟩
/-- Whether spans ascend, from a number on. -/
def spansB (x : Int) : List (Int × Int) → Bool
  | [] => true
  | p :: l => !decide (p.1 < x) && (!decide (p.1 ≥ p.2) && (!decide (p.2 > 20000) && spansB p.2 l))
theorem spansB_drop (x : Int) (l : List (Int × Int)) (k : Nat) (h : k < l.length) : spansB x (l.drop k) = (!decide (l[k].1 < x) && (!decide (l[k].1 ≥ l[k].2) && (!decide (l[k].2 > 20000) && spansB l[k].2 (l.drop (k + 1))))) := by
  rw [List.drop_eq_getElem_cons h, spansB]
theorem drewN_two {w W : World} (h : ∃ q, W = w.drewN q) (n : Nat) : ∃ q, W.drewN n = w.drewN q := by
  obtain ⟨q, rfl⟩ := h
  exact ⟨q + n, World.drewN_drewN ..⟩
theorem drewN_zero (w : World) : ∃ q, w = w.drewN q := ⟨0, rfl⟩
theorem drewN_below {B : Nat} {w W : World} (h : ∃ q, W = w.drewN q) : Below B w W := by obtain ⟨q, rfl⟩ := h; exact below_drewN _ _ _
set_option maxRecDepth 100000 in
set_option maxHeartbeats 4000000 in
theorem spans_is (v : Value) (l : List (Int × Int)) (w : World) (h : ShV w v l) :
    Calls Tryz.prog 231 #[v] w fun e w' => e = .returned (.bool (spansB 0 l)) ∧ ∃ q, w' = w.drewN q := by
  obtain ⟨a, cap, rfl, hm⟩ := two_form h
  have H := Lib.hid h
  obtain ⟨G, hG⟩ : ∃ G, spansB 0 l = G := ⟨_, rfl⟩
  have HG0 : Hid (G = spansB 0 (l.drop 0)) := Lib.hid (by rw [List.drop_zero]; exact hG.symm)
  rw [hG]
  obtain ⟨n, hn⟩ : ∃ n, l.length = n := ⟨_, rfl⟩
  rw [hn] at hm H ⊢
  have HN := Lib.hid hn
  clear h hn hG
  go_enter Tryz.func231, Tryz.ntmps231
  go_wp2_with fail
  go_loopw [3, 4] (fun lv iv wr => ∃ (k : Nat) (x : Int), k ≤ n ∧ iv = .int .i64 k ∧ lv = .int .i64 x ∧ Hid (G = spansB x (l.drop k)) ∧ Hid (∃ q, wr = w.drewN q)) (fun _ iv _ => n - (intOf iv).toNat)
  case atStart => exact ⟨0, 0, by omega, rfl, rfl, HG0, Lib.hid (drewN_zero w)⟩
  case round =>
    obtain ⟨k, x, hk, rfl, rfl, HK, HB⟩ := hrel
    by_cases hkn : k < n
    · have hkl : k < l.length := by rw [HN.out]; exact hkn
      obtain ⟨b, off, e1, -, c0, c1⟩ := ShV.cell (show ShV wr _ l from Rw.keep H.out (drewN_below HB.out)) k hkl
      subst e1
      have HS := Lib.hid (HK.out.trans (spansB_drop x l k hkl))
      obtain ⟨y, hy⟩ : ∃ y, l[k].1 = y := ⟨_, rfl⟩
      obtain ⟨z, hz⟩ : ∃ y, l[k].2 = y := ⟨_, rfl⟩
      rw [hy] at c0 HS
      rw [hz] at c1 HS
      have k1 : (k : Int) < (n : Int) := by omega
      have k0 : (0 : Int) ≤ (k : Int) := by omega
      clear hy hz
      have hab : ∀ p : Bool, p = true ∨ p = false := fun p => by cases p <;> simp
      have HD : Hid (∀ q, ∃ q', wr.drewN q = w.drewN q') := Lib.hid (fun q => drewN_two HB.out q)
      rcases hab (decide (y < x)) with hA | hA
      · have HF : Hid (G = false) := Lib.hid (by rw [HS.out, hA]; rfl)
        go_wp2_with fail
        go_quiet (fail)
        go_wp2_with fail
        go_ret
        exact ⟨by rw [HF.out]; rfl, HD.out _⟩
      · rcases hab (decide (y ≥ z)) with hB | hB
        · have HF : Hid (G = false) := Lib.hid (by rw [HS.out, hA, hB]; rfl)
          go_wp2_with fail
          go_quiet (fail)
          go_wp2_with fail
          go_ret
          exact ⟨by rw [HF.out]; rfl, HD.out _⟩
        · rcases hab (decide (z > 20000)) with hC | hC
          · have HF : Hid (G = false) := Lib.hid (by rw [HS.out, hA, hB, hC]; rfl)
            go_wp2_with fail
            go_quiet (fail)
            go_wp2_with fail
            go_ret
            exact ⟨by rw [HF.out]; rfl, HD.out _⟩
          · have HF : Hid (G = spansB z (l.drop (k + 1))) := Lib.hid (by rw [HS.out, hA, hB, hC]; rfl)
            go_wp2_with fail
            go_quiet (fail)
            go_wp2_with fail
            go_roundw
            case rel => exact ⟨k + 1, _, by omega, by go_num, rfl, HF, Lib.hid (HD.out _)⟩
            case measure => simp [intOf]; omega
    · have HF : Hid (G = true) := Lib.hid (by rw [HK.out, List.drop_eq_nil_of_le (by rw [HN.out]; omega)]; rfl)
      go_wp2_with fail
      go_ret
      exact ⟨by rw [HF.out]; rfl, HB.out⟩
end Go.Proofs.YtfcbcpfnaadpeaaGreatDoor
/- Walks of package taquinref07: Size, Is, Cell, Has, Same, Few. -/
namespace Go.Proofs.YtfcbcpfnaadpeaaGreatDoor
set_option linter.unusedSimpArgs false
set_option linter.unusedVariables false
open Go.RowKit

set_option maxHeartbeats 1000000 in
theorem rSize_any (f : Fl.Floor) (kv ov : Value) (w : World) (hb : FB f) :
    Calls Tryz.prog 221 #[flV f kv ov] w fun e w' => e = .returned (.int .i64 f.size) ∧ Below w.heap.size w w' := by
  obtain ⟨⟨a1, a2⟩, a3, a4⟩ := hb.size
  obtain ⟨fw, fh, fd, kl, ol⟩ := f
  unfold flV Fl.Floor.size
  dsimp only at a1 a2 a3 a4 ⊢
  clear hb
  go_enter Tryz.func221, Tryz.ntmps221
  go_wp2_with fail
  go_ret
  exact ⟨rfl, (Below.refl _ _).alloc (Nat.le_refl _) _⟩
set_option maxHeartbeats 1000000 in
theorem rIs_any (f : Fl.Floor) (kv ov : Value) (c : Int) (w : World) (hb : FB f) :
    Calls Tryz.prog 170 #[flV f kv ov, .int .i64 c] w fun e w' => e = .returned (.bool (Fl.isC f c)) ∧ Below w.heap.size w w' := by
  have hc := fun W => rSize_any f kv ov W hb
  have HS : Hid (Fl.isC f c = (decide (0 ≤ c) && decide (c < f.size))) := Lib.hid rfl
  obtain ⟨S, hS⟩ : ∃ S, f.size = S := ⟨_, rfl⟩
  rw [hS] at hc HS
  unfold flV at hc ⊢
  have HC := Lib.hid hc
  clear hS hc
  by_cases h0 : 0 ≤ c
  · go_enter Tryz.func170, Tryz.ntmps170
    go_wp2_with fail
    go_at_call 221; refine (HC.out _).mono ?_; rintro e w1 ⟨rfl, b1⟩
    have B1 := Lib.hid b1
    clear b1
    go_wp2_with fail
    go_ret
    exact ⟨by rw [HS.out, decide_eq_true h0]; rfl, ((Below.refl _ w).alloc (Nat.le_refl _) _).trans (B1.out.mono (by simp))⟩
  · have HF : Hid (Fl.isC f c = false) := Lib.hid (by rw [HS.out, decide_eq_false h0, Bool.false_and])
    go_enter Tryz.func170, Tryz.ntmps170
    go_wp2_with fail
    go_ret
    exact ⟨by rw [HF.out]; rfl, (Below.refl _ _).alloc (Nat.le_refl _) _⟩
set_option maxRecDepth 100000 in
set_option maxHeartbeats 4000000 in
theorem rCell_any (f : Fl.Floor) (kv ov : Value) (x y z : Int) (w : World) (hb : FB f) :
    Calls Tryz.prog 281 #[flV f kv ov, .int .i64 x, .int .i64 y, .int .i64 z] w fun e w' => e = .returned (.int .i64 (Fl.cell f x y z)) ∧ Below w.heap.size w w' := by
  have B1 := Lib.hid ((Below.refl _ w).alloc (Nat.le_refl _) (.cells #[.int .i64 f.w, .int .i64 f.h, .int .i64 f.d, kv, ov] 24))
  by_cases h : 0 ≤ x ∧ 0 ≤ y ∧ 0 ≤ z ∧ x < f.w ∧ y < f.h ∧ z < f.d
  · obtain ⟨x0, y0, z0, x1, y1, z1⟩ := h
    obtain ⟨hc, ⟨e1, e2⟩, e3, e4⟩ := cell_in hb x0 y0 z0 x1 y1 z1
    have HC := Lib.hid hc
    have h1 := hb.w2
    have h2 := hb.h2
    obtain ⟨fw, fh, fd, kl, ol⟩ := f
    unfold flV
    dsimp only at *
    clear hc hb
    go_enter Tryz.func281, Tryz.ntmps281
    go_wp2_with fail
    all_goals
      go_ret
      exact ⟨by rw [HC.out]; rfl, B1.out⟩
  · have HC := Lib.hid (cell_out h)
    obtain ⟨fw, fh, fd, kl, ol⟩ := f
    unfold flV
    dsimp only at *
    have H := Lib.hid h
    clear hb h
    go_enter Tryz.func281, Tryz.ntmps281
    go_wp2_with fail
    all_goals first
      | (exfalso; have := H.out; omega)
      | (go_ret; exact ⟨by rw [HC.out]; rfl, B1.out⟩)
set_option maxRecDepth 100000 in
set_option maxHeartbeats 4000000 in
theorem Has_any (v : Value) (l : List Int) (x : Int) (w : World) (h : Is w v l) :
    Calls Tryz.prog 20 #[v, .int .i64 x] w fun e w' => e = .returned (.bool (l.any fun y => decide (y = x))) ∧ w = w' := by
  obtain ⟨a, cap, rfl, hm⟩ := h.form
  obtain ⟨R, hR⟩ : ∃ R, (l.any fun y => decide (y = x)) = R := ⟨_, rfl⟩
  have HR : Hid (((l.drop 0).any fun y => decide (y = x)) = R) := Lib.hid hR
  rw [hR]
  obtain ⟨n, hn⟩ : ∃ n, l.length = n := ⟨_, rfl⟩
  have H := Lib.hid h
  rw [hn] at hm H ⊢
  have HN := Lib.hid hn
  clear h hR hn
  go_enter Tryz.func20, Tryz.ntmps20
  go_wp2_with fail
  go_loop [5] (fun iv => ∃ k : Nat, k ≤ n ∧ iv = .int .i64 k ∧ Hid (((l.drop k).any fun y => decide (y = x)) = R)) (fun iv => n - (intOf iv).toNat)
  case atStart => exact ⟨0, by omega, rfl, HR⟩
  case round =>
    obtain ⟨k, hk, rfl, HK⟩ := hrel
    by_cases hkn : k < n
    · have hkl : k < l.length := by rw [HN.out]; exact hkn
      obtain ⟨b, off, e1, c0⟩ := H.out.cell k hkl
      subst e1
      obtain ⟨y, hy⟩ : ∃ y, l[k] = y := ⟨_, rfl⟩
      rw [hy] at c0
      have HD : Hid ((decide (y = x) || (l.drop (k + 1)).any fun y => decide (y = x)) = R) := Lib.hid (by rw [← HK.out, List.drop_eq_getElem_cons hkl, List.any_cons, hy])
      have k1 : (k : Int) < (n : Int) := by omega
      have k0 : (0 : Int) ≤ (k : Int) := by omega
      clear hy
      by_cases hyx : y = x
      · have hb : (y == x) = true := by simp [hyx]
        have HF : Hid (R = true) := Lib.hid (by rw [← HD.out, decide_eq_true hyx, Bool.true_or])
        clear hyx
        go_wp2_with fail
        go_ret
        exact ⟨by rw [HF.out]; rfl, rfl⟩
      · have hb : (y == x) = false := by simp [hyx]
        have HF : Hid (((l.drop (k + 1)).any fun y => decide (y = x)) = R) := Lib.hid (by rw [← HD.out, decide_eq_false hyx, Bool.false_or])
        clear hyx
        go_wp2_with fail
        go_round
        case rel => exact ⟨k + 1, by omega, by go_num, HF⟩
        case measure => simp [intOf]; omega
    · have HF : Hid (R = false) := Lib.hid (by rw [← HK.out, List.drop_eq_nil_of_le (by rw [HN.out]; omega)]; rfl)
      go_wp2_with fail
      go_ret
      exact ⟨by rw [HF.out]; rfl, rfl⟩
set_option maxRecDepth 100000 in
set_option maxHeartbeats 4000000 in
theorem rFew_any (f : Fl.Floor) (kv ov : Value) (c : Int) (w : World) (h : FlV w kv ov f) :
    Calls Tryz.prog 116 #[flV f kv ov, .int .i64 c] w fun e w' => e = .returned (.bool (decide ((f.kind.length : Int) ≤ c) && decide ((f.out.length : Int) ≤ c))) ∧ Below w.heap.size w w' := by
  obtain ⟨a1, c1, rfl, m1⟩ := h.kind.form
  obtain ⟨a2, c2, rfl, m2⟩ := h.out.form
  clear h
  unfold flV
  obtain ⟨n1, e1⟩ : ∃ n, f.kind.length = n := ⟨_, rfl⟩
  obtain ⟨n2, e2⟩ : ∃ n, f.out.length = n := ⟨_, rfl⟩
  rw [e1] at m1 ⊢
  rw [e2] at m2 ⊢
  clear e1 e2
  by_cases h1 : (n1 : Int) ≤ c
  · go_enter Tryz.func116, Tryz.ntmps116
    go_wp2_with fail
    go_ret
    exact ⟨by simp [h1], (Below.refl _ _).alloc (Nat.le_refl _) _⟩
  · go_enter Tryz.func116, Tryz.ntmps116
    go_wp2_with fail
    go_ret
    exact ⟨by simp [h1]; omega, (Below.refl _ _).alloc (Nat.le_refl _) _⟩
theorem drop_eq {α : Type} [DecidableEq α] (xs ys : List α) (k : Nat) (h : k < xs.length) (h' : k < ys.length) : decide (xs.drop k = ys.drop k) = (decide (xs[k] = ys[k]) && decide (xs.drop (k + 1) = ys.drop (k + 1))) := by
  rw [List.drop_eq_getElem_cons h, List.drop_eq_getElem_cons h']
  by_cases h1 : xs[k] = ys[k]
  · rw [decide_eq_true h1, Bool.true_and, h1]; exact decide_eq_decide.2 ⟨fun e => (by injection e), fun e => (by rw [e])⟩
  · rw [decide_eq_false h1, Bool.false_and]; exact decide_eq_false (fun e => h1 (by injection e))
theorem drop_all2 {α : Type} [DecidableEq α] (xs ys : List α) (k : Nat) (h : xs.length ≤ k) (h' : ys.length ≤ k) : decide (xs.drop k = ys.drop k) = true := by
  rw [List.drop_eq_nil_of_le h, List.drop_eq_nil_of_le h']; rfl
set_option maxRecDepth 100000 in
set_option maxHeartbeats 4000000 in
theorem rSame_any (va vb : Value) (xs ys : List Int) (w : World) (ha : Sl w va (ints xs)) (hb : Sl w vb (ints ys)) :
    Calls Tryz.prog 28 #[va, vb] w fun e w' => e = .returned (.bool (decide (xs = ys))) ∧ Below w.heap.size w w' := by
  have hav := ha
  have hbv := hb
  obtain ⟨a1, c1, rfl, m1⟩ := hav.slice
  obtain ⟨a2, c2, rfl, m2⟩ := hbv.slice
  rw [ints_len] at m1 m2 ⊢
  rw [ints_len]
  have mx1 : xs.length ≤ 9223372036854775807 := by unfold maxLen at m1; omega
  have mx2 : ys.length ≤ 9223372036854775807 := by unfold maxLen at m2; omega
  by_cases hl : xs.length = ys.length
  · have HA := Lib.hid ha
    have HB := Lib.hid hb
    obtain ⟨G, hG⟩ : ∃ G, G = decide (xs = ys) := ⟨_, rfl⟩
    rw [← hG]
    have HG := Lib.hid hG
    obtain ⟨n, hn⟩ : ∃ n, n = xs.length := ⟨_, rfl⟩
    have HN := Lib.hid hn
    have HN2 := Lib.hid (show n = ys.length by omega)
    have hn2 : ys.length = n := by omega
    rw [← hn] at mx1 ⊢
    rw [hn2]
    have hne : ((n : Int) != (n : Int)) = false := by simp
    clear ha hb hav hbv hG hn hn2 hl m1 m2 mx2
    go_enter Tryz.func28, Tryz.ntmps28
    go_wp2_with fail
    go_loopw [5] (fun iv wr => ∃ k : Nat, k ≤ n ∧ iv = .int .i64 k ∧ Hid (G = decide (xs.drop k = ys.drop k)) ∧ Hid (Below w.heap.size w wr)) (fun iv _ => n - (intOf iv).toNat)
    case atStart => exact ⟨0, by omega, rfl, HG, Lib.hid (Below.refl _ _)⟩
    case round =>
      obtain ⟨k, hk, rfl, HR, HW⟩ := hrel
      by_cases hkn : k < n
      · have hx : k < xs.length := by rw [← HN.out]; exact hkn
        have hy : k < ys.length := by rw [← HN2.out]; exact hkn
        obtain ⟨b1, o1, c1', e1, -, k1⟩ := (HA.out.below HW.out).some (by rw [ints_len]; omega)
        obtain ⟨b2, o2, c2', e2, -, k2⟩ := (HB.out.below HW.out).some (by rw [ints_len]; omega)
        injection e1 with e1 e3 e4
        injection e2 with e2 e5 e6
        subst e1 e2
        have p1 : wr.cell? ⟨b1, o1 + k, none⟩ = some (.int .i64 xs[k]) := (k1 k (by rw [ints_len]; exact hx)).trans (by simp [ints])
        have p2 : wr.cell? ⟨b2, o2 + k, none⟩ = some (.int .i64 ys[k]) := (k2 k (by rw [ints_len]; exact hy)).trans (by simp [ints])
        have hst := HR.out.trans (drop_eq xs ys k hx hy)
        obtain ⟨x, hxe⟩ : ∃ x, x = xs[k] := ⟨_, rfl⟩
        obtain ⟨y, hye⟩ : ∃ y, y = ys[k] := ⟨_, rfl⟩
        rw [← hxe] at p1 hst
        rw [← hye] at p2 hst
        have kI0 : (0 : Int) ≤ (k : Int) := by omega
        have kI1 : (k : Int) < (n : Int) := by omega
        clear k1 k2 e3 e4 e5 e6 hxe hye
        by_cases hq : x = y
        · have HS : Hid (G = decide (xs.drop (k + 1) = ys.drop (k + 1))) := Lib.hid (by rw [hst, decide_eq_true hq, Bool.true_and])
          have hne2 : (x != y) = false := by rw [hq]; simp
          clear hst hq
          go_wp2_with fail
          go_quiet (fail)
          all_goals
            go_wp2_with fail
            go_roundw
            case rel => exact ⟨k + 1, by omega, by go_num, HS, Lib.hid (HW.out.trans (below_drewN _ _ _))⟩
            case measure => simp [intOf]; omega
        · have HS : Hid (G = false) := Lib.hid (by rw [hst, decide_eq_false hq, Bool.false_and])
          have hne2 : (x != y) = true := by simpa using hq
          clear hst hq
          go_wp2_with fail
          go_quiet (fail)
          all_goals
            go_wp2_with fail
            go_ret
            exact ⟨by rw [HS.out]; rfl, HW.out.trans (below_drewN _ _ _)⟩
      · have hS := HR.out.trans (drop_all2 xs ys k (by rw [← HN.out]; omega) (by rw [← HN2.out]; omega))
        have HS := Lib.hid hS
        clear hS
        go_wp2_with fail
        go_ret
        exact ⟨by rw [HS.out]; rfl, HW.out⟩
  · have HS : Hid (decide (xs = ys) = false) := Lib.hid (decide_eq_false (fun h => hl (by rw [h])))
    have hne : ((xs.length : Int) != (ys.length : Int)) = true := by simp; omega
    obtain ⟨n, hn⟩ : ∃ n, n = xs.length := ⟨_, rfl⟩
    obtain ⟨m, hm⟩ : ∃ m, m = ys.length := ⟨_, rfl⟩
    rw [← hn] at hne ⊢
    rw [← hm] at hne ⊢
    clear ha hb hav hbv m1 m2 mx1 mx2 hl hn hm
    go_enter Tryz.func28, Tryz.ntmps28
    go_wp2_with fail
    go_ret
    exact ⟨by rw [HS.out]; rfl, Below.refl _ _⟩
end Go.Proofs.YtfcbcpfnaadpeaaGreatDoor
/- Walks of package taquinref11: zoneAt. -/
namespace Go.Proofs.YtfcbcpfnaadpeaaGreatDoor
set_option linter.unusedSimpArgs false
set_option linter.unusedVariables false
open Go.RowKit

/-- Whether a cell lies in one of the zones. -/
def zoned (l : List Si.Zone) (c : Int) : Bool := l.any fun z => z.cells.any fun y => decide (y = c)
set_option maxRecDepth 100000 in
set_option maxHeartbeats 4000000 in
theorem zoneAt_any (v : Value) (l : List Si.Zone) (c : Int) (w : World) (h : ZnV w v l) :
    Calls Tryz.prog 233 #[v, .int .i64 c] w fun e w' => e = .returned (.bool (zoned l c)) ∧ w = w' := by
  obtain ⟨a, cap, rfl, hm⟩ := h.form
  have H := Lib.hid h
  obtain ⟨R, hR⟩ : ∃ R, zoned l c = R := ⟨_, rfl⟩
  have HR : Hid (zoned (l.drop 0) c = R) := Lib.hid hR
  rw [hR]
  obtain ⟨n, hn⟩ : ∃ n, l.length = n := ⟨_, rfl⟩
  rw [hn] at hm H ⊢
  have HN := Lib.hid hn
  clear h hn hR
  go_enter Tryz.func233, Tryz.ntmps233
  go_wp2_with fail
  go_loop [5] (fun iv => ∃ k : Nat, k ≤ n ∧ iv = .int .i64 k ∧ Hid (zoned (l.drop k) c = R)) (fun iv => n - (intOf iv).toNat)
  case atStart => exact ⟨0, by omega, rfl, HR⟩
  case round =>
    obtain ⟨k, hk, rfl, HK⟩ := hrel
    by_cases hkn : k < n
    · have hkl : k < l.length := by rw [HN.out]; exact hkn
      obtain ⟨b, off, u1, u2, e1, -, hu1, -, -, c1, -⟩ := H.out.cell k hkl
      subst e1
      have HD : Hid (((l[k].cells.any fun y => decide (y = c)) || zoned (l.drop (k + 1)) c) = R) := Lib.hid (by rw [← HK.out, List.drop_eq_getElem_cons hkl]; rfl)
      have HT := Lib.hid (Has_any u1 l[k].cells c w hu1)
      obtain ⟨z, hz⟩ : ∃ z, (l[k].cells.any fun y => decide (y = c)) = z := ⟨_, rfl⟩
      rw [hz] at HD HT
      obtain ⟨ua, uc, hua, -⟩ := hu1.form
      subst hua
      have k1 : (k : Int) < (n : Int) := by omega
      have k0 : (0 : Int) ≤ (k : Int) := by omega
      clear hz hu1
      cases z
      · have HF : Hid (zoned (l.drop (k + 1)) c = R) := Lib.hid (by have := HD.out; rwa [Bool.false_or] at this)
        go_wp2_with fail
        go_at_call 20; refine HT.out.mono ?_; rintro e w3 ⟨rfl, rfl⟩
        go_wp2_with fail
        go_round
        case rel => exact ⟨k + 1, by omega, by go_num, HF⟩
        case measure => simp [intOf]; omega
      · have HF : Hid (R = true) := Lib.hid (by rw [← HD.out, Bool.true_or])
        go_wp2_with fail
        go_at_call 20; refine HT.out.mono ?_; rintro e w3 ⟨rfl, rfl⟩
        go_wp2_with fail
        go_ret
        exact ⟨by rw [HF.out]; rfl, rfl⟩
    · have HF : Hid (R = false) := Lib.hid (by rw [← HK.out, List.drop_eq_nil_of_le (by rw [HN.out]; omega)]; rfl)
      go_wp2_with fail
      go_ret
      exact ⟨by rw [HF.out]; rfl, rfl⟩
end Go.Proofs.YtfcbcpfnaadpeaaGreatDoor
/- Walks of package taquinref11: stands, zoned, charger. -/
namespace Go.Proofs.YtfcbcpfnaadpeaaGreatDoor
set_option linter.unusedSimpArgs false
set_option linter.unusedVariables false
open Go.RowKit

set_option maxRecDepth 100000 in
set_option maxHeartbeats 4000000 in
theorem stands_any (k : Int) (w : World) :
    Calls Tryz.prog 171 #[.int .i64 k] w fun e w' => e = .returned (.bool (decide (k = 1) || decide (k = 2))) ∧ w = w' := by
  go_enter Tryz.func171, Tryz.ntmps171
  by_cases h1 : k = 1
  · have e1 : (k == 1) = true := by simp [h1]
    go_wp2_with fail
    go_ret
    exact ⟨by simp [h1], rfl⟩
  · have e1 : (k == 1) = false := by simp [h1]
    go_wp2_with fail
    go_ret
    exact ⟨by simp [h1]; rfl, rfl⟩
set_option maxRecDepth 100000 in
set_option maxHeartbeats 4000000 in
theorem rzoned_any (k : Int) (w : World) :
    Calls Tryz.prog 232 #[.int .i64 k] w fun e w' => e = .returned (.bool (!(decide (k = 0)) && (!(decide (k = 4)) && !(decide (k = 5))))) ∧ w = w' := by
  go_enter Tryz.func232, Tryz.ntmps232
  by_cases h1 : k = 0
  · have e1 : (k != 0) = false := by simp [h1]
    go_wp2_with fail
    all_goals
      go_ret
      exact ⟨by simp [h1], rfl⟩
  · have e1 : (k != 0) = true := by simp [h1]
    by_cases h2 : k = 4
    · have e2 : (k != 4) = false := by simp [h2]
      go_wp2_with fail
      all_goals
        go_ret
        exact ⟨by simp [h2], rfl⟩
    · have e2 : (k != 4) = true := by simp [h2]
      go_wp2_with fail
      all_goals
        go_ret
        exact ⟨by simp [h1, h2]; rfl, rfl⟩
end Go.Proofs.YtfcbcpfnaadpeaaGreatDoor
/- The value of a site; its slices. -/
namespace Go.Proofs.YtfcbcpfnaadpeaaGreatDoor
set_option linter.unusedSimpArgs false
set_option linter.unusedVariables false
open Go.RowKit

/-- The value of a site. -/
def siV (s : Si.Site) (kv ov zv av sv rv : Value) : Value := .agg #[.int .i64 s.floor.w, .int .i64 s.floor.h, .int .i64 s.floor.d, kv, ov, zv, av, sv, rv]
/-- The nine cells of a site, its slices open. -/
theorem SiV.open {w : World} {kv ov zv av sv rv : Value} {s : Si.Site} (h : SiV w kv ov zv av sv rv s) : ∃ a1 c1 a2 c2 a3 c3 a4 c4 a5 c5 a6 c6, kv = .slice a1 s.floor.kind.length c1 ∧ ov = .slice a2 s.floor.out.length c2 ∧ zv = .slice a3 s.zones.length c3 ∧ av = .slice a4 s.aparts.length c4 ∧ sv = .slice a5 s.shelves.length c5 ∧ rv = .slice a6 s.robots.length c6 ∧
    s.floor.kind.length ≤ 9223372036854775807 ∧ s.floor.out.length ≤ 9223372036854775807 ∧ s.zones.length ≤ 9223372036854775807 ∧ s.aparts.length ≤ 9223372036854775807 ∧ s.shelves.length ≤ 9223372036854775807 ∧ s.robots.length ≤ 9223372036854775807 := by
  obtain ⟨a1, c1, e1, m1⟩ := h.fl.kind.form
  obtain ⟨a2, c2, e2, m2⟩ := h.fl.out.form
  obtain ⟨a3, c3, e3, m3⟩ := h.zn.form
  obtain ⟨a4, c4, e4, m4⟩ := two_form h.ap
  obtain ⟨a5, c5, e5, m5⟩ := two_form h.sf
  obtain ⟨a6, c6, e6, m6⟩ := two_form h.rb
  exact ⟨a1, c1, a2, c2, a3, c3, a4, c4, a5, c5, a6, c6, e1, e2, e3, e4, e5, e6, m1, m2, m3, m4, m5, m6⟩
theorem heap_two0 (w : World) (A B : Obj) : ((w.alloc A).alloc B).heap[w.heap.size]? = some A :=
  (Below.heap_alloc (w.alloc A) B w.heap.size (by simp)).trans (heap_alloc_new w A)
end Go.Proofs.YtfcbcpfnaadpeaaGreatDoor
/- Walks of package taquinref11: blanks. -/
namespace Go.Proofs.YtfcbcpfnaadpeaaGreatDoor
set_option linter.unusedSimpArgs false
set_option linter.unusedVariables false
open Go.RowKit

def BlPost (n : Nat) (e : Ending) : Prop := ∃ m : Nat, e = .returned (.int .i64 (m : Int)) ∧ m ≤ n
theorem qsame {P : Program} {f : FuncId} {args : Array Value} {w : World} {n : Nat} {v : Value}
    (h : Calls P f args (w.drewN n) fun e w' => e = .returned v ∧ w.drewN n = w') : Calls P f args (w.drewN n) fun e w'' => e = .returned v ∧ ∃ m, w'' = w.drewN m :=
  h.mono fun _ _ ⟨he, hm⟩ => ⟨he, n, hm.symm⟩
set_option maxRecDepth 100000 in
set_option maxHeartbeats 4000000 in
theorem blanks_any (s : Si.Site) (kv ov zv av sv rv : Value) (z : Si.Zone) (u1 u2 : Value) (w : World) (h : SiV w kv ov zv av sv rv s) (h1 : Is w u1 z.cells) (h2 : ShV w u2 z.shut) (hc : ∀ c ∈ z.cells, 0 ≤ c ∧ c.toNat < s.floor.kind.length) :
    Calls Tryz.prog 174 #[siV s kv ov zv av sv rv, .agg #[.string ⟨z.name.toArray⟩, u1, .int .i64 z.speed, .int .i64 z.keep, u2]] w fun e w' => BlPost z.cells.length e ∧ Below w.heap.size w w' := by
  obtain ⟨a1, c1, a2, c2, a3, c3, a4, c4, a5, c5, a6, c6, rfl, rfl, rfl, rfl, rfl, rfl, m1, m2, m3, m4, m5, m6⟩ := h.open
  obtain ⟨b1, d1, rfl, n1⟩ := h1.form
  obtain ⟨b2, d2, rfl, n2⟩ := two_form h2
  have HK := Lib.hid h.fl.kind
  have HF := Lib.hid h.sf
  have HC := Lib.hid h1
  have HR := Lib.hid hc
  obtain ⟨l1, e1⟩ : ∃ n, s.floor.kind.length = n := ⟨_, rfl⟩
  obtain ⟨l2, e2⟩ : ∃ n, s.floor.out.length = n := ⟨_, rfl⟩
  obtain ⟨l3, e3⟩ : ∃ n, s.zones.length = n := ⟨_, rfl⟩
  obtain ⟨l4, e4⟩ : ∃ n, s.aparts.length = n := ⟨_, rfl⟩
  obtain ⟨l5, e5⟩ : ∃ n, s.shelves.length = n := ⟨_, rfl⟩
  obtain ⟨l6, e6⟩ : ∃ n, s.robots.length = n := ⟨_, rfl⟩
  obtain ⟨n, e7⟩ : ∃ n, z.cells.length = n := ⟨_, rfl⟩
  obtain ⟨m, e8⟩ : ∃ n, z.shut.length = n := ⟨_, rfl⟩
  unfold siV
  rw [e1] at HR HK
  rw [e5] at HF
  rw [e7] at HC n1
  rw [e1, e2, e3, e4, e5, e6, e7, e8]
  have HN := Lib.hid e7
  have HL := Lib.hid e1
  have B1 := Lib.hid (((Below.refl _ w).alloc (Nat.le_refl _) (.cells #[.int .i64 s.floor.w, .int .i64 s.floor.h, .int .i64 s.floor.d, .slice a1 l1 c1, .slice a2 l2 c2, .slice a3 l3 c3, .slice a4 l4 c4, .slice a5 l5 c5, .slice a6 l6 c6] 30)).alloc (by simp) (.cells #[.string ⟨z.name.toArray⟩, .slice b1 n d1, .int .i64 z.speed, .int .i64 z.keep, .slice b2 m d2] 80))
  have I0 := Lib.hid (heap_two0 w (.cells #[.int .i64 s.floor.w, .int .i64 s.floor.h, .int .i64 s.floor.d, .slice a1 l1 c1, .slice a2 l2 c2, .slice a3 l3 c3, .slice a4 l4 c4, .slice a5 l5 c5, .slice a6 l6 c6] 30) (.cells #[.string ⟨z.name.toArray⟩, .slice b1 n d1, .int .i64 z.speed, .int .i64 z.keep, .slice b2 m d2] 80))
  have I1 := Lib.hid (heap_two3 w (.cells #[.int .i64 s.floor.w, .int .i64 s.floor.h, .int .i64 s.floor.d, .slice a1 l1 c1, .slice a2 l2 c2, .slice a3 l3 c3, .slice a4 l4 c4, .slice a5 l5 c5, .slice a6 l6 c6] 30) (.cells #[.string ⟨z.name.toArray⟩, .slice b1 n d1, .int .i64 z.speed, .int .i64 z.keep, .slice b2 m d2] 80))
  clear h h1 h2 hc e1 e2 e3 e4 e5 e6 e7 e8
  go_enter Tryz.func174, Tryz.ntmps174
  go_wp2_with fail
  go_loopw [5, 6] (fun mv iv wr => ∃ k j : Nat, k ≤ n ∧ j ≤ k ∧ iv = .int .i64 k ∧ mv = .int .i64 j ∧ Hid (Below w.heap.size w wr) ∧
      Hid (wr.heap[w.heap.size]? = some (.cells #[.int .i64 s.floor.w, .int .i64 s.floor.h, .int .i64 s.floor.d, .slice a1 l1 c1, .slice a2 l2 c2, .slice a3 l3 c3, .slice a4 l4 c4, .slice a5 l5 c5, .slice a6 l6 c6] 30 (0, 0))) ∧
      Hid (wr.heap[w.heap.size + 1]? = some (.cells #[.string ⟨z.name.toArray⟩, .slice b1 n d1, .int .i64 z.speed, .int .i64 z.keep, .slice b2 m d2] 80 (0, 0)))) (fun _ iv _ => n - (intOf iv).toNat)
  case atStart => exact ⟨0, 0, by omega, by omega, rfl, rfl, B1, I0, I1⟩
  case round =>
    obtain ⟨k, j, hk, hj, rfl, rfl, HB, J0, J1⟩ := hrel
    have p3 : wr.cell? ⟨w.heap.size, 3, none⟩ = some (.slice a1 l1 c1) := cell_of_heap J0.out 3 rfl
    have p7 : wr.cell? ⟨w.heap.size, 7, none⟩ = some (.slice a5 l5 c5) := cell_of_heap J0.out 7 rfl
    have q1 : wr.cell? ⟨w.heap.size + 1, 1, none⟩ = some (.slice b1 n d1) := cell_of_heap J1.out 1 rfl
    by_cases hkn : k < n
    · have hkl : k < z.cells.length := by rw [HN.out]; exact hkn
      obtain ⟨g1, o1, t1, r1⟩ := (HC.out.keep HB.out).cell k hkl
      subst t1
      obtain ⟨x0, x1⟩ := HR.out _ (List.getElem_mem hkl)
      obtain ⟨C, hC⟩ : ∃ C : Nat, z.cells[k] = (C : Int) := ⟨z.cells[k].toNat, by omega⟩
      rw [hC] at r1 x1
      rw [Int.toNat_natCast] at x1
      have x2 : C < s.floor.kind.length := by rw [HL.out]; exact x1
      obtain ⟨g2, o2, t2, r2⟩ := (HK.out.keep HB.out).cell C x2
      subst t2
      obtain ⟨K, hK⟩ : ∃ K, s.floor.kind[C] = K := ⟨_, rfl⟩
      rw [hK] at r2
      have HST := Lib.hid (stands_any K)
      obtain ⟨B, hB⟩ : ∃ B, (decide (K = 1) || decide (K = 2)) = B := ⟨_, rfl⟩
      rw [hB] at HST
      have HSH := Lib.hid (fun W hb => shelfAt_is _ s.shelves (C : Int) W (Rw.keep HF.out hb))
      obtain ⟨D, hD⟩ : ∃ D, sIdx s.shelves (C : Int) = D := ⟨_, rfl⟩
      rw [hD] at HSH
      have HD : Hid (∀ q, Below w.heap.size w (wr.drewN q)) := Lib.hid (fun q => HB.out.trans (below_drewN _ _ _))
      have k1 : (k : Int) < (n : Int) := by omega
      have k0 : (0 : Int) ≤ (k : Int) := by omega
      have k2 : (C : Int) < (l1 : Int) := by omega
      have k3 : (0 : Int) ≤ (C : Int) := by omega
      clear hC hK hB hD x0
      cases B with
      | false =>
        go_wp2_with fail
        go_quiet ((go_at_call 171; exact qsame (HST.out _)))
        go_wp2_with fail
        go_roundw
        case rel => exact ⟨k + 1, j, by omega, by omega, by go_num, rfl, Lib.hid (HD.out _), J0, J1⟩
        case measure => simp [intOf]; omega
      | true =>
        have hab : ∀ p : Bool, p = true ∨ p = false := fun p => by cases p <;> simp
        rcases hab (decide (D < 0)) with hA | hA
        · go_wp2_with fail
          go_quiet (first
            | (go_at_call 171; exact qsame (HST.out _))
            | (go_at_call 172; exact qsame (HSH.out _ (HD.out _))))
          go_wp2_with fail
          go_roundw
          case rel => exact ⟨k + 1, j + 1, by omega, by omega, by go_num, by go_num, Lib.hid (HD.out _), J0, J1⟩
          case measure => simp [intOf]; omega
        · go_wp2_with fail
          go_quiet (first
            | (go_at_call 171; exact qsame (HST.out _))
            | (go_at_call 172; exact qsame (HSH.out _ (HD.out _))))
          go_wp2_with fail
          go_roundw
          case rel => exact ⟨k + 1, j, by omega, by omega, by go_num, rfl, Lib.hid (HD.out _), J0, J1⟩
          case measure => simp [intOf]; omega
    · go_wp2_with fail
      go_ret
      exact ⟨⟨j, rfl, by omega⟩, HB.out⟩
end Go.Proofs.YtfcbcpfnaadpeaaGreatDoor
/- Walks of package taquinref11: charger. -/
namespace Go.Proofs.YtfcbcpfnaadpeaaGreatDoor
set_option linter.unusedSimpArgs false
set_option linter.unusedVariables false
open Go.RowKit

set_option maxRecDepth 100000 in
set_option maxHeartbeats 4000000 in
theorem charger_any (f : Fl.Floor) (kv ov : Value) (w : World) (h : FlV w kv ov f) :
    Calls Tryz.prog 176 #[flV f kv ov] w fun e w' => ABool e ∧ Below w.heap.size w w' := by
  have HT := Lib.hid (fun W (hb : Below w.heap.size w W) => Has_any kv f.kind 3 W (h.kind.keep hb))
  obtain ⟨a1, c1, rfl, m1⟩ := h.kind.form
  have HB : Hid (∀ b : Bool, ABool (.returned (.bool b))) := Lib.hid (fun b => ⟨b, rfl⟩)
  obtain ⟨R, hR⟩ : ∃ R, (f.kind.any fun y => decide (y = 3)) = R := ⟨_, rfl⟩
  rw [hR] at HT
  unfold flV
  clear h hR
  go_enter Tryz.func176, Tryz.ntmps176
  go_wp2_with fail
  go_at_call 20; refine (HT.out _ ((Below.refl _ w).alloc (Nat.le_refl _) _)).mono ?_; rintro e w3 ⟨rfl, rfl⟩
  go_wp2_with fail
  go_ret
  exact ⟨HB.out _, (Below.refl _ w).alloc (Nat.le_refl _) _⟩
end Go.Proofs.YtfcbcpfnaadpeaaGreatDoor
/- Walks of package taquinref11, in few words: Apart. -/
namespace Go.Proofs.YtfcbcpfnaadpeaaGreatDoor
set_option linter.unusedSimpArgs false
set_option linter.unusedVariables false
open Go.RowKit

set_option maxRecDepth 100000 in
set_option maxHeartbeats 8000000 in
theorem Apart_any (v : Value) (l : List (List UInt8 × List UInt8)) (s t : ByteArray) (w : World) (h : ApV w v l) :
    Calls Tryz.prog 169 #[v, .string s, .string t] w fun e w' => ABool e ∧ w = w' := by
  obtain ⟨a, cap, rfl, hm⟩ := two_form h
  have H := Lib.hid h
  obtain ⟨n, hn⟩ : ∃ n, l.length = n := ⟨_, rfl⟩
  rw [hn] at hm H ⊢
  have HN := Lib.hid hn
  clear h hn
  go_enter Tryz.func169, Tryz.ntmps169
  go_wp2_with fail
  go_loop [7] (fun iv => ∃ k : Nat, k ≤ n ∧ iv = .int .i64 k) (fun iv => n - (intOf iv).toNat)
  case atStart => exact ⟨0, by omega, rfl⟩
  case round =>
    obtain ⟨k, hk, rfl⟩ := hrel
    by_cases hkn : k < n
    · have hkl : k < l.length := by rw [HN.out]; exact hkn
      obtain ⟨b, off, e1, -, c0, c1⟩ := H.out.cell k hkl
      subst e1
      obtain ⟨y, hy⟩ : ∃ y : ByteArray, ⟨l[k].1.toArray⟩ = y := ⟨_, rfl⟩
      obtain ⟨z, hz⟩ : ∃ y : ByteArray, ⟨l[k].2.toArray⟩ = y := ⟨_, rfl⟩
      rw [hy] at c0
      rw [hz] at c1
      have k1 : (k : Int) < (n : Int) := by omega
      have k0 : (0 : Int) ≤ (k : Int) := by omega
      clear hy hz
      go_wp2_with fail
      all_goals first
        | (go_ret; exact ⟨⟨_, rfl⟩, rfl⟩)
        | (go_round
           case rel => exact ⟨k + 1, by omega, by go_num⟩
           case measure => simp [intOf]; omega)
    · go_wp2_with fail
      all_goals
        go_ret
        exact ⟨⟨_, rfl⟩, rfl⟩
end Go.Proofs.YtfcbcpfnaadpeaaGreatDoor
/- Walks of package taquinref07: At. -/
namespace Go.Proofs.YtfcbcpfnaadpeaaGreatDoor
set_option linter.unusedSimpArgs false
set_option linter.unusedVariables false
open Go.RowKit

set_option maxRecDepth 100000 in
set_option maxHeartbeats 4000000 in
theorem rAt_any (f : Fl.Floor) (kv ov : Value) (c : Int) (w : World) (hb : FB f) :
    Calls Tryz.prog 280 #[flV f kv ov, .int .i64 c] w fun e w' => e = .returned (.tuple #[.int .i64 (Fl.atX f c), .int .i64 (Fl.atY f c), .int .i64 (Fl.atZ f c)]) ∧ Below w.heap.size w w' := by
  have hc := fun W => rIs_any f kv ov c W hb
  obtain ⟨⟨a1, a2⟩, a3, a4⟩ := hb.size
  have HS : Hid (Fl.atX f c = if Fl.isC f c = true then c % f.w else 0) := Lib.hid rfl
  have HY : Hid (Fl.atY f c = if Fl.isC f c = true then c / f.w % f.h else 0) := Lib.hid rfl
  have HZ : Hid (Fl.atZ f c = if Fl.isC f c = true then c / (f.w * f.h) else 0) := Lib.hid rfl
  have hS : Fl.isC f c = true → 0 ≤ c ∧ c < f.w * f.h * f.d := by
    intro h
    unfold Fl.isC Fl.Floor.size at h
    simpa using h
  obtain ⟨B, hB⟩ : ∃ B, Fl.isC f c = B := ⟨_, rfl⟩
  rw [hB] at hc HS HY HZ hS
  have h1 := hb.w1
  have h2 := hb.h1
  have h3 := hb.w2
  have h4 := hb.h2
  have hp : 1 ≤ f.w * f.h := by
    have := Int.mul_le_mul h1 h2 (by omega) (by omega : (0 : Int) ≤ f.w)
    omega
  have B1 := Lib.hid ((Below.refl _ w).alloc (Nat.le_refl _) (.cells #[.int .i64 f.w, .int .i64 f.h, .int .i64 f.d, kv, ov] 24))
  have HC := Lib.hid hc
  unfold flV at HC ⊢
  cases B with
  | false =>
    clear hB hc hS
    go_enter Tryz.func280, Tryz.ntmps280
    go_wp2_with fail
    go_at_call 170; refine (HC.out _).mono ?_; rintro e w1 ⟨rfl, b1⟩
    have B2 := Lib.hid (B1.out.trans (b1.mono B1.out.size))
    clear b1
    go_wp2_with fail
    go_ret3
    exact ⟨by rw [HS.out, HY.out, HZ.out]; rfl, B2.out⟩
  | true =>
    obtain ⟨c0, c1⟩ := hS rfl
    have c2 : 0 ≤ c / f.w := Int.ediv_nonneg c0 (by omega)
    have HX2 : Hid (Fl.atX f c = c % f.w) := Lib.hid (by rw [HS.out]; rfl)
    have HY2 : Hid (Fl.atY f c = c / f.w % f.h) := Lib.hid (by rw [HY.out]; rfl)
    have HZ2 : Hid (Fl.atZ f c = c / (f.w * f.h)) := Lib.hid (by rw [HZ.out]; rfl)
    have HW : Hid (wrap64 ((c / f.w).tdiv f.h) = c / (f.w * f.h)) := Lib.hid (by
      rw [Int.tdiv_eq_ediv_of_nonneg c2, Int.ediv_ediv, if_neg (by omega), Int.sub_zero]
      have q0 : 0 ≤ c / (f.w * f.h) := Int.ediv_nonneg c0 (by omega)
      have q1 : c / (f.w * f.h) ≤ c := Int.ediv_le_self _ c0
      unfold wrap64
      omega)
    clear hB hc hS
    go_enter Tryz.func280, Tryz.ntmps280
    go_wp2_with fail
    go_at_call 170; refine (HC.out _).mono ?_; rintro e w1 ⟨rfl, b1⟩
    have i1 : w1.heap[w.heap.size]? = some (.cells #[.int .i64 f.w, .int .i64 f.h, .int .i64 f.d, kv, ov] 24 (0, 0)) := (b1.block w.heap.size (by simp)).trans (heap_alloc_new _ _)
    have d0 : w1.cell? ⟨w.heap.size, 0, none⟩ = some (.int .i64 f.w) := cell_of_heap i1 0 rfl
    have d1 : w1.cell? ⟨w.heap.size, 1, none⟩ = some (.int .i64 f.h) := cell_of_heap i1 1 rfl
    have B2 := Lib.hid (B1.out.trans (b1.mono B1.out.size))
    clear b1 i1
    go_wp2_with fail
    go_quiet (fail)
    go_wp2_with fail
    go_ret3
    exact ⟨by rw [HX2.out, HY2.out, HZ2.out, ← HW.out]; rfl, B2.out.trans (below_drewN _ _ _)⟩
end Go.Proofs.YtfcbcpfnaadpeaaGreatDoor
