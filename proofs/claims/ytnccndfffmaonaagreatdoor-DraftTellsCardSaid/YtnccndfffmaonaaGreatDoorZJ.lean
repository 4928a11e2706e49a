/- Parts DrE, DrD, DrF, DrG of this claim, laid one behind the other: walks and the plain laws behind them; each contract states its own conditions. -/
import Derived.Test.YtnccndfffmaonaaGreatDoorZI
/- Walks of package draft: Same. -/
namespace Go.Proofs.YtnccndfffmaonaaGreatDoor
set_option linter.unusedSimpArgs false
set_option linter.unusedVariables false
open Go.RowKit Go.Maps

theorem Sl.some {w : World} {v : Value} {xs : List Value} (h : Sl w v xs) (h0 : 0 < xs.length) : ∃ b off cap, v = .slice (some ⟨b, off, none⟩) xs.length cap ∧ xs.length ≤ maxLen ∧ ∀ i, (h : i < xs.length) → w.cell? ⟨b, off + i, none⟩ = some xs[i] := by
  obtain ⟨a, cap, rfl, hm, hn, hc⟩ := h
  obtain ⟨b, off, rfl, -⟩ := hc 0 h0
  refine ⟨b, off, cap, rfl, hm, fun i hi => ?_⟩
  obtain ⟨b2, off2, h1, h2⟩ := hc i hi
  cases h1
  exact h2
theorem Sl.slice {w : World} {v : Value} {xs : List Value} (h : Sl w v xs) : ∃ a cap, v = .slice a xs.length cap ∧ xs.length ≤ maxLen := by
  obtain ⟨a, cap, rfl, hm, -⟩ := h
  exact ⟨a, cap, rfl, hm⟩
theorem ints_len (l : List Int) : (ints l).length = l.length := by simp [ints]
theorem strs_len2 (l : List (List UInt8)) : (strs l).length = l.length := by simp [strs]
set_option maxHeartbeats 1000000 in
theorem Equal_ints (va vb : Value) (xs ys : List Int) (w : World) (ha : Sl w va (ints xs)) (hb : Sl w vb (ints ys)) :
    Calls Tryz.prog 43 #[va, vb] w fun e w' => e = .returned (.bool (decide (xs = ys))) ∧ Below w.heap.size w w' := by
  by_cases hl : xs.length = ys.length
  · by_cases h0 : 0 < xs.length
    · obtain ⟨b1, o1, c1, rfl, m1, k1⟩ := ha.some (by rw [ints_len]; exact h0)
      obtain ⟨b2, o2, c2, rfl, m2, k2⟩ := hb.some (by rw [ints_len]; omega)
      rw [ints_len] at m1 m2
      have hmx : maxLen ≤ 9223372036854775807 := by unfold maxLen; omega
      rw [ints_len, ints_len]
      refine (Tryz.slices_Equal_int b1 o1 xs.length c1 b2 o2 ys.length c2 xs ys w (Nat.le_refl _) (Nat.le_refl _) (by omega) (by omega) (fun j hj => ?_) (fun j hj => ?_)).mono ?_
      · have := k1 j (by rw [ints_len]; exact hj)
        rw [this]; simp [ints, hj]
      · have := k2 j (by rw [ints_len]; exact hj)
        rw [this]; simp [ints, hj]
      · rintro e w' ⟨rfl, q, rfl⟩
        refine ⟨?_, below_drewN _ _ _⟩
        simp [List.take_length]
        by_cases h : xs = ys <;> simp [h]
    · obtain ⟨a1, c1, rfl, m1⟩ := ha.slice
      obtain ⟨a2, c2, rfl, m2⟩ := hb.slice
      rw [ints_len] at m1 m2
      rw [ints_len, ints_len]
      have e1 : xs = [] := List.eq_nil_of_length_eq_zero (by omega)
      have e2 : ys = [] := List.eq_nil_of_length_eq_zero (by omega)
      subst e1 e2
      refine (Tryz.slices_Equal_int_empty a1 a2 c1 0 c2 w (by omega)).mono ?_
      rintro e w' ⟨rfl, rfl⟩
      exact ⟨rfl, Below.refl _ _⟩
  · obtain ⟨a1, c1, rfl, m1⟩ := ha.slice
    obtain ⟨a2, c2, rfl, m2⟩ := hb.slice
    rw [ints_len, ints_len]
    refine (Tryz.slices_Equal_int_lens a1 a2 xs.length c1 ys.length c2 w hl).mono ?_
    rintro e w' ⟨rfl, rfl⟩
    refine ⟨?_, Below.refl _ _⟩
    rw [decide_eq_false (fun h => hl (by rw [h]))]
set_option maxHeartbeats 1000000 in
theorem Equal_strs (va vb : Value) (xs ys : List (List UInt8)) (w : World) (ha : Sl w va (strs xs)) (hb : Sl w vb (strs ys)) :
    Calls Tryz.prog 41 #[va, vb] w fun e w' => e = .returned (.bool (decide (xs = ys))) ∧ Below w.heap.size w w' := by
  have hinj : ∀ a b : List (List UInt8), a.map (fun l => (⟨l.toArray⟩ : ByteArray)) = b.map (fun l => (⟨l.toArray⟩ : ByteArray)) ↔ a = b := fun a b => ⟨fun h => by
    have := congrArg (List.map bs) h
    simpa [List.map_map, Function.comp_def, bs_lit0] using this, fun h => by rw [h]⟩
  by_cases hl : xs.length = ys.length
  · by_cases h0 : 0 < xs.length
    · obtain ⟨b1, o1, c1, rfl, m1, k1⟩ := ha.some (by rw [strs_len2]; exact h0)
      obtain ⟨b2, o2, c2, rfl, m2, k2⟩ := hb.some (by rw [strs_len2]; omega)
      rw [strs_len2] at m1 m2
      have hmx : maxLen ≤ 9223372036854775807 := by unfold maxLen; omega
      rw [strs_len2, strs_len2]
      refine (Tryz.slices_Equal_string b1 o1 xs.length c1 b2 o2 ys.length c2 (xs.map fun l => ⟨l.toArray⟩) (ys.map fun l => ⟨l.toArray⟩) w (by simp) (by simp) (by omega) (by omega) (fun j hj => ?_) (fun j hj => ?_)).mono ?_
      · have hj : j < xs.length := by simpa using hj
        have := k1 j (by rw [strs_len2]; exact hj)
        rw [this]; simp [strs, hj]
      · have hj : j < ys.length := by simpa using hj
        have := k2 j (by rw [strs_len2]; exact hj)
        rw [this]; simp [strs, hj]
      · rintro e w' ⟨rfl, q, rfl⟩
        refine ⟨?_, below_drewN _ _ _⟩
        rw [List.take_of_length_le (by simp), List.take_of_length_le (by simp)]
        by_cases h : xs = ys
        · rw [decide_eq_true h, decide_eq_true ((hinj _ _).2 h)]
        · rw [decide_eq_false h, decide_eq_false (fun h2 => h ((hinj _ _).1 h2))]
    · obtain ⟨a1, c1, rfl, m1⟩ := ha.slice
      obtain ⟨a2, c2, rfl, m2⟩ := hb.slice
      rw [strs_len2] at m1 m2
      rw [strs_len2, strs_len2]
      have e1 : xs = [] := List.eq_nil_of_length_eq_zero (by omega)
      have e2 : ys = [] := List.eq_nil_of_length_eq_zero (by omega)
      subst e1 e2
      refine (Tryz.slices_Equal_string_empty a1 a2 c1 0 c2 w (by omega)).mono ?_
      rintro e w' ⟨rfl, rfl⟩
      exact ⟨rfl, Below.refl _ _⟩
  · obtain ⟨a1, c1, rfl, m1⟩ := ha.slice
    obtain ⟨a2, c2, rfl, m2⟩ := hb.slice
    rw [strs_len2, strs_len2]
    refine (Tryz.slices_Equal_string_lens a1 a2 xs.length c1 ys.length c2 w hl).mono ?_
    rintro e w' ⟨rfl, rfl⟩
    refine ⟨?_, Below.refl _ _⟩
    rw [decide_eq_false (fun h => hl (by rw [h]))]

/-! ### what Same answers, in plain words -/
namespace Dr
def sameI (x y : Item) : Bool := decide (x.kind = y.kind) && (decide (x.name = y.name) && (decide (x.other = y.other) && decide (x.n = y.n)))
def sameL {α : Type} (p : α → α → Bool) : List α → List α → Bool
  | [], [] => true
  | a :: l, b :: m => p a b && sameL p l m
  | _, _ => false
def same (x y : Draft) : Bool := sameL (fun a b => decide (a = b)) x.decks y.decks && sameL sameI x.items y.items
theorem sameL_len {α : Type} (p : α → α → Bool) : ∀ l m : List α, l.length ≠ m.length → sameL p l m = false
  | [], [], h => absurd rfl h
  | [], _ :: _, _ => rfl
  | _ :: _, [], _ => rfl
  | a :: l, b :: m, h => by rw [sameL, sameL_len p l m (by simpa using h), Bool.and_false]
theorem sameL_step {α : Type} (p : α → α → Bool) (l m : List α) (k : Nat) (h : k < l.length) (h' : k < m.length) : sameL p (l.drop k) (m.drop k) = (p l[k] m[k] && sameL p (l.drop (k + 1)) (m.drop (k + 1))) := by
  rw [List.drop_eq_getElem_cons h, List.drop_eq_getElem_cons h', sameL]
theorem sameL_end {α : Type} (p : α → α → Bool) (l m : List α) (k : Nat) (h : l.length ≤ k) (h' : m.length ≤ k) : sameL p (l.drop k) (m.drop k) = true := by
  rw [List.drop_eq_nil_of_le h, List.drop_eq_nil_of_le h', sameL]
theorem sameL_refl {α : Type} (p : α → α → Bool) (hp : ∀ a, p a a = true) : ∀ l : List α, sameL p l l = true
  | [] => rfl
  | a :: l => by rw [sameL, hp, sameL_refl p hp l]; rfl
end Dr

/-! ### the walks -/
set_option maxHeartbeats 1000000 in
theorem Same1_any (va vb : Value) (xs ys : List (List UInt8)) (w : World) (ha : Sl w va (strs xs)) (hb : Sl w vb (strs ys)) :
    Calls Tryz.prog 40 #[va, vb] w fun e w' => e = .returned (.bool (decide (xs = ys))) ∧ Below w.heap.size w w' := by
  have HC := Lib.hid (Equal_strs va vb xs ys w ha hb)
  clear ha hb
  go_enter Tryz.func40, Tryz.ntmps40
  go_wp2_with fail
  go_at_call 41; refine HC.out.mono ?_; rintro e w' ⟨rfl, hb⟩
  go_wp2_with fail
  go_ret
  exact ⟨rfl, hb⟩
set_option maxRecDepth 100000 in
set_option maxHeartbeats 8000000 in
theorem EqualFunc_decks (va vb : Value) (xs ys : List (List (List UInt8))) (w : World) (ha : DVd w va xs) (hb : DVd w vb ys) :
    Calls Tryz.prog 44 #[va, vb, .func (.func 40) #[] #[]] w fun e w' => e = .returned (.bool (Dr.sameL (fun a b => decide (a = b)) xs ys)) ∧ Below w.heap.size w w' := by
  obtain ⟨us, hu, hul, hus⟩ := ha
  obtain ⟨vs, hv, hvl, hvs⟩ := hb
  obtain ⟨G, hG⟩ : ∃ G, G = Dr.sameL (fun a b => decide (a = b)) xs ys := ⟨_, rfl⟩
  rw [← hG]
  have HG := Lib.hid hG
  by_cases hl : xs.length = ys.length
  · obtain ⟨n, hn⟩ : ∃ n, n = us.length := ⟨_, rfl⟩
    by_cases h0 : 0 < n
    · obtain ⟨b1, o1, c1, rfl, m1, k1⟩ := hu.some (by omega)
      obtain ⟨b2, o2, c2, rfl, m2, k2⟩ := hv.some (by omega)
      have hn2 : vs.length = n := by omega
      rw [← hn] at m1
      have HX := Lib.hid (show n = xs.length by omega)
      have HY := Lib.hid (show n = ys.length by omega)
      have K1 := Lib.hid k1
      have K2 := Lib.hid k2
      have US := Lib.hid hus
      have VS := Lib.hid hvs
      have HN := Lib.hid hn
      have HN2 := Lib.hid hn2
      rw [← hn, hn2]
      have hmx : n ≤ 9223372036854775807 := by unfold maxLen at m1; omega
      clear hu hv hG hul hvl hus hvs k1 k2 hn hn2 m2 hl
      go_enter Tryz.func44, Tryz.ntmps44
      go_wp2_with fail
      go_loopw [17] (fun iv wr => ∃ k : Nat, k ≤ n ∧ iv = .int .i64 k ∧ Hid (G = Dr.sameL (fun a b => decide (a = b)) (xs.drop k) (ys.drop k)) ∧ Hid (Below w.heap.size w wr)) (fun iv _ => n - (intOf iv).toNat)
      case atStart => exact ⟨0, by omega, rfl, HG, Lib.hid (Below.refl _ _)⟩
      case round =>
        obtain ⟨k, hk, rfl, HR, HB⟩ := hrel
        by_cases hkn : k < n
        · have hx : k < xs.length := by rw [← HX.out]; exact hkn
          have hy : k < ys.length := by rw [← HY.out]; exact hkn
          have hku : k < us.length := by rw [← HN.out]; exact hkn
          have hkv : k < vs.length := by rw [HN2.out]; exact hkn
          have g1 := K1.out k hku
          have g2 := K2.out k hkv
          have s1 := US.out k hx hku
          have s2 := VS.out k hy hkv
          obtain ⟨u, hu⟩ : ∃ u, u = us[k] := ⟨_, rfl⟩
          obtain ⟨v, hv⟩ : ∃ v, v = vs[k] := ⟨_, rfl⟩
          rw [← hu] at g1 s1
          rw [← hv] at g2 s2
          have lt1 := cell_block_lt g1
          have lt2 := cell_block_lt g2
          have j1 : wr.cell? ⟨b1, o1 + k, none⟩ = some u := (HB.out.cell (p := ⟨b1, o1 + k, none⟩) lt1).trans g1
          have j2 : wr.cell? ⟨b2, o2 + k, none⟩ = some v := (HB.out.cell (p := ⟨b2, o2 + k, none⟩) lt2).trans g2
          obtain ⟨ua, uc, rfl, -⟩ := s1.slice
          obtain ⟨va, vc, rfl, -⟩ := s2.slice
          have S1 := Lib.hid (s1.below HB.out)
          have S2 := Lib.hid (s2.below HB.out)
          have hst := HR.out.trans (Dr.sameL_step _ xs ys k hx hy)
          by_cases hq : xs[k] = ys[k]
          · have HS := Lib.hid (show G = _ from by rw [hst, decide_eq_true hq, Bool.true_and])
            have HQ := Lib.hid hq
            clear hst hq hu hv s1 s2 g1 g2
            go_wp2_with fail
            go_at_call 40; refine (Same1_any _ _ _ _ _ S1.out S2.out).mono ?_; rintro e w2 ⟨rfl, b2⟩; rw [decide_eq_true HQ.out]
            have HB2 := Lib.hid (HB.out.trans (b2.mono HB.out.size))
            clear b2
            go_wp2_with fail
            go_roundw
            case rel => exact ⟨k + 1, by omega, by go_num, HS, HB2⟩
            case measure => simp [intOf]; omega
          · have HS := Lib.hid (show G = false from by rw [hst, decide_eq_false hq, Bool.false_and])
            have HQ := Lib.hid hq
            clear hst hq hu hv s1 s2 g1 g2
            go_wp2_with fail
            go_at_call 40; refine (Same1_any _ _ _ _ _ S1.out S2.out).mono ?_; rintro e w2 ⟨rfl, b2⟩; rw [decide_eq_false HQ.out]
            have HB2 := Lib.hid (HB.out.trans (b2.mono HB.out.size))
            clear b2
            go_wp2_with fail
            go_ret
            exact ⟨by rw [HS.out]; rfl, HB2.out⟩
        · have hkk : k = n := by omega
          have hS := HR.out.trans (Dr.sameL_end _ xs ys k (by rw [← HX.out]; omega) (by rw [← HY.out]; omega))
          have HS := Lib.hid hS
          clear hS hkk
          go_wp2_with fail
          go_ret
          exact ⟨by rw [HS.out]; rfl, HB.out⟩
    · obtain ⟨a1, c1, rfl, m1⟩ := hu.slice
      obtain ⟨a2, c2, rfl, m2⟩ := hv.slice
      have e1 : us.length = 0 := by omega
      have e2 : vs.length = 0 := by omega
      rw [e1, e2]
      have HS := Lib.hid (show G = true from by rw [hG, List.eq_nil_of_length_eq_zero (show xs.length = 0 by omega), List.eq_nil_of_length_eq_zero (show ys.length = 0 by omega)]; rfl)
      clear hu hv hG hul hvl hus hvs hn h0 m1 m2 e1 e2 hl
      go_enter Tryz.func44, Tryz.ntmps44
      go_wp2_with fail
      refine wp_loop_rounds 1 ?_
      rw [rounds_succ]
      go_wp2_with fail
      go_ret
      exact ⟨by rw [HS.out]; rfl, Below.refl _ _⟩
  · obtain ⟨a1, c1, rfl, m1⟩ := hu.slice
    obtain ⟨a2, c2, rfl, m2⟩ := hv.slice
    rw [hul, hvl]
    have hne : ((xs.length : Int) != (ys.length : Int)) = true := by simp; omega
    have HS := Lib.hid (show G = false from by rw [hG, Dr.sameL_len _ _ _ hl])
    clear hu hv hG hul hvl hus hvs m1 m2 hl
    go_enter Tryz.func44, Tryz.ntmps44
    go_wp2_with fail
    go_ret
    exact ⟨by rw [HS.out]; rfl, Below.refl _ _⟩
end Go.Proofs.YtnccndfffmaonaaGreatDoor
/- Walks of package draft: Same, of items. -/
namespace Go.Proofs.YtnccndfffmaonaaGreatDoor
set_option linter.unusedSimpArgs false
set_option linter.unusedVariables false
open Go.RowKit Go.Maps

def itemV (x : Dr.Item) (nv : Value) : Value := .agg #[.int .i64 x.kind, .int .i64 x.line, .string ⟨x.name.toArray⟩, .string ⟨x.other.toArray⟩, nv]
set_option maxRecDepth 100000 in
set_option maxHeartbeats 8000000 in
theorem Same2_any (x y : Dr.Item) (nx ny : Value) (w : World) (ha : Sl w nx (ints x.n)) (hb : Sl w ny (ints y.n)) :
    Calls Tryz.prog 42 #[itemV x nx, itemV y ny] w fun e w' => e = .returned (.bool (Dr.sameI x y)) ∧ Below w.heap.size w w' := by
  have B1 := Lib.hid (((Below.refl _ w).alloc (Nat.le_refl _) (.cells #[.int .i64 x.kind, .int .i64 x.line, .string ⟨x.name.toArray⟩, .string ⟨x.other.toArray⟩, nx] 34)).alloc (by simp) (.cells #[.int .i64 y.kind, .int .i64 y.line, .string ⟨y.name.toArray⟩, .string ⟨y.other.toArray⟩, ny] 34))
  have HC := Lib.hid (Equal_ints nx ny x.n y.n _ (ha.below B1.out) (hb.below B1.out))
  obtain ⟨xa, xc, rfl, -⟩ := ha.slice
  obtain ⟨ya, yc, rfl, -⟩ := hb.slice
  unfold itemV
  clear ha hb
  obtain ⟨r, hr⟩ : ∃ r, r = decide (x.n = y.n) := ⟨_, rfl⟩
  rw [← hr] at HC
  have HR := Lib.hid hr
  clear hr
  go_enter Tryz.func42, Tryz.ntmps42
  go_wp2_with fail
  · have h1 := ‹x.kind = y.kind›
    have h2 := ‹x.name = y.name›
    have h3 := ‹x.other = y.other›
    have hc := HC.out
    have hb := B1.out
    rw [h1, h2, h3] at hc hb
    have HB := Lib.hid hb
    have HS : Hid (Dr.sameI x y = r) := Lib.hid (by rw [HR.out]; unfold Dr.sameI; rw [decide_eq_true h1, decide_eq_true h2, decide_eq_true h3]; rfl)
    refine hc.mono ?_
    rintro e w2 ⟨rfl, b2⟩
    go_wp2_with fail
    go_ret
    exact ⟨by rw [HS.out]; rfl, HB.out.trans (b2.mono HB.out.size)⟩
  · have h1 := ‹x.kind = y.kind›
    have h2 := ‹x.name = y.name›
    have h3 := ‹¬x.other = y.other›
    have hb := B1.out
    rw [h1, h2] at hb
    go_ret
    exact ⟨by unfold Dr.sameI; rw [decide_eq_true h1, decide_eq_true h2, decide_eq_false h3]; rfl, hb⟩
  · have h1 := ‹x.kind = y.kind›
    have h2 := ‹¬x.name = y.name›
    have hb := B1.out
    rw [h1] at hb
    go_ret
    exact ⟨by unfold Dr.sameI; rw [decide_eq_true h1, decide_eq_false h2]; rfl, hb⟩
  · have h1 := ‹¬x.kind = y.kind›
    go_ret
    exact ⟨by unfold Dr.sameI; rw [decide_eq_false h1]; rfl, B1.out⟩

set_option maxRecDepth 100000 in
set_option maxHeartbeats 8000000 in
theorem EqualFunc_items (va vb : Value) (xs ys : List Dr.Item) (w : World) (ha : DVi w va xs) (hb : DVi w vb ys) :
    Calls Tryz.prog 45 #[va, vb, .func (.func 42) #[] #[]] w fun e w' => e = .returned (.bool (Dr.sameL Dr.sameI xs ys)) ∧ Below w.heap.size w w' := by
  obtain ⟨us, rfl, hu, hus⟩ := ha
  obtain ⟨vs, rfl, hv, hvs⟩ := hb
  obtain ⟨G, hG⟩ : ∃ G, G = Dr.sameL Dr.sameI (us.map (·.1)) (vs.map (·.1)) := ⟨_, rfl⟩
  rw [← hG]
  have HG := Lib.hid hG
  obtain ⟨a1, c1, rfl, m1, z1, k1⟩ := hu
  obtain ⟨a2, c2, rfl, m2, z2, k2⟩ := hv
  by_cases hl : us.length = vs.length
  · obtain ⟨n, hn⟩ : ∃ n, n = us.length := ⟨_, rfl⟩
    by_cases h0 : 0 < n
    · obtain ⟨b1, o1, rfl, -⟩ := k1 0 (by omega)
      obtain ⟨b2, o2, rfl, -⟩ := k2 0 (by omega)
      have hn2 : vs.length = n := by omega
      rw [← hn] at m1
      have K1 := Lib.hid k1
      have K2 := Lib.hid k2
      have US := Lib.hid hus
      have VS := Lib.hid hvs
      have HN := Lib.hid hn
      have HN2 := Lib.hid hn2
      rw [← hn, hn2]
      have hmx : n ≤ 9223372036854775807 := by unfold maxLen at m1; omega
      clear hG hus hvs k1 k2 hn hn2 m2 hl z1 z2
      go_enter Tryz.func45, Tryz.ntmps45
      go_wp2_with fail
      go_loopw [17] (fun iv wr => ∃ k : Nat, k ≤ n ∧ iv = .int .i64 k ∧ Hid (G = Dr.sameL Dr.sameI ((us.map (·.1)).drop k) ((vs.map (·.1)).drop k)) ∧ Hid (Below w.heap.size w wr)) (fun iv _ => n - (intOf iv).toNat)
      case atStart => exact ⟨0, by omega, rfl, HG, Lib.hid (Below.refl _ _)⟩
      case round =>
        obtain ⟨k, hk, rfl, HR, HB⟩ := hrel
        by_cases hkn : k < n
        · have hku : k < us.length := by rw [← HN.out]; exact hkn
          have hkv : k < vs.length := by rw [HN2.out]; exact hkn
          obtain ⟨b1', o1', e1, p0, p1, p2, p3, p4⟩ := K1.out k hku
          cases e1
          obtain ⟨b2', o2', e2, q0, q1, q2, q3, q4⟩ := K2.out k hkv
          cases e2
          have s1 := (US.out us[k] (List.getElem_mem hku)).1
          have s2 := (VS.out vs[k] (List.getElem_mem hkv)).1
          have hst := HR.out.trans (Dr.sameL_step Dr.sameI _ _ k (by simpa using hku) (by simpa using hkv))
          rw [List.getElem_map, List.getElem_map] at hst
          obtain ⟨⟨x, nx⟩, hx⟩ : ∃ u, u = us[k] := ⟨_, rfl⟩
          obtain ⟨⟨y, ny⟩, hy⟩ : ∃ v, v = vs[k] := ⟨_, rfl⟩
          rw [← hx] at p0 p1 p2 p3 p4 s1 hst
          rw [← hy] at q0 q1 q2 q3 q4 s2 hst
          dsimp only at p0 p1 p2 p3 p4 s1 q0 q1 q2 q3 q4 s2 hst
          have lt1 := cell_block_lt p0
          have lt2 := cell_block_lt q0
          have p0 : wr.cell? ⟨b1, o1 + k * 5, none⟩ = _ := (HB.out.cell (p := ⟨b1, o1 + k * 5, none⟩) lt1).trans p0
          have p1 : wr.cell? ⟨b1, o1 + k * 5 + 1, none⟩ = _ := (HB.out.cell (p := ⟨b1, o1 + k * 5 + 1, none⟩) lt1).trans p1
          have p2 : wr.cell? ⟨b1, o1 + k * 5 + 2, none⟩ = _ := (HB.out.cell (p := ⟨b1, o1 + k * 5 + 2, none⟩) lt1).trans p2
          have p3 : wr.cell? ⟨b1, o1 + k * 5 + 3, none⟩ = _ := (HB.out.cell (p := ⟨b1, o1 + k * 5 + 3, none⟩) lt1).trans p3
          have p4 : wr.cell? ⟨b1, o1 + k * 5 + 4, none⟩ = _ := (HB.out.cell (p := ⟨b1, o1 + k * 5 + 4, none⟩) lt1).trans p4
          have q0 : wr.cell? ⟨b2, o2 + k * 5, none⟩ = _ := (HB.out.cell (p := ⟨b2, o2 + k * 5, none⟩) lt2).trans q0
          have q1 : wr.cell? ⟨b2, o2 + k * 5 + 1, none⟩ = _ := (HB.out.cell (p := ⟨b2, o2 + k * 5 + 1, none⟩) lt2).trans q1
          have q2 : wr.cell? ⟨b2, o2 + k * 5 + 2, none⟩ = _ := (HB.out.cell (p := ⟨b2, o2 + k * 5 + 2, none⟩) lt2).trans q2
          have q3 : wr.cell? ⟨b2, o2 + k * 5 + 3, none⟩ = _ := (HB.out.cell (p := ⟨b2, o2 + k * 5 + 3, none⟩) lt2).trans q3
          have q4 : wr.cell? ⟨b2, o2 + k * 5 + 4, none⟩ = _ := (HB.out.cell (p := ⟨b2, o2 + k * 5 + 4, none⟩) lt2).trans q4
          have hsz := HB.out.size
          have lw1 : b1 < wr.heap.size := by have : b1 < w.heap.size := lt1; omega
          have lw2 : b2 < wr.heap.size := by have : b2 < w.heap.size := lt2; omega
          have B1 := Lib.hid (((Below.refl _ wr).alloc (Nat.le_refl _) (.cells #[.int .i64 x.kind, .int .i64 x.line, .string ⟨x.name.toArray⟩, .string ⟨x.other.toArray⟩, nx] 34)).alloc (by simp) (.cells #[.int .i64 y.kind, .int .i64 y.line, .string ⟨y.name.toArray⟩, .string ⟨y.other.toArray⟩, ny] 34))
          obtain ⟨ua, uc, rfl, -⟩ := s1.slice
          obtain ⟨va, vc, rfl, -⟩ := s2.slice
          have S1 := Lib.hid ((s1.below HB.out).below B1.out)
          have S2 := Lib.hid ((s2.below HB.out).below B1.out)
          have HS := Lib.hid hst
          have HB1 := Lib.hid (HB.out.trans (B1.out.mono HB.out.size))
          clear hst hx hy s1 s2 lt1 lt2
          cases hq : Dr.sameI x y with
          | true =>
            have HQ := Lib.hid hq
            clear hq
            have HS2 : Hid (G = Dr.sameL Dr.sameI ((us.map (·.1)).drop (k + 1)) ((vs.map (·.1)).drop (k + 1))) := Lib.hid (by rw [HS.out, HQ.out, Bool.true_and])
            go_wp2_with fail
            go_at_call 42; refine (Same2_any x y _ _ _ S1.out S2.out).mono ?_; rintro e w2 ⟨rfl, b2⟩; rw [HQ.out]
            have HB2 := Lib.hid (HB1.out.trans (b2.mono HB1.out.size))
            clear b2
            go_wp2_with fail
            go_roundw
            case rel => exact ⟨k + 1, by omega, by go_num, HS2, HB2⟩
            case measure => simp [intOf]; omega
          | false =>
            have HQ := Lib.hid hq
            clear hq
            have HS2 : Hid (G = false) := Lib.hid (by rw [HS.out, HQ.out, Bool.false_and])
            go_wp2_with fail
            go_at_call 42; refine (Same2_any x y _ _ _ S1.out S2.out).mono ?_; rintro e w2 ⟨rfl, b2⟩; rw [HQ.out]
            have HB2 := Lib.hid (HB1.out.trans (b2.mono HB1.out.size))
            clear b2
            go_wp2_with fail
            go_ret
            exact ⟨by rw [HS2.out]; rfl, HB2.out⟩
        · have hkk : k = n := by omega
          have hS := HR.out.trans (Dr.sameL_end _ _ _ k (by rw [List.length_map, ← HN.out]; omega) (by rw [List.length_map, HN2.out]; omega))
          have HS := Lib.hid hS
          clear hS hkk
          go_wp2_with fail
          go_ret
          exact ⟨by rw [HS.out]; rfl, HB.out⟩
    · have e1 : us.length = 0 := by omega
      have e2 : vs.length = 0 := by omega
      rw [e1, e2]
      have HS := Lib.hid (show G = true from by rw [hG, List.eq_nil_of_length_eq_zero e1, List.eq_nil_of_length_eq_zero e2]; rfl)
      clear hG hus hvs hn h0 m1 m2 e1 e2 hl k1 k2 z1 z2
      go_enter Tryz.func45, Tryz.ntmps45
      go_wp2_with fail
      refine wp_loop_rounds 1 ?_
      rw [rounds_succ]
      go_wp2_with fail
      go_ret
      exact ⟨by rw [HS.out]; rfl, Below.refl _ _⟩
  · have hne : ((us.length : Int) != (vs.length : Int)) = true := by simp; omega
    have HS := Lib.hid (show G = false from by rw [hG, Dr.sameL_len _ _ _ (by simpa using hl)])
    clear hG hus hvs m1 m2 hl k1 k2 z1 z2
    go_enter Tryz.func45, Tryz.ntmps45
    go_wp2_with fail
    go_ret
    exact ⟨by rw [HS.out]; rfl, Below.refl _ _⟩
set_option maxRecDepth 100000 in
set_option maxHeartbeats 8000000 in
theorem Same_any (va ia vb ib : Value) (x y : Dr.Draft) (w : World) (ha : DV w va ia x) (hb : DV w vb ib y) :
    Calls Tryz.prog 16 #[.agg #[va, ia], .agg #[vb, ib]] w fun e w' => e = .returned (.bool (Dr.same x y)) ∧ Below w.heap.size w w' := by
  have B1 := Lib.hid (((Below.refl _ w).alloc (Nat.le_refl _) (.cells #[va, ia] 25)).alloc (by simp) (.cells #[vb, ib] 25))
  have HA := Lib.hid ha
  have HB := Lib.hid hb
  obtain ⟨a1, n1, c1, rfl⟩ : ∃ a n c, va = .slice a n c := by obtain ⟨⟨us, h, -⟩, -⟩ := ha; obtain ⟨a, c, rfl, -⟩ := h.slice; exact ⟨_, _, _, rfl⟩
  obtain ⟨a2, n2, c2, rfl⟩ : ∃ a n c, vb = .slice a n c := by obtain ⟨⟨us, h, -⟩, -⟩ := hb; obtain ⟨a, c, rfl, -⟩ := h.slice; exact ⟨_, _, _, rfl⟩
  obtain ⟨a3, n3, c3, rfl⟩ : ∃ a n c, ia = .slice a n c := by obtain ⟨-, l, -, ⟨a, c, rfl, -⟩, -⟩ := ha; exact ⟨_, _, _, rfl⟩
  obtain ⟨a4, n4, c4, rfl⟩ : ∃ a n c, ib = .slice a n c := by obtain ⟨-, l, -, ⟨a, c, rfl, -⟩, -⟩ := hb; exact ⟨_, _, _, rfl⟩
  clear ha hb
  obtain ⟨p, hp⟩ : ∃ p, p = Dr.sameL (fun a b => decide (a = b)) x.decks y.decks := ⟨_, rfl⟩
  obtain ⟨q, hq⟩ : ∃ q, q = Dr.sameL Dr.sameI x.items y.items := ⟨_, rfl⟩
  have HG : Hid (Dr.same x y = (p && q)) := Lib.hid (by rw [hp, hq]; rfl)
  have HP := Lib.hid hp
  have HQ := Lib.hid hq
  clear hp hq
  have hlt2 : w.heap.size < w.heap.size + 1 + 1 := by omega
  cases p with
  | true =>
    go_enter Tryz.func16, Tryz.ntmps16
    go_wp2_with fail
    go_at_call 44; refine (EqualFunc_decks _ _ x.decks y.decks _ (HA.out.1.keep B1.out) (HB.out.1.keep B1.out)).mono ?_; rintro e w2 ⟨rfl, b2⟩; rw [← HP.out]
    have B2 := Lib.hid (B1.out.trans (b2.mono B1.out.size))
    have h1 := (b2.block w.heap.size (by simp; omega)).trans ((heap_alloc_old (w.alloc (.cells #[.slice a1 n1 c1, .slice a3 n3 c3] 25)) (.cells #[.slice a2 n2 c2, .slice a4 n4 c4] 25) (by simp)).trans (heap_alloc_new _ _))
    have h2 := (b2.block (w.alloc (.cells #[.slice a1 n1 c1, .slice a3 n3 c3] 25)).heap.size (by simp)).trans (heap_alloc_new (w.alloc (.cells #[.slice a1 n1 c1, .slice a3 n3 c3] 25)) (.cells #[.slice a2 n2 c2, .slice a4 n4 c4] 25))
    have es : (w.alloc (.cells #[.slice a1 n1 c1, .slice a3 n3 c3] 25)).heap.size = w.heap.size + 1 := by simp
    rw [es] at h2
    have d1 : w2.cell? ⟨w.heap.size, 1, none⟩ = some (.slice a3 n3 c3) := cell_of_heap h1 1 rfl
    have d2 : w2.cell? ⟨w.heap.size + 1, 1, none⟩ = some (.slice a4 n4 c4) := cell_of_heap h2 1 rfl
    clear h1 h2 es
    have hsz : w.heap.size + 1 + 1 ≤ w2.heap.size := by have := b2.size; simpa using this
    clear b2
    go_wp2_with fail
    go_at_call 45; refine (EqualFunc_items _ _ x.items y.items _ (HA.out.2.keep B2.out) (HB.out.2.keep B2.out)).mono ?_; rintro e w3 ⟨rfl, b3⟩; rw [← HQ.out]
    have B3 := Lib.hid (B2.out.trans (b3.mono B2.out.size))
    clear b3
    go_wp2_with fail
    go_ret
    exact ⟨by rw [HG.out]; rfl, B3.out⟩
  | false =>
    go_enter Tryz.func16, Tryz.ntmps16
    go_wp2_with fail
    go_at_call 44; refine (EqualFunc_decks _ _ x.decks y.decks _ (HA.out.1.keep B1.out) (HB.out.1.keep B1.out)).mono ?_; rintro e w2 ⟨rfl, b2⟩; rw [← HP.out]
    have B2 := Lib.hid (B1.out.trans (b2.mono B1.out.size))
    clear b2
    go_wp2_with fail
    go_ret
    exact ⟨by rw [HG.out]; rfl, B2.out⟩
end Go.Proofs.YtnccndfffmaonaaGreatDoor
/- Walks of package draft: right (its parts). PRINTED by wip/tools/mk_drf.py. -/
namespace Go.Proofs.YtnccndfffmaonaaGreatDoor
set_option linter.unusedSimpArgs false
set_option linter.unusedVariables false
open Go.RowKit Go.Maps

theorem right1_any (n : Int) (w : World) : Calls Tryz.prog 57 #[.int .i64 n] w fun e w' => e = .returned (.bool (decide (n < 0))) ∧ w' = w := by
  go_enter Tryz.func57, Tryz.ntmps57
  go_wp2_with fail
  go_ret
  exact ⟨rfl, rfl⟩
theorem Right1_any (t : List UInt8) (w : World) (h : t.length ≤ 140737488355328) : Calls Tryz.prog 29 #[.string ⟨t.toArray⟩] w fun e w' => e = .returned (.bool (decide (4096 < t.length))) ∧ w' = w := by
  obtain ⟨s, hs⟩ : ∃ s : ByteArray, s = ⟨t.toArray⟩ := ⟨_, rfl⟩
  rw [← hs]
  have hl : t.length = s.size := by rw [hs, ← bs_len, bs_lit0]
  rw [hl] at h ⊢
  clear hs hl
  go_enter Tryz.func29, Tryz.ntmps29
  go_wp2_with fail
  go_ret
  refine ⟨?_, rfl⟩
  by_cases h : 4096 < s.size
  · rw [decide_eq_true h, show (decide ((4096 : Int) < (s.size : Int))) = true from decide_eq_true (by omega)]; rfl
  · rw [decide_eq_false h, show (decide ((4096 : Int) < (s.size : Int))) = false from decide_eq_false (by omega)]; rfl
theorem any_drop {α : Type} (p : α → Bool) (xs : List α) (k : Nat) (h : k < xs.length) : (xs.drop k).any p = (p xs[k] || (xs.drop (k + 1)).any p) := by
  rw [List.drop_eq_getElem_cons h, List.any_cons]


set_option maxRecDepth 100000 in
set_option maxHeartbeats 8000000 in
theorem neg_index (v : Value) (xs : List Int) (w : World) (ha : Sl w v (ints xs)) :
    Calls Tryz.prog 84 #[v, .func (.func 57) #[] #[]] w fun e w' => (∃ r : Int, e = .returned (.int .i64 r) ∧ ((xs.any (fun n => decide (n < 0)) = true ∧ 0 ≤ r) ∨ (xs.any (fun n => decide (n < 0)) = false ∧ r = -1))) ∧ Below w.heap.size w w' := by
  have hav := ha
  obtain ⟨a, c, rfl, hm⟩ := hav.slice
  rw [ints_len] at hm ⊢
  have hmx : xs.length ≤ 9223372036854775807 := by unfold maxLen at hm; omega
  have HX := Lib.hid ha
  obtain ⟨G, hG⟩ : ∃ G, G = xs.any (fun n => decide (n < 0)) := ⟨_, rfl⟩
  rw [← hG]
  have HG := Lib.hid hG
  obtain ⟨n, hn⟩ : ∃ n, n = xs.length := ⟨_, rfl⟩
  have HN := Lib.hid hn
  rw [← hn] at hm hmx ⊢
  clear ha hav hG hn
  go_enter Tryz.func84, Tryz.ntmps84
  go_wp2_with fail
  go_loopw [8] (fun iv wr => ∃ k : Nat, k ≤ n ∧ iv = .int .i64 k ∧ Hid (G = (xs.drop k).any (fun n => decide (n < 0))) ∧ Hid (Below w.heap.size w wr)) (fun iv _ => n - (intOf iv).toNat)
  case atStart => exact ⟨0, by omega, rfl, HG, Lib.hid (Below.refl _ _)⟩
  case round =>
    obtain ⟨k, hk, rfl, HR, HB⟩ := hrel
    by_cases hkn : k < n
    · have hkx : k < xs.length := by rw [← HN.out]; exact hkn
      obtain ⟨b, off, c', e1, -, hc⟩ := HX.out.some (by rw [ints_len]; omega)
      injection e1 with e1 e2 e3
      subst e1
      have g1 := hc k (by rw [ints_len]; exact hkx)
      have lt1 := cell_block_lt g1
      have j1 : wr.cell? ⟨b, off + k, none⟩ = some (.int .i64 xs[k]) := (HB.out.cell (p := ⟨b, off + k, none⟩) lt1).trans (g1.trans (by simp [ints]))
      have hst := HR.out.trans (any_drop (fun n => decide (n < 0)) xs k hkx)
      obtain ⟨x, hx⟩ : ∃ x, x = xs[k] := ⟨_, rfl⟩
      rw [← hx] at j1 hst

      clear g1 hc lt1 e2 e3 hx
      cases hq : (fun n => decide (n < 0)) x with
      | true =>
        have HS := Lib.hid (show G = true from by rw [hst, show decide (x < 0) = true from hq, Bool.true_or])
        have HQ := Lib.hid hq
        clear hst hq
        go_wp2_with fail
        go_at_call 57; refine (right1_any x _).mono ?_; rintro e w2 ⟨rfl, rfl⟩; rw [show decide (x < 0) = true from HQ.out]
        go_wp2_with fail
        go_ret
        exact ⟨⟨_, rfl, .inl ⟨HS.out, by omega⟩⟩, HB.out⟩
      | false =>
        have HS := Lib.hid (show G = (xs.drop (k + 1)).any (fun n => decide (n < 0)) from by rw [hst, show decide (x < 0) = false from hq, Bool.false_or])
        have HQ := Lib.hid hq
        clear hst hq
        go_wp2_with fail
        go_at_call 57; refine (right1_any x _).mono ?_; rintro e w2 ⟨rfl, rfl⟩; rw [show decide (x < 0) = false from HQ.out]
        go_wp2_with fail
        go_roundw
        case rel => exact ⟨k + 1, by omega, by go_num, HS, HB⟩
        case measure => simp [intOf]; omega
    · have hS := HR.out.trans (show (xs.drop k).any (fun n => decide (n < 0)) = false from by rw [List.drop_eq_nil_of_le (by rw [← HN.out]; omega)]; rfl)
      have HS := Lib.hid hS
      clear hS
      go_wp2_with fail
      go_ret
      exact ⟨⟨_, rfl, .inr ⟨HS.out, rfl⟩⟩, HB.out⟩


set_option maxHeartbeats 2000000 in
theorem neg_contains (v : Value) (xs : List Int) (w : World) (ha : Sl w v (ints xs)) :
    Calls Tryz.prog 56 #[v, .func (.func 57) #[] #[]] w fun e w' => e = .returned (.bool (xs.any (fun n => decide (n < 0)))) ∧ Below w.heap.size w w' := by
  have HC := Lib.hid (neg_index v xs w ha)
  obtain ⟨a, c, rfl, -⟩ := ha.slice
  clear ha
  go_enter Tryz.func56, Tryz.ntmps56
  go_wp2_with fail
  go_at_call 84; refine HC.out.mono ?_; rintro e w2 ⟨⟨r, rfl, hr⟩, b2⟩
  rcases hr with ⟨h1, h2⟩ | ⟨h1, rfl⟩
  · have H1 := Lib.hid h1
    clear h1
    go_wp2_with fail
    go_ret
    exact ⟨by rw [H1.out]; simp [h2], b2⟩
  · have H1 := Lib.hid h1
    clear h1
    go_wp2_with fail
    go_ret
    exact ⟨by rw [H1.out]; rfl, b2⟩


set_option maxRecDepth 100000 in
set_option maxHeartbeats 8000000 in
theorem long_index (v : Value) (xs : List (List UInt8)) (w : World) (ha : Sl w v (strs xs)) (hsd : ∀ t ∈ xs, t.length ≤ 140737488355328) :
    Calls Tryz.prog 55 #[v, .func (.func 29) #[] #[]] w fun e w' => (∃ r : Int, e = .returned (.int .i64 r) ∧ ((xs.any (fun t => decide (4096 < t.length)) = true ∧ 0 ≤ r) ∨ (xs.any (fun t => decide (4096 < t.length)) = false ∧ r = -1))) ∧ Below w.heap.size w w' := by
  have hav := ha
  obtain ⟨a, c, rfl, hm⟩ := hav.slice
  rw [strs_len2] at hm ⊢
  have hmx : xs.length ≤ 9223372036854775807 := by unfold maxLen at hm; omega
  have HX := Lib.hid ha
  have HSD := Lib.hid hsd
  clear hsd
  obtain ⟨G, hG⟩ : ∃ G, G = xs.any (fun t => decide (4096 < t.length)) := ⟨_, rfl⟩
  rw [← hG]
  have HG := Lib.hid hG
  obtain ⟨n, hn⟩ : ∃ n, n = xs.length := ⟨_, rfl⟩
  have HN := Lib.hid hn
  rw [← hn] at hm hmx ⊢
  clear ha hav hG hn
  go_enter Tryz.func55, Tryz.ntmps55
  go_wp2_with fail
  go_loopw [8] (fun iv wr => ∃ k : Nat, k ≤ n ∧ iv = .int .i64 k ∧ Hid (G = (xs.drop k).any (fun t => decide (4096 < t.length))) ∧ Hid (Below w.heap.size w wr)) (fun iv _ => n - (intOf iv).toNat)
  case atStart => exact ⟨0, by omega, rfl, HG, Lib.hid (Below.refl _ _)⟩
  case round =>
    obtain ⟨k, hk, rfl, HR, HB⟩ := hrel
    by_cases hkn : k < n
    · have hkx : k < xs.length := by rw [← HN.out]; exact hkn
      obtain ⟨b, off, c', e1, -, hc⟩ := HX.out.some (by rw [strs_len2]; omega)
      injection e1 with e1 e2 e3
      subst e1
      have g1 := hc k (by rw [strs_len2]; exact hkx)
      have lt1 := cell_block_lt g1
      have j1 : wr.cell? ⟨b, off + k, none⟩ = some (.string ⟨xs[k].toArray⟩) := (HB.out.cell (p := ⟨b, off + k, none⟩) lt1).trans (g1.trans (by simp [strs]))
      have hst := HR.out.trans (any_drop (fun t => decide (4096 < t.length)) xs k hkx)
      obtain ⟨x, hx⟩ : ∃ x, x = xs[k] := ⟨_, rfl⟩
      rw [← hx] at j1 hst
      have HS0 := Lib.hid (HSD.out x (by rw [hx]; exact List.getElem_mem hkx))
      clear g1 hc lt1 e2 e3 hx
      cases hq : (fun t => decide (4096 < t.length)) x with
      | true =>
        have HS := Lib.hid (show G = true from by rw [hst, show decide (4096 < x.length) = true from hq, Bool.true_or])
        have HQ := Lib.hid hq
        clear hst hq
        go_wp2_with fail
        go_at_call 29; refine (Right1_any x _ HS0.out).mono ?_; rintro e w2 ⟨rfl, rfl⟩; rw [show decide (4096 < x.length) = true from HQ.out]
        go_wp2_with fail
        go_ret
        exact ⟨⟨_, rfl, .inl ⟨HS.out, by omega⟩⟩, HB.out⟩
      | false =>
        have HS := Lib.hid (show G = (xs.drop (k + 1)).any (fun t => decide (4096 < t.length)) from by rw [hst, show decide (4096 < x.length) = false from hq, Bool.false_or])
        have HQ := Lib.hid hq
        clear hst hq
        go_wp2_with fail
        go_at_call 29; refine (Right1_any x _ HS0.out).mono ?_; rintro e w2 ⟨rfl, rfl⟩; rw [show decide (4096 < x.length) = false from HQ.out]
        go_wp2_with fail
        go_roundw
        case rel => exact ⟨k + 1, by omega, by go_num, HS, HB⟩
        case measure => simp [intOf]; omega
    · have hS := HR.out.trans (show (xs.drop k).any (fun t => decide (4096 < t.length)) = false from by rw [List.drop_eq_nil_of_le (by rw [← HN.out]; omega)]; rfl)
      have HS := Lib.hid hS
      clear hS
      go_wp2_with fail
      go_ret
      exact ⟨⟨_, rfl, .inr ⟨HS.out, rfl⟩⟩, HB.out⟩


set_option maxHeartbeats 2000000 in
theorem long_contains (v : Value) (xs : List (List UInt8)) (w : World) (ha : Sl w v (strs xs)) (hsd : ∀ t ∈ xs, t.length ≤ 140737488355328) :
    Calls Tryz.prog 28 #[v, .func (.func 29) #[] #[]] w fun e w' => e = .returned (.bool (xs.any (fun t => decide (4096 < t.length)))) ∧ Below w.heap.size w w' := by
  have HC := Lib.hid (long_index v xs w ha hsd)
  obtain ⟨a, c, rfl, -⟩ := ha.slice
  clear ha
  go_enter Tryz.func28, Tryz.ntmps28
  go_wp2_with fail
  go_at_call 55; refine HC.out.mono ?_; rintro e w2 ⟨⟨r, rfl, hr⟩, b2⟩
  rcases hr with ⟨h1, h2⟩ | ⟨h1, rfl⟩
  · have H1 := Lib.hid h1
    clear h1
    go_wp2_with fail
    go_ret
    exact ⟨by rw [H1.out]; simp [h2], b2⟩
  · have H1 := Lib.hid h1
    clear h1
    go_wp2_with fail
    go_ret
    exact ⟨by rw [H1.out]; rfl, b2⟩

end Go.Proofs.YtnccndfffmaonaaGreatDoor
/- Walks of package draft: right. -/
namespace Go.Proofs.YtnccndfffmaonaaGreatDoor
set_option linter.unusedSimpArgs false
set_option linter.unusedVariables false
open Go.RowKit Go.Maps

theorem item_new (w w3 : World) (x : Dr.Item) (nv : Value) (F : Obj) (b : Below ((w.alloc (.cells #[.int .i64 x.kind, .int .i64 x.line, .string ⟨x.name.toArray⟩, .string ⟨x.other.toArray⟩, nv] 34)).alloc F).heap.size ((w.alloc (.cells #[.int .i64 x.kind, .int .i64 x.line, .string ⟨x.name.toArray⟩, .string ⟨x.other.toArray⟩, nv] 34)).alloc F) w3) :
    w3.heap[w.heap.size]? = some (.cells #[.int .i64 x.kind, .int .i64 x.line, .string ⟨x.name.toArray⟩, .string ⟨x.other.toArray⟩, nv] 34 (0, 0)) :=
  (b.block w.heap.size (by simp; omega)).trans ((heap_alloc_old _ _ (by simp)).trans (heap_alloc_new _ _))
theorem rightI_neg (x : Dr.Item) (h : x.kind < 0) : Dr.rightI x = false := by unfold Dr.rightI; rw [if_pos (.inl h)]
theorem rightI_big (x : Dr.Item) (h : 6 ≤ x.kind) : Dr.rightI x = false := by unfold Dr.rightI; rw [if_pos (.inr (.inl h))]
theorem rightI_any (x : Dr.Item) (h : x.n.any (fun n => decide (n < 0)) = true) : Dr.rightI x = false := by unfold Dr.rightI; rw [if_pos (.inr (.inr h))]
theorem rightI_len (x : Dr.Item) (h : x.n.length ≠ Dr.nums x.kind.toNat) : Dr.rightI x = false := by
  unfold Dr.rightI
  rw [if_pos h]
  split <;> rfl
theorem rightI_dir (x : Dr.Item) (h : x.kind = 2 ∧ 6 ≤ x.n.getD 3 0) : Dr.rightI x = false := by
  unfold Dr.rightI
  rw [if_pos h]
  split
  · rfl
  split <;> rfl
theorem rightI_rest (x : Dr.Item) (h0 : ¬ x.kind < 0) (h1 : ¬ 6 ≤ x.kind) (h2 : x.n.any (fun n => decide (n < 0)) = false) (h3 : x.n.length = Dr.nums x.kind.toNat) (h4 : ¬ (x.kind = 2 ∧ 6 ≤ x.n.getD 3 0)) : Dr.rightI x = (Dr.nameOk x && Dr.otherOk x) := by
  unfold Dr.rightI
  rw [if_neg (by rw [h2]; simp; omega), if_neg (by omega), if_neg h4]

set_option maxRecDepth 100000 in
set_option maxHeartbeats 16000000 in
theorem right_out (x : Dr.Item) (nv : Value) (w : World) (h : x.kind < 0 ∨ 6 ≤ x.kind) :
    Calls Tryz.prog 31 #[itemV x nv] w fun e w' => e = .returned (.bool (Dr.rightI x)) ∧ Below w.heap.size w w' := by
  have B1 := Lib.hid ((Below.refl _ w).alloc (Nat.le_refl _) (.cells #[.int .i64 x.kind, .int .i64 x.line, .string ⟨x.name.toArray⟩, .string ⟨x.other.toArray⟩, nv] 34))
  unfold itemV
  rcases h with h | h
  · have HR := Lib.hid (rightI_neg x h)
    have hd : decide (x.kind < 0) = true := decide_eq_true h
    go_enter Tryz.func31, Tryz.ntmps31
    go_wp2_with fail
    go_quiet (fail)
    all_goals
      go_wp2_with fail
      go_ret
      exact ⟨by rw [HR.out]; rfl, B1.out.trans (below_drewN _ _ _)⟩
  · have HR := Lib.hid (rightI_big x h)
    have hd : decide (x.kind < 0) = false := decide_eq_false (by omega)
    have hd2 : decide (6 ≤ x.kind) = true := decide_eq_true h
    go_enter Tryz.func31, Tryz.ntmps31
    go_wp2_with fail
    first
      | (go_region_with ((go_at_call 48; refine (forms_any _).mono ?_; rintro e w3 ⟨rfl, rfl⟩)))
      | fail
    all_goals
      go_wp2_with fail
      go_ret
      exact ⟨by rw [HR.out]; rfl, (B1.out.alloc (by simp) _).drew⟩
end Go.Proofs.YtnccndfffmaonaaGreatDoor
