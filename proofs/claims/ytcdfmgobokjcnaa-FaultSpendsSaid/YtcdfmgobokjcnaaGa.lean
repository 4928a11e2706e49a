/- Walks: slices.Compare, the comparison of faults; sorting faults. -/
import Derived.Test.YtcdfmgobokjcnaaBd
import Derived.Test.YtcdfmgobokjcnaaAl
import Derived.Test.YtcdfmgobokjcnaaShelfB
namespace Go.Proofs.Ytcdfmgobokjcnaa
set_option linter.unusedSimpArgs false
set_option linter.unusedVariables false
open Go.RowKit Go.Sort

/-- How slices.Compare compares. -/
def cmpL : List Int → List Int → Int
  | [], [] => 0
  | [], _ :: _ => -1
  | _ :: _, [] => 1
  | x :: l, y :: m => if Lib.compareInt x y = 0 then cmpL l m else Lib.compareInt x y
set_option maxRecDepth 100000 in
set_option maxHeartbeats 8000000 in
theorem compareL_any (v1 v2 : Value) (l m : List Int) (w : World) (h1 : Is w v1 l) (h2 : Is w v2 m) :
    Calls Try.prog 27 #[v1, v2] w fun e w' => e = .returned (.int .i64 (cmpL l m)) ∧ w' = w := by
  obtain ⟨a1, c1, rfl, hm1⟩ := h1.form
  obtain ⟨a2, c2, rfl, hm2⟩ := h2.form
  have HCM := Lib.hid (fun x y W => Try.cmp_Compare_int x y W)
  have H1 := Lib.hid h1
  have H2 := Lib.hid h2
  obtain ⟨R, hR⟩ : ∃ R, cmpL l m = R := ⟨_, rfl⟩
  have HR0 : Hid (cmpL (l.drop 0) (m.drop 0) = R) := Lib.hid hR
  rw [hR]
  obtain ⟨n1, e1⟩ : ∃ n, l.length = n := ⟨_, rfl⟩
  obtain ⟨n2, e2⟩ : ∃ n, m.length = n := ⟨_, rfl⟩
  rw [e1] at hm1 H1 ⊢
  rw [e2] at hm2 H2 ⊢
  have E1 := Lib.hid e1
  have E2 := Lib.hid e2
  clear h1 h2 hR e1 e2
  go_enter Try.func27, Try.ntmps27
  go_wp2_with fail
  go_loopw [11] (fun iv wr => ∃ k : Nat, k ≤ n1 ∧ k ≤ n2 ∧ iv = .int .i64 k ∧ Hid (cmpL (l.drop k) (m.drop k) = R) ∧ wr = w) (fun iv _ => n1 - (intOf iv).toNat)
  case atStart => exact ⟨0, by omega, by omega, rfl, HR0, rfl⟩
  case round =>
    obtain ⟨k, hk1, hk2, rfl, HK, rfl⟩ := hrel
    have k0 : (0 : Int) ≤ (k : Int) := by omega
    by_cases g1 : k < n1
    · have hl : k < l.length := by rw [E1.out]; exact g1
      obtain ⟨b1, o1, rfl, r1⟩ := H1.out.cell k hl
      have d1 := List.drop_eq_getElem_cons hl
      obtain ⟨X, hX⟩ : ∃ X, l[k] = X := ⟨_, rfl⟩
      rw [hX] at r1 d1
      have D1 := Lib.hid d1
      have k1 : (k : Int) < (n1 : Int) := by omega
      clear hX d1 hl
      by_cases g2 : k < n2
      · have hl2 : k < m.length := by rw [E2.out]; exact g2
        obtain ⟨b2, o2, rfl, r2⟩ := H2.out.cell k hl2
        have d2 := List.drop_eq_getElem_cons hl2
        obtain ⟨Y, hY⟩ : ∃ X, m[k] = X := ⟨_, rfl⟩
        rw [hY] at r2 d2
        have HK2 : Hid ((if Lib.compareInt X Y = 0 then cmpL (l.drop (k + 1)) (m.drop (k + 1)) else Lib.compareInt X Y) = R) := Lib.hid (by rw [← HK.out, D1.out, d2, cmpL])
        have k2 : (k : Int) < (n2 : Int) := by omega
        have HC := Lib.hid (HCM.out X Y wr)
        obtain ⟨Z, hZ⟩ : ∃ Z, Lib.compareInt X Y = Z := ⟨_, rfl⟩
        rw [hZ] at HK2 HC
        clear hY d2 hl2 D1 HK hZ
        by_cases hz : Z = 0
        · have ez : (Z != 0) = false := by simp [hz]
          have HK3 : Hid (cmpL (l.drop (k + 1)) (m.drop (k + 1)) = R) := Lib.hid (by have := HK2.out; rwa [if_pos hz] at this)
          clear hz HK2
          go_wp2_with fail
          go_at_call 44; refine HC.out.mono ?_; rintro e w6 ⟨rfl, rfl⟩
          go_wp2_with fail
          go_roundw
          case rel => exact ⟨k + 1, by omega, by omega, by go_num, HK3, by first | rfl | trivial⟩
          case measure => simp [intOf]; omega
        · have ez : (Z != 0) = true := by simp [hz]
          have HK3 : Hid (Z = R) := Lib.hid (by have := HK2.out; rwa [if_neg hz] at this)
          clear hz HK2
          go_wp2_with fail
          go_at_call 44; refine HC.out.mono ?_; rintro e w6 ⟨rfl, rfl⟩
          go_wp2_with fail
          go_ret
          exact ⟨by rw [HK3.out]; rfl, by first | rfl | trivial⟩
      · have HK3 : Hid (1 = R) := Lib.hid (by rw [← HK.out, D1.out, show m.drop k = [] from List.drop_eq_nil_of_le (by rw [E2.out]; omega)]; rfl)
        go_wp2_with fail
        go_ret
        exact ⟨by rw [← HK3.out]; rfl, by first | rfl | trivial⟩
    · by_cases g2 : k < n2
      · have hl2 : k < m.length := by rw [E2.out]; exact g2
        have HK3 : Hid (-1 = R) := Lib.hid (by rw [← HK.out, show l.drop k = [] from List.drop_eq_nil_of_le (by rw [E1.out]; omega), List.drop_eq_getElem_cons hl2]; rfl)
        clear hl2
        go_wp2_with fail
        go_ret
        exact ⟨by rw [← HK3.out]; rfl, by first | rfl | trivial⟩
      · have HK3 : Hid (0 = R) := Lib.hid (by rw [← HK.out, show l.drop k = [] from List.drop_eq_nil_of_le (by rw [E1.out]; omega), show m.drop k = [] from List.drop_eq_nil_of_le (by rw [E2.out]; omega)]; rfl)
        go_wp2_with fail
        go_ret
        exact ⟨by rw [← HK3.out]; rfl, by first | rfl | trivial⟩
theorem is_new3 {W : World} {N : Nat} {a b c : Int} {t : TypeId} (h : W.heap[N]? = some (.cells #[.int .i64 a, .int .i64 b, .int .i64 c] t (0, 0))) : Is W (.slice (some ⟨N, 0, none⟩) 3 3) [a, b, c] := by
  refine ⟨some ⟨N, 0, none⟩, 3, rfl, by simp [ints, maxLen], (fun h => by cases h), fun i hi => ⟨N, 0, rfl, ?_⟩⟩
  have : i = 0 ∨ i = 1 ∨ i = 2 := by simp [ints] at hi; omega
  rcases this with rfl | rfl | rfl
  · exact cell_of_heap h 0 rfl
  · exact cell_of_heap h 1 rfl
  · exact cell_of_heap h 2 rfl
/-- How two faults compare. -/
def cmpF (x y : Fa.Flt) : Int := cmpL [x.kind, x.a, x.n] [y.kind, y.a, y.n]
instance : Inhabited Fa.Flt := ⟨⟨0, 0, 0⟩⟩
set_option maxRecDepth 100000 in
set_option maxHeartbeats 8000000 in
theorem cmpF_any (x y : Fa.Flt) (W : World) : Calls Try.prog 26 #[fltV x, fltV y] W fun e w' => e = .returned (.int .i64 (cmpF x y)) ∧ ∃ q os', w' = grow (W.drewN q) os' := by
  have HA := Lib.hid (al4 W (.cells #[.int .i64 x.kind, .int .i64 x.a, .int .i64 x.n] 32) (.cells #[.int .i64 y.kind, .int .i64 y.a, .int .i64 y.n] 32) (.cells #[.int .i64 x.kind, .int .i64 x.a, .int .i64 x.n] 3) (.cells #[.int .i64 y.kind, .int .i64 y.a, .int .i64 y.n] 3))
  have HCo := Lib.hid (fun v1 v2 W h1 h2 => compareL_any v1 v2 [x.kind, x.a, x.n] [y.kind, y.a, y.n] W h1 h2)
  unfold fltV cmpF
  obtain ⟨C, hC⟩ : ∃ C, cmpL [x.kind, x.a, x.n] [y.kind, y.a, y.n] = C := ⟨_, rfl⟩
  rw [hC] at HCo ⊢
  clear hC
  go_enter Try.func26, Try.ntmps26
  go_wp2_with fail
  go_at_call 27; refine (HCo.out _ _ _ (is_new3 HA.out.2.2.1) (is_new3 HA.out.2.2.2.1)).mono ?_; rintro e w6 ⟨rfl, rfl⟩
  go_wp2_with fail
  go_ret
  exact ⟨rfl, 0, _, by rw [alloc_eq_grow, alloc_eq_grow, alloc_eq_grow, alloc_eq_grow, grow_grow, grow_grow, grow_grow]; rfl⟩
theorem ltOf_cmpF (x y : Fa.Flt) : ltOf cmpF x y = Fa.ltB x y := by
  unfold ltOf cmpF Fa.ltB cmpL cmpL cmpL cmpL Lib.compareInt
  by_cases h1 : x.kind < y.kind
  · simp [h1]
  · by_cases h2 : y.kind < x.kind
    · have h3 : x.kind ≠ y.kind := by omega
      simp [h1, h2, h3]
    · have h3 : x.kind = y.kind := by omega
      by_cases h4 : x.a < y.a
      · simp [h3, h4]
      · by_cases h5 : y.a < x.a
        · have h6 : x.a ≠ y.a := by omega
          simp [h3, h4, h5, h6]
        · have h6 : x.a = y.a := by omega
          by_cases h7 : x.n < y.n
          · simp [h3, h6, h7]
          · by_cases h8 : y.n < x.n
            · simp [h3, h6, h7, h8]
            · simp [h3, h6, h7, h8]
theorem cmpF_swo : SWO (ltOf cmpF) where
  irrefl x := by
    rw [ltOf_cmpF]
    cases h : Fa.ltB x x with
    | false => rfl
    | true => exact absurd (Fa.ltB_iff.1 h) (Fa.lt_irrefl x)
  trans x y z h1 h2 := by
    rw [ltOf_cmpF] at *
    exact Fa.ltB_iff.2 (Fa.lt_trans (Fa.ltB_iff.1 h1) (Fa.ltB_iff.1 h2))
  ntrans x y z h1 h2 := by
    rw [ltOf_cmpF] at *
    cases h : Fa.ltB x z with
    | false => rfl
    | true =>
      have h3 := Fa.ltB_iff.1 h
      have g1 : ¬ Fa.lt x y := fun e => by rw [Fa.ltB_iff.2 e] at h1; cases h1
      have g2 : ¬ Fa.lt y z := fun e => by rw [Fa.ltB_iff.2 e] at h2; cases h2
      exfalso
      by_cases g3 : Fa.lt y x
      · exact g2 (Fa.lt_trans g3 h3)
      · have := Fa.lt_total g1 g3
        subst this
        exact g2 h3
theorem cmpF_tot (x y : Fa.Flt) (h : ltOf cmpF x y = false) (k : ltOf cmpF y x = false) : x = y := by
  rw [ltOf_cmpF] at h k
  exact Fa.lt_total (fun e => by rw [Fa.ltB_iff.2 e] at h; cases h) (fun e => by rw [Fa.ltB_iff.2 e] at k; cases k)
end Go.Proofs.Ytcdfmgobokjcnaa
