/- Parts Fk of this claim, laid one behind the other: walks and the plain laws behind them; each contract states its own conditions. -/
import Derived.Test.YtcdfmgobokjcnaaGreatDoorZE
import Derived.Test.YtcdfmgobokjcnaaGreatDoorZP
/- Walks of floor.Near and fault.Concerns. -/
namespace Go.Proofs.YtcdfmgobokjcnaaGreatDoor
set_option linter.unusedSimpArgs false
set_option linter.unusedVariables false
open Go.RowKit

theorem near_ix0 (w : World) : (Instr.index 192 (.agg #[.int .i64 0, .int .i64 1, .int .i64 2, .int .i64 3]) (.int .i64 0)).run Tryz.prog w = .ok (.int .i64 0) w := by kernel_rfl
theorem near_ix1 (w : World) : (Instr.index 192 (.agg #[.int .i64 0, .int .i64 1, .int .i64 2, .int .i64 3]) (.int .i64 1)).run Tryz.prog w = .ok (.int .i64 1) w := by kernel_rfl
theorem near_ix2 (w : World) : (Instr.index 192 (.agg #[.int .i64 0, .int .i64 1, .int .i64 2, .int .i64 3]) (.int .i64 2)).run Tryz.prog w = .ok (.int .i64 2) w := by kernel_rfl
theorem near_ix3 (w : World) : (Instr.index 192 (.agg #[.int .i64 0, .int .i64 1, .int .i64 2, .int .i64 3]) (.int .i64 3)).run Tryz.prog w = .ok (.int .i64 3) w := by kernel_rfl
theorem nearB_no {f : Fl.Floor} {a b : Int} (h : ∀ j, j < 4 → Fl.beside f a j ≠ b) : Fa.nearB f a b = false := by
  unfold Fa.nearB
  rw [beq_eq_false_iff_ne.2 (h 0 (by omega)), beq_eq_false_iff_ne.2 (h 1 (by omega)), beq_eq_false_iff_ne.2 (h 2 (by omega)), beq_eq_false_iff_ne.2 (h 3 (by omega))]
  simp
theorem nearB_yes {f : Fl.Floor} {a b : Int} (hc : Fl.isC f b = true) (j : Nat) (hj : j < 4) (h : Fl.beside f a j = b) : Fa.nearB f a b = true := by
  unfold Fa.nearB
  rw [hc]
  rcases (by omega : j = 0 ∨ j = 1 ∨ j = 2 ∨ j = 3) with rfl | rfl | rfl | rfl <;> simp [h]
set_option maxRecDepth 100000 in
set_option maxHeartbeats 8000000 in
theorem Near_any (f : Fl.Floor) (kv ov : Value) (a b : Int) (w : World) (hb : FB f) :
    Calls Tryz.prog 128 #[flV f kv ov, .int .i64 a, .int .i64 b] w fun e w' => e = .returned (.bool (Fa.nearB f a b)) ∧ Below w.heap.size w w' := by
  have HI := Lib.hid (fun W => is_any f kv ov b W hb)
  have HBE := Lib.hid (fun (d : Nat) W hd => beside_any f kv ov a d W hb hd)
  have HN := Lib.hid (nearB_no (f := f) (a := a) (b := b))
  have HY := Lib.hid (fun hc j hj h => nearB_yes (f := f) (a := a) (b := b) hc j hj h)
  have HX : Hid (Fl.isC f b = false → Fa.nearB f a b = false) := Lib.hid (fun h => by unfold Fa.nearB; rw [h]; rfl)
  obtain ⟨R, hR⟩ : ∃ R, Fa.nearB f a b = R := ⟨_, rfl⟩
  obtain ⟨C, hC⟩ : ∃ R, Fl.isC f b = R := ⟨_, rfl⟩
  rw [hR] at HN HY HX ⊢
  rw [hC] at HX HI HY
  unfold flV at HI HBE ⊢
  have HB := Lib.hid (al1 w (.cells #[.int .i64 f.w, .int .i64 f.h, .int .i64 f.d, kv, ov] 24))
  clear hR hC
  go_enter Tryz.func128, Tryz.ntmps128
  go_wp2_with fail
  go_at_call 151; refine (HI.out _).mono ?_; rintro e w1 ⟨rfl, b1⟩
  have I1 := Lib.hid (keep_heap HB.out.1 b1)
  have B1 := Lib.hid (HB.out.2.1.trans (b1.mono HB.out.2.1.size))
  clear b1
  cases C with
  | false =>
    have HR := Lib.hid (HX.out rfl)
    go_wp2_with fail
    go_ret
    exact ⟨by rw [HR.out]; rfl, B1.out⟩
  | true =>
    go_wp2_with fail
    go_loopw [14] (fun iv wr => ∃ k : Nat, k ≤ 4 ∧ iv = .int .i64 k ∧ Hid (∀ j, j < k → Fl.beside f a j ≠ b) ∧ Hid (Below w1.heap.size w1 wr)) (fun iv _ => 4 - (intOf iv).toNat)
    case atStart => exact ⟨0, by omega, rfl, Lib.hid (fun j h => by omega), Lib.hid (Below.refl _ _)⟩
    case round =>
      obtain ⟨k, hk, rfl, HA, HBl⟩ := hrel
      have IR := Lib.hid (keep_heap I1.out HBl.out)
      have BR := Lib.hid (B1.out.trans (HBl.out.mono B1.out.size))
      have p0 := cell_of_heap IR.out 0 (v := .int .i64 f.w) rfl
      have p1 := cell_of_heap IR.out 1 (v := .int .i64 f.h) rfl
      have p2 := cell_of_heap IR.out 2 (v := .int .i64 f.d) rfl
      have p3 := cell_of_heap IR.out 3 (v := kv) rfl
      have p4 := cell_of_heap IR.out 4 (v := ov) rfl
      rcases (by omega : k = 0 ∨ k = 1 ∨ k = 2 ∨ k = 3 ∨ k = 4) with rfl | rfl | rfl | rfl | rfl
      · have HC := Lib.hid (HBE.out 0 wr (by omega))
        have HYk := Lib.hid (HY.out (by first | rfl | trivial) 0 (by omega))
        obtain ⟨X, hX⟩ : ∃ X, Fl.beside f a 0 = X := ⟨_, rfl⟩
        rw [hX] at HC HYk
        have HXk := Lib.hid hX
        clear hX
        have hix := near_ix0 wr
        by_cases hxb : X = b
        · subst hxb
          have HR := Lib.hid (HYk.out rfl)
          go_wp2_with fail
          go_at_call 162; refine HC.out.mono ?_; rintro e w2 ⟨rfl, b2⟩
          have B2 := Lib.hid (BR.out.trans (b2.mono BR.out.size))
          clear b2
          go_wp2_with fail
          go_ret
          exact ⟨by rw [HR.out]; rfl, B2.out⟩
        · have eb : (X == b) = false := beq_eq_false_iff_ne.2 hxb
          have HXB := Lib.hid hxb
          clear hxb
          go_wp2_with fail
          go_at_call 162; refine HC.out.mono ?_; rintro e w2 ⟨rfl, b2⟩
          have B2 := Lib.hid (HBl.out.trans (b2.mono HBl.out.size))
          clear b2
          go_wp2_with fail
          go_roundw
          case rel => exact ⟨1, by omega, by go_num, Lib.hid (fun j h => by
            by_cases e : j = 0
            · rw [e, HXk.out]; exact HXB.out
            · exact HA.out j (by omega)), B2⟩
          case measure => simp [intOf]
      · have HC := Lib.hid (HBE.out 1 wr (by omega))
        have HYk := Lib.hid (HY.out (by first | rfl | trivial) 1 (by omega))
        obtain ⟨X, hX⟩ : ∃ X, Fl.beside f a 1 = X := ⟨_, rfl⟩
        rw [hX] at HC HYk
        have HXk := Lib.hid hX
        clear hX
        have hix := near_ix1 wr
        by_cases hxb : X = b
        · subst hxb
          have HR := Lib.hid (HYk.out rfl)
          go_wp2_with fail
          go_at_call 162; refine HC.out.mono ?_; rintro e w2 ⟨rfl, b2⟩
          have B2 := Lib.hid (BR.out.trans (b2.mono BR.out.size))
          clear b2
          go_wp2_with fail
          go_ret
          exact ⟨by rw [HR.out]; rfl, B2.out⟩
        · have eb : (X == b) = false := beq_eq_false_iff_ne.2 hxb
          have HXB := Lib.hid hxb
          clear hxb
          go_wp2_with fail
          go_at_call 162; refine HC.out.mono ?_; rintro e w2 ⟨rfl, b2⟩
          have B2 := Lib.hid (HBl.out.trans (b2.mono HBl.out.size))
          clear b2
          go_wp2_with fail
          go_roundw
          case rel => exact ⟨2, by omega, by go_num, Lib.hid (fun j h => by
            by_cases e : j = 1
            · rw [e, HXk.out]; exact HXB.out
            · exact HA.out j (by omega)), B2⟩
          case measure => simp [intOf]
      · have HC := Lib.hid (HBE.out 2 wr (by omega))
        have HYk := Lib.hid (HY.out (by first | rfl | trivial) 2 (by omega))
        obtain ⟨X, hX⟩ : ∃ X, Fl.beside f a 2 = X := ⟨_, rfl⟩
        rw [hX] at HC HYk
        have HXk := Lib.hid hX
        clear hX
        have hix := near_ix2 wr
        by_cases hxb : X = b
        · subst hxb
          have HR := Lib.hid (HYk.out rfl)
          go_wp2_with fail
          go_at_call 162; refine HC.out.mono ?_; rintro e w2 ⟨rfl, b2⟩
          have B2 := Lib.hid (BR.out.trans (b2.mono BR.out.size))
          clear b2
          go_wp2_with fail
          go_ret
          exact ⟨by rw [HR.out]; rfl, B2.out⟩
        · have eb : (X == b) = false := beq_eq_false_iff_ne.2 hxb
          have HXB := Lib.hid hxb
          clear hxb
          go_wp2_with fail
          go_at_call 162; refine HC.out.mono ?_; rintro e w2 ⟨rfl, b2⟩
          have B2 := Lib.hid (HBl.out.trans (b2.mono HBl.out.size))
          clear b2
          go_wp2_with fail
          go_roundw
          case rel => exact ⟨3, by omega, by go_num, Lib.hid (fun j h => by
            by_cases e : j = 2
            · rw [e, HXk.out]; exact HXB.out
            · exact HA.out j (by omega)), B2⟩
          case measure => simp [intOf]
      · have HC := Lib.hid (HBE.out 3 wr (by omega))
        have HYk := Lib.hid (HY.out (by first | rfl | trivial) 3 (by omega))
        obtain ⟨X, hX⟩ : ∃ X, Fl.beside f a 3 = X := ⟨_, rfl⟩
        rw [hX] at HC HYk
        have HXk := Lib.hid hX
        clear hX
        have hix := near_ix3 wr
        by_cases hxb : X = b
        · subst hxb
          have HR := Lib.hid (HYk.out rfl)
          go_wp2_with fail
          go_at_call 162; refine HC.out.mono ?_; rintro e w2 ⟨rfl, b2⟩
          have B2 := Lib.hid (BR.out.trans (b2.mono BR.out.size))
          clear b2
          go_wp2_with fail
          go_ret
          exact ⟨by rw [HR.out]; rfl, B2.out⟩
        · have eb : (X == b) = false := beq_eq_false_iff_ne.2 hxb
          have HXB := Lib.hid hxb
          clear hxb
          go_wp2_with fail
          go_at_call 162; refine HC.out.mono ?_; rintro e w2 ⟨rfl, b2⟩
          have B2 := Lib.hid (HBl.out.trans (b2.mono HBl.out.size))
          clear b2
          go_wp2_with fail
          go_roundw
          case rel => exact ⟨4, by omega, by go_num, Lib.hid (fun j h => by
            by_cases e : j = 3
            · rw [e, HXk.out]; exact HXB.out
            · exact HA.out j (by omega)), B2⟩
          case measure => simp [intOf]
      · have HR := Lib.hid (HN.out HA.out)
        go_wp2_with fail
        go_ret
        exact ⟨by rw [HR.out]; rfl, BR.out⟩
set_option maxRecDepth 100000 in
set_option maxHeartbeats 16000000 in
theorem Concerns_any (s : Bd.State) (sv rv pv dv kv cv : Value) (x : Fa.Flt) (cells : List Int) (w : World) (h : StV w sv rv pv dv kv s) (hc : Is w cv cells) :
    Calls Tryz.prog 9 #[stV s sv rv pv dv kv, fltV x, cv] w fun e w' => e = .returned (.bool (Fa.concB s x cells)) ∧ Below w.heap.size w w' := by
  obtain ⟨k, a, n⟩ := x
  obtain ⟨ra, rc, rfl, hrm⟩ := h.ro.form
  obtain ⟨ca, cc, rfl, hcm⟩ := hc.form
  have HC : Hid (∀ y W, Below w.heap.size w W → _) := Lib.hid (fun y W hW => containsI_any (.slice ca cells.length cc) cells y W (hc.keep hW))
  have H := Lib.hid h
  obtain ⟨L, hL⟩ : ∃ L, s.robots.length = L := ⟨_, rfl⟩
  have HK : Hid (Fa.concB s ⟨k, a, n⟩ cells = if k = 0 then true else if k = 1 ∨ k = 3 then decide (0 ≤ a) && (decide (a < (L : Int)) && cells.contains (Fa.cellOf s a.toNat)) else if k = 2 ∨ k = 4 then cells.contains a else if k = 5 then cells.contains n else false) := Lib.hid (by unfold Fa.concB; rw [hL])
  obtain ⟨R, hR⟩ : ∃ R, Fa.concB s ⟨k, a, n⟩ cells = R := ⟨_, rfl⟩
  rw [hR] at HK ⊢
  obtain ⟨CL, hCL⟩ : ∃ R, cells.length = R := ⟨_, rfl⟩
  rw [hCL] at HC hcm ⊢
  unfold stV fltV
  dsimp only
  rw [hL] at H hrm ⊢
  have HL := Lib.hid hL
  have HA2 := Lib.hid (al2 w (.cells #[.int .i64 s.tick, sv, .slice ra L rc, pv, dv, kv] 34) (.cells #[.int .i64 k, .int .i64 a, .int .i64 n] 38))
  have HB := Lib.hid HA2.out.2.2.1
  clear h hL hc hR hCL
  by_cases h0 : k = 0
  · subst h0
    have HR : Hid (R = true) := Lib.hid (by rw [HK.out, if_pos rfl])
    clear HK HA2
    go_enter Tryz.func9, Tryz.ntmps9
    go_wp2_with fail
    go_ret
    exact ⟨by rw [HR.out]; rfl, HB.out⟩
  by_cases h1 : k = 1
  · subst h1
    have HK2 : Hid (R = (decide (0 ≤ a) && (decide (a < (L : Int)) && cells.contains (Fa.cellOf s a.toNat)))) := Lib.hid (by rw [HK.out]; rfl)
    clear HK
    by_cases g0 : 0 ≤ a
    · by_cases g1 : a < (L : Int)
      · obtain ⟨m, rfl⟩ := Int.eq_ofNat_of_zero_le g0
        have hm : m < s.robots.length := by rw [HL.out]; omega
        obtain ⟨kb, ko, rfl, hkb, r0, r1, r2, r3, r4, r5⟩ := H.out.ro.cell m hm
        have HR : Hid (R = cells.contains s.robots[m].cell) := Lib.hid (by
          rw [HK2.out, decide_eq_true g0, decide_eq_true g1]
          unfold Fa.cellOf
          rw [Int.toNat_natCast, List.getElem?_eq_getElem hm]; rfl)
        obtain ⟨X, hX⟩ : ∃ X, s.robots[m].cell = X := ⟨_, rfl⟩
        rw [hX] at r0 HR
        rw [← HB.out.cell (p := ⟨kb, ko + m * 6, none⟩) hkb] at r0
        have HCX := Lib.hid (HC.out X _ HB.out)
        obtain ⟨Z, hZ⟩ : ∃ Z, cells.contains X = Z := ⟨_, rfl⟩
        rw [hZ] at HR HCX
        clear hX hm HK2 r1 r2 r3 r4 r5 hZ HA2
        go_enter Tryz.func9, Tryz.ntmps9
        go_wp2_with fail
        go_at_call 38; refine HCX.out.mono ?_; rintro e w2 ⟨rfl, rfl⟩
        go_wp2_with fail
        go_ret
        exact ⟨by rw [HR.out]; rfl, HB.out⟩
      · have HR : Hid (R = false) := Lib.hid (by rw [HK2.out, decide_eq_false g1]; simp)
        clear HA2
        go_enter Tryz.func9, Tryz.ntmps9
        go_wp2_with fail
        go_ret
        exact ⟨by rw [HR.out]; rfl, HB.out⟩
    · have HR : Hid (R = false) := Lib.hid (by rw [HK2.out, decide_eq_false g0]; rfl)
      clear HA2
      go_enter Tryz.func9, Tryz.ntmps9
      go_wp2_with fail
      go_ret
      exact ⟨by rw [HR.out]; rfl, HB.out⟩
  by_cases h3 : k = 3
  · subst h3
    have HK2 : Hid (R = (decide (0 ≤ a) && (decide (a < (L : Int)) && cells.contains (Fa.cellOf s a.toNat)))) := Lib.hid (by rw [HK.out]; rfl)
    clear HK
    by_cases g0 : 0 ≤ a
    · by_cases g1 : a < (L : Int)
      · obtain ⟨m, rfl⟩ := Int.eq_ofNat_of_zero_le g0
        have hm : m < s.robots.length := by rw [HL.out]; omega
        obtain ⟨kb, ko, rfl, hkb, r0, r1, r2, r3, r4, r5⟩ := H.out.ro.cell m hm
        have HR : Hid (R = cells.contains s.robots[m].cell) := Lib.hid (by
          rw [HK2.out, decide_eq_true g0, decide_eq_true g1]
          unfold Fa.cellOf
          rw [Int.toNat_natCast, List.getElem?_eq_getElem hm]; rfl)
        obtain ⟨X, hX⟩ : ∃ X, s.robots[m].cell = X := ⟨_, rfl⟩
        rw [hX] at r0 HR
        rw [← HB.out.cell (p := ⟨kb, ko + m * 6, none⟩) hkb] at r0
        have HCX := Lib.hid (HC.out X _ HB.out)
        obtain ⟨Z, hZ⟩ : ∃ Z, cells.contains X = Z := ⟨_, rfl⟩
        rw [hZ] at HR HCX
        clear hX hm HK2 r1 r2 r3 r4 r5 hZ HA2
        go_enter Tryz.func9, Tryz.ntmps9
        go_wp2_with fail
        go_at_call 38; refine HCX.out.mono ?_; rintro e w2 ⟨rfl, rfl⟩
        go_wp2_with fail
        go_ret
        exact ⟨by rw [HR.out]; rfl, HB.out⟩
      · have HR : Hid (R = false) := Lib.hid (by rw [HK2.out, decide_eq_false g1]; simp)
        clear HA2
        go_enter Tryz.func9, Tryz.ntmps9
        go_wp2_with fail
        go_ret
        exact ⟨by rw [HR.out]; rfl, HB.out⟩
    · have HR : Hid (R = false) := Lib.hid (by rw [HK2.out, decide_eq_false g0]; rfl)
      clear HA2
      go_enter Tryz.func9, Tryz.ntmps9
      go_wp2_with fail
      go_ret
      exact ⟨by rw [HR.out]; rfl, HB.out⟩
  by_cases h2 : k = 2
  · subst h2
    have HR : Hid (R = cells.contains a) := Lib.hid (by rw [HK.out]; rfl)
    have HCX := Lib.hid (HC.out a _ HB.out)
    obtain ⟨Z, hZ⟩ : ∃ Z, cells.contains a = Z := ⟨_, rfl⟩
    rw [hZ] at HR HCX
    clear HK hZ HA2
    go_enter Tryz.func9, Tryz.ntmps9
    go_wp2_with fail
    go_at_call 38; refine HCX.out.mono ?_; rintro e w2 ⟨rfl, rfl⟩
    go_wp2_with fail
    go_ret
    exact ⟨by rw [HR.out]; rfl, HB.out⟩
  by_cases h4 : k = 4
  · subst h4
    have HR : Hid (R = cells.contains a) := Lib.hid (by rw [HK.out]; rfl)
    have HCX := Lib.hid (HC.out a _ HB.out)
    obtain ⟨Z, hZ⟩ : ∃ Z, cells.contains a = Z := ⟨_, rfl⟩
    rw [hZ] at HR HCX
    clear HK hZ HA2
    go_enter Tryz.func9, Tryz.ntmps9
    go_wp2_with fail
    go_at_call 38; refine HCX.out.mono ?_; rintro e w2 ⟨rfl, rfl⟩
    go_wp2_with fail
    go_ret
    exact ⟨by rw [HR.out]; rfl, HB.out⟩
  by_cases h5 : k = 5
  · subst h5
    have HR : Hid (R = cells.contains n) := Lib.hid (by rw [HK.out]; rfl)
    have HCX := Lib.hid (HC.out n _ HB.out)
    obtain ⟨Z, hZ⟩ : ∃ Z, cells.contains n = Z := ⟨_, rfl⟩
    rw [hZ] at HR HCX
    clear HK hZ HA2
    go_enter Tryz.func9, Tryz.ntmps9
    go_wp2_with fail
    go_at_call 38; refine HCX.out.mono ?_; rintro e w2 ⟨rfl, rfl⟩
    go_wp2_with fail
    go_ret
    exact ⟨by rw [HR.out]; rfl, HB.out⟩
  have HR : Hid (R = false) := Lib.hid (by rw [HK.out, if_neg h0, if_neg (by omega), if_neg (by omega), if_neg h5])
  have e0 : (k == 0) = false := beq_eq_false_iff_ne.2 h0
  have e1 : (k == 1) = false := beq_eq_false_iff_ne.2 h1
  have e2 : (k == 2) = false := beq_eq_false_iff_ne.2 h2
  have e3 : (k == 3) = false := beq_eq_false_iff_ne.2 h3
  have e4 : (k == 4) = false := beq_eq_false_iff_ne.2 h4
  have e5 : (k == 5) = false := beq_eq_false_iff_ne.2 h5
  clear HK HA2 h0 h1 h2 h3 h4 h5
  go_enter Tryz.func9, Tryz.ntmps9
  go_wp2_with fail
  go_ret
  exact ⟨by rw [HR.out]; rfl, HB.out⟩
end Go.Proofs.YtcdfmgobokjcnaaGreatDoor
