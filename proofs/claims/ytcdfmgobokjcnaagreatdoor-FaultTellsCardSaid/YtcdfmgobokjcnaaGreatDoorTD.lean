/- Parts RfH of this claim, laid one behind the other: walks and the plain laws behind them; each contract states its own conditions. -/
import Derived.Test.YtcdfmgobokjcnaaGreatDoorZG
import Derived.Test.YtcdfmgobokjcnaaGreatDoorZP
import Derived.Test.YtcdfmgobokjcnaaGreatDoorZU
/- Walks of taquinref16: kind, robot; taquinref29: Concerns; taquinref07: Beside, Near. -/
namespace Go.Proofs.YtcdfmgobokjcnaaGreatDoor
set_option linter.unusedSimpArgs false
set_option linter.unusedVariables false
open Go.RowKit

set_option maxRecDepth 100000 in
set_option maxHeartbeats 16000000 in
theorem kind16_any (f : Fl.Floor) (kv ov zv av hv bv : Value) (c : Int) (w : World) (h : FlV w kv ov f) :
    Calls Tryz.prog 100 #[siF f kv ov zv av hv bv, .int .i64 c] w fun e w' => e = .returned (.int .i64 (Fa.kindF f c)) ∧ Below w.heap.size w w' := by
  obtain ⟨ka, kc, rfl, hkm⟩ := h.kind.form
  have H := Lib.hid h
  obtain ⟨L, hL⟩ : ∃ L, f.kind.length = L := ⟨_, rfl⟩
  have HK : Hid (Fa.kindF f c = if 0 ≤ c ∧ c < (L : Int) then f.kind.getD c.toNat 0 else 0) := Lib.hid (by unfold Fa.kindF; rw [hL])
  unfold siF
  rw [hL] at H hkm ⊢
  have HL := Lib.hid hL
  have B1 := Lib.hid ((Below.refl _ w).alloc (Nat.le_refl _) (.cells #[.int .i64 f.w, .int .i64 f.h, .int .i64 f.d, .slice ka L kc, ov, zv, av, hv, bv] 30))
  clear h hL
  by_cases h0 : 0 ≤ c
  · by_cases h1 : c < (L : Int)
    · obtain ⟨n, rfl⟩ := Int.eq_ofNat_of_zero_le h0
      have hn : n < f.kind.length := by rw [HL.out]; omega
      obtain ⟨kb, ko, rfl, r0⟩ := H.out.kind.cell n hn
      have hkb := cell_block_lt r0
      dsimp only at hkb
      have HK2 : Hid (Fa.kindF f (n : Int) = f.kind[n]) := Lib.hid (by rw [HK.out, if_pos ⟨h0, h1⟩]; simp [List.getD, hn])
      obtain ⟨X, hX⟩ : ∃ X, f.kind[n] = X := ⟨_, rfl⟩
      rw [hX] at r0 HK2
      rw [← B1.out.cell (p := ⟨kb, ko + n, none⟩) hkb] at r0
      clear hX hn HK
      go_enter Tryz.func100, Tryz.ntmps100
      go_wp2_with fail
      go_ret
      exact ⟨by rw [HK2.out]; rfl, B1.out⟩
    · have HK2 : Hid (Fa.kindF f c = 0) := Lib.hid (by rw [HK.out, if_neg (by omega)])
      go_enter Tryz.func100, Tryz.ntmps100
      go_wp2_with fail
      go_ret
      exact ⟨by rw [HK2.out]; rfl, B1.out⟩
  · have HK2 : Hid (Fa.kindF f c = 0) := Lib.hid (by rw [HK.out, if_neg (by omega)])
    go_enter Tryz.func100, Tryz.ntmps100
    go_wp2_with fail
    go_ret
    exact ⟨by rw [HK2.out]; rfl, B1.out⟩
set_option maxRecDepth 100000 in
set_option maxHeartbeats 16000000 in
theorem robot16_any (s : Bd.State) (sv rv pv dv kv : Value) (i : Int) (w : World) (h : StV w sv rv pv dv kv s) :
    Calls Tryz.prog 99 #[stV s sv rv pv dv kv, .int .i64 i] w fun e w' => e = .returned (.bool (Fa.live s i)) ∧ Below w.heap.size w w' := by
  obtain ⟨ra, rc, rfl, hrm⟩ := h.ro.form
  have H := Lib.hid h
  obtain ⟨L, hL⟩ : ∃ L, s.robots.length = L := ⟨_, rfl⟩
  have HK : Hid (Fa.live s i = (decide (0 ≤ i) && (decide (i < (L : Int)) && !Fa.deadAt s i.toNat))) := Lib.hid (by unfold Fa.live; rw [hL])
  unfold stV
  rw [hL] at H hrm ⊢
  have HL := Lib.hid hL
  have B1 := Lib.hid ((Below.refl _ w).alloc (Nat.le_refl _) (.cells #[.int .i64 s.tick, sv, .slice ra L rc, pv, dv, kv] 34))
  clear h hL
  by_cases h0 : 0 ≤ i
  · by_cases h1 : i < (L : Int)
    · obtain ⟨n, rfl⟩ := Int.eq_ofNat_of_zero_le h0
      have hn : n < s.robots.length := by rw [HL.out]; omega
      obtain ⟨kb, ko, rfl, hkb, r0, r1, r2, r3, r4, r5⟩ := H.out.ro.cell n hn
      have HK2 : Hid (Fa.live s (n : Int) = !s.robots[n].dead) := Lib.hid (by
        rw [HK.out, decide_eq_true h0, decide_eq_true h1]
        unfold Fa.deadAt
        rw [Int.toNat_natCast, List.getElem?_eq_getElem hn]; rfl)
      obtain ⟨X, hX⟩ : ∃ X, s.robots[n].dead = X := ⟨_, rfl⟩
      rw [hX] at r5 HK2
      rw [← B1.out.cell (p := ⟨kb, ko + n * 6 + 5, none⟩) hkb] at r5
      clear hX hn HK r0 r1 r2 r3 r4
      go_enter Tryz.func99, Tryz.ntmps99
      go_wp2_with fail
      go_ret
      exact ⟨by rw [HK2.out]; rfl, B1.out⟩
    · have HK2 : Hid (Fa.live s i = false) := Lib.hid (by rw [HK.out, decide_eq_false h1]; simp)
      go_enter Tryz.func99, Tryz.ntmps99
      go_wp2_with fail
      go_ret
      exact ⟨by rw [HK2.out]; rfl, B1.out⟩
  · have HK2 : Hid (Fa.live s i = false) := Lib.hid (by rw [HK.out, decide_eq_false h0]; rfl)
    go_enter Tryz.func99, Tryz.ntmps99
    go_wp2_with fail
    go_ret
    exact ⟨by rw [HK2.out]; rfl, B1.out⟩
theorem any_dec (l : List Int) (x : Int) : (l.any fun y => decide (y = x)) = l.contains x := by
  rw [Bool.eq_iff_iff, List.any_eq_true, List.contains_iff_mem]
  constructor
  · rintro ⟨y, hy, h⟩
    have := of_decide_eq_true h
    subst this; exact hy
  · intro h; exact ⟨x, h, decide_eq_true rfl⟩
theorem hasC_any (v : Value) (l : List Int) (x : Int) (w : World) (h : Is w v l) :
    Calls Tryz.prog 39 #[v, .int .i64 x] w fun e w' => e = .returned (.bool (l.contains x)) ∧ w' = w := by
  have h1 := Has_any v l x w h
  rw [any_dec] at h1
  exact h1.mono (fun _ _ h => ⟨h.1, h.2.symm⟩)
set_option maxRecDepth 100000 in
set_option maxHeartbeats 16000000 in
theorem rConcerns29_any (s : Bd.State) (sv rv pv dv kv cv : Value) (x : Fa.Flt) (cells : List Int) (w : World) (h : StV w sv rv pv dv kv s) (hc : Is w cv cells) :
    Calls Tryz.prog 10 #[stV s sv rv pv dv kv, fltV x, cv] w fun e w' => e = .returned (.bool (Fa.concB s x cells)) ∧ Below w.heap.size w w' := by
  obtain ⟨k, a, n⟩ := x
  obtain ⟨ra, rc, rfl, hrm⟩ := h.ro.form
  obtain ⟨ca, cc, rfl, hcm⟩ := hc.form
  have HC : Hid (∀ y W, Below w.heap.size w W → _) := Lib.hid (fun y W hW => hasC_any (.slice ca cells.length cc) cells y W (hc.keep hW))
  have H := Lib.hid h
  obtain ⟨L, hL⟩ : ∃ L, s.robots.length = L := ⟨_, rfl⟩
  have HK : Hid (Fa.concB s ⟨k, a, n⟩ cells = if k = 0 then true else if k = 1 ∨ k = 3 then decide (0 ≤ a) && (decide (a < (L : Int)) && cells.contains (Fa.cellOf s a.toNat)) else if k = 2 ∨ k = 4 then cells.contains a else if k = 5 then cells.contains n else false) := Lib.hid (by unfold Fa.concB; rw [hL])
  obtain ⟨R, hR⟩ : ∃ R, Fa.concB s ⟨k, a, n⟩ cells = R := ⟨_, rfl⟩
  rw [hR] at HK ⊢
  obtain ⟨CL, hCL⟩ : ∃ R, cells.length = R := ⟨_, rfl⟩
  rw [hCL] at HC hcm ⊢
  unfold stV fltV
  dsimp only
  rw [hL] at H hrm ⊢
  have HL := Lib.hid hL
  have HA2 := Lib.hid (al2 w (.cells #[.int .i64 s.tick, sv, .slice ra L rc, pv, dv, kv] 34) (.cells #[.int .i64 k, .int .i64 a, .int .i64 n] 38))
  have HB := Lib.hid HA2.out.2.2.1
  clear h hL hc hR hCL
  by_cases h0 : k = 0
  · subst h0
    have HR : Hid (R = true) := Lib.hid (by rw [HK.out, if_pos rfl])
    clear HK HA2
    go_enter Tryz.func10, Tryz.ntmps10
    go_wp2_with fail
    go_ret
    exact ⟨by rw [HR.out]; rfl, HB.out⟩
  by_cases h1 : k = 1
  · subst h1
    have HK2 : Hid (R = (decide (0 ≤ a) && (decide (a < (L : Int)) && cells.contains (Fa.cellOf s a.toNat)))) := Lib.hid (by rw [HK.out]; rfl)
    clear HK
    by_cases g0 : 0 ≤ a
    · by_cases g1 : a < (L : Int)
      · obtain ⟨m, rfl⟩ := Int.eq_ofNat_of_zero_le g0
        have hm : m < s.robots.length := by rw [HL.out]; omega
        obtain ⟨kb, ko, rfl, hkb, r0, r1, r2, r3, r4, r5⟩ := H.out.ro.cell m hm
        have HR : Hid (R = cells.contains s.robots[m].cell) := Lib.hid (by
          rw [HK2.out, decide_eq_true g0, decide_eq_true g1]
          unfold Fa.cellOf
          rw [Int.toNat_natCast, List.getElem?_eq_getElem hm]; rfl)
        obtain ⟨X, hX⟩ : ∃ X, s.robots[m].cell = X := ⟨_, rfl⟩
        rw [hX] at r0 HR
        rw [← HB.out.cell (p := ⟨kb, ko + m * 6, none⟩) hkb] at r0
        have HCX := Lib.hid (HC.out X _ HB.out)
        obtain ⟨Z, hZ⟩ : ∃ Z, cells.contains X = Z := ⟨_, rfl⟩
        rw [hZ] at HR HCX
        clear hX hm HK2 r1 r2 r3 r4 r5 hZ HA2
        go_enter Tryz.func10, Tryz.ntmps10
        go_wp2_with fail
        go_at_call 39; refine HCX.out.mono ?_; rintro e w2 ⟨rfl, rfl⟩
        go_wp2_with fail
        go_ret
        exact ⟨by rw [HR.out]; rfl, HB.out⟩
      · have HR : Hid (R = false) := Lib.hid (by rw [HK2.out, decide_eq_false g1]; simp)
        clear HA2
        go_enter Tryz.func10, Tryz.ntmps10
        go_wp2_with fail
        go_ret
        exact ⟨by rw [HR.out]; rfl, HB.out⟩
    · have HR : Hid (R = false) := Lib.hid (by rw [HK2.out, decide_eq_false g0]; rfl)
      clear HA2
      go_enter Tryz.func10, Tryz.ntmps10
      go_wp2_with fail
      go_ret
      exact ⟨by rw [HR.out]; rfl, HB.out⟩
  by_cases h3 : k = 3
  · subst h3
    have HK2 : Hid (R = (decide (0 ≤ a) && (decide (a < (L : Int)) && cells.contains (Fa.cellOf s a.toNat)))) := Lib.hid (by rw [HK.out]; rfl)
    clear HK
    by_cases g0 : 0 ≤ a
    · by_cases g1 : a < (L : Int)
      · obtain ⟨m, rfl⟩ := Int.eq_ofNat_of_zero_le g0
        have hm : m < s.robots.length := by rw [HL.out]; omega
        obtain ⟨kb, ko, rfl, hkb, r0, r1, r2, r3, r4, r5⟩ := H.out.ro.cell m hm
        have HR : Hid (R = cells.contains s.robots[m].cell) := Lib.hid (by
          rw [HK2.out, decide_eq_true g0, decide_eq_true g1]
          unfold Fa.cellOf
          rw [Int.toNat_natCast, List.getElem?_eq_getElem hm]; rfl)
        obtain ⟨X, hX⟩ : ∃ X, s.robots[m].cell = X := ⟨_, rfl⟩
        rw [hX] at r0 HR
        rw [← HB.out.cell (p := ⟨kb, ko + m * 6, none⟩) hkb] at r0
        have HCX := Lib.hid (HC.out X _ HB.out)
        obtain ⟨Z, hZ⟩ : ∃ Z, cells.contains X = Z := ⟨_, rfl⟩
        rw [hZ] at HR HCX
        clear hX hm HK2 r1 r2 r3 r4 r5 hZ HA2
        go_enter Tryz.func10, Tryz.ntmps10
        go_wp2_with fail
        go_at_call 39; refine HCX.out.mono ?_; rintro e w2 ⟨rfl, rfl⟩
        go_wp2_with fail
        go_ret
        exact ⟨by rw [HR.out]; rfl, HB.out⟩
      · have HR : Hid (R = false) := Lib.hid (by rw [HK2.out, decide_eq_false g1]; simp)
        clear HA2
        go_enter Tryz.func10, Tryz.ntmps10
        go_wp2_with fail
        go_ret
        exact ⟨by rw [HR.out]; rfl, HB.out⟩
    · have HR : Hid (R = false) := Lib.hid (by rw [HK2.out, decide_eq_false g0]; rfl)
      clear HA2
      go_enter Tryz.func10, Tryz.ntmps10
      go_wp2_with fail
      go_ret
      exact ⟨by rw [HR.out]; rfl, HB.out⟩
  by_cases h2 : k = 2
  · subst h2
    have HR : Hid (R = cells.contains a) := Lib.hid (by rw [HK.out]; rfl)
    have HCX := Lib.hid (HC.out a _ HB.out)
    obtain ⟨Z, hZ⟩ : ∃ Z, cells.contains a = Z := ⟨_, rfl⟩
    rw [hZ] at HR HCX
    clear HK hZ HA2
    go_enter Tryz.func10, Tryz.ntmps10
    go_wp2_with fail
    go_at_call 39; refine HCX.out.mono ?_; rintro e w2 ⟨rfl, rfl⟩
    go_wp2_with fail
    go_ret
    exact ⟨by rw [HR.out]; rfl, HB.out⟩
  by_cases h4 : k = 4
  · subst h4
    have HR : Hid (R = cells.contains a) := Lib.hid (by rw [HK.out]; rfl)
    have HCX := Lib.hid (HC.out a _ HB.out)
    obtain ⟨Z, hZ⟩ : ∃ Z, cells.contains a = Z := ⟨_, rfl⟩
    rw [hZ] at HR HCX
    clear HK hZ HA2
    go_enter Tryz.func10, Tryz.ntmps10
    go_wp2_with fail
    go_at_call 39; refine HCX.out.mono ?_; rintro e w2 ⟨rfl, rfl⟩
    go_wp2_with fail
    go_ret
    exact ⟨by rw [HR.out]; rfl, HB.out⟩
  by_cases h5 : k = 5
  · subst h5
    have HR : Hid (R = cells.contains n) := Lib.hid (by rw [HK.out]; rfl)
    have HCX := Lib.hid (HC.out n _ HB.out)
    obtain ⟨Z, hZ⟩ : ∃ Z, cells.contains n = Z := ⟨_, rfl⟩
    rw [hZ] at HR HCX
    clear HK hZ HA2
    go_enter Tryz.func10, Tryz.ntmps10
    go_wp2_with fail
    go_at_call 39; refine HCX.out.mono ?_; rintro e w2 ⟨rfl, rfl⟩
    go_wp2_with fail
    go_ret
    exact ⟨by rw [HR.out]; rfl, HB.out⟩
  have HR : Hid (R = false) := Lib.hid (by rw [HK.out, if_neg h0, if_neg (by omega), if_neg (by omega), if_neg h5])
  have e0 : (k == 0) = false := beq_eq_false_iff_ne.2 h0
  have e1 : (k == 1) = false := beq_eq_false_iff_ne.2 h1
  have e2 : (k == 2) = false := beq_eq_false_iff_ne.2 h2
  have e3 : (k == 3) = false := beq_eq_false_iff_ne.2 h3
  have e4 : (k == 4) = false := beq_eq_false_iff_ne.2 h4
  have e5 : (k == 5) = false := beq_eq_false_iff_ne.2 h5
  clear HK HA2 h0 h1 h2 h3 h4 h5
  go_enter Tryz.func10, Tryz.ntmps10
  go_wp2_with fail
  go_ret
  exact ⟨by rw [HR.out]; rfl, HB.out⟩
set_option maxRecDepth 100000 in
set_option maxHeartbeats 16000000 in
theorem rBes_0 (f : Fl.Floor) (kv ov : Value) (c : Int) (w : World) (hb : FB f) :
    Calls Tryz.prog 145 #[flV f kv ov, .int .i64 c, .int .i64 0] w fun e w' => e = .returned (.int .i64 (Fl.beside f c 0)) ∧ Below w.heap.size w w' := by
  have hc := fun W => rIs_any f kv ov c W hb
  have ha := fun W => rAt_any f kv ov c W hb
  have hl := fun X Y Z W => rCell_any f kv ov X Y Z W hb
  obtain ⟨x0, x1⟩ := atX_bd hb c
  obtain ⟨y0, y1⟩ := atY_bd hb c
  obtain ⟨z0, z1⟩ := atZ_bd hb c
  have HBS : Hid (Fl.beside f c 0 = if Fl.isC f c = true then Fl.cell f (Fl.atX f c + Fl.stX 0) (Fl.atY f c + Fl.stY 0) (Fl.atZ f c + Fl.stZ 0) else -1) := Lib.hid rfl
  obtain ⟨X, hX⟩ : ∃ X, Fl.atX f c = X := ⟨_, rfl⟩
  obtain ⟨Y, hY⟩ : ∃ X, Fl.atY f c = X := ⟨_, rfl⟩
  obtain ⟨Z, hZ⟩ : ∃ X, Fl.atZ f c = X := ⟨_, rfl⟩
  obtain ⟨R, hR⟩ : ∃ X, Fl.beside f c 0 = X := ⟨_, rfl⟩
  rw [hX, hY, hZ, hR] at HBS
  rw [hX] at x0 x1
  rw [hY] at y0 y1
  rw [hZ] at z0 z1
  rw [hR]
  rw [hX, hY, hZ] at ha
  obtain ⟨B, hB⟩ : ∃ B, Fl.isC f c = B := ⟨_, rfl⟩
  rw [hB] at hc HBS
  have B1 := Lib.hid ((Below.refl _ w).alloc (Nat.le_refl _) (.cells #[.int .i64 f.w, .int .i64 f.h, .int .i64 f.d, kv, ov] 24))
  unfold flV at hc ha hl ⊢
  have HC := Lib.hid hc
  have HA := Lib.hid ha
  have HL := Lib.hid hl
  clear hc ha hl hX hY hZ hB hb hR
  cases B with
  | false =>
    have HRE : Hid (R = -1) := Lib.hid HBS.out
    clear HBS
    go_enter Tryz.func145, Tryz.ntmps145
    go_wp2_with fail
    go_at_call 144; refine (HC.out _).mono ?_; rintro e w1 ⟨rfl, b1⟩
    have B2 := Lib.hid (B1.out.trans (b1.mono B1.out.size))
    clear b1
    go_wp2_with fail
    go_ret
    exact ⟨by rw [HRE.out]; rfl, B2.out⟩
  | true =>
    have HRE : Hid (R = Fl.cell f (X + Fl.stX 0) (Y + Fl.stY 0) (Z + Fl.stZ 0)) := Lib.hid HBS.out
    clear HBS
    go_enter Tryz.func145, Tryz.ntmps145
    go_wp2_with fail
    go_at_call 144; refine (HC.out _).mono ?_; rintro e w1 ⟨rfl, b1⟩
    have i1 : w1.heap[w.heap.size]? = some (.cells #[.int .i64 f.w, .int .i64 f.h, .int .i64 f.d, kv, ov] 24 (0, 0)) := (b1.block w.heap.size (by simp)).trans (heap_alloc_new _ _)
    have p0 : w1.cell? ⟨w.heap.size, 0, none⟩ = some (.int .i64 f.w) := cell_of_heap i1 0 rfl
    have p1 : w1.cell? ⟨w.heap.size, 1, none⟩ = some (.int .i64 f.h) := cell_of_heap i1 1 rfl
    have p2 : w1.cell? ⟨w.heap.size, 2, none⟩ = some (.int .i64 f.d) := cell_of_heap i1 2 rfl
    have p3 : w1.cell? ⟨w.heap.size, 3, none⟩ = some kv := cell_of_heap i1 3 rfl
    have p4 : w1.cell? ⟨w.heap.size, 4, none⟩ = some ov := cell_of_heap i1 4 rfl
    have B2 := Lib.hid (B1.out.trans (b1.mono B1.out.size))
    have I1 := Lib.hid i1
    clear b1 i1 B1
    go_wp2_with fail
    go_at_call 172; refine (HA.out _).mono ?_; rintro e w2 ⟨rfl, b2⟩
    have B3 := Lib.hid (B2.out.trans (b2.mono B2.out.size))
    have i2 := keep_heap I1.out b2
    clear b2 B2 I1 p0 p1 p2 p3 p4
    have p0 : w2.cell? ⟨w.heap.size, 0, none⟩ = some (.int .i64 f.w) := cell_of_heap i2 0 rfl
    have p1 : w2.cell? ⟨w.heap.size, 1, none⟩ = some (.int .i64 f.h) := cell_of_heap i2 1 rfl
    have p2 : w2.cell? ⟨w.heap.size, 2, none⟩ = some (.int .i64 f.d) := cell_of_heap i2 2 rfl
    have p3 : w2.cell? ⟨w.heap.size, 3, none⟩ = some kv := cell_of_heap i2 3 rfl
    have p4 : w2.cell? ⟨w.heap.size, 4, none⟩ = some ov := cell_of_heap i2 4 rfl
    clear i2
    go_wp2_with fail
    go_at_call 173; refine (HL.out _ _ _ _).mono ?_; rintro e w4 ⟨rfl, b4⟩
    have B5 := Lib.hid (B3.out.trans (b4.mono B3.out.size))
    clear b4
    go_wp2_with fail
    go_ret
    exact ⟨by rw [HRE.out]; simp [Fl.stX, Fl.stY, Fl.stZ, Int.sub_eq_add_neg], B5.out⟩
set_option maxRecDepth 100000 in
set_option maxHeartbeats 16000000 in
theorem rBes_1 (f : Fl.Floor) (kv ov : Value) (c : Int) (w : World) (hb : FB f) :
    Calls Tryz.prog 145 #[flV f kv ov, .int .i64 c, .int .i64 1] w fun e w' => e = .returned (.int .i64 (Fl.beside f c 1)) ∧ Below w.heap.size w w' := by
  have hc := fun W => rIs_any f kv ov c W hb
  have ha := fun W => rAt_any f kv ov c W hb
  have hl := fun X Y Z W => rCell_any f kv ov X Y Z W hb
  obtain ⟨x0, x1⟩ := atX_bd hb c
  obtain ⟨y0, y1⟩ := atY_bd hb c
  obtain ⟨z0, z1⟩ := atZ_bd hb c
  have HBS : Hid (Fl.beside f c 1 = if Fl.isC f c = true then Fl.cell f (Fl.atX f c + Fl.stX 1) (Fl.atY f c + Fl.stY 1) (Fl.atZ f c + Fl.stZ 1) else -1) := Lib.hid rfl
  obtain ⟨X, hX⟩ : ∃ X, Fl.atX f c = X := ⟨_, rfl⟩
  obtain ⟨Y, hY⟩ : ∃ X, Fl.atY f c = X := ⟨_, rfl⟩
  obtain ⟨Z, hZ⟩ : ∃ X, Fl.atZ f c = X := ⟨_, rfl⟩
  obtain ⟨R, hR⟩ : ∃ X, Fl.beside f c 1 = X := ⟨_, rfl⟩
  rw [hX, hY, hZ, hR] at HBS
  rw [hX] at x0 x1
  rw [hY] at y0 y1
  rw [hZ] at z0 z1
  rw [hR]
  rw [hX, hY, hZ] at ha
  obtain ⟨B, hB⟩ : ∃ B, Fl.isC f c = B := ⟨_, rfl⟩
  rw [hB] at hc HBS
  have B1 := Lib.hid ((Below.refl _ w).alloc (Nat.le_refl _) (.cells #[.int .i64 f.w, .int .i64 f.h, .int .i64 f.d, kv, ov] 24))
  unfold flV at hc ha hl ⊢
  have HC := Lib.hid hc
  have HA := Lib.hid ha
  have HL := Lib.hid hl
  clear hc ha hl hX hY hZ hB hb hR
  cases B with
  | false =>
    have HRE : Hid (R = -1) := Lib.hid HBS.out
    clear HBS
    go_enter Tryz.func145, Tryz.ntmps145
    go_wp2_with fail
    go_at_call 144; refine (HC.out _).mono ?_; rintro e w1 ⟨rfl, b1⟩
    have B2 := Lib.hid (B1.out.trans (b1.mono B1.out.size))
    clear b1
    go_wp2_with fail
    go_ret
    exact ⟨by rw [HRE.out]; rfl, B2.out⟩
  | true =>
    have HRE : Hid (R = Fl.cell f (X + Fl.stX 1) (Y + Fl.stY 1) (Z + Fl.stZ 1)) := Lib.hid HBS.out
    clear HBS
    go_enter Tryz.func145, Tryz.ntmps145
    go_wp2_with fail
    go_at_call 144; refine (HC.out _).mono ?_; rintro e w1 ⟨rfl, b1⟩
    have i1 : w1.heap[w.heap.size]? = some (.cells #[.int .i64 f.w, .int .i64 f.h, .int .i64 f.d, kv, ov] 24 (0, 0)) := (b1.block w.heap.size (by simp)).trans (heap_alloc_new _ _)
    have p0 : w1.cell? ⟨w.heap.size, 0, none⟩ = some (.int .i64 f.w) := cell_of_heap i1 0 rfl
    have p1 : w1.cell? ⟨w.heap.size, 1, none⟩ = some (.int .i64 f.h) := cell_of_heap i1 1 rfl
    have p2 : w1.cell? ⟨w.heap.size, 2, none⟩ = some (.int .i64 f.d) := cell_of_heap i1 2 rfl
    have p3 : w1.cell? ⟨w.heap.size, 3, none⟩ = some kv := cell_of_heap i1 3 rfl
    have p4 : w1.cell? ⟨w.heap.size, 4, none⟩ = some ov := cell_of_heap i1 4 rfl
    have B2 := Lib.hid (B1.out.trans (b1.mono B1.out.size))
    have I1 := Lib.hid i1
    clear b1 i1 B1
    go_wp2_with fail
    go_at_call 172; refine (HA.out _).mono ?_; rintro e w2 ⟨rfl, b2⟩
    have B3 := Lib.hid (B2.out.trans (b2.mono B2.out.size))
    have i2 := keep_heap I1.out b2
    clear b2 B2 I1 p0 p1 p2 p3 p4
    have p0 : w2.cell? ⟨w.heap.size, 0, none⟩ = some (.int .i64 f.w) := cell_of_heap i2 0 rfl
    have p1 : w2.cell? ⟨w.heap.size, 1, none⟩ = some (.int .i64 f.h) := cell_of_heap i2 1 rfl
    have p2 : w2.cell? ⟨w.heap.size, 2, none⟩ = some (.int .i64 f.d) := cell_of_heap i2 2 rfl
    have p3 : w2.cell? ⟨w.heap.size, 3, none⟩ = some kv := cell_of_heap i2 3 rfl
    have p4 : w2.cell? ⟨w.heap.size, 4, none⟩ = some ov := cell_of_heap i2 4 rfl
    clear i2
    go_wp2_with fail
    go_at_call 173; refine (HL.out _ _ _ _).mono ?_; rintro e w4 ⟨rfl, b4⟩
    have B5 := Lib.hid (B3.out.trans (b4.mono B3.out.size))
    clear b4
    go_wp2_with fail
    go_ret
    exact ⟨by rw [HRE.out]; simp [Fl.stX, Fl.stY, Fl.stZ, Int.sub_eq_add_neg], B5.out⟩
set_option maxRecDepth 100000 in
set_option maxHeartbeats 16000000 in
theorem rBes_2 (f : Fl.Floor) (kv ov : Value) (c : Int) (w : World) (hb : FB f) :
    Calls Tryz.prog 145 #[flV f kv ov, .int .i64 c, .int .i64 2] w fun e w' => e = .returned (.int .i64 (Fl.beside f c 2)) ∧ Below w.heap.size w w' := by
  have hc := fun W => rIs_any f kv ov c W hb
  have ha := fun W => rAt_any f kv ov c W hb
  have hl := fun X Y Z W => rCell_any f kv ov X Y Z W hb
  obtain ⟨x0, x1⟩ := atX_bd hb c
  obtain ⟨y0, y1⟩ := atY_bd hb c
  obtain ⟨z0, z1⟩ := atZ_bd hb c
  have HBS : Hid (Fl.beside f c 2 = if Fl.isC f c = true then Fl.cell f (Fl.atX f c + Fl.stX 2) (Fl.atY f c + Fl.stY 2) (Fl.atZ f c + Fl.stZ 2) else -1) := Lib.hid rfl
  obtain ⟨X, hX⟩ : ∃ X, Fl.atX f c = X := ⟨_, rfl⟩
  obtain ⟨Y, hY⟩ : ∃ X, Fl.atY f c = X := ⟨_, rfl⟩
  obtain ⟨Z, hZ⟩ : ∃ X, Fl.atZ f c = X := ⟨_, rfl⟩
  obtain ⟨R, hR⟩ : ∃ X, Fl.beside f c 2 = X := ⟨_, rfl⟩
  rw [hX, hY, hZ, hR] at HBS
  rw [hX] at x0 x1
  rw [hY] at y0 y1
  rw [hZ] at z0 z1
  rw [hR]
  rw [hX, hY, hZ] at ha
  obtain ⟨B, hB⟩ : ∃ B, Fl.isC f c = B := ⟨_, rfl⟩
  rw [hB] at hc HBS
  have B1 := Lib.hid ((Below.refl _ w).alloc (Nat.le_refl _) (.cells #[.int .i64 f.w, .int .i64 f.h, .int .i64 f.d, kv, ov] 24))
  unfold flV at hc ha hl ⊢
  have HC := Lib.hid hc
  have HA := Lib.hid ha
  have HL := Lib.hid hl
  clear hc ha hl hX hY hZ hB hb hR
  cases B with
  | false =>
    have HRE : Hid (R = -1) := Lib.hid HBS.out
    clear HBS
    go_enter Tryz.func145, Tryz.ntmps145
    go_wp2_with fail
    go_at_call 144; refine (HC.out _).mono ?_; rintro e w1 ⟨rfl, b1⟩
    have B2 := Lib.hid (B1.out.trans (b1.mono B1.out.size))
    clear b1
    go_wp2_with fail
    go_ret
    exact ⟨by rw [HRE.out]; rfl, B2.out⟩
  | true =>
    have HRE : Hid (R = Fl.cell f (X + Fl.stX 2) (Y + Fl.stY 2) (Z + Fl.stZ 2)) := Lib.hid HBS.out
    clear HBS
    go_enter Tryz.func145, Tryz.ntmps145
    go_wp2_with fail
    go_at_call 144; refine (HC.out _).mono ?_; rintro e w1 ⟨rfl, b1⟩
    have i1 : w1.heap[w.heap.size]? = some (.cells #[.int .i64 f.w, .int .i64 f.h, .int .i64 f.d, kv, ov] 24 (0, 0)) := (b1.block w.heap.size (by simp)).trans (heap_alloc_new _ _)
    have p0 : w1.cell? ⟨w.heap.size, 0, none⟩ = some (.int .i64 f.w) := cell_of_heap i1 0 rfl
    have p1 : w1.cell? ⟨w.heap.size, 1, none⟩ = some (.int .i64 f.h) := cell_of_heap i1 1 rfl
    have p2 : w1.cell? ⟨w.heap.size, 2, none⟩ = some (.int .i64 f.d) := cell_of_heap i1 2 rfl
    have p3 : w1.cell? ⟨w.heap.size, 3, none⟩ = some kv := cell_of_heap i1 3 rfl
    have p4 : w1.cell? ⟨w.heap.size, 4, none⟩ = some ov := cell_of_heap i1 4 rfl
    have B2 := Lib.hid (B1.out.trans (b1.mono B1.out.size))
    have I1 := Lib.hid i1
    clear b1 i1 B1
    go_wp2_with fail
    go_at_call 172; refine (HA.out _).mono ?_; rintro e w2 ⟨rfl, b2⟩
    have B3 := Lib.hid (B2.out.trans (b2.mono B2.out.size))
    have i2 := keep_heap I1.out b2
    clear b2 B2 I1 p0 p1 p2 p3 p4
    have p0 : w2.cell? ⟨w.heap.size, 0, none⟩ = some (.int .i64 f.w) := cell_of_heap i2 0 rfl
    have p1 : w2.cell? ⟨w.heap.size, 1, none⟩ = some (.int .i64 f.h) := cell_of_heap i2 1 rfl
    have p2 : w2.cell? ⟨w.heap.size, 2, none⟩ = some (.int .i64 f.d) := cell_of_heap i2 2 rfl
    have p3 : w2.cell? ⟨w.heap.size, 3, none⟩ = some kv := cell_of_heap i2 3 rfl
    have p4 : w2.cell? ⟨w.heap.size, 4, none⟩ = some ov := cell_of_heap i2 4 rfl
    clear i2
    go_wp2_with fail
    go_at_call 173; refine (HL.out _ _ _ _).mono ?_; rintro e w4 ⟨rfl, b4⟩
    have B5 := Lib.hid (B3.out.trans (b4.mono B3.out.size))
    clear b4
    go_wp2_with fail
    go_ret
    exact ⟨by rw [HRE.out]; simp [Fl.stX, Fl.stY, Fl.stZ, Int.sub_eq_add_neg], B5.out⟩
set_option maxRecDepth 100000 in
set_option maxHeartbeats 16000000 in
theorem rBes_3 (f : Fl.Floor) (kv ov : Value) (c : Int) (w : World) (hb : FB f) :
    Calls Tryz.prog 145 #[flV f kv ov, .int .i64 c, .int .i64 3] w fun e w' => e = .returned (.int .i64 (Fl.beside f c 3)) ∧ Below w.heap.size w w' := by
  have hc := fun W => rIs_any f kv ov c W hb
  have ha := fun W => rAt_any f kv ov c W hb
  have hl := fun X Y Z W => rCell_any f kv ov X Y Z W hb
  obtain ⟨x0, x1⟩ := atX_bd hb c
  obtain ⟨y0, y1⟩ := atY_bd hb c
  obtain ⟨z0, z1⟩ := atZ_bd hb c
  have HBS : Hid (Fl.beside f c 3 = if Fl.isC f c = true then Fl.cell f (Fl.atX f c + Fl.stX 3) (Fl.atY f c + Fl.stY 3) (Fl.atZ f c + Fl.stZ 3) else -1) := Lib.hid rfl
  obtain ⟨X, hX⟩ : ∃ X, Fl.atX f c = X := ⟨_, rfl⟩
  obtain ⟨Y, hY⟩ : ∃ X, Fl.atY f c = X := ⟨_, rfl⟩
  obtain ⟨Z, hZ⟩ : ∃ X, Fl.atZ f c = X := ⟨_, rfl⟩
  obtain ⟨R, hR⟩ : ∃ X, Fl.beside f c 3 = X := ⟨_, rfl⟩
  rw [hX, hY, hZ, hR] at HBS
  rw [hX] at x0 x1
  rw [hY] at y0 y1
  rw [hZ] at z0 z1
  rw [hR]
  rw [hX, hY, hZ] at ha
  obtain ⟨B, hB⟩ : ∃ B, Fl.isC f c = B := ⟨_, rfl⟩
  rw [hB] at hc HBS
  have B1 := Lib.hid ((Below.refl _ w).alloc (Nat.le_refl _) (.cells #[.int .i64 f.w, .int .i64 f.h, .int .i64 f.d, kv, ov] 24))
  unfold flV at hc ha hl ⊢
  have HC := Lib.hid hc
  have HA := Lib.hid ha
  have HL := Lib.hid hl
  clear hc ha hl hX hY hZ hB hb hR
  cases B with
  | false =>
    have HRE : Hid (R = -1) := Lib.hid HBS.out
    clear HBS
    go_enter Tryz.func145, Tryz.ntmps145
    go_wp2_with fail
    go_at_call 144; refine (HC.out _).mono ?_; rintro e w1 ⟨rfl, b1⟩
    have B2 := Lib.hid (B1.out.trans (b1.mono B1.out.size))
    clear b1
    go_wp2_with fail
    go_ret
    exact ⟨by rw [HRE.out]; rfl, B2.out⟩
  | true =>
    have HRE : Hid (R = Fl.cell f (X + Fl.stX 3) (Y + Fl.stY 3) (Z + Fl.stZ 3)) := Lib.hid HBS.out
    clear HBS
    go_enter Tryz.func145, Tryz.ntmps145
    go_wp2_with fail
    go_at_call 144; refine (HC.out _).mono ?_; rintro e w1 ⟨rfl, b1⟩
    have i1 : w1.heap[w.heap.size]? = some (.cells #[.int .i64 f.w, .int .i64 f.h, .int .i64 f.d, kv, ov] 24 (0, 0)) := (b1.block w.heap.size (by simp)).trans (heap_alloc_new _ _)
    have p0 : w1.cell? ⟨w.heap.size, 0, none⟩ = some (.int .i64 f.w) := cell_of_heap i1 0 rfl
    have p1 : w1.cell? ⟨w.heap.size, 1, none⟩ = some (.int .i64 f.h) := cell_of_heap i1 1 rfl
    have p2 : w1.cell? ⟨w.heap.size, 2, none⟩ = some (.int .i64 f.d) := cell_of_heap i1 2 rfl
    have p3 : w1.cell? ⟨w.heap.size, 3, none⟩ = some kv := cell_of_heap i1 3 rfl
    have p4 : w1.cell? ⟨w.heap.size, 4, none⟩ = some ov := cell_of_heap i1 4 rfl
    have B2 := Lib.hid (B1.out.trans (b1.mono B1.out.size))
    have I1 := Lib.hid i1
    clear b1 i1 B1
    go_wp2_with fail
    go_at_call 172; refine (HA.out _).mono ?_; rintro e w2 ⟨rfl, b2⟩
    have B3 := Lib.hid (B2.out.trans (b2.mono B2.out.size))
    have i2 := keep_heap I1.out b2
    clear b2 B2 I1 p0 p1 p2 p3 p4
    have p0 : w2.cell? ⟨w.heap.size, 0, none⟩ = some (.int .i64 f.w) := cell_of_heap i2 0 rfl
    have p1 : w2.cell? ⟨w.heap.size, 1, none⟩ = some (.int .i64 f.h) := cell_of_heap i2 1 rfl
    have p2 : w2.cell? ⟨w.heap.size, 2, none⟩ = some (.int .i64 f.d) := cell_of_heap i2 2 rfl
    have p3 : w2.cell? ⟨w.heap.size, 3, none⟩ = some kv := cell_of_heap i2 3 rfl
    have p4 : w2.cell? ⟨w.heap.size, 4, none⟩ = some ov := cell_of_heap i2 4 rfl
    clear i2
    go_wp2_with fail
    go_at_call 173; refine (HL.out _ _ _ _).mono ?_; rintro e w4 ⟨rfl, b4⟩
    have B5 := Lib.hid (B3.out.trans (b4.mono B3.out.size))
    clear b4
    go_wp2_with fail
    go_ret
    exact ⟨by rw [HRE.out]; simp [Fl.stX, Fl.stY, Fl.stZ, Int.sub_eq_add_neg], B5.out⟩
set_option maxRecDepth 100000 in
set_option maxHeartbeats 16000000 in
theorem rBes_4 (f : Fl.Floor) (kv ov : Value) (c : Int) (w : World) (hb : FB f) :
    Calls Tryz.prog 145 #[flV f kv ov, .int .i64 c, .int .i64 4] w fun e w' => e = .returned (.int .i64 (Fl.beside f c 4)) ∧ Below w.heap.size w w' := by
  have hc := fun W => rIs_any f kv ov c W hb
  have ha := fun W => rAt_any f kv ov c W hb
  have hl := fun X Y Z W => rCell_any f kv ov X Y Z W hb
  obtain ⟨x0, x1⟩ := atX_bd hb c
  obtain ⟨y0, y1⟩ := atY_bd hb c
  obtain ⟨z0, z1⟩ := atZ_bd hb c
  have HBS : Hid (Fl.beside f c 4 = if Fl.isC f c = true then Fl.cell f (Fl.atX f c + Fl.stX 4) (Fl.atY f c + Fl.stY 4) (Fl.atZ f c + Fl.stZ 4) else -1) := Lib.hid rfl
  obtain ⟨X, hX⟩ : ∃ X, Fl.atX f c = X := ⟨_, rfl⟩
  obtain ⟨Y, hY⟩ : ∃ X, Fl.atY f c = X := ⟨_, rfl⟩
  obtain ⟨Z, hZ⟩ : ∃ X, Fl.atZ f c = X := ⟨_, rfl⟩
  obtain ⟨R, hR⟩ : ∃ X, Fl.beside f c 4 = X := ⟨_, rfl⟩
  rw [hX, hY, hZ, hR] at HBS
  rw [hX] at x0 x1
  rw [hY] at y0 y1
  rw [hZ] at z0 z1
  rw [hR]
  rw [hX, hY, hZ] at ha
  obtain ⟨B, hB⟩ : ∃ B, Fl.isC f c = B := ⟨_, rfl⟩
  rw [hB] at hc HBS
  have B1 := Lib.hid ((Below.refl _ w).alloc (Nat.le_refl _) (.cells #[.int .i64 f.w, .int .i64 f.h, .int .i64 f.d, kv, ov] 24))
  unfold flV at hc ha hl ⊢
  have HC := Lib.hid hc
  have HA := Lib.hid ha
  have HL := Lib.hid hl
  clear hc ha hl hX hY hZ hB hb hR
  cases B with
  | false =>
    have HRE : Hid (R = -1) := Lib.hid HBS.out
    clear HBS
    go_enter Tryz.func145, Tryz.ntmps145
    go_wp2_with fail
    go_at_call 144; refine (HC.out _).mono ?_; rintro e w1 ⟨rfl, b1⟩
    have B2 := Lib.hid (B1.out.trans (b1.mono B1.out.size))
    clear b1
    go_wp2_with fail
    go_ret
    exact ⟨by rw [HRE.out]; rfl, B2.out⟩
  | true =>
    have HRE : Hid (R = Fl.cell f (X + Fl.stX 4) (Y + Fl.stY 4) (Z + Fl.stZ 4)) := Lib.hid HBS.out
    clear HBS
    go_enter Tryz.func145, Tryz.ntmps145
    go_wp2_with fail
    go_at_call 144; refine (HC.out _).mono ?_; rintro e w1 ⟨rfl, b1⟩
    have i1 : w1.heap[w.heap.size]? = some (.cells #[.int .i64 f.w, .int .i64 f.h, .int .i64 f.d, kv, ov] 24 (0, 0)) := (b1.block w.heap.size (by simp)).trans (heap_alloc_new _ _)
    have p0 : w1.cell? ⟨w.heap.size, 0, none⟩ = some (.int .i64 f.w) := cell_of_heap i1 0 rfl
    have p1 : w1.cell? ⟨w.heap.size, 1, none⟩ = some (.int .i64 f.h) := cell_of_heap i1 1 rfl
    have p2 : w1.cell? ⟨w.heap.size, 2, none⟩ = some (.int .i64 f.d) := cell_of_heap i1 2 rfl
    have p3 : w1.cell? ⟨w.heap.size, 3, none⟩ = some kv := cell_of_heap i1 3 rfl
    have p4 : w1.cell? ⟨w.heap.size, 4, none⟩ = some ov := cell_of_heap i1 4 rfl
    have B2 := Lib.hid (B1.out.trans (b1.mono B1.out.size))
    have I1 := Lib.hid i1
    clear b1 i1 B1
    go_wp2_with fail
    go_at_call 172; refine (HA.out _).mono ?_; rintro e w2 ⟨rfl, b2⟩
    have B3 := Lib.hid (B2.out.trans (b2.mono B2.out.size))
    have i2 := keep_heap I1.out b2
    clear b2 B2 I1 p0 p1 p2 p3 p4
    have p0 : w2.cell? ⟨w.heap.size, 0, none⟩ = some (.int .i64 f.w) := cell_of_heap i2 0 rfl
    have p1 : w2.cell? ⟨w.heap.size, 1, none⟩ = some (.int .i64 f.h) := cell_of_heap i2 1 rfl
    have p2 : w2.cell? ⟨w.heap.size, 2, none⟩ = some (.int .i64 f.d) := cell_of_heap i2 2 rfl
    have p3 : w2.cell? ⟨w.heap.size, 3, none⟩ = some kv := cell_of_heap i2 3 rfl
    have p4 : w2.cell? ⟨w.heap.size, 4, none⟩ = some ov := cell_of_heap i2 4 rfl
    clear i2
    go_wp2_with fail
    go_at_call 173; refine (HL.out _ _ _ _).mono ?_; rintro e w4 ⟨rfl, b4⟩
    have B5 := Lib.hid (B3.out.trans (b4.mono B3.out.size))
    clear b4
    go_wp2_with fail
    go_ret
    exact ⟨by rw [HRE.out]; simp [Fl.stX, Fl.stY, Fl.stZ, Int.sub_eq_add_neg], B5.out⟩
set_option maxRecDepth 100000 in
set_option maxHeartbeats 16000000 in
theorem rBes_5 (f : Fl.Floor) (kv ov : Value) (c : Int) (w : World) (hb : FB f) :
    Calls Tryz.prog 145 #[flV f kv ov, .int .i64 c, .int .i64 5] w fun e w' => e = .returned (.int .i64 (Fl.beside f c 5)) ∧ Below w.heap.size w w' := by
  have hc := fun W => rIs_any f kv ov c W hb
  have ha := fun W => rAt_any f kv ov c W hb
  have hl := fun X Y Z W => rCell_any f kv ov X Y Z W hb
  obtain ⟨x0, x1⟩ := atX_bd hb c
  obtain ⟨y0, y1⟩ := atY_bd hb c
  obtain ⟨z0, z1⟩ := atZ_bd hb c
  have HBS : Hid (Fl.beside f c 5 = if Fl.isC f c = true then Fl.cell f (Fl.atX f c + Fl.stX 5) (Fl.atY f c + Fl.stY 5) (Fl.atZ f c + Fl.stZ 5) else -1) := Lib.hid rfl
  obtain ⟨X, hX⟩ : ∃ X, Fl.atX f c = X := ⟨_, rfl⟩
  obtain ⟨Y, hY⟩ : ∃ X, Fl.atY f c = X := ⟨_, rfl⟩
  obtain ⟨Z, hZ⟩ : ∃ X, Fl.atZ f c = X := ⟨_, rfl⟩
  obtain ⟨R, hR⟩ : ∃ X, Fl.beside f c 5 = X := ⟨_, rfl⟩
  rw [hX, hY, hZ, hR] at HBS
  rw [hX] at x0 x1
  rw [hY] at y0 y1
  rw [hZ] at z0 z1
  rw [hR]
  rw [hX, hY, hZ] at ha
  obtain ⟨B, hB⟩ : ∃ B, Fl.isC f c = B := ⟨_, rfl⟩
  rw [hB] at hc HBS
  have B1 := Lib.hid ((Below.refl _ w).alloc (Nat.le_refl _) (.cells #[.int .i64 f.w, .int .i64 f.h, .int .i64 f.d, kv, ov] 24))
  unfold flV at hc ha hl ⊢
  have HC := Lib.hid hc
  have HA := Lib.hid ha
  have HL := Lib.hid hl
  clear hc ha hl hX hY hZ hB hb hR
  cases B with
  | false =>
    have HRE : Hid (R = -1) := Lib.hid HBS.out
    clear HBS
    go_enter Tryz.func145, Tryz.ntmps145
    go_wp2_with fail
    go_at_call 144; refine (HC.out _).mono ?_; rintro e w1 ⟨rfl, b1⟩
    have B2 := Lib.hid (B1.out.trans (b1.mono B1.out.size))
    clear b1
    go_wp2_with fail
    go_ret
    exact ⟨by rw [HRE.out]; rfl, B2.out⟩
  | true =>
    have HRE : Hid (R = Fl.cell f (X + Fl.stX 5) (Y + Fl.stY 5) (Z + Fl.stZ 5)) := Lib.hid HBS.out
    clear HBS
    go_enter Tryz.func145, Tryz.ntmps145
    go_wp2_with fail
    go_at_call 144; refine (HC.out _).mono ?_; rintro e w1 ⟨rfl, b1⟩
    have i1 : w1.heap[w.heap.size]? = some (.cells #[.int .i64 f.w, .int .i64 f.h, .int .i64 f.d, kv, ov] 24 (0, 0)) := (b1.block w.heap.size (by simp)).trans (heap_alloc_new _ _)
    have p0 : w1.cell? ⟨w.heap.size, 0, none⟩ = some (.int .i64 f.w) := cell_of_heap i1 0 rfl
    have p1 : w1.cell? ⟨w.heap.size, 1, none⟩ = some (.int .i64 f.h) := cell_of_heap i1 1 rfl
    have p2 : w1.cell? ⟨w.heap.size, 2, none⟩ = some (.int .i64 f.d) := cell_of_heap i1 2 rfl
    have p3 : w1.cell? ⟨w.heap.size, 3, none⟩ = some kv := cell_of_heap i1 3 rfl
    have p4 : w1.cell? ⟨w.heap.size, 4, none⟩ = some ov := cell_of_heap i1 4 rfl
    have B2 := Lib.hid (B1.out.trans (b1.mono B1.out.size))
    have I1 := Lib.hid i1
    clear b1 i1 B1
    go_wp2_with fail
    go_at_call 172; refine (HA.out _).mono ?_; rintro e w2 ⟨rfl, b2⟩
    have B3 := Lib.hid (B2.out.trans (b2.mono B2.out.size))
    have i2 := keep_heap I1.out b2
    clear b2 B2 I1 p0 p1 p2 p3 p4
    have p0 : w2.cell? ⟨w.heap.size, 0, none⟩ = some (.int .i64 f.w) := cell_of_heap i2 0 rfl
    have p1 : w2.cell? ⟨w.heap.size, 1, none⟩ = some (.int .i64 f.h) := cell_of_heap i2 1 rfl
    have p2 : w2.cell? ⟨w.heap.size, 2, none⟩ = some (.int .i64 f.d) := cell_of_heap i2 2 rfl
    have p3 : w2.cell? ⟨w.heap.size, 3, none⟩ = some kv := cell_of_heap i2 3 rfl
    have p4 : w2.cell? ⟨w.heap.size, 4, none⟩ = some ov := cell_of_heap i2 4 rfl
    clear i2
    go_wp2_with fail
    go_at_call 173; refine (HL.out _ _ _ _).mono ?_; rintro e w4 ⟨rfl, b4⟩
    have B5 := Lib.hid (B3.out.trans (b4.mono B3.out.size))
    clear b4
    go_wp2_with fail
    go_ret
    exact ⟨by rw [HRE.out]; simp [Fl.stX, Fl.stY, Fl.stZ, Int.sub_eq_add_neg], B5.out⟩
set_option maxRecDepth 100000 in
set_option maxHeartbeats 16000000 in
theorem rBesE_any (f : Fl.Floor) (kv ov : Value) (c : Int) (d : Nat) (w : World) (hb : FB f) (hd : d < 6) :
    Calls Tryz.prog 145 #[flV f kv ov, .int .i64 c, .int .i64 d] w fun e w' => e = .returned (.int .i64 (Fl.beside f c d)) ∧ Below w.heap.size w w' := by
  rcases d with _ | _ | _ | _ | _ | _ | d
  · exact rBes_0 f kv ov c w hb
  · exact rBes_1 f kv ov c w hb
  · exact rBes_2 f kv ov c w hb
  · exact rBes_3 f kv ov c w hb
  · exact rBes_4 f kv ov c w hb
  · exact rBes_5 f kv ov c w hb
  · omega
set_option maxRecDepth 100000 in
set_option maxHeartbeats 16000000 in
theorem rNear_any (f : Fl.Floor) (kv ov : Value) (a b : Int) (w : World) (hb : FB f) :
    Calls Tryz.prog 102 #[flV f kv ov, .int .i64 a, .int .i64 b] w fun e w' => e = .returned (.bool (Fa.nearB f a b)) ∧ Below w.heap.size w w' := by
  have HIS := Lib.hid (fun W => rIs_any f kv ov b W hb)
  have HBE := Lib.hid (fun (d : Nat) W (hd : d < 6) => rBesE_any f kv ov a d W hb hd)
  have HNB : Hid (Fa.nearB f a b = (Fl.isC f b && (Fl.beside f a 0 == b || (Fl.beside f a 1 == b || (Fl.beside f a 2 == b || Fl.beside f a 3 == b))))) := Lib.hid rfl
  obtain ⟨B, hB⟩ : ∃ B, Fl.isC f b = B := ⟨_, rfl⟩
  rw [hB] at HIS HNB
  have HYE : Hid (∀ d : Nat, d < 4 → B = true → Fl.beside f a d = b → Fa.nearB f a b = true) := Lib.hid (fun d hd h1 h2 => by
    rw [HNB.out, h1]
    rcases (by omega : d = 0 ∨ d = 1 ∨ d = 2 ∨ d = 3) with rfl | rfl | rfl | rfl <;> simp [h2])
  have HNO : Hid ((∀ d : Nat, d < 4 → B = true → Fl.beside f a d ≠ b) → Fa.nearB f a b = false) := Lib.hid (fun h => by
    rw [HNB.out]
    cases B with
    | false => rfl
    | true =>
      rw [beq_eq_false_iff_ne.2 (h 0 (by omega) rfl), beq_eq_false_iff_ne.2 (h 1 (by omega) rfl), beq_eq_false_iff_ne.2 (h 2 (by omega) rfl), beq_eq_false_iff_ne.2 (h 3 (by omega) rfl)]; rfl)
  obtain ⟨R, hR⟩ : ∃ R, Fa.nearB f a b = R := ⟨_, rfl⟩
  rw [hR] at HYE HNO ⊢
  unfold flV at HIS HBE ⊢
  obtain ⟨w1, hw1⟩ : ∃ W, W = w.alloc (.cells #[.int .i64 f.w, .int .i64 f.h, .int .i64 f.d, kv, ov] 24) := ⟨_, rfl⟩
  have A1 := al1 w (.cells #[.int .i64 f.w, .int .i64 f.h, .int .i64 f.d, kv, ov] 24)
  rw [← hw1] at A1
  have I1 := Lib.hid A1.1
  have B1 := Lib.hid A1.2.1
  have HW1 := Lib.hid hw1
  clear hb hB hR HNB hw1 A1
  go_enter Tryz.func102, Tryz.ntmps102
  go_upto_region 1 with fail
  rw [← HW1.out]
  go_wp2_with fail
  go_loopw [7] (fun dv wr => ∃ d : Nat, d ≤ 4 ∧ dv = .int .i64 (d : Int) ∧ Hid (∀ j : Nat, j < d → B = true → Fl.beside f a j ≠ b) ∧ Hid (Below w.heap.size w wr) ∧ Hid (wr.heap[w.heap.size]? = some (.cells #[.int .i64 f.w, .int .i64 f.h, .int .i64 f.d, kv, ov] 24 (0, 0)))) (fun dv _ => 4 - (intOf dv).toNat)
  case atStart => exact ⟨0, by omega, rfl, Lib.hid (fun j hj => by omega), B1, I1⟩
  case round =>
    clear I1 B1 HW1
    obtain ⟨d, hd, rfl, HD, HU, IU⟩ := hrel
    by_cases h4 : d < 4
    · have d1 : (d : Int) < 4 := by omega
      have p0 : wr.cell? ⟨w.heap.size, 0, none⟩ = some (.int .i64 f.w) := cell_of_heap IU.out 0 rfl
      have p1 : wr.cell? ⟨w.heap.size, 1, none⟩ = some (.int .i64 f.h) := cell_of_heap IU.out 1 rfl
      have p2 : wr.cell? ⟨w.heap.size, 2, none⟩ = some (.int .i64 f.d) := cell_of_heap IU.out 2 rfl
      have p3 : wr.cell? ⟨w.heap.size, 3, none⟩ = some (kv) := cell_of_heap IU.out 3 rfl
      have p4 : wr.cell? ⟨w.heap.size, 4, none⟩ = some (ov) := cell_of_heap IU.out 4 rfl
      go_wp2_with fail
      go_at_call 144; with_reducible refine (HIS.out wr).mono ?_; rintro e w2 ⟨rfl, b2⟩
      have U2 := Lib.hid (HU.out.trans (b2.mono HU.out.size))
      have I2 := Lib.hid (keep_heap IU.out b2)
      clear b2 p0 p1 p2 p3 p4
      cases B with
      | false =>
        go_wp2_with fail
        go_roundw
        case rel => exact ⟨d + 1, by omega, by go_num, Lib.hid (fun j _ h => by cases h), U2, I2⟩
        case measure => simp [intOf]; omega
      | true =>
        have p0 : w2.cell? ⟨w.heap.size, 0, none⟩ = some (.int .i64 f.w) := cell_of_heap I2.out 0 rfl
        have p1 : w2.cell? ⟨w.heap.size, 1, none⟩ = some (.int .i64 f.h) := cell_of_heap I2.out 1 rfl
        have p2 : w2.cell? ⟨w.heap.size, 2, none⟩ = some (.int .i64 f.d) := cell_of_heap I2.out 2 rfl
        have p3 : w2.cell? ⟨w.heap.size, 3, none⟩ = some (kv) := cell_of_heap I2.out 3 rfl
        have p4 : w2.cell? ⟨w.heap.size, 4, none⟩ = some (ov) := cell_of_heap I2.out 4 rfl
        have HC := Lib.hid (HBE.out d w2 (by omega))
        obtain ⟨X, hX⟩ : ∃ X, Fl.beside f a d = X := ⟨_, rfl⟩
        rw [hX] at HC
        have HXX := Lib.hid hX
        clear hX
        go_wp2_with fail
        go_at_call 145; with_reducible refine HC.out.mono ?_; rintro e w3 ⟨rfl, b3⟩
        have U3 := Lib.hid (U2.out.trans (b3.mono U2.out.size))
        have I3 := Lib.hid (keep_heap I2.out b3)
        clear b3 p0 p1 p2 p3 p4
        by_cases hx : X = b
        · obtain rfl := HYE.out d h4 trivial (HXX.out.trans hx)
          subst hx
          go_wp2_with fail
          go_ret
          exact ⟨rfl, U3.out⟩
        · have hx2 : (X == b) = false := beq_eq_false_iff_ne.2 hx
          have HD2 : Hid (∀ j : Nat, j < d + 1 → True → Fl.beside f a j ≠ b) := Lib.hid (fun j hj h => by
            by_cases hjd : j = d
            · subst hjd; rw [HXX.out]; exact hx
            · exact HD.out j (by omega) h)
          clear hx
          go_wp2_with fail
          go_roundw
          case rel => exact ⟨d + 1, by omega, by go_num, HD2, U3, I3⟩
          case measure => simp [intOf]; omega
    · obtain rfl : d = 4 := by omega
      obtain rfl := HNO.out HD.out
      go_wp2_with fail
      go_ret
      exact ⟨rfl, HU.out⟩
end Go.Proofs.YtcdfmgobokjcnaaGreatDoor
