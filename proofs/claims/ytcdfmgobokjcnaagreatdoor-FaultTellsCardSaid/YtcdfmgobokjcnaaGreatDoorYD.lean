/- Parts Fm of this claim, laid one behind the other: walks and the plain laws behind them; each contract states its own conditions. -/
import Derived.Test.YtcdfmgobokjcnaaGreatDoorZG
import Derived.Test.YtcdfmgobokjcnaaGreatDoorYC
/- Walks of package arena: steps. -/
namespace Go.Proofs.YtcdfmgobokjcnaaGreatDoor
set_option linter.unusedSimpArgs false
set_option linter.unusedVariables false
open Go.RowKit

/-- The value of a site, of which only the floor is looked at. -/
def hitB (c x : Int) : Bool := x == 2 * c || x == 2 * c + 1
theorem heldB_perm {s : Bd.State} {c : Int} {m : List Int} (h : m.Perm (Bd.allL s)) : m.any (hitB c) = Bd.heldB s c := Bd.any_perm h _
theorem any_dropI {p : Int → Bool} {l : List Int} {k : Nat} (hk : k < l.length) : (l.drop k).any p = (p l[k] || (l.drop (k + 1)).any p) := by
  rw [List.drop_eq_getElem_cons hk, List.any_cons]
set_option maxRecDepth 100000 in
set_option maxHeartbeats 16000000 in
theorem stepsA_any (f : Fl.Floor) (kv ov zv av hv bv : Value) (s : Bd.State) (sv rv pv dv ku : Value) (p c : Int) (w : World) (hf : FlV w kv ov f) (hfb : FB f) (hkl : f.kind.length ≤ 1000000) (h : StV w sv rv pv dv ku s) (hs : StS s) :
    Calls Tryz.prog 95 #[siF f kv ov zv av hv bv, stV s sv rv pv dv ku, .int .i64 p, .int .i64 c] w fun e w' => e = .returned (.bool (Fa.stepB f s p c)) ∧ Below w.heap.size w w' := by
  have HKI := Lib.hid (fun W (hW : Below w.heap.size w W) => kindA_any f kv ov c W (hf.keep hW))
  have HAL := Lib.hid (fun W (hW : Below w.heap.size w W) => AllB_any s sv rv pv dv ku W (h.keep hW) hs)
  have HNE := Lib.hid (fun a W => Near_any f kv ov a c W hfb)
  have H := Lib.hid h
  obtain ⟨pa, pc, rfl, hpm⟩ := h.pe.form
  have HST : Hid (Fa.stepB f s p c = ((decide (Fa.kindF f c = 4) || decide (Fa.kindF f c = 5)) && (!Bd.heldB s c && (if p = (s.people.length : Int) then decide (Fa.kindF f c = 5) && decide (p < 20) else decide (0 ≤ p) && (decide (p < (s.people.length : Int)) && Fa.nearB f (s.people.getD p.toNat 0) c))))) := Lib.hid rfl
  have HKB : Hid (Fa.kindF f c ≠ 0 → SmC c) := Lib.hid (fun hk => by
    unfold Fa.kindF at hk
    split at hk
    · unfold SmC; omega
    · exact absurd rfl hk)
  obtain ⟨K, hK⟩ : ∃ K, Fa.kindF f c = K := ⟨_, rfl⟩
  obtain ⟨R, hR⟩ : ∃ K, Fa.stepB f s p c = K := ⟨_, rfl⟩
  obtain ⟨L, hL⟩ : ∃ K, s.people.length = K := ⟨_, rfl⟩
  rw [hK] at HST HKB HKI
  rw [hR] at HST ⊢
  rw [hL] at HST HAL H hpm ⊢
  have HL := Lib.hid hL
  unfold PmPost at HAL
  unfold flV at HKI HNE
  unfold stV at HAL ⊢
  unfold siF
  obtain ⟨w2, hw2⟩ : ∃ W, W = (w.alloc (.cells #[.int .i64 f.w, .int .i64 f.h, .int .i64 f.d, kv, ov, zv, av, hv, bv] 30)).alloc (.cells #[.int .i64 s.tick, sv, rv, .slice pa L pc, dv, ku] 34) := ⟨_, rfl⟩
  have HA2 := Lib.hid (al2 w (.cells #[.int .i64 f.w, .int .i64 f.h, .int .i64 f.d, kv, ov, zv, av, hv, bv] 30) (.cells #[.int .i64 s.tick, sv, rv, .slice pa L pc, dv, ku] 34))
  rw [← hw2] at HA2
  have HW := Lib.hid hw2
  have IS := Lib.hid HA2.out.1
  have IT := Lib.hid HA2.out.2.1
  have B0 := Lib.hid HA2.out.2.2.1
  clear hf hfb hkl h hs hK hR hL hw2 HA2
  go_enter Tryz.func95, Tryz.ntmps95
  go_upto_region 1 with fail
  rw [← HW.out]
  have p0 := cell_of_heap IS.out 0 (v := .int .i64 f.w) rfl
  have p1 := cell_of_heap IS.out 1 (v := .int .i64 f.h) rfl
  have p2 := cell_of_heap IS.out 2 (v := .int .i64 f.d) rfl
  have p3 := cell_of_heap IS.out 3 (v := kv) rfl
  have p4 := cell_of_heap IS.out 4 (v := ov) rfl
  go_wp2_with fail
  go_at_call 94; refine (HKI.out _ B0.out).mono ?_; rintro e w3 ⟨rfl, b3⟩
  have IS3 := Lib.hid (keep_heap IS.out b3)
  have IT3 := Lib.hid (keep_heap IT.out b3)
  have B3 := Lib.hid (B0.out.trans (b3.mono B0.out.size))
  clear b3 p0 p1 p2 p3 p4 HW IS IT B0
  by_cases hk45 : ¬ (K = 4 ∨ K = 5)
  · have e4 : (K != 4) = true := by simp; omega
    have e5 : (K != 5) = true := by simp; omega
    have HR : Hid (R = false) := Lib.hid (by rw [HST.out, decide_eq_false (fun e => hk45 (.inl e)), decide_eq_false (fun e => hk45 (.inr e))]; rfl)
    clear hk45
    go_wp2_with fail
    go_ret
    exact ⟨by rw [HR.out]; rfl, B3.out⟩
  have hk45 := Classical.not_not.1 hk45
  have hsm := HKB.out (by omega)
  obtain ⟨c1, c2⟩ := id hsm
  have HLo := Lib.hid (fun W => Low_any c W hsm)
  have HHi := Lib.hid (fun W => High_any c W hsm)
  clear HKB HKI
  have t0 := cell_of_heap IT3.out 0 (v := .int .i64 s.tick) rfl
  have t1 := cell_of_heap IT3.out 1 (v := sv) rfl
  have t2 := cell_of_heap IT3.out 2 (v := rv) rfl
  have t3 := cell_of_heap IT3.out 3 (v := .slice pa L pc) rfl
  have t4 := cell_of_heap IT3.out 4 (v := dv) rfl
  have t5 := cell_of_heap IT3.out 5 (v := ku) rfl
  rcases hk45 with rfl | rfl
  · have HST2 : Hid (R = (!Bd.heldB s c && (if p = (L : Int) then false else decide (0 ≤ p) && (decide (p < (L : Int)) && Fa.nearB f (s.people.getD p.toNat 0) c)))) := Lib.hid (by rw [HST.out]; simp)
    clear HST
    go_wp2_with fail
    go_at_call 125; refine (HAL.out _ B3.out).mono ?_; rintro e w4 ⟨v4, m, rfl, hm4, hl4, b4⟩
    have HEL : Hid (m.any (hitB c) = Bd.heldB s c) := Lib.hid (heldB_perm hm4)
    have HL4 := Lib.hid hl4
    have IS4 := Lib.hid (keep_heap IS3.out b4)
    have IT4 := Lib.hid (keep_heap IT3.out b4)
    have B4 := Lib.hid (B3.out.trans (b4.mono B3.out.size))
    obtain ⟨ma, mc, rfl, hmm⟩ := hl4.form
    obtain ⟨HV, hHV⟩ : ∃ HV, Bd.heldB s c = HV := ⟨_, rfl⟩
    rw [hHV] at HEL HST2
    have HE0 : Hid ((m.drop 0).any (hitB c) = HV) := HEL
    obtain ⟨n, hn⟩ : ∃ n, m.length = n := ⟨_, rfl⟩
    rw [hn] at hmm HL4 ⊢
    have HN := Lib.hid hn
    clear hm4 hl4 b4 hHV hn HEL t0 t1 t2 t3 t4 t5
    go_wp2_with fail
    go_loopw [25] (fun iv wr => ∃ k : Nat, k ≤ n ∧ iv = .int .i64 k ∧ Hid ((m.drop k).any (hitB c) = HV) ∧ wr = w4) (fun iv _ => n - (intOf iv).toNat)
    case atStart => exact ⟨0, by omega, rfl, HE0, rfl⟩
    case round =>
      obtain ⟨k, hk, rfl, HK, rfl⟩ := hrel
      by_cases hkn : k < n
      · have hkl : k < m.length := by rw [HN.out]; exact hkn
        obtain ⟨mb, mo, rfl, r0⟩ := HL4.out.cell k hkl
        have hd := any_dropI (p := hitB c) hkl
        rw [HK.out] at hd
        obtain ⟨X, hX⟩ : ∃ X, m[k] = X := ⟨_, rfl⟩
        rw [hX] at r0 hd
        have HD := Lib.hid hd
        have k1 : (k : Int) < (n : Int) := by omega
        have k0 : (0 : Int) ≤ (k : Int) := by omega
        clear hd hX hkl
        by_cases x1 : X = 2 * c
        · have e1 : (X == 2 * c) = true := beq_iff_eq.2 x1
          have HVt : Hid (HV = true) := Lib.hid (by rw [HD.out]; unfold hitB; rw [e1]; simp)
          have HR : Hid (R = false) := Lib.hid (by rw [HST2.out, HVt.out]; rfl)
          clear x1
          go_wp2_with (first | (go_at_call 126; refine (HLo.out _).mono ?_; rintro e w6 ⟨rfl, rfl⟩) | (go_at_call 127; refine (HHi.out _).mono ?_; rintro e w6 ⟨rfl, rfl⟩))
          go_ret
          exact ⟨by rw [HR.out]; rfl, B4.out⟩
        · have e1 : (X == 2 * c) = false := beq_eq_false_iff_ne.2 x1
          by_cases x2 : X = 2 * c + 1
          · have e2 : (X == 2 * c + 1) = true := beq_iff_eq.2 x2
            have HVt : Hid (HV = true) := Lib.hid (by rw [HD.out]; unfold hitB; rw [e2]; simp)
            have HR : Hid (R = false) := Lib.hid (by rw [HST2.out, HVt.out]; rfl)
            clear x1 x2
            go_wp2_with (first | (go_at_call 126; refine (HLo.out _).mono ?_; rintro e w6 ⟨rfl, rfl⟩) | (go_at_call 127; refine (HHi.out _).mono ?_; rintro e w6 ⟨rfl, rfl⟩))
            go_ret
            exact ⟨by rw [HR.out]; rfl, B4.out⟩
          · have e2 : (X == 2 * c + 1) = false := beq_eq_false_iff_ne.2 x2
            have HDn : Hid ((m.drop (k + 1)).any (hitB c) = HV) := Lib.hid (by have := HD.out; unfold hitB at this; rw [e1, e2] at this; exact this.symm)
            clear x1 x2 HD
            go_wp2_with (first | (go_at_call 126; refine (HLo.out _).mono ?_; rintro e w6 ⟨rfl, rfl⟩) | (go_at_call 127; refine (HHi.out _).mono ?_; rintro e w6 ⟨rfl, rfl⟩))
            go_roundw
            case rel => exact ⟨k + 1, by omega, by go_num, HDn, by first | rfl | trivial⟩
            case measure => simp [intOf]; omega
      · have hke : k = n := by omega
        have HVf : Hid (HV = false) := Lib.hid (by rw [← HK.out, List.drop_eq_nil_of_le (by rw [HN.out]; omega)]; rfl)
        have q3 := cell_of_heap IT4.out 3 (v := .slice pa L pc) rfl
        have HSF : Hid (R = (if p = (L : Int) then false else decide (0 ≤ p) && (decide (p < (L : Int)) && Fa.nearB f (s.people.getD p.toNat 0) c))) := Lib.hid (by rw [HST2.out, HVf.out]; simp)
        clear HST2 hke HK
        by_cases hp : p = (L : Int)
        · have HR : Hid (R = false) := Lib.hid (by rw [HSF.out, if_pos hp])
          have ep : (p == (L : Int)) = true := beq_iff_eq.2 hp
          clear hp
          go_wp2_with fail
          go_ret
          exact ⟨by rw [HR.out]; rfl, B4.out⟩
        · have HS9 : Hid (R = (decide (0 ≤ p) && (decide (p < (L : Int)) && Fa.nearB f (s.people.getD p.toNat 0) c))) := Lib.hid (by rw [HSF.out, if_neg hp])
          have ep : (p == (L : Int)) = false := beq_eq_false_iff_ne.2 hp
          clear HSF
          by_cases g0 : 0 ≤ p
          · by_cases g1 : p < (L : Int)
            · obtain ⟨i, rfl⟩ := Int.eq_ofNat_of_zero_le g0
              have hi : i < s.people.length := by rw [HL.out]; omega
              obtain ⟨pb, po, rfl, r0⟩ := H.out.pe.cell i hi
              have HR : Hid (R = Fa.nearB f s.people[i] c) := Lib.hid (by rw [HS9.out, decide_eq_true g0, decide_eq_true g1, Int.toNat_natCast, getD_lt2 _ _ _ hi]; rfl)
              have hpb := cell_block_lt r0
              dsimp only at hpb
              obtain ⟨X, hX⟩ : ∃ X, s.people[i] = X := ⟨_, rfl⟩
              rw [hX] at r0 HR
              rw [← B4.out.cell (p := ⟨pb, po + i, none⟩) hpb] at r0
              obtain ⟨Z, hZ⟩ : ∃ Z, Fa.nearB f X c = Z := ⟨_, rfl⟩
              have HNX : Hid (∀ W, _) := Lib.hid (fun W => by have := HNE.out X W; rw [hZ] at this; exact this)
              rw [hZ] at HR
              have lw := heap_lt IS4.out
              have lw1 := heap_lt IT4.out
              have lp : pb < wr.heap.size := by have := B4.out.size; omega
              have d1 : decide ((0 : Int) ≤ (i : Int)) = true := decide_eq_true g0
              have d2 : decide ((i : Int) < (L : Int)) = true := decide_eq_true g1
              have s0 := cell_of_heap IS4.out 0 (v := .int .i64 f.w) rfl
              have s1 := cell_of_heap IS4.out 1 (v := .int .i64 f.h) rfl
              have s2 := cell_of_heap IS4.out 2 (v := .int .i64 f.d) rfl
              have s3 := cell_of_heap IS4.out 3 (v := kv) rfl
              have s4 := cell_of_heap IS4.out 4 (v := ov) rfl
              clear hi hpb hX hZ HS9 hp
              go_upto_region 12 with fail
              have BX : Below wr.heap.size wr wr.drew := below_drewN _ _ 1
              go_region_held3 (fun w' => w'.cell? ⟨w.heap.size, 0, none⟩ = some (.int .i64 f.w) ∧ w'.cell? ⟨w.heap.size, 1, none⟩ = some (.int .i64 f.h) ∧ w'.cell? ⟨w.heap.size, 2, none⟩ = some (.int .i64 f.d) ∧ w'.cell? ⟨w.heap.size, 3, none⟩ = some kv ∧ w'.cell? ⟨w.heap.size, 4, none⟩ = some ov ∧ w'.cell? ⟨w.heap.size + 1, 3, none⟩ = some (.slice (some ⟨pb, po, none⟩) L pc) ∧ w'.cell? ⟨pb, po + i, none⟩ = some (.int .i64 X)) (go_keep)
                ((go_at_call 128; refine (HNX.out _).mono ?_; rintro e w5 ⟨rfl, b5⟩; have BX : Below wr.heap.size wr w5 := BX.trans (b5.mono BX.size); have y0 := (BX.cell (p := ⟨w.heap.size, 0, none⟩) lw).trans s0; have y1 := (BX.cell (p := ⟨w.heap.size, 1, none⟩) lw).trans s1; have y2 := (BX.cell (p := ⟨w.heap.size, 2, none⟩) lw).trans s2; have y3 := (BX.cell (p := ⟨w.heap.size, 3, none⟩) lw).trans s3; have y4 := (BX.cell (p := ⟨w.heap.size, 4, none⟩) lw).trans s4; have y5 := (BX.cell (p := ⟨w.heap.size + 1, 3, none⟩) lw1).trans q3; have y6 := (BX.cell (p := ⟨pb, po + i, none⟩) lp).trans r0; clear b5))
              all_goals go_wp2_with fail
              all_goals
                go_ret
                exact ⟨by rw [HR.out]; rfl, B4.out.trans (BX.mono B4.out.size)⟩
            · have HR : Hid (R = false) := Lib.hid (by rw [HS9.out, decide_eq_false g1]; simp)
              have d1 : decide ((0 : Int) ≤ p) = true := decide_eq_true g0
              have d2 : decide (p < (L : Int)) = false := decide_eq_false g1
              clear hp HS9
              go_upto_region 12 with fail
              go_quiet (fail)
              go_wp2_with fail
              go_ret
              exact ⟨by rw [HR.out]; rfl, B4.out.trans ((below_drewN _ _ _).mono B4.out.size)⟩
          · have HR : Hid (R = false) := Lib.hid (by rw [HS9.out, decide_eq_false g0]; rfl)
            have d1 : decide ((0 : Int) ≤ p) = false := decide_eq_false g0
            clear hp HS9
            go_upto_region 12 with fail
            go_quiet (fail)
            go_wp2_with fail
            go_ret
            exact ⟨by rw [HR.out]; rfl, B4.out.trans ((below_drewN _ _ _).mono B4.out.size)⟩
  · have HST2 : Hid (R = (!Bd.heldB s c && (if p = (L : Int) then decide (p < 20) else decide (0 ≤ p) && (decide (p < (L : Int)) && Fa.nearB f (s.people.getD p.toNat 0) c)))) := Lib.hid (by rw [HST.out]; simp)
    clear HST
    go_wp2_with fail
    go_at_call 125; refine (HAL.out _ B3.out).mono ?_; rintro e w4 ⟨v4, m, rfl, hm4, hl4, b4⟩
    have HEL : Hid (m.any (hitB c) = Bd.heldB s c) := Lib.hid (heldB_perm hm4)
    have HL4 := Lib.hid hl4
    have IS4 := Lib.hid (keep_heap IS3.out b4)
    have IT4 := Lib.hid (keep_heap IT3.out b4)
    have B4 := Lib.hid (B3.out.trans (b4.mono B3.out.size))
    obtain ⟨ma, mc, rfl, hmm⟩ := hl4.form
    obtain ⟨HV, hHV⟩ : ∃ HV, Bd.heldB s c = HV := ⟨_, rfl⟩
    rw [hHV] at HEL HST2
    have HE0 : Hid ((m.drop 0).any (hitB c) = HV) := HEL
    obtain ⟨n, hn⟩ : ∃ n, m.length = n := ⟨_, rfl⟩
    rw [hn] at hmm HL4 ⊢
    have HN := Lib.hid hn
    clear hm4 hl4 b4 hHV hn HEL t0 t1 t2 t3 t4 t5
    go_wp2_with fail
    go_loopw [25] (fun iv wr => ∃ k : Nat, k ≤ n ∧ iv = .int .i64 k ∧ Hid ((m.drop k).any (hitB c) = HV) ∧ wr = w4) (fun iv _ => n - (intOf iv).toNat)
    case atStart => exact ⟨0, by omega, rfl, HE0, rfl⟩
    case round =>
      obtain ⟨k, hk, rfl, HK, rfl⟩ := hrel
      by_cases hkn : k < n
      · have hkl : k < m.length := by rw [HN.out]; exact hkn
        obtain ⟨mb, mo, rfl, r0⟩ := HL4.out.cell k hkl
        have hd := any_dropI (p := hitB c) hkl
        rw [HK.out] at hd
        obtain ⟨X, hX⟩ : ∃ X, m[k] = X := ⟨_, rfl⟩
        rw [hX] at r0 hd
        have HD := Lib.hid hd
        have k1 : (k : Int) < (n : Int) := by omega
        have k0 : (0 : Int) ≤ (k : Int) := by omega
        clear hd hX hkl
        by_cases x1 : X = 2 * c
        · have e1 : (X == 2 * c) = true := beq_iff_eq.2 x1
          have HVt : Hid (HV = true) := Lib.hid (by rw [HD.out]; unfold hitB; rw [e1]; simp)
          have HR : Hid (R = false) := Lib.hid (by rw [HST2.out, HVt.out]; rfl)
          clear x1
          go_wp2_with (first | (go_at_call 126; refine (HLo.out _).mono ?_; rintro e w6 ⟨rfl, rfl⟩) | (go_at_call 127; refine (HHi.out _).mono ?_; rintro e w6 ⟨rfl, rfl⟩))
          go_ret
          exact ⟨by rw [HR.out]; rfl, B4.out⟩
        · have e1 : (X == 2 * c) = false := beq_eq_false_iff_ne.2 x1
          by_cases x2 : X = 2 * c + 1
          · have e2 : (X == 2 * c + 1) = true := beq_iff_eq.2 x2
            have HVt : Hid (HV = true) := Lib.hid (by rw [HD.out]; unfold hitB; rw [e2]; simp)
            have HR : Hid (R = false) := Lib.hid (by rw [HST2.out, HVt.out]; rfl)
            clear x1 x2
            go_wp2_with (first | (go_at_call 126; refine (HLo.out _).mono ?_; rintro e w6 ⟨rfl, rfl⟩) | (go_at_call 127; refine (HHi.out _).mono ?_; rintro e w6 ⟨rfl, rfl⟩))
            go_ret
            exact ⟨by rw [HR.out]; rfl, B4.out⟩
          · have e2 : (X == 2 * c + 1) = false := beq_eq_false_iff_ne.2 x2
            have HDn : Hid ((m.drop (k + 1)).any (hitB c) = HV) := Lib.hid (by have := HD.out; unfold hitB at this; rw [e1, e2] at this; exact this.symm)
            clear x1 x2 HD
            go_wp2_with (first | (go_at_call 126; refine (HLo.out _).mono ?_; rintro e w6 ⟨rfl, rfl⟩) | (go_at_call 127; refine (HHi.out _).mono ?_; rintro e w6 ⟨rfl, rfl⟩))
            go_roundw
            case rel => exact ⟨k + 1, by omega, by go_num, HDn, by first | rfl | trivial⟩
            case measure => simp [intOf]; omega
      · have hke : k = n := by omega
        have HVf : Hid (HV = false) := Lib.hid (by rw [← HK.out, List.drop_eq_nil_of_le (by rw [HN.out]; omega)]; rfl)
        have q3 := cell_of_heap IT4.out 3 (v := .slice pa L pc) rfl
        have HSF : Hid (R = (if p = (L : Int) then decide (p < 20) else decide (0 ≤ p) && (decide (p < (L : Int)) && Fa.nearB f (s.people.getD p.toNat 0) c))) := Lib.hid (by rw [HST2.out, HVf.out]; simp)
        clear HST2 hke HK
        by_cases hp : p = (L : Int)
        · have HR : Hid (R = decide (p < 20)) := Lib.hid (by rw [HSF.out, if_pos hp])
          have ep : (p == (L : Int)) = true := beq_iff_eq.2 hp
          clear hp
          go_wp2_with fail
          go_ret
          exact ⟨by rw [HR.out]; rfl, B4.out⟩
        · have HS9 : Hid (R = (decide (0 ≤ p) && (decide (p < (L : Int)) && Fa.nearB f (s.people.getD p.toNat 0) c))) := Lib.hid (by rw [HSF.out, if_neg hp])
          have ep : (p == (L : Int)) = false := beq_eq_false_iff_ne.2 hp
          clear HSF
          by_cases g0 : 0 ≤ p
          · by_cases g1 : p < (L : Int)
            · obtain ⟨i, rfl⟩ := Int.eq_ofNat_of_zero_le g0
              have hi : i < s.people.length := by rw [HL.out]; omega
              obtain ⟨pb, po, rfl, r0⟩ := H.out.pe.cell i hi
              have HR : Hid (R = Fa.nearB f s.people[i] c) := Lib.hid (by rw [HS9.out, decide_eq_true g0, decide_eq_true g1, Int.toNat_natCast, getD_lt2 _ _ _ hi]; rfl)
              have hpb := cell_block_lt r0
              dsimp only at hpb
              obtain ⟨X, hX⟩ : ∃ X, s.people[i] = X := ⟨_, rfl⟩
              rw [hX] at r0 HR
              rw [← B4.out.cell (p := ⟨pb, po + i, none⟩) hpb] at r0
              obtain ⟨Z, hZ⟩ : ∃ Z, Fa.nearB f X c = Z := ⟨_, rfl⟩
              have HNX : Hid (∀ W, _) := Lib.hid (fun W => by have := HNE.out X W; rw [hZ] at this; exact this)
              rw [hZ] at HR
              have lw := heap_lt IS4.out
              have lw1 := heap_lt IT4.out
              have lp : pb < wr.heap.size := by have := B4.out.size; omega
              have d1 : decide ((0 : Int) ≤ (i : Int)) = true := decide_eq_true g0
              have d2 : decide ((i : Int) < (L : Int)) = true := decide_eq_true g1
              have s0 := cell_of_heap IS4.out 0 (v := .int .i64 f.w) rfl
              have s1 := cell_of_heap IS4.out 1 (v := .int .i64 f.h) rfl
              have s2 := cell_of_heap IS4.out 2 (v := .int .i64 f.d) rfl
              have s3 := cell_of_heap IS4.out 3 (v := kv) rfl
              have s4 := cell_of_heap IS4.out 4 (v := ov) rfl
              clear hi hpb hX hZ HS9 hp
              go_upto_region 12 with fail
              have BX : Below wr.heap.size wr wr.drew := below_drewN _ _ 1
              go_region_held3 (fun w' => w'.cell? ⟨w.heap.size, 0, none⟩ = some (.int .i64 f.w) ∧ w'.cell? ⟨w.heap.size, 1, none⟩ = some (.int .i64 f.h) ∧ w'.cell? ⟨w.heap.size, 2, none⟩ = some (.int .i64 f.d) ∧ w'.cell? ⟨w.heap.size, 3, none⟩ = some kv ∧ w'.cell? ⟨w.heap.size, 4, none⟩ = some ov ∧ w'.cell? ⟨w.heap.size + 1, 3, none⟩ = some (.slice (some ⟨pb, po, none⟩) L pc) ∧ w'.cell? ⟨pb, po + i, none⟩ = some (.int .i64 X)) (go_keep)
                ((go_at_call 128; refine (HNX.out _).mono ?_; rintro e w5 ⟨rfl, b5⟩; have BX : Below wr.heap.size wr w5 := BX.trans (b5.mono BX.size); have y0 := (BX.cell (p := ⟨w.heap.size, 0, none⟩) lw).trans s0; have y1 := (BX.cell (p := ⟨w.heap.size, 1, none⟩) lw).trans s1; have y2 := (BX.cell (p := ⟨w.heap.size, 2, none⟩) lw).trans s2; have y3 := (BX.cell (p := ⟨w.heap.size, 3, none⟩) lw).trans s3; have y4 := (BX.cell (p := ⟨w.heap.size, 4, none⟩) lw).trans s4; have y5 := (BX.cell (p := ⟨w.heap.size + 1, 3, none⟩) lw1).trans q3; have y6 := (BX.cell (p := ⟨pb, po + i, none⟩) lp).trans r0; clear b5))
              all_goals go_wp2_with fail
              all_goals
                go_ret
                exact ⟨by rw [HR.out]; rfl, B4.out.trans (BX.mono B4.out.size)⟩
            · have HR : Hid (R = false) := Lib.hid (by rw [HS9.out, decide_eq_false g1]; simp)
              have d1 : decide ((0 : Int) ≤ p) = true := decide_eq_true g0
              have d2 : decide (p < (L : Int)) = false := decide_eq_false g1
              clear hp HS9
              go_upto_region 12 with fail
              go_quiet (fail)
              go_wp2_with fail
              go_ret
              exact ⟨by rw [HR.out]; rfl, B4.out.trans ((below_drewN _ _ _).mono B4.out.size)⟩
          · have HR : Hid (R = false) := Lib.hid (by rw [HS9.out, decide_eq_false g0]; rfl)
            have d1 : decide ((0 : Int) ≤ p) = false := decide_eq_false g0
            clear hp HS9
            go_upto_region 12 with fail
            go_quiet (fail)
            go_wp2_with fail
            go_ret
            exact ⟨by rw [HR.out]; rfl, B4.out.trans ((below_drewN _ _ _).mono B4.out.size)⟩
end Go.Proofs.YtcdfmgobokjcnaaGreatDoor
