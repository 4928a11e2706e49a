/- Parts RfL of this claim, laid one behind the other: walks and the plain laws behind them; each contract states its own conditions. -/
import Derived.Test.YtcdfmgobokjcnaaGreatDoorYE
import Derived.Test.YtcdfmgobokjcnaaGreatDoorTD
import Derived.Test.YtcdfmgobokjcnaaGreatDoorTE
/- Walk of taquinref16: Possible, exact. -/
namespace Go.Proofs.YtcdfmgobokjcnaaGreatDoor
set_option linter.unusedSimpArgs false
set_option linter.unusedVariables false
open Go.RowKit

theorem own_isF {w : World} {base n : Nat} {v : Value} {l : List Int} (h : w.ownsRow base 3 1 v n (ints l)) : Is w v l := Sl.of_own h (own_max h)
theorem held_two {s : Bd.State} {c : Int} {m : List Int} (h : m.Perm (Bd.allL s)) : (!m.contains (2 * c) && !m.contains (2 * c + 1)) = !Bd.heldB s c := by
  have h1 : Bd.heldB s c = (m.contains (2 * c) || m.contains (2 * c + 1)) := by
    unfold Bd.heldB
    rw [← Bd.any_perm h, Bool.eq_iff_iff, List.any_eq_true, Bool.or_eq_true, List.contains_iff_mem, List.contains_iff_mem]
    constructor
    · rintro ⟨x, hx, h⟩
      simp only [Bool.or_eq_true, beq_iff_eq] at h
      rcases h with rfl | rfl
      · exact .inl hx
      · exact .inr hx
    · rintro (h | h)
      · exact ⟨_, h, by simp⟩
      · exact ⟨_, h, by simp⟩
  rw [h1, Bool.not_or]
set_option maxRecDepth 100000 in
set_option maxHeartbeats 16000000 in
theorem rPossible_any (f : Fl.Floor) (kv ov zv av hv bv : Value) (s : Bd.State) (sv rv pv dv ku : Value) (x : Fa.Flt) (w : World) (hf : FlV w kv ov f) (hfb : FB f) (h : StV w sv rv pv dv ku s) (h4 : Few4 s) (hx : x.kind = 5 → 0 ≤ x.n ∧ x.n ≤ 1000) :
    Calls Tryz.prog 57 #[siF f kv ov zv av hv bv, stV s sv rv pv dv ku, fltV x] w fun e w' => e = .returned (.int .i64 (possE (Fa.possB f s x))) ∧ Below w.heap.size w w' := by
  obtain ⟨k, a, n⟩ := x
  have hx5 : k = 5 → 0 ≤ n ∧ n ≤ 1000 := hx
  have HKI := Lib.hid (fun c W (hW : Below w.heap.size w W) => kind16_any f kv ov zv av hv bv c W (hf.keep hW))
  have HLI := Lib.hid (fun W (hW : Below w.heap.size w W) => robot16_any s sv rv pv dv ku a W (h.keep hW))
  have HAL := Lib.hid (fun W (hW : Below w.heap.size w W) => all14_any s sv rv pv dv ku W (h.keep hW) h4)
  have HCO := Lib.hid (fun W (hW : Below w.heap.size w W) => hasC_any dv s.dead a W (h.de.keep hW))
  have HNE := Lib.hid (fun c W => rNear_any f kv ov c n W hfb)
  have HHT := Lib.hid (fun m (hm : List.Perm m (Bd.allL s)) => held_two (c := n) hm)
  have HP : Hid (Fa.possB f s ⟨k, a, n⟩ = if k = 0 then true else if k = 1 then Fa.live s a else if k = 2 then !decide (Fa.kindF f a = 0) && !s.dead.contains a
    else if k = 3 then Fa.live s a && Fa.longB n else if k = 4 then decide (Fa.kindF f a = 6) && Fa.longB n else if k = 5 then Fa.stepB f s a n else false) := Lib.hid rfl
  have H := Lib.hid h
  obtain ⟨pa, pc, rfl, hpm⟩ := h.pe.form
  obtain ⟨L, hL⟩ : ∃ L, s.people.length = L := ⟨_, rfl⟩
  have HST : Hid (Fa.stepB f s a n = ((decide (Fa.kindF f n = 4) || decide (Fa.kindF f n = 5)) && (!Bd.heldB s n && (if a = (L : Int) then decide (Fa.kindF f n = 5) && decide (a < 20) else decide (0 ≤ a) && (decide (a < (L : Int)) && Fa.nearB f (s.people.getD a.toNat 0) n))))) := Lib.hid (by unfold Fa.stepB; rw [hL])
  have HL := Lib.hid hL
  rw [hL] at H hpm HLI HAL ⊢
  obtain ⟨R, hR⟩ : ∃ R, Fa.possB f s ⟨k, a, n⟩ = R := ⟨_, rfl⟩
  obtain ⟨LI, hLI⟩ : ∃ R, Fa.live s a = R := ⟨_, rfl⟩
  obtain ⟨K, hK⟩ : ∃ R, Fa.kindF f a = R := ⟨_, rfl⟩
  obtain ⟨KN, hKN⟩ : ∃ R, Fa.kindF f n = R := ⟨_, rfl⟩
  obtain ⟨CO, hCO⟩ : ∃ R, s.dead.contains a = R := ⟨_, rfl⟩
  obtain ⟨HV, hHV⟩ : ∃ R, Bd.heldB s n = R := ⟨_, rfl⟩
  obtain ⟨LB, hLB⟩ : ∃ R, Fa.longB n = R := ⟨_, rfl⟩
  have HKA := Lib.hid (HKI.out a)
  have HKN := Lib.hid (HKI.out n)
  rw [hR, hLI, hK, hCO, hLB] at HP
  rw [hLI] at HLI
  rw [hK] at HKA
  rw [hKN] at HKN HST
  rw [hCO] at HCO
  rw [hHV] at HHT HST
  rw [hR]
  have HLB : Hid (LB = (decide (n ≥ 1) && decide (n ≤ 20000))) := Lib.hid (by rw [← hLB]; unfold Fa.longB; rfl)
  unfold flV at HNE
  unfold PermPost stV at HAL
  unfold stV at HLI ⊢
  unfold siF at HKA HKN ⊢
  unfold fltV
  dsimp only
  obtain ⟨w3, hw3⟩ : ∃ W, W = ((w.alloc (.cells #[.int .i64 f.w, .int .i64 f.h, .int .i64 f.d, kv, ov, zv, av, hv, bv] 30)).alloc (.cells #[.int .i64 s.tick, sv, rv, .slice pa L pc, dv, ku] 34)).alloc (.cells #[.int .i64 k, .int .i64 a, .int .i64 n] 38) := ⟨_, rfl⟩
  have HA3 := Lib.hid (al3 w (.cells #[.int .i64 f.w, .int .i64 f.h, .int .i64 f.d, kv, ov, zv, av, hv, bv] 30) (.cells #[.int .i64 s.tick, sv, rv, .slice pa L pc, dv, ku] 34) (.cells #[.int .i64 k, .int .i64 a, .int .i64 n] 38))
  rw [← hw3] at HA3
  have HW := Lib.hid hw3
  have IS := Lib.hid HA3.out.1
  have IT := Lib.hid HA3.out.2.1
  have IF := Lib.hid HA3.out.2.2.1
  have B0 := Lib.hid HA3.out.2.2.2.1
  clear hf hfb h h4 hx hR hLI hK hKN hCO hHV hLB hw3 HA3 HKI hL
  have p0 := cell_of_heap IS.out 0 (v := .int .i64 f.w) rfl
  have p1 := cell_of_heap IS.out 1 (v := .int .i64 f.h) rfl
  have p2 := cell_of_heap IS.out 2 (v := .int .i64 f.d) rfl
  have p3 := cell_of_heap IS.out 3 (v := kv) rfl
  have p4 := cell_of_heap IS.out 4 (v := ov) rfl
  have p5 := cell_of_heap IS.out 5 (v := zv) rfl
  have p6 := cell_of_heap IS.out 6 (v := av) rfl
  have p7 := cell_of_heap IS.out 7 (v := hv) rfl
  have p8 := cell_of_heap IS.out 8 (v := bv) rfl
  have t0 := cell_of_heap IT.out 0 (v := .int .i64 s.tick) rfl
  have t1 := cell_of_heap IT.out 1 (v := sv) rfl
  have t2 := cell_of_heap IT.out 2 (v := rv) rfl
  have t3 := cell_of_heap IT.out 3 (v := .slice pa L pc) rfl
  have t4 := cell_of_heap IT.out 4 (v := dv) rfl
  have t5 := cell_of_heap IT.out 5 (v := ku) rfl
  have f0 := cell_of_heap IF.out 0 (v := .int .i64 k) rfl
  have f1 := cell_of_heap IF.out 1 (v := .int .i64 a) rfl
  have f2 := cell_of_heap IF.out 2 (v := .int .i64 n) rfl
  go_enter Tryz.func57, Tryz.ntmps57
  go_upto_region 1 with fail
  rw [← HW.out]
  clear HW
  by_cases h0 : k = 0
  · subst h0
    have HR : Hid (R = true) := Lib.hid (by rw [HP.out, if_pos rfl])
    go_wp2_with fail
    go_ret
    exact ⟨by rw [HR.out]; rfl, B0.out⟩
  by_cases h1 : k = 1
  · subst h1
    have HR : Hid (R = LI) := Lib.hid (by rw [HP.out]; rfl)
    go_wp2_with fail
    go_at_call 99; with_reducible refine (HLI.out _ B0.out).mono ?_; rintro e w5 ⟨rfl, b5⟩
    have B5 := Lib.hid (B0.out.trans (b5.mono B0.out.size))
    have IS5 := Lib.hid (keep_heap IS.out b5)
    have IT5 := Lib.hid (keep_heap IT.out b5)
    have IF5 := Lib.hid (keep_heap IF.out b5)
    clear b5 p0 p1 p2 p3 p4 p5 p6 p7 p8 t0 t1 t2 t3 t4 t5 f0 f1 f2
    cases LI
    all_goals
      go_wp2_with fail
      go_ret
      exact ⟨by rw [HR.out]; rfl, B5.out⟩
  by_cases h3 : k = 3
  · subst h3
    have HR : Hid (R = (LI && LB)) := Lib.hid (by rw [HP.out]; rfl)
    go_wp2_with fail
    go_at_call 99; with_reducible refine (HLI.out _ B0.out).mono ?_; rintro e w5 ⟨rfl, b5⟩
    have B5 := Lib.hid (B0.out.trans (b5.mono B0.out.size))
    have IS5 := Lib.hid (keep_heap IS.out b5)
    have IT5 := Lib.hid (keep_heap IT.out b5)
    have IF5 := Lib.hid (keep_heap IF.out b5)
    clear b5 p0 p1 p2 p3 p4 p5 p6 p7 p8 t0 t1 t2 t3 t4 t5 f0 f1 f2
    have f0 := cell_of_heap IF5.out 0 (v := .int .i64 3) rfl
    have f1 := cell_of_heap IF5.out 1 (v := .int .i64 a) rfl
    have f2 := cell_of_heap IF5.out 2 (v := .int .i64 n) rfl
    cases LI with
    | false =>
      have HR2 : Hid (R = false) := Lib.hid (by rw [HR.out]; rfl)
      go_wp2_with fail
      go_ret
      exact ⟨by rw [HR2.out]; rfl, B5.out⟩
    | true =>
      by_cases g1 : n ≥ 1
      · by_cases g2 : n ≤ 20000
        · have HR2 : Hid (R = true) := Lib.hid (by rw [HR.out, HLB.out, decide_eq_true g1, decide_eq_true g2]; rfl)
          go_wp2_with fail
          go_ret
          exact ⟨by rw [HR2.out]; rfl, B5.out⟩
        · have HR2 : Hid (R = false) := Lib.hid (by rw [HR.out, HLB.out, decide_eq_true g1, decide_eq_false g2]; rfl)
          have dg := decide_eq_false g2
          clear g2
          go_wp2_with fail
          go_ret
          exact ⟨by rw [HR2.out]; rfl, B5.out⟩
      · have HR2 : Hid (R = false) := Lib.hid (by rw [HR.out, HLB.out, decide_eq_false g1]; rfl)
        go_wp2_with fail
        go_ret
        exact ⟨by rw [HR2.out]; rfl, B5.out⟩
  by_cases h2 : k = 2
  · subst h2
    have HR : Hid (R = (!decide (K = 0) && !CO)) := Lib.hid (by rw [HP.out]; rfl)
    go_wp2_with fail
    go_at_call 100; with_reducible refine (HKA.out _ B0.out).mono ?_; rintro e w5 ⟨rfl, b5⟩
    have B5 := Lib.hid (B0.out.trans (b5.mono B0.out.size))
    have IS5 := Lib.hid (keep_heap IS.out b5)
    have IT5 := Lib.hid (keep_heap IT.out b5)
    have IF5 := Lib.hid (keep_heap IF.out b5)
    clear b5 p0 p1 p2 p3 p4 p5 p6 p7 p8 t0 t1 t2 t3 t4 t5 f0 f1 f2
    have t0 := cell_of_heap IT5.out 0 (v := .int .i64 s.tick) rfl
    have t1 := cell_of_heap IT5.out 1 (v := sv) rfl
    have t2 := cell_of_heap IT5.out 2 (v := rv) rfl
    have t3 := cell_of_heap IT5.out 3 (v := .slice pa L pc) rfl
    have t4 := cell_of_heap IT5.out 4 (v := dv) rfl
    have t5 := cell_of_heap IT5.out 5 (v := ku) rfl
    have f0 := cell_of_heap IF5.out 0 (v := .int .i64 2) rfl
    have f1 := cell_of_heap IF5.out 1 (v := .int .i64 a) rfl
    have f2 := cell_of_heap IF5.out 2 (v := .int .i64 n) rfl
    by_cases hK : K = 0
    · have e1 : (K != 0) = false := by simp [hK]
      have HR2 : Hid (R = false) := Lib.hid (by rw [HR.out, decide_eq_true hK]; rfl)
      clear hK
      go_wp2_with fail
      go_ret
      exact ⟨by rw [HR2.out]; rfl, B5.out⟩
    · have e1 : (K != 0) = true := by simp [hK]
      have HR2 : Hid (R = !CO) := Lib.hid (by rw [HR.out, decide_eq_false hK]; rfl)
      clear hK
      go_wp2_with fail
      go_at_call 39; with_reducible refine (HCO.out _ B5.out).mono ?_; rintro e w6 ⟨rfl, rfl⟩
      cases CO
      all_goals
        go_wp2_with fail
        go_ret
        exact ⟨by rw [HR2.out]; rfl, B5.out⟩
  by_cases h4 : k = 4
  · subst h4
    have HR : Hid (R = (decide (K = 6) && LB)) := Lib.hid (by rw [HP.out]; rfl)
    go_wp2_with fail
    go_at_call 100; with_reducible refine (HKA.out _ B0.out).mono ?_; rintro e w5 ⟨rfl, b5⟩
    have B5 := Lib.hid (B0.out.trans (b5.mono B0.out.size))
    have IS5 := Lib.hid (keep_heap IS.out b5)
    have IT5 := Lib.hid (keep_heap IT.out b5)
    have IF5 := Lib.hid (keep_heap IF.out b5)
    clear b5 p0 p1 p2 p3 p4 p5 p6 p7 p8 t0 t1 t2 t3 t4 t5 f0 f1 f2
    have f0 := cell_of_heap IF5.out 0 (v := .int .i64 4) rfl
    have f1 := cell_of_heap IF5.out 1 (v := .int .i64 a) rfl
    have f2 := cell_of_heap IF5.out 2 (v := .int .i64 n) rfl
    by_cases hK : K = 6
    · have e1 : (K == 6) = true := beq_iff_eq.2 hK
      have HR1 : Hid (R = LB) := Lib.hid (by rw [HR.out, decide_eq_true hK]; rfl)
      clear hK
      by_cases g1 : n ≥ 1
      · by_cases g2 : n ≤ 20000
        · have HR2 : Hid (R = true) := Lib.hid (by rw [HR1.out, HLB.out, decide_eq_true g1, decide_eq_true g2]; rfl)
          go_wp2_with fail
          go_ret
          exact ⟨by rw [HR2.out]; rfl, B5.out⟩
        · have HR2 : Hid (R = false) := Lib.hid (by rw [HR1.out, HLB.out, decide_eq_true g1, decide_eq_false g2]; rfl)
          have dg := decide_eq_false g2
          clear g2
          go_wp2_with fail
          go_ret
          exact ⟨by rw [HR2.out]; rfl, B5.out⟩
      · have HR2 : Hid (R = false) := Lib.hid (by rw [HR1.out, HLB.out, decide_eq_false g1]; rfl)
        go_wp2_with fail
        go_ret
        exact ⟨by rw [HR2.out]; rfl, B5.out⟩
    · have e1 : (K == 6) = false := beq_eq_false_iff_ne.2 hK
      have HR2 : Hid (R = false) := Lib.hid (by rw [HR.out, decide_eq_false hK]; rfl)
      clear hK
      go_wp2_with fail
      go_ret
      exact ⟨by rw [HR2.out]; rfl, B5.out⟩
  by_cases h5 : k = 5
  · subst h5
    obtain ⟨n0, n1⟩ := hx5 rfl
    clear hx5
    have wn : IntKind.i64.wrap (2 * n) = 2 * n := IntWalk.i64_in _ (by omega)
    have wn1 : IntKind.i64.wrap (2 * n + 1) = 2 * n + 1 := IntWalk.i64_in _ (by omega)
    have HR : Hid (R = ((decide (KN = 4) || decide (KN = 5)) && (!HV && (if a = (L : Int) then decide (KN = 5) && decide (a < 20) else decide (0 ≤ a) && (decide (a < (L : Int)) && Fa.nearB f (s.people.getD a.toNat 0) n))))) := Lib.hid (by rw [← HST.out, HP.out]; rfl)
    clear HST HP
    go_wp2_with fail
    go_at_call 100; with_reducible refine (HKN.out _ B0.out).mono ?_; rintro e w5 ⟨rfl, b5⟩
    have B5 := Lib.hid (B0.out.trans (b5.mono B0.out.size))
    have IS5 := Lib.hid (keep_heap IS.out b5)
    have IT5 := Lib.hid (keep_heap IT.out b5)
    have IF5 := Lib.hid (keep_heap IF.out b5)
    clear b5 p0 p1 p2 p3 p4 p5 p6 p7 p8 t0 t1 t2 t3 t4 t5 f0 f1 f2
    have t0 := cell_of_heap IT5.out 0 (v := .int .i64 s.tick) rfl
    have t1 := cell_of_heap IT5.out 1 (v := sv) rfl
    have t2 := cell_of_heap IT5.out 2 (v := rv) rfl
    have t3 := cell_of_heap IT5.out 3 (v := .slice pa L pc) rfl
    have t4 := cell_of_heap IT5.out 4 (v := dv) rfl
    have t5 := cell_of_heap IT5.out 5 (v := ku) rfl
    have f0 := cell_of_heap IF5.out 0 (v := .int .i64 5) rfl
    have f1 := cell_of_heap IF5.out 1 (v := .int .i64 a) rfl
    have f2 := cell_of_heap IF5.out 2 (v := .int .i64 n) rfl
    go_wp2_with fail
    go_at_call 101; with_reducible refine (HAL.out _ B5.out).mono ?_; rintro e w6 ⟨⟨v6, m, rfl, ho6, hp6⟩, b6⟩
    have HFR : Hid ((!m.contains (2 * n) && !m.contains (2 * n + 1)) = !HV) := Lib.hid (HHT.out m hp6)
    have B6 := Lib.hid (B5.out.trans (b6.mono B5.out.size))
    have IS6 := Lib.hid (keep_heap IS5.out b6)
    have IT6 := Lib.hid (keep_heap IT5.out b6)
    have IF6 := Lib.hid (keep_heap IF5.out b6)
    have HHA : Hid (∀ c, Calls Tryz.prog 39 #[v6, .int .i64 c] w6 fun e w' => e = .returned (.bool (m.contains c)) ∧ w' = w6) := Lib.hid (fun c => hasC_any v6 m c w6 (own_isF ho6))
    obtain ⟨va, vc, rfl, hvm⟩ := (own_isF ho6).form
    obtain ⟨ML, hML⟩ : ∃ q, m.length = q := ⟨_, rfl⟩
    rw [hML] at HHA hvm ⊢
    obtain ⟨c1, hc1⟩ : ∃ b, m.contains (2 * n) = b := ⟨_, rfl⟩
    obtain ⟨c2, hc2⟩ : ∃ b, m.contains (2 * n + 1) = b := ⟨_, rfl⟩
    have HH1 := Lib.hid (HHA.out (2 * n))
    have HH2 := Lib.hid (HHA.out (2 * n + 1))
    rw [hc1] at HH1 HFR
    rw [hc2] at HH2 HFR
    clear b6 hp6 ho6 hML hc1 hc2 HHA HAL HHT t0 t1 t2 t3 t4 t5 f0 f1 f2
    have f0 := cell_of_heap IF6.out 0 (v := .int .i64 5) rfl
    have f1 := cell_of_heap IF6.out 1 (v := .int .i64 a) rfl
    have f2 := cell_of_heap IF6.out 2 (v := .int .i64 n) rfl
    go_upto_region 16 with fail
    go_cut [10] (fun v10 wr => v10 = .bool (!HV) ∧ wr = w6)
    case first =>
      go_wp2_with fail
      go_at_call 39; with_reducible refine HH1.out.mono ?_; rintro e w7 ⟨rfl, rfl⟩
      cases c1 with
      | true =>
        have HX : Hid (HV = true) := Lib.hid (by have := HFR.out; revert this; cases HV <;> simp)
        go_wp2_with fail
        go_meet
        exact ⟨by rw [HX.out]; rfl, by first | rfl | trivial⟩
      | false =>
        go_wp2_with fail
        go_at_call 39; with_reducible refine HH2.out.mono ?_; rintro e w8 ⟨rfl, rfl⟩
        have HX : Hid ((!HV) = !c2) := Lib.hid (by rw [← HFR.out]; rfl)
        go_wp2_with fail
        go_meet
        exact ⟨by rw [HX.out], by first | rfl | trivial⟩
    case rest =>
      obtain ⟨rfl, rfl⟩ := hcut
      clear HFR HH1 HH2 wn1 wn
      have t0 := cell_of_heap IT6.out 0 (v := .int .i64 s.tick) rfl
      have t1 := cell_of_heap IT6.out 1 (v := sv) rfl
      have t2 := cell_of_heap IT6.out 2 (v := rv) rfl
      have t3 := cell_of_heap IT6.out 3 (v := .slice pa L pc) rfl
      have t4 := cell_of_heap IT6.out 4 (v := dv) rfl
      have t5 := cell_of_heap IT6.out 5 (v := ku) rfl
      cases HV with
      | true =>
        by_cases g0 : 0 ≤ a
        · by_cases g1 : a < (L : Int)
          · have HR2 : Hid (R = false) := Lib.hid (by rw [HR.out]; simp)
            go_upto_region 18 with fail
            refine wp_region_held_drew (S := fun _ => True) (by kernel_rfl) trivial (fun hHeld => ?_)
            have BX := Lib.hid (B6.out.trans ((below_drewN _ _ 1).mono B6.out.size))
            try simp only [Act.put, List.getElem_toArray, List.getElem_cons_zero, List.getElem_cons_succ, List.setIfInBounds_toArray, List.set_cons_zero, List.set_cons_succ]
            refine wpAnyH_take (i := 0) (oi := _) (v := ?_) rfl (by kernel_rfl) (by kernel_rfl) (by kernel_rfl) (fun _ _ _ h => h) (Or.inl ⟨by rfl, ?_⟩) trivial ?_
            rotate_left
            · intro w hSw; go_simp; all_goals (with_reducible rfl)
            try simp only [Act.put, List.getElem_toArray, List.getElem_cons_zero, List.getElem_cons_succ, List.setIfInBounds_toArray, List.set_cons_zero, List.set_cons_succ]
            refine wpAnyH_take (i := 1) (oi := _) (v := ?_) rfl (by kernel_rfl) (by kernel_rfl) (by kernel_rfl) (fun _ _ _ h => h) (Or.inl ⟨by rfl, ?_⟩) trivial ?_
            rotate_left
            · intro w hSw; go_simp; all_goals (with_reducible rfl)
            try simp only [Act.put, List.getElem_toArray, List.getElem_cons_zero, List.getElem_cons_succ, List.setIfInBounds_toArray, List.set_cons_zero, List.set_cons_succ]
            refine wpAnyH_take (i := 2) (oi := _) (v := undef) rfl (by kernel_rfl) (by kernel_rfl) (by kernel_rfl) (fun _ _ _ h => h) (Or.inr ⟨by rfl, rfl⟩) trivial ?_
            try simp only [Act.put, List.getElem_toArray, List.getElem_cons_zero, List.getElem_cons_succ, List.setIfInBounds_toArray, List.set_cons_zero, List.set_cons_succ]
            refine wpAnyH_take (i := 3) (oi := _) (v := undef) rfl (by kernel_rfl) (by kernel_rfl) (by kernel_rfl) (fun _ _ _ h => h) (Or.inr ⟨by rfl, rfl⟩) trivial ?_
            try simp only [Act.put, List.getElem_toArray, List.getElem_cons_zero, List.getElem_cons_succ, List.setIfInBounds_toArray, List.set_cons_zero, List.set_cons_succ]
            refine wpAnyH_take (i := 4) (oi := _) (v := undef) rfl (by kernel_rfl) (by kernel_rfl) (by kernel_rfl) (fun _ _ _ h => h) (Or.inr ⟨by rfl, rfl⟩) trivial ?_
            try simp only [Act.put, List.getElem_toArray, List.getElem_cons_zero, List.getElem_cons_succ, List.setIfInBounds_toArray, List.set_cons_zero, List.set_cons_succ]
            refine wpAnyH_take (i := 5) (oi := _) (v := undef) rfl (by kernel_rfl) (by kernel_rfl) (by kernel_rfl) (fun _ _ _ h => h) (Or.inr ⟨by rfl, rfl⟩) trivial ?_
            try simp only [Act.put, List.getElem_toArray, List.getElem_cons_zero, List.getElem_cons_succ, List.setIfInBounds_toArray, List.set_cons_zero, List.set_cons_succ]
            refine wpAnyH_take (i := 6) (oi := _) (v := undef) rfl (by kernel_rfl) (by kernel_rfl) (by kernel_rfl) (fun _ _ _ h => h) (Or.inr ⟨by rfl, rfl⟩) trivial ?_
            try simp only [Act.put, List.getElem_toArray, List.getElem_cons_zero, List.getElem_cons_succ, List.setIfInBounds_toArray, List.set_cons_zero, List.set_cons_succ]
            refine wpAnyH_take (i := 7) (oi := _) (v := undef) rfl (by kernel_rfl) (by kernel_rfl) (by kernel_rfl) (fun _ _ _ h => h) (Or.inr ⟨by rfl, rfl⟩) trivial ?_
            try simp only [Act.put, List.getElem_toArray, List.getElem_cons_zero, List.getElem_cons_succ, List.setIfInBounds_toArray, List.set_cons_zero, List.set_cons_succ]
            refine wpAnyH_take (i := 8) (oi := _) (v := ?_) rfl (by kernel_rfl) (by kernel_rfl) (by kernel_rfl) (fun _ _ _ h => h) (Or.inl ⟨by rfl, ?_⟩) trivial ?_
            rotate_left
            · intro w hSw; go_simp; all_goals (with_reducible rfl)
            try simp only [Act.put, List.getElem_toArray, List.getElem_cons_zero, List.getElem_cons_succ, List.setIfInBounds_toArray, List.set_cons_zero, List.set_cons_succ]
            refine wpAnyH_take (i := 9) (oi := _) (v := ?_) rfl (by kernel_rfl) (by kernel_rfl) (by kernel_rfl) (fun _ _ _ h => h) (Or.inl ⟨by rfl, ?_⟩) trivial ?_
            rotate_left
            · intro w hSw; go_simp; all_goals (with_reducible rfl)
            try simp only [Act.put, List.getElem_toArray, List.getElem_cons_zero, List.getElem_cons_succ, List.setIfInBounds_toArray, List.set_cons_zero, List.set_cons_succ]
            refine wpAnyH_take (i := 10) (oi := _) (v := undef) rfl (by kernel_rfl) (by kernel_rfl) (by kernel_rfl) (fun _ _ _ h => h) (Or.inr ⟨by rfl, rfl⟩) trivial ?_
            try simp only [Act.put, List.getElem_toArray, List.getElem_cons_zero, List.getElem_cons_succ, List.setIfInBounds_toArray, List.set_cons_zero, List.set_cons_succ]
            refine wpAnyH_take (i := 11) (oi := _) (v := undef) rfl (by kernel_rfl) (by kernel_rfl) (by kernel_rfl) (fun _ _ _ h => h) (Or.inr ⟨by rfl, rfl⟩) trivial ?_
            try simp only [Act.put, List.getElem_toArray, List.getElem_cons_zero, List.getElem_cons_succ, List.setIfInBounds_toArray, List.set_cons_zero, List.set_cons_succ]
            refine wpAnyH_take (i := 12) (oi := _) (v := undef) rfl (by kernel_rfl) (by kernel_rfl) (by kernel_rfl) (fun _ _ _ h => h) (Or.inr ⟨by rfl, rfl⟩) trivial ?_
            try simp only [Act.put, List.getElem_toArray, List.getElem_cons_zero, List.getElem_cons_succ, List.setIfInBounds_toArray, List.set_cons_zero, List.set_cons_succ]
            refine wpAnyH_take (i := 13) (oi := _) (v := undef) rfl (by kernel_rfl) (by kernel_rfl) (by kernel_rfl) (fun _ _ _ h => h) (Or.inr ⟨by rfl, rfl⟩) trivial ?_
            try simp only [Act.put, List.getElem_toArray, List.getElem_cons_zero, List.getElem_cons_succ, List.setIfInBounds_toArray, List.set_cons_zero, List.set_cons_succ]
            refine wpAnyH_take (i := 14) (oi := _) (v := undef) rfl (by kernel_rfl) (by kernel_rfl) (by kernel_rfl) (fun _ _ _ h => h) (Or.inr ⟨by rfl, rfl⟩) trivial ?_
            try simp only [Act.put, List.getElem_toArray, List.getElem_cons_zero, List.getElem_cons_succ, List.setIfInBounds_toArray, List.set_cons_zero, List.set_cons_succ]
            refine wpAnyH_take (i := 15) (oi := _) (v := undef) rfl (by kernel_rfl) (by kernel_rfl) (by kernel_rfl) (fun _ _ _ h => h) (Or.inr ⟨by rfl, rfl⟩) trivial ?_
            try simp only [Act.put, List.getElem_toArray, List.getElem_cons_zero, List.getElem_cons_succ, List.setIfInBounds_toArray, List.set_cons_zero, List.set_cons_succ]
            refine wpAnyH_take (i := 16) (oi := _) (v := undef) rfl (by kernel_rfl) (by kernel_rfl) (by kernel_rfl) (fun _ _ _ h => h) (Or.inr ⟨by rfl, rfl⟩) trivial ?_
            try simp only [Act.put, List.getElem_toArray, List.getElem_cons_zero, List.getElem_cons_succ, List.setIfInBounds_toArray, List.set_cons_zero, List.set_cons_succ]
            refine wpAnyH_take (i := 17) (oi := _) (v := undef) rfl (by kernel_rfl) (by kernel_rfl) (by kernel_rfl) (fun _ _ _ h => h) (Or.inr ⟨by rfl, rfl⟩) trivial ?_
            try simp only [Act.put, List.getElem_toArray, List.getElem_cons_zero, List.getElem_cons_succ, List.setIfInBounds_toArray, List.set_cons_zero, List.set_cons_succ]
            refine wpAnyH_take (i := 18) (oi := _) (v := undef) rfl (by kernel_rfl) (by kernel_rfl) (by kernel_rfl) (fun _ _ _ h => h) (Or.inr ⟨by rfl, rfl⟩) trivial ?_
            try simp only [Act.put, List.getElem_toArray, List.getElem_cons_zero, List.getElem_cons_succ, List.setIfInBounds_toArray, List.set_cons_zero, List.set_cons_succ]
            refine wpAnyH_take (i := 19) (oi := _) (v := undef) rfl (by kernel_rfl) (by kernel_rfl) (by kernel_rfl) (fun _ _ _ h => h) (Or.inr ⟨by rfl, rfl⟩) trivial ?_
            try simp only [Act.put, List.getElem_toArray, List.getElem_cons_zero, List.getElem_cons_succ, List.setIfInBounds_toArray, List.set_cons_zero, List.set_cons_succ]
            refine wpAnyH_take (i := 20) (oi := _) (v := undef) rfl (by kernel_rfl) (by kernel_rfl) (by kernel_rfl) (fun _ _ _ h => h) (Or.inr ⟨by rfl, rfl⟩) trivial ?_
            try simp only [Act.put, List.getElem_toArray, List.getElem_cons_zero, List.getElem_cons_succ, List.setIfInBounds_toArray, List.set_cons_zero, List.set_cons_succ]
            refine wpAnyH_take (i := 21) (oi := _) (v := ?_) rfl (by kernel_rfl) (by kernel_rfl) (by kernel_rfl) (fun _ _ _ h => h) (Or.inl ⟨by rfl, ?_⟩) trivial ?_
            rotate_left
            · intro w hSw; go_simp; all_goals (with_reducible rfl)
            try simp only [Act.put, List.getElem_toArray, List.getElem_cons_zero, List.getElem_cons_succ, List.setIfInBounds_toArray, List.set_cons_zero, List.set_cons_succ]
            refine wpAnyH_take (i := 22) (oi := _) (v := ?_) rfl (by kernel_rfl) (by kernel_rfl) (by kernel_rfl) (fun _ _ _ h => h) (Or.inl ⟨by rfl, ?_⟩) trivial ?_
            rotate_left
            · intro w hSw; go_simp; all_goals (with_reducible rfl)
            try simp only [Act.put, List.getElem_toArray, List.getElem_cons_zero, List.getElem_cons_succ, List.setIfInBounds_toArray, List.set_cons_zero, List.set_cons_succ]
            refine wpAnyH_done (by kernel_rfl) ?_ _
            go_wp2_with fail
            go_ret
            exact ⟨by rw [HR2.out]; rfl, BX.out⟩
          · by_cases g2 : a = (L : Int)
            · have e2 : (a == (L : Int)) = true := beq_iff_eq.2 g2
              have HR2 : Hid (R = false) := Lib.hid (by rw [HR.out]; simp)
              clear g2
              go_wp2_with fail
              go_ret
              exact ⟨by rw [HR2.out]; rfl, B6.out⟩
            · have e2 : (a == (L : Int)) = false := beq_eq_false_iff_ne.2 g2
              have HR2 : Hid (R = false) := Lib.hid (by rw [HR.out]; simp)
              go_wp2_with fail
              go_ret
              exact ⟨by rw [HR2.out]; rfl, B6.out⟩
        · have HR2 : Hid (R = false) := Lib.hid (by rw [HR.out]; simp)
          go_wp2_with fail
          go_ret
          exact ⟨by rw [HR2.out]; rfl, B6.out⟩
      | false =>
        by_cases g0 : 0 ≤ a
        · by_cases g1 : a < (L : Int)
          · obtain ⟨i, rfl⟩ := Int.eq_ofNat_of_zero_le g0
            have hi : i < s.people.length := by rw [HL.out]; omega
            obtain ⟨pb, po, rfl, r0⟩ := H.out.pe.cell i hi
            have hpb := cell_block_lt r0
            dsimp only at hpb
            obtain ⟨X, hX⟩ : ∃ X, s.people[i] = X := ⟨_, rfl⟩
            have HRN : Hid (R = ((decide (KN = 4) || decide (KN = 5)) && Fa.nearB f X n)) := Lib.hid (by rw [HR.out, if_neg (by omega), decide_eq_true g0, decide_eq_true g1, Int.toNat_natCast, getD_lt2 _ _ _ hi, hX]; simp)
            rw [hX] at r0
            rw [← B6.out.cell (p := ⟨pb, po + i, none⟩) hpb] at r0
            obtain ⟨Z, hZ⟩ : ∃ Z, Fa.nearB f X n = Z := ⟨_, rfl⟩
            have HNX : Hid (∀ W, _) := Lib.hid (fun W => by have := HNE.out X W; rw [hZ] at this; exact this)
            rw [hZ] at HRN
            clear hX hZ HR HNE hpb
            have p0 := cell_of_heap IS6.out 0 (v := .int .i64 f.w) rfl
            have p1 := cell_of_heap IS6.out 1 (v := .int .i64 f.h) rfl
            have p2 := cell_of_heap IS6.out 2 (v := .int .i64 f.d) rfl
            have p3 := cell_of_heap IS6.out 3 (v := kv) rfl
            have p4 := cell_of_heap IS6.out 4 (v := ov) rfl
            have p5 := cell_of_heap IS6.out 5 (v := zv) rfl
            have p6 := cell_of_heap IS6.out 6 (v := av) rfl
            have p7 := cell_of_heap IS6.out 7 (v := hv) rfl
            have p8 := cell_of_heap IS6.out 8 (v := bv) rfl
            by_cases k4 : KN = 4
            · have e4 : (KN == 4) = true := beq_iff_eq.2 k4
              have e5 : (KN == 5) = false := beq_eq_false_iff_ne.2 (by omega)
              have HR2 : Hid (R = Z) := Lib.hid (by rw [HRN.out, k4]; simp)
              clear k4
              go_upto_region 18 with fail
              refine wp_region_held_drew (S := fun W' => W'.cell? ⟨w.heap.size, 0, none⟩ = some (.int .i64 f.w) ∧ W'.cell? ⟨w.heap.size, 1, none⟩ = some (.int .i64 f.h) ∧ W'.cell? ⟨w.heap.size, 2, none⟩ = some (.int .i64 f.d) ∧ W'.cell? ⟨w.heap.size, 3, none⟩ = some (kv) ∧ W'.cell? ⟨w.heap.size, 4, none⟩ = some (ov) ∧ W'.cell? ⟨w.heap.size + 1, 3, none⟩ = some (.slice (some ⟨pb, po, none⟩) L pc) ∧ W'.cell? ⟨w.heap.size + 1 + 1, 1, none⟩ = some (.int .i64 (i : Int)) ∧ W'.cell? ⟨w.heap.size + 1 + 1, 2, none⟩ = some (.int .i64 n) ∧ W'.cell? ⟨pb, po + i, none⟩ = some (.int .i64 X)) (by kernel_rfl) ⟨p0, p1, p2, p3, p4, t3, f1, f2, r0⟩ (fun hHeld => ?_)
              have BX := Lib.hid (B6.out.trans ((below_drewN _ _ 1).mono B6.out.size))
              clear r0 p0 p1 p2 p3 p4 p5 p6 p7 p8 t0 t1 t2 t3 t4 t5 f0 f1 f2
              try simp only [Act.put, List.getElem_toArray, List.getElem_cons_zero, List.getElem_cons_succ, List.setIfInBounds_toArray, List.set_cons_zero, List.set_cons_succ]
              refine wpAnyH_take (i := 0) (oi := _) (v := ?_) rfl (by kernel_rfl) (by kernel_rfl) (by kernel_rfl) (fun _ _ _ h => h) (Or.inl ⟨by rfl, ?_⟩) (by assumption) ?_
              rotate_left
              · intro w hSw; obtain ⟨k0, k1, k2, k3, k4, k5, k6, k7, k8⟩ := hSw; go_simp; all_goals (with_reducible rfl)
              try simp only [Act.put, List.getElem_toArray, List.getElem_cons_zero, List.getElem_cons_succ, List.setIfInBounds_toArray, List.set_cons_zero, List.set_cons_succ]
              refine wpAnyH_take (i := 1) (oi := _) (v := ?_) rfl (by kernel_rfl) (by kernel_rfl) (by kernel_rfl) (fun _ _ _ h => h) (Or.inl ⟨by rfl, ?_⟩) (by assumption) ?_
              rotate_left
              · intro w hSw; obtain ⟨k0, k1, k2, k3, k4, k5, k6, k7, k8⟩ := hSw; go_simp; all_goals (with_reducible rfl)
              try simp only [Act.put, List.getElem_toArray, List.getElem_cons_zero, List.getElem_cons_succ, List.setIfInBounds_toArray, List.set_cons_zero, List.set_cons_succ]
              refine wpAnyH_take (i := 2) (oi := _) (v := ?_) rfl (by kernel_rfl) (by kernel_rfl) (by kernel_rfl) (fun _ _ _ h => h) (Or.inl ⟨by rfl, ?_⟩) (by assumption) ?_
              rotate_left
              · intro w hSw; obtain ⟨k0, k1, k2, k3, k4, k5, k6, k7, k8⟩ := hSw; go_simp; all_goals (with_reducible rfl)
              try simp only [Act.put, List.getElem_toArray, List.getElem_cons_zero, List.getElem_cons_succ, List.setIfInBounds_toArray, List.set_cons_zero, List.set_cons_succ]
              refine wpAnyH_take (i := 3) (oi := _) (v := ?_) rfl (by kernel_rfl) (by kernel_rfl) (by kernel_rfl) (fun _ _ _ h => h) (Or.inl ⟨by rfl, ?_⟩) (by assumption) ?_
              rotate_left
              · intro w hSw; obtain ⟨k0, k1, k2, k3, k4, k5, k6, k7, k8⟩ := hSw; go_simp; all_goals (with_reducible rfl)
              try simp only [Act.put, List.getElem_toArray, List.getElem_cons_zero, List.getElem_cons_succ, List.setIfInBounds_toArray, List.set_cons_zero, List.set_cons_succ]
              refine wpAnyH_take (i := 4) (oi := _) (v := ?_) rfl (by kernel_rfl) (by kernel_rfl) (by kernel_rfl) (fun _ _ _ h => h) (Or.inl ⟨by rfl, ?_⟩) (by assumption) ?_
              rotate_left
              · intro w hSw; obtain ⟨k0, k1, k2, k3, k4, k5, k6, k7, k8⟩ := hSw; go_simp; all_goals (with_reducible rfl)
              try simp only [Act.put, List.getElem_toArray, List.getElem_cons_zero, List.getElem_cons_succ, List.setIfInBounds_toArray, List.set_cons_zero, List.set_cons_succ]
              refine wpAnyH_take (i := 5) (oi := _) (v := undef) rfl (by kernel_rfl) (by kernel_rfl) (by kernel_rfl) (fun _ _ _ h => h) (Or.inr ⟨by rfl, rfl⟩) (by assumption) ?_
              try simp only [Act.put, List.getElem_toArray, List.getElem_cons_zero, List.getElem_cons_succ, List.setIfInBounds_toArray, List.set_cons_zero, List.set_cons_succ]
              refine wpAnyH_take (i := 6) (oi := _) (v := undef) rfl (by kernel_rfl) (by kernel_rfl) (by kernel_rfl) (fun _ _ _ h => h) (Or.inr ⟨by rfl, rfl⟩) (by assumption) ?_
              try simp only [Act.put, List.getElem_toArray, List.getElem_cons_zero, List.getElem_cons_succ, List.setIfInBounds_toArray, List.set_cons_zero, List.set_cons_succ]
              refine wpAnyH_take (i := 7) (oi := _) (v := ?_) rfl (by kernel_rfl) (by kernel_rfl) (by kernel_rfl) (fun _ _ _ h => h) (Or.inl ⟨by rfl, ?_⟩) (by assumption) ?_
              rotate_left
              · intro w hSw; obtain ⟨k0, k1, k2, k3, k4, k5, k6, k7, k8⟩ := hSw; go_simp; all_goals (with_reducible rfl)
              try simp only [Act.put, List.getElem_toArray, List.getElem_cons_zero, List.getElem_cons_succ, List.setIfInBounds_toArray, List.set_cons_zero, List.set_cons_succ]
              refine wpAnyH_take (i := 8) (oi := _) (v := ?_) rfl (by kernel_rfl) (by kernel_rfl) (by kernel_rfl) (fun _ _ _ h => h) (Or.inl ⟨by rfl, ?_⟩) (by assumption) ?_
              rotate_left
              · intro w hSw; obtain ⟨k0, k1, k2, k3, k4, k5, k6, k7, k8⟩ := hSw; go_simp; all_goals (with_reducible rfl)
              try simp only [Act.put, List.getElem_toArray, List.getElem_cons_zero, List.getElem_cons_succ, List.setIfInBounds_toArray, List.set_cons_zero, List.set_cons_succ]
              refine wpAnyH_take (i := 9) (oi := _) (v := ?_) rfl (by kernel_rfl) (by kernel_rfl) (by kernel_rfl) (fun _ _ _ h => h) (Or.inl ⟨by rfl, ?_⟩) (by assumption) ?_
              rotate_left
              · intro w hSw; obtain ⟨k0, k1, k2, k3, k4, k5, k6, k7, k8⟩ := hSw; go_simp; all_goals (with_reducible rfl)
              try simp only [Act.put, List.getElem_toArray, List.getElem_cons_zero, List.getElem_cons_succ, List.setIfInBounds_toArray, List.set_cons_zero, List.set_cons_succ]
              refine wpAnyH_take (i := 10) (oi := _) (v := ?_) rfl (by kernel_rfl) (by kernel_rfl) (by kernel_rfl) (fun _ _ _ h => h) (Or.inl ⟨by rfl, ?_⟩) (by assumption) ?_
              rotate_left
              · intro w hSw; obtain ⟨k0, k1, k2, k3, k4, k5, k6, k7, k8⟩ := hSw; go_simp; all_goals (with_reducible rfl)
              try simp only [Act.put, List.getElem_toArray, List.getElem_cons_zero, List.getElem_cons_succ, List.setIfInBounds_toArray, List.set_cons_zero, List.set_cons_succ]
              refine wpAnyH_take (i := 11) (oi := _) (v := ?_) rfl (by kernel_rfl) (by kernel_rfl) (by kernel_rfl) (fun _ _ _ h => h) (Or.inl ⟨by rfl, ?_⟩) (by assumption) ?_
              rotate_left
              · intro w hSw; obtain ⟨k0, k1, k2, k3, k4, k5, k6, k7, k8⟩ := hSw; go_simp; all_goals (with_reducible rfl)
              try simp only [Act.put, List.getElem_toArray, List.getElem_cons_zero, List.getElem_cons_succ, List.setIfInBounds_toArray, List.set_cons_zero, List.set_cons_succ]
              refine wpAnyH_take (i := 12) (oi := _) (v := ?_) rfl (by kernel_rfl) (by kernel_rfl) (by kernel_rfl) (fun _ _ _ h => h) (Or.inl ⟨by rfl, ?_⟩) (by assumption) ?_
              rotate_left
              · intro w hSw; obtain ⟨k0, k1, k2, k3, k4, k5, k6, k7, k8⟩ := hSw; go_simp; all_goals (with_reducible rfl)
              try simp only [Act.put, List.getElem_toArray, List.getElem_cons_zero, List.getElem_cons_succ, List.setIfInBounds_toArray, List.set_cons_zero, List.set_cons_succ]
              refine wpAnyH_take (i := 13) (oi := _) (v := ?_) rfl (by kernel_rfl) (by kernel_rfl) (by kernel_rfl) (fun _ _ _ h => h) (Or.inl ⟨by rfl, ?_⟩) (by assumption) ?_
              rotate_left
              · intro w hSw; obtain ⟨k0, k1, k2, k3, k4, k5, k6, k7, k8⟩ := hSw; go_simp; all_goals (with_reducible rfl)
              try simp only [Act.put, List.getElem_toArray, List.getElem_cons_zero, List.getElem_cons_succ, List.setIfInBounds_toArray, List.set_cons_zero, List.set_cons_succ]
              refine wpAnyH_take (i := 14) (oi := _) (v := ?_) rfl (by kernel_rfl) (by kernel_rfl) (by kernel_rfl) (fun _ _ _ h => h) (Or.inl ⟨by rfl, ?_⟩) (by assumption) ?_
              rotate_left
              · intro w hSw; obtain ⟨k0, k1, k2, k3, k4, k5, k6, k7, k8⟩ := hSw; go_simp; all_goals (with_reducible rfl)
              try simp only [Act.put, List.getElem_toArray, List.getElem_cons_zero, List.getElem_cons_succ, List.setIfInBounds_toArray, List.set_cons_zero, List.set_cons_succ]
              refine wpAnyH_take (i := 15) (oi := _) (v := ?_) rfl (by kernel_rfl) (by kernel_rfl) (by kernel_rfl) (fun _ _ _ h => h) (Or.inl ⟨by rfl, ?_⟩) (by assumption) ?_
              rotate_left
              · intro w hSw; obtain ⟨k0, k1, k2, k3, k4, k5, k6, k7, k8⟩ := hSw; go_simp; all_goals (with_reducible rfl)
              try simp only [Act.put, List.getElem_toArray, List.getElem_cons_zero, List.getElem_cons_succ, List.setIfInBounds_toArray, List.set_cons_zero, List.set_cons_succ]
              refine wpAnyH_take (i := 16) (oi := _) (v := ?_) rfl (by kernel_rfl) (by kernel_rfl) (by kernel_rfl) (fun _ _ _ h => h) (Or.inl ⟨by rfl, ?_⟩) (by assumption) ?_
              rotate_left
              · intro w hSw; obtain ⟨k0, k1, k2, k3, k4, k5, k6, k7, k8⟩ := hSw; go_simp; all_goals (with_reducible rfl)
              try simp only [Act.put, List.getElem_toArray, List.getElem_cons_zero, List.getElem_cons_succ, List.setIfInBounds_toArray, List.set_cons_zero, List.set_cons_succ]
              refine wpAnyH_take (i := 17) (oi := _) (v := ?_) rfl (by kernel_rfl) (by kernel_rfl) (by kernel_rfl) (fun _ _ _ h => h) (Or.inl ⟨by rfl, ?_⟩) (by assumption) ?_
              rotate_left
              · intro w hSw; obtain ⟨k0, k1, k2, k3, k4, k5, k6, k7, k8⟩ := hSw; go_simp; all_goals (with_reducible rfl)
              try simp only [Act.put, List.getElem_toArray, List.getElem_cons_zero, List.getElem_cons_succ, List.setIfInBounds_toArray, List.set_cons_zero, List.set_cons_succ]
              refine wpAnyH_take (i := 18) (oi := _) (v := ?_) rfl (by kernel_rfl) (by kernel_rfl) (by kernel_rfl) (fun _ _ _ h => h) (Or.inl ⟨by rfl, ?_⟩) (by assumption) ?_
              rotate_left
              · intro w hSw; obtain ⟨k0, k1, k2, k3, k4, k5, k6, k7, k8⟩ := hSw; go_simp; all_goals (with_reducible rfl)
              try simp only [Act.put, List.getElem_toArray, List.getElem_cons_zero, List.getElem_cons_succ, List.setIfInBounds_toArray, List.set_cons_zero, List.set_cons_succ]
              refine wpAnyH_take (i := 19) (oi := _) (v := ?_) rfl (by kernel_rfl) (by kernel_rfl) (by kernel_rfl) (fun _ _ _ h => h) (Or.inl ⟨by rfl, ?_⟩) (by assumption) ?_
              rotate_left
              · intro w hSw; obtain ⟨k0, k1, k2, k3, k4, k5, k6, k7, k8⟩ := hSw; go_simp; all_goals (with_reducible rfl)
              try simp only [Act.put, List.getElem_toArray, List.getElem_cons_zero, List.getElem_cons_succ, List.setIfInBounds_toArray, List.set_cons_zero, List.set_cons_succ]
              refine wpAnyH_ready (rs := [20]) (by kernel_rfl) (by simp) ?_
              refine AllReadyH.cons (o := _) rfl (fun K9 hK => ?_) AllReadyH.nil
              go_simp
              go_at_call 102; with_reducible refine (HNX.out _).mono ?_; rintro e w9 ⟨rfl, b9⟩
              have B9 := Lib.hid (BX.out.trans (b9.mono BX.out.size))
              have SX : w9.cell? ⟨w.heap.size, 0, none⟩ = some (.int .i64 f.w) ∧ w9.cell? ⟨w.heap.size, 1, none⟩ = some (.int .i64 f.h) ∧ w9.cell? ⟨w.heap.size, 2, none⟩ = some (.int .i64 f.d) ∧ w9.cell? ⟨w.heap.size, 3, none⟩ = some (kv) ∧ w9.cell? ⟨w.heap.size, 4, none⟩ = some (ov) ∧ w9.cell? ⟨w.heap.size + 1, 3, none⟩ = some (.slice (some ⟨pb, po, none⟩) L pc) ∧ w9.cell? ⟨w.heap.size + 1 + 1, 1, none⟩ = some (.int .i64 (i : Int)) ∧ w9.cell? ⟨w.heap.size + 1 + 1, 2, none⟩ = some (.int .i64 n) ∧ w9.cell? ⟨pb, po + i, none⟩ = some (.int .i64 X) := by
                obtain ⟨k0, k1, k2, k3, k4, k5, k6, k7, k8⟩ := hHeld
                exact ⟨(b9.cell (cell_block_lt k0)).trans k0, (b9.cell (cell_block_lt k1)).trans k1, (b9.cell (cell_block_lt k2)).trans k2, (b9.cell (cell_block_lt k3)).trans k3, (b9.cell (cell_block_lt k4)).trans k4, (b9.cell (cell_block_lt k5)).trans k5, (b9.cell (cell_block_lt k6)).trans k6, (b9.cell (cell_block_lt k7)).trans k7, (b9.cell (cell_block_lt k8)).trans k8⟩
              clear b9 hHeld
              go_simp
              refine hK.out _ _ SX (fun hHeld => ?_)
              clear hK K9 SX
              try simp only [Act.put, List.getElem_toArray, List.getElem_cons_zero, List.getElem_cons_succ, List.setIfInBounds_toArray, List.set_cons_zero, List.set_cons_succ]
              refine wpAnyH_take (i := 21) (oi := _) (v := ?_) rfl (by kernel_rfl) (by kernel_rfl) (by kernel_rfl) (fun _ _ _ h => h) (Or.inl ⟨by rfl, ?_⟩) (by assumption) ?_
              rotate_left
              · intro w hSw; obtain ⟨k0, k1, k2, k3, k4, k5, k6, k7, k8⟩ := hSw; go_simp; all_goals (with_reducible rfl)
              try simp only [Act.put, List.getElem_toArray, List.getElem_cons_zero, List.getElem_cons_succ, List.setIfInBounds_toArray, List.set_cons_zero, List.set_cons_succ]
              refine wpAnyH_take (i := 22) (oi := _) (v := ?_) rfl (by kernel_rfl) (by kernel_rfl) (by kernel_rfl) (fun _ _ _ h => h) (Or.inl ⟨by rfl, ?_⟩) (by assumption) ?_
              rotate_left
              · intro w hSw; obtain ⟨k0, k1, k2, k3, k4, k5, k6, k7, k8⟩ := hSw; go_simp; all_goals (with_reducible rfl)
              try simp only [Act.put, List.getElem_toArray, List.getElem_cons_zero, List.getElem_cons_succ, List.setIfInBounds_toArray, List.set_cons_zero, List.set_cons_succ]
              refine wpAnyH_done (by kernel_rfl) ?_ _
              clear hHeld
              cases Z
              all_goals
                go_wp2_with fail
                go_ret
                exact ⟨by rw [HR2.out]; rfl, B9.out⟩
            · have e4 : (KN == 4) = false := beq_eq_false_iff_ne.2 k4
              by_cases k5 : KN = 5
              · have e5 : (KN == 5) = true := beq_iff_eq.2 k5
                have HR2 : Hid (R = Z) := Lib.hid (by rw [HRN.out, k5]; simp)
                clear k4 k5
                go_upto_region 18 with fail
                refine wp_region_held_drew (S := fun W' => W'.cell? ⟨w.heap.size, 0, none⟩ = some (.int .i64 f.w) ∧ W'.cell? ⟨w.heap.size, 1, none⟩ = some (.int .i64 f.h) ∧ W'.cell? ⟨w.heap.size, 2, none⟩ = some (.int .i64 f.d) ∧ W'.cell? ⟨w.heap.size, 3, none⟩ = some (kv) ∧ W'.cell? ⟨w.heap.size, 4, none⟩ = some (ov) ∧ W'.cell? ⟨w.heap.size + 1, 3, none⟩ = some (.slice (some ⟨pb, po, none⟩) L pc) ∧ W'.cell? ⟨w.heap.size + 1 + 1, 1, none⟩ = some (.int .i64 (i : Int)) ∧ W'.cell? ⟨w.heap.size + 1 + 1, 2, none⟩ = some (.int .i64 n) ∧ W'.cell? ⟨pb, po + i, none⟩ = some (.int .i64 X)) (by kernel_rfl) ⟨p0, p1, p2, p3, p4, t3, f1, f2, r0⟩ (fun hHeld => ?_)
                have BX := Lib.hid (B6.out.trans ((below_drewN _ _ 1).mono B6.out.size))
                clear r0 p0 p1 p2 p3 p4 p5 p6 p7 p8 t0 t1 t2 t3 t4 t5 f0 f1 f2
                try simp only [Act.put, List.getElem_toArray, List.getElem_cons_zero, List.getElem_cons_succ, List.setIfInBounds_toArray, List.set_cons_zero, List.set_cons_succ]
                refine wpAnyH_take (i := 0) (oi := _) (v := ?_) rfl (by kernel_rfl) (by kernel_rfl) (by kernel_rfl) (fun _ _ _ h => h) (Or.inl ⟨by rfl, ?_⟩) (by assumption) ?_
                rotate_left
                · intro w hSw; obtain ⟨k0, k1, k2, k3, k4, k5, k6, k7, k8⟩ := hSw; go_simp; all_goals (with_reducible rfl)
                try simp only [Act.put, List.getElem_toArray, List.getElem_cons_zero, List.getElem_cons_succ, List.setIfInBounds_toArray, List.set_cons_zero, List.set_cons_succ]
                refine wpAnyH_take (i := 1) (oi := _) (v := ?_) rfl (by kernel_rfl) (by kernel_rfl) (by kernel_rfl) (fun _ _ _ h => h) (Or.inl ⟨by rfl, ?_⟩) (by assumption) ?_
                rotate_left
                · intro w hSw; obtain ⟨k0, k1, k2, k3, k4, k5, k6, k7, k8⟩ := hSw; go_simp; all_goals (with_reducible rfl)
                try simp only [Act.put, List.getElem_toArray, List.getElem_cons_zero, List.getElem_cons_succ, List.setIfInBounds_toArray, List.set_cons_zero, List.set_cons_succ]
                refine wpAnyH_take (i := 2) (oi := _) (v := ?_) rfl (by kernel_rfl) (by kernel_rfl) (by kernel_rfl) (fun _ _ _ h => h) (Or.inl ⟨by rfl, ?_⟩) (by assumption) ?_
                rotate_left
                · intro w hSw; obtain ⟨k0, k1, k2, k3, k4, k5, k6, k7, k8⟩ := hSw; go_simp; all_goals (with_reducible rfl)
                try simp only [Act.put, List.getElem_toArray, List.getElem_cons_zero, List.getElem_cons_succ, List.setIfInBounds_toArray, List.set_cons_zero, List.set_cons_succ]
                refine wpAnyH_take (i := 3) (oi := _) (v := ?_) rfl (by kernel_rfl) (by kernel_rfl) (by kernel_rfl) (fun _ _ _ h => h) (Or.inl ⟨by rfl, ?_⟩) (by assumption) ?_
                rotate_left
                · intro w hSw; obtain ⟨k0, k1, k2, k3, k4, k5, k6, k7, k8⟩ := hSw; go_simp; all_goals (with_reducible rfl)
                try simp only [Act.put, List.getElem_toArray, List.getElem_cons_zero, List.getElem_cons_succ, List.setIfInBounds_toArray, List.set_cons_zero, List.set_cons_succ]
                refine wpAnyH_take (i := 4) (oi := _) (v := ?_) rfl (by kernel_rfl) (by kernel_rfl) (by kernel_rfl) (fun _ _ _ h => h) (Or.inl ⟨by rfl, ?_⟩) (by assumption) ?_
                rotate_left
                · intro w hSw; obtain ⟨k0, k1, k2, k3, k4, k5, k6, k7, k8⟩ := hSw; go_simp; all_goals (with_reducible rfl)
                try simp only [Act.put, List.getElem_toArray, List.getElem_cons_zero, List.getElem_cons_succ, List.setIfInBounds_toArray, List.set_cons_zero, List.set_cons_succ]
                refine wpAnyH_take (i := 5) (oi := _) (v := ?_) rfl (by kernel_rfl) (by kernel_rfl) (by kernel_rfl) (fun _ _ _ h => h) (Or.inl ⟨by rfl, ?_⟩) (by assumption) ?_
                rotate_left
                · intro w hSw; obtain ⟨k0, k1, k2, k3, k4, k5, k6, k7, k8⟩ := hSw; go_simp; all_goals (with_reducible rfl)
                try simp only [Act.put, List.getElem_toArray, List.getElem_cons_zero, List.getElem_cons_succ, List.setIfInBounds_toArray, List.set_cons_zero, List.set_cons_succ]
                refine wpAnyH_take (i := 6) (oi := _) (v := ?_) rfl (by kernel_rfl) (by kernel_rfl) (by kernel_rfl) (fun _ _ _ h => h) (Or.inl ⟨by rfl, ?_⟩) (by assumption) ?_
                rotate_left
                · intro w hSw; obtain ⟨k0, k1, k2, k3, k4, k5, k6, k7, k8⟩ := hSw; go_simp; all_goals (with_reducible rfl)
                try simp only [Act.put, List.getElem_toArray, List.getElem_cons_zero, List.getElem_cons_succ, List.setIfInBounds_toArray, List.set_cons_zero, List.set_cons_succ]
                refine wpAnyH_take (i := 7) (oi := _) (v := ?_) rfl (by kernel_rfl) (by kernel_rfl) (by kernel_rfl) (fun _ _ _ h => h) (Or.inl ⟨by rfl, ?_⟩) (by assumption) ?_
                rotate_left
                · intro w hSw; obtain ⟨k0, k1, k2, k3, k4, k5, k6, k7, k8⟩ := hSw; go_simp; all_goals (with_reducible rfl)
                try simp only [Act.put, List.getElem_toArray, List.getElem_cons_zero, List.getElem_cons_succ, List.setIfInBounds_toArray, List.set_cons_zero, List.set_cons_succ]
                refine wpAnyH_take (i := 8) (oi := _) (v := ?_) rfl (by kernel_rfl) (by kernel_rfl) (by kernel_rfl) (fun _ _ _ h => h) (Or.inl ⟨by rfl, ?_⟩) (by assumption) ?_
                rotate_left
                · intro w hSw; obtain ⟨k0, k1, k2, k3, k4, k5, k6, k7, k8⟩ := hSw; go_simp; all_goals (with_reducible rfl)
                try simp only [Act.put, List.getElem_toArray, List.getElem_cons_zero, List.getElem_cons_succ, List.setIfInBounds_toArray, List.set_cons_zero, List.set_cons_succ]
                refine wpAnyH_take (i := 9) (oi := _) (v := ?_) rfl (by kernel_rfl) (by kernel_rfl) (by kernel_rfl) (fun _ _ _ h => h) (Or.inl ⟨by rfl, ?_⟩) (by assumption) ?_
                rotate_left
                · intro w hSw; obtain ⟨k0, k1, k2, k3, k4, k5, k6, k7, k8⟩ := hSw; go_simp; all_goals (with_reducible rfl)
                try simp only [Act.put, List.getElem_toArray, List.getElem_cons_zero, List.getElem_cons_succ, List.setIfInBounds_toArray, List.set_cons_zero, List.set_cons_succ]
                refine wpAnyH_take (i := 10) (oi := _) (v := ?_) rfl (by kernel_rfl) (by kernel_rfl) (by kernel_rfl) (fun _ _ _ h => h) (Or.inl ⟨by rfl, ?_⟩) (by assumption) ?_
                rotate_left
                · intro w hSw; obtain ⟨k0, k1, k2, k3, k4, k5, k6, k7, k8⟩ := hSw; go_simp; all_goals (with_reducible rfl)
                try simp only [Act.put, List.getElem_toArray, List.getElem_cons_zero, List.getElem_cons_succ, List.setIfInBounds_toArray, List.set_cons_zero, List.set_cons_succ]
                refine wpAnyH_take (i := 11) (oi := _) (v := ?_) rfl (by kernel_rfl) (by kernel_rfl) (by kernel_rfl) (fun _ _ _ h => h) (Or.inl ⟨by rfl, ?_⟩) (by assumption) ?_
                rotate_left
                · intro w hSw; obtain ⟨k0, k1, k2, k3, k4, k5, k6, k7, k8⟩ := hSw; go_simp; all_goals (with_reducible rfl)
                try simp only [Act.put, List.getElem_toArray, List.getElem_cons_zero, List.getElem_cons_succ, List.setIfInBounds_toArray, List.set_cons_zero, List.set_cons_succ]
                refine wpAnyH_take (i := 12) (oi := _) (v := ?_) rfl (by kernel_rfl) (by kernel_rfl) (by kernel_rfl) (fun _ _ _ h => h) (Or.inl ⟨by rfl, ?_⟩) (by assumption) ?_
                rotate_left
                · intro w hSw; obtain ⟨k0, k1, k2, k3, k4, k5, k6, k7, k8⟩ := hSw; go_simp; all_goals (with_reducible rfl)
                try simp only [Act.put, List.getElem_toArray, List.getElem_cons_zero, List.getElem_cons_succ, List.setIfInBounds_toArray, List.set_cons_zero, List.set_cons_succ]
                refine wpAnyH_take (i := 13) (oi := _) (v := ?_) rfl (by kernel_rfl) (by kernel_rfl) (by kernel_rfl) (fun _ _ _ h => h) (Or.inl ⟨by rfl, ?_⟩) (by assumption) ?_
                rotate_left
                · intro w hSw; obtain ⟨k0, k1, k2, k3, k4, k5, k6, k7, k8⟩ := hSw; go_simp; all_goals (with_reducible rfl)
                try simp only [Act.put, List.getElem_toArray, List.getElem_cons_zero, List.getElem_cons_succ, List.setIfInBounds_toArray, List.set_cons_zero, List.set_cons_succ]
                refine wpAnyH_take (i := 14) (oi := _) (v := ?_) rfl (by kernel_rfl) (by kernel_rfl) (by kernel_rfl) (fun _ _ _ h => h) (Or.inl ⟨by rfl, ?_⟩) (by assumption) ?_
                rotate_left
                · intro w hSw; obtain ⟨k0, k1, k2, k3, k4, k5, k6, k7, k8⟩ := hSw; go_simp; all_goals (with_reducible rfl)
                try simp only [Act.put, List.getElem_toArray, List.getElem_cons_zero, List.getElem_cons_succ, List.setIfInBounds_toArray, List.set_cons_zero, List.set_cons_succ]
                refine wpAnyH_take (i := 15) (oi := _) (v := ?_) rfl (by kernel_rfl) (by kernel_rfl) (by kernel_rfl) (fun _ _ _ h => h) (Or.inl ⟨by rfl, ?_⟩) (by assumption) ?_
                rotate_left
                · intro w hSw; obtain ⟨k0, k1, k2, k3, k4, k5, k6, k7, k8⟩ := hSw; go_simp; all_goals (with_reducible rfl)
                try simp only [Act.put, List.getElem_toArray, List.getElem_cons_zero, List.getElem_cons_succ, List.setIfInBounds_toArray, List.set_cons_zero, List.set_cons_succ]
                refine wpAnyH_take (i := 16) (oi := _) (v := ?_) rfl (by kernel_rfl) (by kernel_rfl) (by kernel_rfl) (fun _ _ _ h => h) (Or.inl ⟨by rfl, ?_⟩) (by assumption) ?_
                rotate_left
                · intro w hSw; obtain ⟨k0, k1, k2, k3, k4, k5, k6, k7, k8⟩ := hSw; go_simp; all_goals (with_reducible rfl)
                try simp only [Act.put, List.getElem_toArray, List.getElem_cons_zero, List.getElem_cons_succ, List.setIfInBounds_toArray, List.set_cons_zero, List.set_cons_succ]
                refine wpAnyH_take (i := 17) (oi := _) (v := ?_) rfl (by kernel_rfl) (by kernel_rfl) (by kernel_rfl) (fun _ _ _ h => h) (Or.inl ⟨by rfl, ?_⟩) (by assumption) ?_
                rotate_left
                · intro w hSw; obtain ⟨k0, k1, k2, k3, k4, k5, k6, k7, k8⟩ := hSw; go_simp; all_goals (with_reducible rfl)
                try simp only [Act.put, List.getElem_toArray, List.getElem_cons_zero, List.getElem_cons_succ, List.setIfInBounds_toArray, List.set_cons_zero, List.set_cons_succ]
                refine wpAnyH_take (i := 18) (oi := _) (v := ?_) rfl (by kernel_rfl) (by kernel_rfl) (by kernel_rfl) (fun _ _ _ h => h) (Or.inl ⟨by rfl, ?_⟩) (by assumption) ?_
                rotate_left
                · intro w hSw; obtain ⟨k0, k1, k2, k3, k4, k5, k6, k7, k8⟩ := hSw; go_simp; all_goals (with_reducible rfl)
                try simp only [Act.put, List.getElem_toArray, List.getElem_cons_zero, List.getElem_cons_succ, List.setIfInBounds_toArray, List.set_cons_zero, List.set_cons_succ]
                refine wpAnyH_take (i := 19) (oi := _) (v := ?_) rfl (by kernel_rfl) (by kernel_rfl) (by kernel_rfl) (fun _ _ _ h => h) (Or.inl ⟨by rfl, ?_⟩) (by assumption) ?_
                rotate_left
                · intro w hSw; obtain ⟨k0, k1, k2, k3, k4, k5, k6, k7, k8⟩ := hSw; go_simp; all_goals (with_reducible rfl)
                try simp only [Act.put, List.getElem_toArray, List.getElem_cons_zero, List.getElem_cons_succ, List.setIfInBounds_toArray, List.set_cons_zero, List.set_cons_succ]
                refine wpAnyH_ready (rs := [20]) (by kernel_rfl) (by simp) ?_
                refine AllReadyH.cons (o := _) rfl (fun K9 hK => ?_) AllReadyH.nil
                go_simp
                go_at_call 102; with_reducible refine (HNX.out _).mono ?_; rintro e w9 ⟨rfl, b9⟩
                have B9 := Lib.hid (BX.out.trans (b9.mono BX.out.size))
                have SX : w9.cell? ⟨w.heap.size, 0, none⟩ = some (.int .i64 f.w) ∧ w9.cell? ⟨w.heap.size, 1, none⟩ = some (.int .i64 f.h) ∧ w9.cell? ⟨w.heap.size, 2, none⟩ = some (.int .i64 f.d) ∧ w9.cell? ⟨w.heap.size, 3, none⟩ = some (kv) ∧ w9.cell? ⟨w.heap.size, 4, none⟩ = some (ov) ∧ w9.cell? ⟨w.heap.size + 1, 3, none⟩ = some (.slice (some ⟨pb, po, none⟩) L pc) ∧ w9.cell? ⟨w.heap.size + 1 + 1, 1, none⟩ = some (.int .i64 (i : Int)) ∧ w9.cell? ⟨w.heap.size + 1 + 1, 2, none⟩ = some (.int .i64 n) ∧ w9.cell? ⟨pb, po + i, none⟩ = some (.int .i64 X) := by
                  obtain ⟨k0, k1, k2, k3, k4, k5, k6, k7, k8⟩ := hHeld
                  exact ⟨(b9.cell (cell_block_lt k0)).trans k0, (b9.cell (cell_block_lt k1)).trans k1, (b9.cell (cell_block_lt k2)).trans k2, (b9.cell (cell_block_lt k3)).trans k3, (b9.cell (cell_block_lt k4)).trans k4, (b9.cell (cell_block_lt k5)).trans k5, (b9.cell (cell_block_lt k6)).trans k6, (b9.cell (cell_block_lt k7)).trans k7, (b9.cell (cell_block_lt k8)).trans k8⟩
                clear b9 hHeld
                go_simp
                refine hK.out _ _ SX (fun hHeld => ?_)
                clear hK K9 SX
                try simp only [Act.put, List.getElem_toArray, List.getElem_cons_zero, List.getElem_cons_succ, List.setIfInBounds_toArray, List.set_cons_zero, List.set_cons_succ]
                refine wpAnyH_take (i := 21) (oi := _) (v := ?_) rfl (by kernel_rfl) (by kernel_rfl) (by kernel_rfl) (fun _ _ _ h => h) (Or.inl ⟨by rfl, ?_⟩) (by assumption) ?_
                rotate_left
                · intro w hSw; obtain ⟨k0, k1, k2, k3, k4, k5, k6, k7, k8⟩ := hSw; go_simp; all_goals (with_reducible rfl)
                try simp only [Act.put, List.getElem_toArray, List.getElem_cons_zero, List.getElem_cons_succ, List.setIfInBounds_toArray, List.set_cons_zero, List.set_cons_succ]
                refine wpAnyH_take (i := 22) (oi := _) (v := ?_) rfl (by kernel_rfl) (by kernel_rfl) (by kernel_rfl) (fun _ _ _ h => h) (Or.inl ⟨by rfl, ?_⟩) (by assumption) ?_
                rotate_left
                · intro w hSw; obtain ⟨k0, k1, k2, k3, k4, k5, k6, k7, k8⟩ := hSw; go_simp; all_goals (with_reducible rfl)
                try simp only [Act.put, List.getElem_toArray, List.getElem_cons_zero, List.getElem_cons_succ, List.setIfInBounds_toArray, List.set_cons_zero, List.set_cons_succ]
                refine wpAnyH_done (by kernel_rfl) ?_ _
                clear hHeld
                cases Z
                all_goals
                  go_wp2_with fail
                  go_ret
                  exact ⟨by rw [HR2.out]; rfl, B9.out⟩
              · have e5 : (KN == 5) = false := beq_eq_false_iff_ne.2 k5
                have HR2 : Hid (R = false) := Lib.hid (by rw [HRN.out, decide_eq_false k4, decide_eq_false k5]; rfl)
                clear k4 k5
                go_upto_region 18 with fail
                refine wp_region_held_drew (S := fun _ => True) (by kernel_rfl) trivial (fun hHeld => ?_)
                have BX := Lib.hid (B6.out.trans ((below_drewN _ _ 1).mono B6.out.size))
                try simp only [Act.put, List.getElem_toArray, List.getElem_cons_zero, List.getElem_cons_succ, List.setIfInBounds_toArray, List.set_cons_zero, List.set_cons_succ]
                refine wpAnyH_take (i := 0) (oi := _) (v := ?_) rfl (by kernel_rfl) (by kernel_rfl) (by kernel_rfl) (fun _ _ _ h => h) (Or.inl ⟨by rfl, ?_⟩) trivial ?_
                rotate_left
                · intro w hSw; go_simp; all_goals (with_reducible rfl)
                try simp only [Act.put, List.getElem_toArray, List.getElem_cons_zero, List.getElem_cons_succ, List.setIfInBounds_toArray, List.set_cons_zero, List.set_cons_succ]
                refine wpAnyH_take (i := 1) (oi := _) (v := ?_) rfl (by kernel_rfl) (by kernel_rfl) (by kernel_rfl) (fun _ _ _ h => h) (Or.inl ⟨by rfl, ?_⟩) trivial ?_
                rotate_left
                · intro w hSw; go_simp; all_goals (with_reducible rfl)
                try simp only [Act.put, List.getElem_toArray, List.getElem_cons_zero, List.getElem_cons_succ, List.setIfInBounds_toArray, List.set_cons_zero, List.set_cons_succ]
                refine wpAnyH_take (i := 2) (oi := _) (v := ?_) rfl (by kernel_rfl) (by kernel_rfl) (by kernel_rfl) (fun _ _ _ h => h) (Or.inl ⟨by rfl, ?_⟩) trivial ?_
                rotate_left
                · intro w hSw; go_simp; all_goals (with_reducible rfl)
                try simp only [Act.put, List.getElem_toArray, List.getElem_cons_zero, List.getElem_cons_succ, List.setIfInBounds_toArray, List.set_cons_zero, List.set_cons_succ]
                refine wpAnyH_take (i := 3) (oi := _) (v := ?_) rfl (by kernel_rfl) (by kernel_rfl) (by kernel_rfl) (fun _ _ _ h => h) (Or.inl ⟨by rfl, ?_⟩) trivial ?_
                rotate_left
                · intro w hSw; go_simp; all_goals (with_reducible rfl)
                try simp only [Act.put, List.getElem_toArray, List.getElem_cons_zero, List.getElem_cons_succ, List.setIfInBounds_toArray, List.set_cons_zero, List.set_cons_succ]
                refine wpAnyH_take (i := 4) (oi := _) (v := ?_) rfl (by kernel_rfl) (by kernel_rfl) (by kernel_rfl) (fun _ _ _ h => h) (Or.inl ⟨by rfl, ?_⟩) trivial ?_
                rotate_left
                · intro w hSw; go_simp; all_goals (with_reducible rfl)
                try simp only [Act.put, List.getElem_toArray, List.getElem_cons_zero, List.getElem_cons_succ, List.setIfInBounds_toArray, List.set_cons_zero, List.set_cons_succ]
                refine wpAnyH_take (i := 5) (oi := _) (v := ?_) rfl (by kernel_rfl) (by kernel_rfl) (by kernel_rfl) (fun _ _ _ h => h) (Or.inl ⟨by rfl, ?_⟩) trivial ?_
                rotate_left
                · intro w hSw; go_simp; all_goals (with_reducible rfl)
                try simp only [Act.put, List.getElem_toArray, List.getElem_cons_zero, List.getElem_cons_succ, List.setIfInBounds_toArray, List.set_cons_zero, List.set_cons_succ]
                refine wpAnyH_take (i := 6) (oi := _) (v := ?_) rfl (by kernel_rfl) (by kernel_rfl) (by kernel_rfl) (fun _ _ _ h => h) (Or.inl ⟨by rfl, ?_⟩) trivial ?_
                rotate_left
                · intro w hSw; go_simp; all_goals (with_reducible rfl)
                try simp only [Act.put, List.getElem_toArray, List.getElem_cons_zero, List.getElem_cons_succ, List.setIfInBounds_toArray, List.set_cons_zero, List.set_cons_succ]
                refine wpAnyH_take (i := 7) (oi := _) (v := ?_) rfl (by kernel_rfl) (by kernel_rfl) (by kernel_rfl) (fun _ _ _ h => h) (Or.inl ⟨by rfl, ?_⟩) trivial ?_
                rotate_left
                · intro w hSw; go_simp; all_goals (with_reducible rfl)
                try simp only [Act.put, List.getElem_toArray, List.getElem_cons_zero, List.getElem_cons_succ, List.setIfInBounds_toArray, List.set_cons_zero, List.set_cons_succ]
                refine wpAnyH_take (i := 8) (oi := _) (v := ?_) rfl (by kernel_rfl) (by kernel_rfl) (by kernel_rfl) (fun _ _ _ h => h) (Or.inl ⟨by rfl, ?_⟩) trivial ?_
                rotate_left
                · intro w hSw; go_simp; all_goals (with_reducible rfl)
                try simp only [Act.put, List.getElem_toArray, List.getElem_cons_zero, List.getElem_cons_succ, List.setIfInBounds_toArray, List.set_cons_zero, List.set_cons_succ]
                refine wpAnyH_take (i := 9) (oi := _) (v := ?_) rfl (by kernel_rfl) (by kernel_rfl) (by kernel_rfl) (fun _ _ _ h => h) (Or.inl ⟨by rfl, ?_⟩) trivial ?_
                rotate_left
                · intro w hSw; go_simp; all_goals (with_reducible rfl)
                try simp only [Act.put, List.getElem_toArray, List.getElem_cons_zero, List.getElem_cons_succ, List.setIfInBounds_toArray, List.set_cons_zero, List.set_cons_succ]
                refine wpAnyH_take (i := 10) (oi := _) (v := undef) rfl (by kernel_rfl) (by kernel_rfl) (by kernel_rfl) (fun _ _ _ h => h) (Or.inr ⟨by rfl, rfl⟩) trivial ?_
                try simp only [Act.put, List.getElem_toArray, List.getElem_cons_zero, List.getElem_cons_succ, List.setIfInBounds_toArray, List.set_cons_zero, List.set_cons_succ]
                refine wpAnyH_take (i := 11) (oi := _) (v := undef) rfl (by kernel_rfl) (by kernel_rfl) (by kernel_rfl) (fun _ _ _ h => h) (Or.inr ⟨by rfl, rfl⟩) trivial ?_
                try simp only [Act.put, List.getElem_toArray, List.getElem_cons_zero, List.getElem_cons_succ, List.setIfInBounds_toArray, List.set_cons_zero, List.set_cons_succ]
                refine wpAnyH_take (i := 12) (oi := _) (v := undef) rfl (by kernel_rfl) (by kernel_rfl) (by kernel_rfl) (fun _ _ _ h => h) (Or.inr ⟨by rfl, rfl⟩) trivial ?_
                try simp only [Act.put, List.getElem_toArray, List.getElem_cons_zero, List.getElem_cons_succ, List.setIfInBounds_toArray, List.set_cons_zero, List.set_cons_succ]
                refine wpAnyH_take (i := 13) (oi := _) (v := undef) rfl (by kernel_rfl) (by kernel_rfl) (by kernel_rfl) (fun _ _ _ h => h) (Or.inr ⟨by rfl, rfl⟩) trivial ?_
                try simp only [Act.put, List.getElem_toArray, List.getElem_cons_zero, List.getElem_cons_succ, List.setIfInBounds_toArray, List.set_cons_zero, List.set_cons_succ]
                refine wpAnyH_take (i := 14) (oi := _) (v := undef) rfl (by kernel_rfl) (by kernel_rfl) (by kernel_rfl) (fun _ _ _ h => h) (Or.inr ⟨by rfl, rfl⟩) trivial ?_
                try simp only [Act.put, List.getElem_toArray, List.getElem_cons_zero, List.getElem_cons_succ, List.setIfInBounds_toArray, List.set_cons_zero, List.set_cons_succ]
                refine wpAnyH_take (i := 15) (oi := _) (v := undef) rfl (by kernel_rfl) (by kernel_rfl) (by kernel_rfl) (fun _ _ _ h => h) (Or.inr ⟨by rfl, rfl⟩) trivial ?_
                try simp only [Act.put, List.getElem_toArray, List.getElem_cons_zero, List.getElem_cons_succ, List.setIfInBounds_toArray, List.set_cons_zero, List.set_cons_succ]
                refine wpAnyH_take (i := 16) (oi := _) (v := undef) rfl (by kernel_rfl) (by kernel_rfl) (by kernel_rfl) (fun _ _ _ h => h) (Or.inr ⟨by rfl, rfl⟩) trivial ?_
                try simp only [Act.put, List.getElem_toArray, List.getElem_cons_zero, List.getElem_cons_succ, List.setIfInBounds_toArray, List.set_cons_zero, List.set_cons_succ]
                refine wpAnyH_take (i := 17) (oi := _) (v := undef) rfl (by kernel_rfl) (by kernel_rfl) (by kernel_rfl) (fun _ _ _ h => h) (Or.inr ⟨by rfl, rfl⟩) trivial ?_
                try simp only [Act.put, List.getElem_toArray, List.getElem_cons_zero, List.getElem_cons_succ, List.setIfInBounds_toArray, List.set_cons_zero, List.set_cons_succ]
                refine wpAnyH_take (i := 18) (oi := _) (v := undef) rfl (by kernel_rfl) (by kernel_rfl) (by kernel_rfl) (fun _ _ _ h => h) (Or.inr ⟨by rfl, rfl⟩) trivial ?_
                try simp only [Act.put, List.getElem_toArray, List.getElem_cons_zero, List.getElem_cons_succ, List.setIfInBounds_toArray, List.set_cons_zero, List.set_cons_succ]
                refine wpAnyH_take (i := 19) (oi := _) (v := undef) rfl (by kernel_rfl) (by kernel_rfl) (by kernel_rfl) (fun _ _ _ h => h) (Or.inr ⟨by rfl, rfl⟩) trivial ?_
                try simp only [Act.put, List.getElem_toArray, List.getElem_cons_zero, List.getElem_cons_succ, List.setIfInBounds_toArray, List.set_cons_zero, List.set_cons_succ]
                refine wpAnyH_take (i := 20) (oi := _) (v := undef) rfl (by kernel_rfl) (by kernel_rfl) (by kernel_rfl) (fun _ _ _ h => h) (Or.inr ⟨by rfl, rfl⟩) trivial ?_
                try simp only [Act.put, List.getElem_toArray, List.getElem_cons_zero, List.getElem_cons_succ, List.setIfInBounds_toArray, List.set_cons_zero, List.set_cons_succ]
                refine wpAnyH_take (i := 21) (oi := _) (v := ?_) rfl (by kernel_rfl) (by kernel_rfl) (by kernel_rfl) (fun _ _ _ h => h) (Or.inl ⟨by rfl, ?_⟩) trivial ?_
                rotate_left
                · intro w hSw; go_simp; all_goals (with_reducible rfl)
                try simp only [Act.put, List.getElem_toArray, List.getElem_cons_zero, List.getElem_cons_succ, List.setIfInBounds_toArray, List.set_cons_zero, List.set_cons_succ]
                refine wpAnyH_take (i := 22) (oi := _) (v := ?_) rfl (by kernel_rfl) (by kernel_rfl) (by kernel_rfl) (fun _ _ _ h => h) (Or.inl ⟨by rfl, ?_⟩) trivial ?_
                rotate_left
                · intro w hSw; go_simp; all_goals (with_reducible rfl)
                try simp only [Act.put, List.getElem_toArray, List.getElem_cons_zero, List.getElem_cons_succ, List.setIfInBounds_toArray, List.set_cons_zero, List.set_cons_succ]
                refine wpAnyH_done (by kernel_rfl) ?_ _
                go_wp2_with fail
                go_ret
                exact ⟨by rw [HR2.out]; rfl, BX.out⟩
          · by_cases g2 : a = (L : Int)
            · have e2 : (a == (L : Int)) = true := beq_iff_eq.2 g2
              have HRN : Hid (R = (decide (KN = 5) && decide (a < 20))) := Lib.hid (by rw [HR.out, if_pos g2]; by_cases q : KN = 5 <;> simp [q])
              clear HR g2
              by_cases k5 : KN = 5
              · have e5 : (KN == 5) = true := beq_iff_eq.2 k5
                have HR2 : Hid (R = decide (a < 20)) := Lib.hid (by rw [HRN.out, k5]; simp)
                by_cases g3 : a < 20
                · have HR3 : Hid (R = true) := Lib.hid (by rw [HR2.out, decide_eq_true g3])
                  go_wp2_with fail
                  go_ret
                  exact ⟨by rw [HR3.out]; rfl, B6.out⟩
                · have HR3 : Hid (R = false) := Lib.hid (by rw [HR2.out, decide_eq_false g3])
                  go_wp2_with fail
                  go_ret
                  exact ⟨by rw [HR3.out]; rfl, B6.out⟩
              · have e5 : (KN == 5) = false := beq_eq_false_iff_ne.2 k5
                have HR2 : Hid (R = false) := Lib.hid (by rw [HRN.out, decide_eq_false k5]; rfl)
                clear k5
                go_wp2_with fail
                go_ret
                exact ⟨by rw [HR2.out]; rfl, B6.out⟩
            · have e2 : (a == (L : Int)) = false := beq_eq_false_iff_ne.2 g2
              have HR2 : Hid (R = false) := Lib.hid (by rw [HR.out, if_neg g2, decide_eq_false g1]; simp)
              clear g2
              by_cases k5 : KN = 5
              · have e5 : (KN == 5) = true := beq_iff_eq.2 k5
                go_wp2_with fail
                go_ret
                exact ⟨by rw [HR2.out]; rfl, B6.out⟩
              · have e5 : (KN == 5) = false := beq_eq_false_iff_ne.2 k5
                go_wp2_with fail
                go_ret
                exact ⟨by rw [HR2.out]; rfl, B6.out⟩
        · have e2 : (a == (L : Int)) = false := beq_eq_false_iff_ne.2 (by omega)
          have HR2 : Hid (R = false) := Lib.hid (by rw [HR.out, if_neg (by omega), decide_eq_false g0]; simp)
          by_cases k5 : KN = 5
          · have e5 : (KN == 5) = true := beq_iff_eq.2 k5
            go_wp2_with fail
            go_ret
            exact ⟨by rw [HR2.out]; rfl, B6.out⟩
          · have e5 : (KN == 5) = false := beq_eq_false_iff_ne.2 k5
            go_wp2_with fail
            go_ret
            exact ⟨by rw [HR2.out]; rfl, B6.out⟩
  have HR : Hid (R = false) := Lib.hid (by rw [HP.out, if_neg h0, if_neg h1, if_neg h2, if_neg h3, if_neg h4, if_neg h5])
  have e0 : (k == 0) = false := beq_eq_false_iff_ne.2 h0
  have e1 : (k == 1) = false := beq_eq_false_iff_ne.2 h1
  have e2 : (k == 2) = false := beq_eq_false_iff_ne.2 h2
  have e3 : (k == 3) = false := beq_eq_false_iff_ne.2 h3
  have e4 : (k == 4) = false := beq_eq_false_iff_ne.2 h4
  have e5 : (k == 5) = false := beq_eq_false_iff_ne.2 h5
  clear h0 h1 h2 h3 h4 h5 hx5
  go_wp2_with fail
  go_ret
  exact ⟨by rw [HR.out]; rfl, B0.out⟩
end Go.Proofs.YtcdfmgobokjcnaaGreatDoor
