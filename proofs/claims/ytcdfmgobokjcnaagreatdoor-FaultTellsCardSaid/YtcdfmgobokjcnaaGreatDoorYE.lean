/- Parts Fo of this claim, laid one behind the other: walks and the plain laws behind them; each contract states its own conditions. -/
import Derived.Test.YtcdfmgobokjcnaaGreatDoorYD
/- Walks of package arena: Possible. -/
namespace Go.Proofs.YtcdfmgobokjcnaaGreatDoor
set_option linter.unusedSimpArgs false
set_option linter.unusedVariables false
open Go.RowKit

/-- What Possible answers. -/
def possE (z : Bool) : Int := if z = true then 0 else 26
theorem possE_t : possE true = 0 := rfl
theorem possE_f : possE false = 26 := rfl
set_option maxRecDepth 100000 in
set_option maxHeartbeats 16000000 in
theorem Possible_any (f : Fl.Floor) (kv ov zv av hv bv : Value) (s : Bd.State) (sv rv pv dv ku : Value) (x : Fa.Flt) (w : World) (hf : FlV w kv ov f) (hfb : FB f) (hkl : f.kind.length ≤ 1000000) (h : StV w sv rv pv dv ku s) (hs : StS s) :
    Calls Tryz.prog 53 #[siF f kv ov zv av hv bv, stV s sv rv pv dv ku, fltV x] w fun e w' => e = .returned (.int .i64 (possE (Fa.possB f s x))) ∧ Below w.heap.size w w' := by
  obtain ⟨k, a, n⟩ := x
  have HKI := Lib.hid (fun W (hW : Below w.heap.size w W) => kindA_any f kv ov a W (hf.keep hW))
  have HLI := Lib.hid (fun W (hW : Below w.heap.size w W) => live_any s sv rv pv dv ku a W (h.keep hW))
  have HSP := Lib.hid (fun W (hW : Below w.heap.size w W) => stepsA_any f kv ov zv av hv bv s sv rv pv dv ku a n W (hf.keep hW) hfb hkl (h.keep hW) hs)
  have HCO := Lib.hid (fun W (hW : Below w.heap.size w W) => containsI_any dv s.dead a W (h.de.keep hW))
  have HP : Hid (Fa.possB f s ⟨k, a, n⟩ = if k = 0 then true else if k = 1 then Fa.live s a else if k = 2 then !decide (Fa.kindF f a = 0) && !s.dead.contains a
    else if k = 3 then Fa.live s a && Fa.longB n else if k = 4 then decide (Fa.kindF f a = 6) && Fa.longB n else if k = 5 then Fa.stepB f s a n else false) := Lib.hid rfl
  obtain ⟨R, hR⟩ : ∃ R, Fa.possB f s ⟨k, a, n⟩ = R := ⟨_, rfl⟩
  obtain ⟨LI, hLI⟩ : ∃ R, Fa.live s a = R := ⟨_, rfl⟩
  obtain ⟨K, hK⟩ : ∃ R, Fa.kindF f a = R := ⟨_, rfl⟩
  obtain ⟨CO, hCO⟩ : ∃ R, s.dead.contains a = R := ⟨_, rfl⟩
  obtain ⟨SP, hSP⟩ : ∃ R, Fa.stepB f s a n = R := ⟨_, rfl⟩
  obtain ⟨LB, hLB⟩ : ∃ R, Fa.longB n = R := ⟨_, rfl⟩
  rw [hR, hLI, hK, hCO, hSP, hLB] at HP
  rw [hLI] at HLI
  rw [hK] at HKI
  rw [hCO] at HCO
  rw [hSP] at HSP
  rw [hR]
  have HLB := Lib.hid hLB
  unfold flV at HKI
  unfold stV at HLI HSP ⊢
  unfold siF at HSP ⊢
  unfold fltV
  dsimp only
  obtain ⟨w3, hw3⟩ : ∃ W, W = ((w.alloc (.cells #[.int .i64 f.w, .int .i64 f.h, .int .i64 f.d, kv, ov, zv, av, hv, bv] 30)).alloc (.cells #[.int .i64 s.tick, sv, rv, pv, dv, ku] 34)).alloc (.cells #[.int .i64 k, .int .i64 a, .int .i64 n] 38) := ⟨_, rfl⟩
  have HA3 := Lib.hid (al3 w (.cells #[.int .i64 f.w, .int .i64 f.h, .int .i64 f.d, kv, ov, zv, av, hv, bv] 30) (.cells #[.int .i64 s.tick, sv, rv, pv, dv, ku] 34) (.cells #[.int .i64 k, .int .i64 a, .int .i64 n] 38))
  rw [← hw3] at HA3
  have HW := Lib.hid hw3
  have IS := Lib.hid HA3.out.1
  have IT := Lib.hid HA3.out.2.1
  have IF := Lib.hid HA3.out.2.2.1
  have B0 := Lib.hid HA3.out.2.2.2.1
  clear hf hfb hkl h hs hR hLI hK hCO hSP hLB hw3 HA3
  have p0 := cell_of_heap IS.out 0 (v := .int .i64 f.w) rfl
  have p1 := cell_of_heap IS.out 1 (v := .int .i64 f.h) rfl
  have p2 := cell_of_heap IS.out 2 (v := .int .i64 f.d) rfl
  have p3 := cell_of_heap IS.out 3 (v := kv) rfl
  have p4 := cell_of_heap IS.out 4 (v := ov) rfl
  have p5 := cell_of_heap IS.out 5 (v := zv) rfl
  have p6 := cell_of_heap IS.out 6 (v := av) rfl
  have p7 := cell_of_heap IS.out 7 (v := hv) rfl
  have p8 := cell_of_heap IS.out 8 (v := bv) rfl
  have t0 := cell_of_heap IT.out 0 (v := .int .i64 s.tick) rfl
  have t1 := cell_of_heap IT.out 1 (v := sv) rfl
  have t2 := cell_of_heap IT.out 2 (v := rv) rfl
  have t3 := cell_of_heap IT.out 3 (v := pv) rfl
  have t4 := cell_of_heap IT.out 4 (v := dv) rfl
  have t5 := cell_of_heap IT.out 5 (v := ku) rfl
  have f0 := cell_of_heap IF.out 0 (v := .int .i64 k) rfl
  have f1 := cell_of_heap IF.out 1 (v := .int .i64 a) rfl
  have f2 := cell_of_heap IF.out 2 (v := .int .i64 n) rfl
  go_enter Tryz.func53, Tryz.ntmps53
  go_upto_region 2 with fail
  rw [← HW.out]
  go_cut [8] (fun v8 wr => v8 = .bool LB ∧ wr = w3)
  case first =>
    by_cases h1 : 1 ≤ n
    · have HL : Hid (LB = decide (n ≤ 20000)) := Lib.hid (by rw [← HLB.out]; unfold Fa.longB; rw [decide_eq_true h1]; rfl)
      go_wp2_with fail
      go_meet
      exact ⟨by rw [HL.out], by first | rfl | trivial⟩
    · have HL : Hid (LB = false) := Lib.hid (by rw [← HLB.out]; unfold Fa.longB; rw [decide_eq_false h1]; rfl)
      go_wp2_with fail
      go_meet
      exact ⟨by rw [HL.out], by first | rfl | trivial⟩
  case rest =>
    obtain ⟨rfl, rfl⟩ := hcut
    clear HLB HW
    by_cases h0 : k = 0
    · subst h0
      have HR : Hid (R = true) := Lib.hid (by rw [HP.out, if_pos rfl])
      go_wp2_with fail
      go_ret
      exact ⟨by rw [HR.out]; rfl, B0.out⟩
    by_cases h1 : k = 1
    · subst h1
      have HR : Hid (R = LI) := Lib.hid (by rw [HP.out]; rfl)
      go_wp2_with fail
      go_at_call 93; refine (HLI.out _ B0.out).mono ?_; rintro e w5 ⟨rfl, b5⟩
      have B5 := Lib.hid (B0.out.trans (b5.mono B0.out.size))
      clear b5 p0 p1 p2 p3 p4 p5 p6 p7 p8 t0 t1 t2 t3 t4 t5 f0 f1 f2
      cases LI with
      | true =>
        go_wp2_with fail
        go_ret
        exact ⟨by rw [HR.out]; rfl, B5.out⟩
      | false =>
        go_wp2_with fail
        go_ret
        exact ⟨by rw [HR.out]; rfl, B5.out⟩
    by_cases h2 : k = 2
    · subst h2
      have HR : Hid (R = (!decide (K = 0) && !CO)) := Lib.hid (by rw [HP.out]; rfl)
      go_wp2_with fail
      go_at_call 94; refine (HKI.out _ B0.out).mono ?_; rintro e w5 ⟨rfl, b5⟩
      have B5 := Lib.hid (B0.out.trans (b5.mono B0.out.size))
      have y4 := cell_of_heap (keep_heap IT.out b5) 4 (v := dv) rfl
      have y1 := cell_of_heap (keep_heap IF.out b5) 1 (v := .int .i64 a) rfl
      clear b5 p0 p1 p2 p3 p4 p5 p6 p7 p8 t0 t1 t2 t3 t4 t5 f0 f1 f2
      by_cases hK : K = 0
      · have e1 : (K != 0) = false := by simp [hK]
        have HR2 : Hid (R = false) := Lib.hid (by rw [HR.out, decide_eq_true hK]; rfl)
        clear hK
        go_wp2_with fail
        go_ret
        exact ⟨by rw [HR2.out]; rfl, B5.out⟩
      · have e1 : (K != 0) = true := by simp [hK]
        have HR2 : Hid (R = !CO) := Lib.hid (by rw [HR.out, decide_eq_false hK]; rfl)
        clear hK
        go_wp2_with fail
        go_at_call 38; refine (HCO.out _ B5.out).mono ?_; rintro e w6 ⟨rfl, rfl⟩
        cases CO with
        | true =>
          go_wp2_with fail
          go_ret
          exact ⟨by rw [HR2.out]; rfl, B5.out⟩
        | false =>
          go_wp2_with fail
          go_ret
          exact ⟨by rw [HR2.out]; rfl, B5.out⟩
    by_cases h3 : k = 3
    · subst h3
      have HR : Hid (R = (LI && LB)) := Lib.hid (by rw [HP.out]; rfl)
      go_wp2_with fail
      go_at_call 93; refine (HLI.out _ B0.out).mono ?_; rintro e w5 ⟨rfl, b5⟩
      have B5 := Lib.hid (B0.out.trans (b5.mono B0.out.size))
      clear b5 p0 p1 p2 p3 p4 p5 p6 p7 p8 t0 t1 t2 t3 t4 t5 f0 f1 f2
      cases LI <;> cases LB
      all_goals
        go_wp2_with fail
        go_ret
        exact ⟨by rw [HR.out]; rfl, B5.out⟩
    by_cases h4 : k = 4
    · subst h4
      have HR : Hid (R = (decide (K = 6) && LB)) := Lib.hid (by rw [HP.out]; rfl)
      go_wp2_with fail
      go_at_call 94; refine (HKI.out _ B0.out).mono ?_; rintro e w5 ⟨rfl, b5⟩
      have B5 := Lib.hid (B0.out.trans (b5.mono B0.out.size))
      clear b5 p0 p1 p2 p3 p4 p5 p6 p7 p8 t0 t1 t2 t3 t4 t5 f0 f1 f2
      by_cases hK : K = 6
      · have e1 : (K == 6) = true := beq_iff_eq.2 hK
        have HR2 : Hid (R = LB) := Lib.hid (by rw [HR.out, decide_eq_true hK]; rfl)
        clear hK
        cases LB
        all_goals
          go_wp2_with fail
          go_ret
          exact ⟨by rw [HR2.out]; rfl, B5.out⟩
      · have e1 : (K == 6) = false := beq_eq_false_iff_ne.2 hK
        have HR2 : Hid (R = false) := Lib.hid (by rw [HR.out, decide_eq_false hK]; rfl)
        clear hK
        go_wp2_with fail
        go_ret
        exact ⟨by rw [HR2.out]; rfl, B5.out⟩
    by_cases h5 : k = 5
    · subst h5
      have HR : Hid (R = SP) := Lib.hid (by rw [HP.out]; rfl)
      go_wp2_with fail
      go_at_call 95; refine (HSP.out _ B0.out).mono ?_; rintro e w5 ⟨rfl, b5⟩
      have B5 := Lib.hid (B0.out.trans (b5.mono B0.out.size))
      clear b5 p0 p1 p2 p3 p4 p5 p6 p7 p8 t0 t1 t2 t3 t4 t5 f0 f1 f2
      cases SP with
      | true =>
        go_wp2_with fail
        go_ret
        exact ⟨by rw [HR.out]; rfl, B5.out⟩
      | false =>
        go_wp2_with fail
        go_ret
        exact ⟨by rw [HR.out]; rfl, B5.out⟩
    have HR : Hid (R = false) := Lib.hid (by rw [HP.out, if_neg h0, if_neg h1, if_neg h2, if_neg h3, if_neg h4, if_neg h5])
    have e0 : (k == 0) = false := beq_eq_false_iff_ne.2 h0
    have e1 : (k == 1) = false := beq_eq_false_iff_ne.2 h1
    have e2 : (k == 2) = false := beq_eq_false_iff_ne.2 h2
    have e3 : (k == 3) = false := beq_eq_false_iff_ne.2 h3
    have e4 : (k == 4) = false := beq_eq_false_iff_ne.2 h4
    have e5 : (k == 5) = false := beq_eq_false_iff_ne.2 h5
    clear h0 h1 h2 h3 h4 h5 p0 p1 p2 p3 p4 p5 p6 p7 p8 t0 t1 t2 t3 t4 t5 f1 f2
    go_wp2_with fail
    go_ret
    exact ⟨by rw [HR.out]; rfl, B0.out⟩
end Go.Proofs.YtcdfmgobokjcnaaGreatDoor
