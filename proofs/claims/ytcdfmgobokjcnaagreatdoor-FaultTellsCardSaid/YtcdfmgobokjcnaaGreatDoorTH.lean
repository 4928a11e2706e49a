/- Parts RfN of this claim, laid one behind the other: walks and the plain laws behind them; each contract states its own conditions. -/
import Derived.Deep.CutBlock
import Derived.Test.YtcdfmgobokjcnaaGreatDoorYG
import Derived.Test.YtcdfmgobokjcnaaGreatDoorTB
import Derived.Test.YtcdfmgobokjcnaaGreatDoorTF
/- Walk of taquinref29.List. -/
namespace Go.Proofs.YtcdfmgobokjcnaaGreatDoor
set_option linter.unusedSimpArgs false
set_option linter.unusedVariables false
open Go.RowKit Go.Sort

set_option maxRecDepth 100000 in
set_option maxHeartbeats 16000000 in
theorem rList29_any (f : Fl.Floor) (kv ov zv av hv bv : Value) (s : Bd.State) (sv rv pv dv ku : Value) (b : Fa.Bud) (cv : Value) (cells : List Int) (w : World) (hf : FlV w kv ov f) (hfb : FB f) (hkl : f.kind.length ≤ 40) (h : StV w sv rv pv dv ku s) (h4 : Few4 s) (hc : Is w cv cells)
    (hmm : 0 ≤ b.muteMost ∧ b.muteMost ≤ 20) (hlm : 0 ≤ b.liftMost ∧ b.liftMost ≤ 20) :
    Calls Tryz.prog 27 #[siF f kv ov zv av hv bv, stV s sv rv pv dv ku, .agg (budA b), cv] w (LstPost f s b cells w) := by
  have nr1 := h4.ro
  have np1 := h4.pe
  obtain ⟨ka, kc, rfl, hkm⟩ := hf.kind.form
  obtain ⟨a1, c1, a2, c2, a3, c3, a4, c4, a5, c5, rfl, rfl, rfl, rfl, rfl, m1, m2, m3, m4, m5⟩ := h.open
  obtain ⟨ca, cc, rfl, hcm⟩ := hc.form
  obtain ⟨AL, hAL⟩ : ∃ g : Fa.Flt → Bool, g = fun x => Fa.allowsB b x := ⟨_, rfl⟩
  obtain ⟨CO, hCO⟩ : ∃ g : Fa.Flt → Bool, g = fun x => Fa.concB s x cells := ⟨_, rfl⟩
  obtain ⟨PO, hPO⟩ : ∃ g : Fa.Flt → Bool, g = fun x => Fa.possB f s x := ⟨_, rfl⟩
  obtain ⟨ok, hok⟩ : ∃ g : Fa.Flt → Bool, g = Fa.okB f s b cells := ⟨_, rfl⟩
  have HOK : Hid (∀ x, ok x = (AL x && (CO x && PO x))) := Lib.hid (fun x => by rw [hok, hAL, hCO, hPO]; rfl)
  have HAL : Hid (∀ (k a n : Int) W, Calls Tryz.prog 18 #[.agg (budA b), fltV ⟨k, a, n⟩] W fun e w' => e = .returned (.bool (AL ⟨k, a, n⟩)) ∧ Below W.heap.size W w') := Lib.hid (fun k a n W => by rw [hAL]; exact rAllows29_any b ⟨k, a, n⟩ W)
  have HCN : Hid (∀ (k a n : Int) W, Below w.heap.size w W → Calls Tryz.prog 10 #[stV s (.slice a1 s.shelves.length c1) (.slice a2 s.robots.length c2) (.slice a3 s.people.length c3) (.slice a4 s.dead.length c4) (.slice a5 s.stuck.length c5), fltV ⟨k, a, n⟩, .slice ca cells.length cc] W fun e w' => e = .returned (.bool (CO ⟨k, a, n⟩)) ∧ Below W.heap.size W w') := Lib.hid (fun k a n W hW => by rw [hCO]; exact rConcerns29_any s _ _ _ _ _ _ ⟨k, a, n⟩ cells W (h.keep hW) (hc.keep hW))
  have HPO : Hid (∀ (k a n : Int) W, Below w.heap.size w W → (k = 5 → 0 ≤ n ∧ n ≤ 1000) → Calls Tryz.prog 57 #[siF f (.slice ka f.kind.length kc) ov zv av hv bv, stV s (.slice a1 s.shelves.length c1) (.slice a2 s.robots.length c2) (.slice a3 s.people.length c3) (.slice a4 s.dead.length c4) (.slice a5 s.stuck.length c5), fltV ⟨k, a, n⟩] W fun e w' => e = .returned (.int .i64 (possE (PO ⟨k, a, n⟩))) ∧ Below W.heap.size W w') := Lib.hid (fun k a n W hW hx => by rw [hPO]; exact rPossible_any f _ ov zv av hv bv s _ _ _ _ _ ⟨k, a, n⟩ W (hf.keep hW) hfb (h.keep hW) h4 hx)
  have HLI := Lib.hid (Fa.ref_listed f s b cells)
  rw [← hok] at HLI
  unfold LstPost
  unfold siF at HPO ⊢
  unfold stV at HPO HCN ⊢
  unfold budA at HAL ⊢
  unfold fltV at HAL HCN HPO
  dsimp only at HAL HCN HPO
  obtain ⟨nk, e0⟩ : ∃ n, f.kind.length = n := ⟨_, rfl⟩
  obtain ⟨l1, e1⟩ : ∃ n, s.shelves.length = n := ⟨_, rfl⟩
  obtain ⟨nr, e2⟩ : ∃ n, s.robots.length = n := ⟨_, rfl⟩
  obtain ⟨np, e3⟩ : ∃ n, s.people.length = n := ⟨_, rfl⟩
  obtain ⟨l4, e4⟩ : ∃ n, s.dead.length = n := ⟨_, rfl⟩
  obtain ⟨l5, e5⟩ : ∃ n, s.stuck.length = n := ⟨_, rfl⟩
  obtain ⟨cl, e6⟩ : ∃ n, cells.length = n := ⟨_, rfl⟩
  rw [e0, e1, e2, e3, e4, e5] at HPO
  rw [e1, e2, e3, e4, e5, e6] at HCN
  rw [e0, e2, e3] at HLI
  rw [e0] at hkl hkm
  rw [e1] at m1
  rw [e2] at m2 nr1
  rw [e3] at m3 np1
  rw [e4] at m4
  rw [e5] at m5
  rw [e6] at hcm
  rw [e0, e1, e2, e3, e4, e5, e6]
  obtain ⟨KI, hKI⟩ : ∃ g : Int → List Fa.Flt, g = fun k => (Fa.kindsR nk nr np b (k - 1).toNat).filter ok := ⟨_, rfl⟩
  obtain ⟨RI, hRI⟩ : ∃ g : Int → Nat → List Fa.Flt, g = fun k a => (Fa.rowsR nk b k a).filter ok := ⟨_, rfl⟩
  obtain ⟨PI, hPI⟩ : ∃ g : Int → Nat → Nat → List Fa.Flt, g = fun (k : Int) (a : Nat) (j : Nat) => (Fa.partR k (a : Int) j).filter ok := ⟨_, rfl⟩
  have HK1 : Hid (KI 1 = []) := Lib.hid (by rw [hKI]; rfl)
  have HKS : Hid (∀ k : Int, 1 ≤ k → KI (k + 1) = KI k ++ RI k (Fa.mostK nk nr np k)) := Lib.hid (fun k hk => by
    rw [hKI, hRI]
    show (Fa.kindsR nk nr np b (k + 1 - 1).toNat).filter ok = (Fa.kindsR nk nr np b (k - 1).toNat).filter ok ++ (Fa.rowsR nk b k _).filter ok
    rw [show (k + 1 - 1).toNat = (k - 1).toNat + 1 by omega, Fa.kindsR_succ, List.filter_append, show (((k - 1).toNat : Nat) : Int) + 1 = k by omega]; rfl)
  have HR0 : Hid (∀ k, RI k 0 = []) := Lib.hid (fun k => by rw [hRI]; rfl)
  have HRS : Hid (∀ k a, RI k (a + 1) = RI k a ++ PI k a (Fa.lenR nk b k)) := Lib.hid (fun k a => by
    rw [hRI, hPI]
    show (Fa.rowsR nk b k (a + 1)).filter ok = _
    rw [Fa.rowsR_succ, List.filter_append]; rfl)
  have HP0 : Hid (∀ k a, PI k a 0 = []) := Lib.hid (fun k a => by rw [hPI]; rfl)
  have HPS : Hid (∀ k a j, PI k a (j + 1) = PI k a j ++ (if ok ⟨k, (a : Int), Fa.fromK k + (j : Int)⟩ = true then [⟨k, (a : Int), Fa.fromK k + (j : Int)⟩] else [])) := Lib.hid (fun k a j => by
    rw [hPI]
    show (Fa.partR k (a : Int) (j + 1)).filter ok = _
    rw [Fa.partR_succ, List.filter_append, List.filter_cons, List.filter_nil])
  have HL6 : Hid (Fa.Listed f s b cells (⟨0, 0, 0⟩ :: KI 6)) := Lib.hid (by rw [hKI]; exact HLI.out)
  obtain ⟨w3, hw3⟩ : ∃ W, W = ((w.alloc (.cells #[.int .i64 f.w, .int .i64 f.h, .int .i64 f.d, .slice ka nk kc, ov, zv, av, hv, bv] 30)).alloc (.cells #[.int .i64 s.tick, .slice a1 l1 c1, .slice a2 nr c2, .slice a3 np c3, .slice a4 l4 c4, .slice a5 l5 c5] 34)).alloc (.cells #[.int .i64 b.stops, .int .i64 b.cells, .int .i64 b.mutes, .int .i64 b.muteMost, .int .i64 b.lifts, .int .i64 b.liftMost, .int .i64 b.steps] 36) := ⟨_, rfl⟩
  have HA3 := Lib.hid (al3 w (.cells #[.int .i64 f.w, .int .i64 f.h, .int .i64 f.d, .slice ka nk kc, ov, zv, av, hv, bv] 30) (.cells #[.int .i64 s.tick, .slice a1 l1 c1, .slice a2 nr c2, .slice a3 np c3, .slice a4 l4 c4, .slice a5 l5 c5] 34) (.cells #[.int .i64 b.stops, .int .i64 b.cells, .int .i64 b.mutes, .int .i64 b.muteMost, .int .i64 b.lifts, .int .i64 b.liftMost, .int .i64 b.steps] 36))
  rw [← hw3] at HA3
  have HW := Lib.hid hw3
  have IS := Lib.hid HA3.out.1
  have IT := Lib.hid HA3.out.2.1
  have IB := Lib.hid HA3.out.2.2.1
  have B0 := Lib.hid HA3.out.2.2.2.1
  clear hf hfb h h4 hc hAL hCO hPO hok HLI hKI hRI hPI e0 e1 e2 e3 e4 e5 e6 hw3 HA3
  obtain ⟨w4, hw4⟩ : ∃ W, W = w3.alloc (.cells #[.int .i64 0, .int .i64 0, .int .i64 0] 38) := ⟨_, rfl⟩
  have B4 : Hid (Below w3.heap.size w3 w4) := Lib.hid (by rw [hw4]; exact (Below.refl _ _).alloc (Nat.le_refl _) _)
  have O4 : Hid (FtO w4 w3.heap.size (.slice (some ⟨w3.heap.size, 0, none⟩) 1 1) [⟨0, 0, 0⟩]) := Lib.hid (by rw [hw4]; exact fto_one (x := ⟨0, 0, 0⟩) (Nat.le_refl _) (heap_alloc_new _ _))
  have HW4 := Lib.hid hw4
  clear hw4
  go_enter Tryz.func27, Tryz.ntmps27
  go_upto_region 1 with fail
  rw [← HW.out]
  go_upto_region 2 with fail
  rw [← HW4.out]
  have p3 := cell_of_heap (keep_heap IS.out B4.out) 3 (v := .slice ka nk kc) rfl
  go_wp2_with fail
  clear p3 HW HW4
  go_loopw [9, 11] (fun s9 iv wr => ∃ (k : Int) (v : Value) (o : List Fa.Flt), v = s9 ∧ iv = .int .i64 k ∧ 1 ≤ k ∧ k ≤ 6 ∧ Hid ((o.length : Int) ≤ 1 + 100000 * k) ∧ Hid (o = ⟨0, 0, 0⟩ :: KI k) ∧ Hid (FtO wr w3.heap.size v o) ∧ Hid (Below w3.heap.size w3 wr)) (fun _ iv _ => (6 - intOf iv).toNat)
  case atStart => exact ⟨1, _, [⟨0, 0, 0⟩], rfl, rfl, by omega, by omega, Lib.hid (by simp), Lib.hid (by rw [HK1.out]), O4, B4⟩
  case round =>
    clear O4 B4 HK1
    obtain ⟨k, v, o, rfl, rfl, k1, k6, HLN, HO, HF, HB⟩ := hrel
    obtain ⟨wK, hwK⟩ : ∃ W, W = wr := ⟨_, rfl⟩
    subst hwK
    by_cases hk6 : k < 6
    · have HS := Lib.hid (HKS.out k k1)
      have HRk := Lib.hid (HR0.out k)
      have HRSk := Lib.hid (HRS.out k)
      have HPk := Lib.hid (HP0.out k)
      have HPSk := Lib.hid (HPS.out k)
      obtain ⟨M, hM⟩ : ∃ m, Fa.mostK nk nr np k = m := ⟨_, rfl⟩
      obtain ⟨LN, hLN⟩ : ∃ m, Fa.lenR nk b k = m := ⟨_, rfl⟩
      obtain ⟨FR, hFR⟩ : ∃ m, Fa.fromK k = m := ⟨_, rfl⟩
      obtain ⟨TO, hTO⟩ : ∃ m, Fa.toK nk b k = m := ⟨_, rfl⟩
      rw [hM] at HS
      rw [hLN] at HRSk
      rw [hFR] at HPSk
      have hM40 : M ≤ 40 := by rw [← hM]; unfold Fa.mostK; split <;> (try split) <;> omega
      have hFR2 : FR = 0 ∨ FR = 1 := by rw [← hFR]; unfold Fa.fromK; split <;> simp
      have hTO2 : FR ≤ TO ∧ TO ≤ 40 := by rw [← hTO, ← hFR]; unfold Fa.toK Fa.fromK; (repeat' split) <;> omega
      have hLNe : (LN : Int) = TO - FR := by rw [← hLN]; unfold Fa.lenR; rw [hTO, hFR]; omega
      have HM := Lib.hid hM
      have HFR := Lib.hid hFR
      have HTO := Lib.hid hTO
      clear hM hLN hFR hTO
      have t2 := cell_of_heap (keep_heap IT.out HB.out) 2 (v := .slice a2 nr c2) rfl
      have t3 := cell_of_heap (keep_heap IT.out HB.out) 3 (v := .slice a3 np c3) rfl
      have wnp : IntKind.i64.wrap ((np : Int) + 1) = (np : Int) + 1 := IntWalk.i64_in _ (by omega)
      obtain ⟨M1, hM1⟩ : ∃ m, (if k = 1 ∨ k = 3 then nr else nk) = m := ⟨_, rfl⟩
      have HM1 := Lib.hid hM1
      clear hM1
      obtain ⟨B34, hB34⟩ : ∃ b, decide (k = 1 ∨ k = 3) = b := ⟨_, rfl⟩
      have HB34 := Lib.hid hB34
      clear hB34
      go_upto_region 7 with fail
      go_cut [34] (fun v34 wq => v34 = .bool B34 ∧ wq = wK)
      case first =>
        rcases (by omega : k = 1 ∨ k = 2 ∨ k = 3 ∨ k = 4 ∨ k = 5) with rfl | rfl | rfl | rfl | rfl
        · have HX : Hid (B34 = true) := Lib.hid (HB34.out.symm.trans rfl)
          go_wp2_with fail
          go_meet
          exact ⟨by rw [HX.out], by first | rfl | trivial⟩
        · have HX : Hid (B34 = false) := Lib.hid (HB34.out.symm.trans rfl)
          go_wp2_with fail
          go_meet
          exact ⟨by rw [HX.out], by first | rfl | trivial⟩
        · have HX : Hid (B34 = true) := Lib.hid (HB34.out.symm.trans rfl)
          go_wp2_with fail
          go_meet
          exact ⟨by rw [HX.out], by first | rfl | trivial⟩
        · have HX : Hid (B34 = false) := Lib.hid (HB34.out.symm.trans rfl)
          go_wp2_with fail
          go_meet
          exact ⟨by rw [HX.out], by first | rfl | trivial⟩
        · have HX : Hid (B34 = false) := Lib.hid (HB34.out.symm.trans rfl)
          go_wp2_with fail
          go_meet
          exact ⟨by rw [HX.out], by first | rfl | trivial⟩
      case rest =>
        obtain ⟨rfl, rfl⟩ := hcut
        go_upto_if 34 with fail
        go_cut [12] (fun v12 wq => v12 = .int .i64 (M1 : Int) ∧ wq = wc)
        case first =>
          rcases (by omega : k = 1 ∨ k = 2 ∨ k = 3 ∨ k = 4 ∨ k = 5) with rfl | rfl | rfl | rfl | rfl
          · have HX : Hid (M1 = nr) := Lib.hid (HM1.out.symm.trans rfl)
            obtain rfl : B34 = true := HB34.out.symm.trans rfl
            go_wp2_with fail
            go_meet
            exact ⟨by rw [HX.out], by first | rfl | trivial⟩
          · have HX : Hid (M1 = nk) := Lib.hid (HM1.out.symm.trans rfl)
            obtain rfl : B34 = false := HB34.out.symm.trans rfl
            go_wp2_with fail
            go_meet
            exact ⟨by rw [HX.out], by first | rfl | trivial⟩
          · have HX : Hid (M1 = nr) := Lib.hid (HM1.out.symm.trans rfl)
            obtain rfl : B34 = true := HB34.out.symm.trans rfl
            go_wp2_with fail
            go_meet
            exact ⟨by rw [HX.out], by first | rfl | trivial⟩
          · have HX : Hid (M1 = nk) := Lib.hid (HM1.out.symm.trans rfl)
            obtain rfl : B34 = false := HB34.out.symm.trans rfl
            go_wp2_with fail
            go_meet
            exact ⟨by rw [HX.out], by first | rfl | trivial⟩
          · have HX : Hid (M1 = nk) := Lib.hid (HM1.out.symm.trans rfl)
            obtain rfl : B34 = false := HB34.out.symm.trans rfl
            go_wp2_with fail
            go_meet
            exact ⟨by rw [HX.out], by first | rfl | trivial⟩
        case rest =>
          obtain ⟨rfl, rfl⟩ := hcut
          go_upto_if 39 with fail
          go_cut [12] (fun v12 wq => v12 = .int .i64 (M : Int) ∧ wq = wc)
          case first =>
            rcases (by omega : k = 1 ∨ k = 2 ∨ k = 3 ∨ k = 4 ∨ k = 5) with rfl | rfl | rfl | rfl | rfl
            · have HX : Hid (M = M1) := Lib.hid (HM.out.symm.trans (Eq.trans rfl HM1.out))
              go_wp2_with fail
              go_meet
              exact ⟨by rw [HX.out], by first | rfl | trivial⟩
            · have HX : Hid (M = M1) := Lib.hid (HM.out.symm.trans (Eq.trans rfl HM1.out))
              go_wp2_with fail
              go_meet
              exact ⟨by rw [HX.out], by first | rfl | trivial⟩
            · have HX : Hid (M = M1) := Lib.hid (HM.out.symm.trans (Eq.trans rfl HM1.out))
              go_wp2_with fail
              go_meet
              exact ⟨by rw [HX.out], by first | rfl | trivial⟩
            · have HX : Hid (M = M1) := Lib.hid (HM.out.symm.trans (Eq.trans rfl HM1.out))
              go_wp2_with fail
              go_meet
              exact ⟨by rw [HX.out], by first | rfl | trivial⟩
            · have HX : Hid (M = np + 1) := Lib.hid (HM.out.symm.trans (rfl))
              go_wp2_with fail
              go_meet
              exact ⟨by rw [HX.out]; rfl, by first | rfl | trivial⟩
          case rest =>
            obtain ⟨rfl, rfl⟩ := hcut
            clear t2 t3 wnp HM HM1 HB34
            go_wp2_with fail
            go_loopw [9, 13] (fun s9 iv wr => ∃ (a : Nat) (v : Value) (o : List Fa.Flt), v = s9 ∧ iv = .int .i64 (a : Int) ∧ a ≤ M ∧ Hid ((o.length : Int) ≤ 1 + 100000 * k + 1000 * a) ∧ Hid (o = ⟨0, 0, 0⟩ :: (KI k ++ RI k a)) ∧ Hid (FtO wr w3.heap.size v o) ∧ Hid (Below w3.heap.size w3 wr)) (fun _ iv _ => M - (intOf iv).toNat)
            case atStart => exact ⟨0, v, o, rfl, rfl, by omega, Lib.hid (by have := HLN.out; omega), Lib.hid (by rw [HRk.out, List.append_nil]; exact HO.out), HF, HB⟩
            case round =>
              clear HLN HO HF HB HRk
              obtain ⟨a, v, o, rfl, rfl, ha, HLN, HO, HF, HB⟩ := hrel
              obtain ⟨wL, hwL⟩ : ∃ W, W = wr := ⟨_, rfl⟩
              subst hwL
              by_cases haM : a < M
              · have HRa := Lib.hid (HRSk.out a)
                have HPa := Lib.hid (HPk.out a)
                have HPSa := Lib.hid (HPSk.out a)
                have b3 := cell_of_heap (keep_heap IB.out HB.out) 3 (v := .int .i64 b.muteMost) rfl
                have b5 := cell_of_heap (keep_heap IB.out HB.out) 5 (v := .int .i64 b.liftMost) rfl
                have wm : IntKind.i64.wrap (b.muteMost + 1) = b.muteMost + 1 := IntWalk.i64_in _ (by omega)
                have wl : IntKind.i64.wrap (b.liftMost + 1) = b.liftMost + 1 := IntWalk.i64_in _ (by omega)
                go_upto_block 4 with fail
                go_cut [14, 15] (fun v14 v15 wq => v14 = .int .i64 FR ∧ v15 = .int .i64 TO ∧ wq = wL)
                case first =>
                  rcases (by omega : k = 1 ∨ k = 2 ∨ k = 3 ∨ k = 4 ∨ k = 5) with rfl | rfl | rfl | rfl | rfl
                  · have HX : Hid (FR = 0) := Lib.hid (HFR.out.symm.trans rfl)
                    have HY : Hid (TO = 1) := Lib.hid (HTO.out.symm.trans rfl)
                    go_wp2_with fail
                    go_meet
                    exact ⟨by rw [HX.out], by rw [HY.out], by first | rfl | trivial⟩
                  · have HX : Hid (FR = 0) := Lib.hid (HFR.out.symm.trans rfl)
                    have HY : Hid (TO = 1) := Lib.hid (HTO.out.symm.trans rfl)
                    go_wp2_with fail
                    go_meet
                    exact ⟨by rw [HX.out], by rw [HY.out], by first | rfl | trivial⟩
                  · have HX : Hid (FR = 1) := Lib.hid (HFR.out.symm.trans rfl)
                    have HY : Hid (TO = b.muteMost + 1) := Lib.hid (HTO.out.symm.trans rfl)
                    go_wp2_with fail
                    go_meet
                    exact ⟨by rw [HX.out], by rw [HY.out], by first | rfl | trivial⟩
                  · have HX : Hid (FR = 1) := Lib.hid (HFR.out.symm.trans rfl)
                    have HY : Hid (TO = b.liftMost + 1) := Lib.hid (HTO.out.symm.trans rfl)
                    go_wp2_with fail
                    go_meet
                    exact ⟨by rw [HX.out], by rw [HY.out], by first | rfl | trivial⟩
                  · have HX : Hid (FR = 0) := Lib.hid (HFR.out.symm.trans rfl)
                    have HY : Hid (TO = (nk : Int)) := Lib.hid (HTO.out.symm.trans rfl)
                    go_wp2_with fail
                    go_meet
                    exact ⟨by rw [HX.out], by rw [HY.out], by first | rfl | trivial⟩
                case rest =>
                  obtain ⟨rfl, rfl, rfl⟩ := hcut
                  clear b3 b5 wm wl
                  go_wp2_with fail
                  go_loopw [9, 16] (fun s9 iv wr => ∃ (j : Nat) (v : Value) (o : List Fa.Flt), v = s9 ∧ iv = .int .i64 (FR + (j : Int)) ∧ j ≤ LN ∧ Hid ((o.length : Int) ≤ 1 + 100000 * k + 1000 * a + j) ∧ Hid (o = ⟨0, 0, 0⟩ :: (KI k ++ (RI k a ++ PI k a j))) ∧ Hid (FtO wr w3.heap.size v o) ∧ Hid (Below w3.heap.size w3 wr)) (fun _ iv _ => LN - (intOf iv - FR).toNat)
                  case atStart => exact ⟨0, v, o, rfl, by simp, by omega, Lib.hid (by have := HLN.out; omega), Lib.hid (by rw [HPa.out, List.append_nil]; exact HO.out), HF, HB⟩
                  case round =>
                    clear HLN HO HF HB HPa
                    obtain ⟨j, v, o, rfl, rfl, hj, HLN, HO, HF, HB⟩ := hrel
                    obtain ⟨wM, hwM⟩ : ∃ W, W = wr := ⟨_, rfl⟩
                    subst hwM
                    by_cases hjL : j < LN
                    · have HPj := Lib.hid (HPSa.out j)
                      obtain ⟨c, hcc⟩ : ∃ c, FR + (j : Int) = c := ⟨_, rfl⟩
                      rw [hcc] at HPj ⊢
                      have hcT : c < TO := by omega
                      have hc0 : 0 ≤ c ∧ c ≤ 1000 := by omega
                      have HC1 := Lib.hid (HAL.out k (a : Int) c)
                      have HC2 := Lib.hid (HCN.out k (a : Int) c)
                      have HC3 := Lib.hid (fun W hW => HPO.out k (a : Int) c W hW (fun _ => hc0))
                      have HX := Lib.hid (HOK.out ⟨k, (a : Int), c⟩)
                      obtain ⟨X, hXo⟩ : ∃ X, ok ⟨k, (a : Int), c⟩ = X := ⟨_, rfl⟩
                      obtain ⟨X1, hX1⟩ : ∃ X, AL ⟨k, (a : Int), c⟩ = X := ⟨_, rfl⟩
                      obtain ⟨X2, hX2⟩ : ∃ X, CO ⟨k, (a : Int), c⟩ = X := ⟨_, rfl⟩
                      obtain ⟨X3, hX3⟩ : ∃ X, PO ⟨k, (a : Int), c⟩ = X := ⟨_, rfl⟩
                      rw [hX1] at HC1 HX
                      rw [hX2] at HC2 HX
                      rw [hX3] at HC3 HX
                      rw [hXo] at HX HPj
                      clear hXo hX1 hX2 hX3
                      have hNX : IntKind.i64.wrap (c + 1) = FR + ((j + 1 : Nat) : Int) := (IntWalk.i64_in _ (by omega)).trans (by omega)
                      have HSK : Hid (X = false → o = ⟨0, 0, 0⟩ :: (KI k ++ (RI k a ++ PI k a (j + 1)))) := Lib.hid (fun hx => by rw [HPj.out, hx, HO.out]; simp)
                      have HAD : Hid (X = true → o ++ [⟨k, (a : Int), c⟩] = ⟨0, 0, 0⟩ :: (KI k ++ (RI k a ++ PI k a (j + 1)))) := Lib.hid (fun hx => by rw [HPj.out, hx, HO.out]; simp)
                      clear HPj HO
                      obtain ⟨wN, hwN⟩ : ∃ W, W = wM.alloc (.cells #[.int .i64 k, .int .i64 (a : Int), .int .i64 c] 38) := ⟨_, rfl⟩
                      have bN : Below wM.heap.size wM wN := by rw [hwN]; exact (Below.refl _ _).alloc (Nat.le_refl _) _
                      have BN := Lib.hid (HB.out.trans (bN.mono HB.out.size))
                      obtain ⟨G, hG⟩ : ∃ n, wM.heap.size = n := ⟨_, rfl⟩
                      have GN : Hid (wN.heap[G]? = some (.cells #[.int .i64 k, .int .i64 (a : Int), .int .i64 c] 38 (0, 0))) := Lib.hid (by rw [hwN, ← hG]; exact heap_alloc_new _ _)
                      have FN := Lib.hid (HF.out.keep bN)
                      have HWN := Lib.hid hwN
                      clear bN hwN HF HB
                      go_upto_region 29 with fail
                      rw [← HWN.out]
                      try rw [hG]
                      clear hG HWN
                      have b0 := cell_of_heap (keep_heap IB.out BN.out) 0 (v := .int .i64 b.stops) rfl
                      have b1 := cell_of_heap (keep_heap IB.out BN.out) 1 (v := .int .i64 b.cells) rfl
                      have b2 := cell_of_heap (keep_heap IB.out BN.out) 2 (v := .int .i64 b.mutes) rfl
                      have b3 := cell_of_heap (keep_heap IB.out BN.out) 3 (v := .int .i64 b.muteMost) rfl
                      have b4 := cell_of_heap (keep_heap IB.out BN.out) 4 (v := .int .i64 b.lifts) rfl
                      have b5 := cell_of_heap (keep_heap IB.out BN.out) 5 (v := .int .i64 b.liftMost) rfl
                      have b6 := cell_of_heap (keep_heap IB.out BN.out) 6 (v := .int .i64 b.steps) rfl
                      have f0 := cell_of_heap GN.out 0 (v := .int .i64 k) rfl
                      have f1 := cell_of_heap GN.out 1 (v := .int .i64 (a : Int)) rfl
                      have f2 := cell_of_heap GN.out 2 (v := .int .i64 c) rfl
                      go_wp2_with fail
                      go_at_call 18; with_reducible refine (HC1.out _).mono ?_; rintro e w5 ⟨rfl, b9⟩
                      have B5 := Lib.hid (BN.out.trans (b9.mono BN.out.size))
                      have G5 := Lib.hid (keep_heap GN.out b9)
                      have F5 := Lib.hid (FN.out.keep b9)
                      clear b0 b1 b2 b3 b4 b5 b6 f0 f1 f2 b9 BN GN FN
                      cases X1 with
                      | false =>
                        have HE := Lib.hid (HSK.out (by rw [HX.out]; rfl))
                        go_wp2_with fail
                        go_roundw
                        case rel => exact ⟨j + 1, v, o, rfl, by first | rfl | (rw [hNX]), by omega, Lib.hid (by have := HLN.out; omega), HE, F5, B5⟩
                        case measure => simp [intOf]; omega
                      | true =>
                        have t0 := cell_of_heap (keep_heap IT.out B5.out) 0 (v := .int .i64 s.tick) rfl
                        have t1 := cell_of_heap (keep_heap IT.out B5.out) 1 (v := .slice a1 l1 c1) rfl
                        have t2 := cell_of_heap (keep_heap IT.out B5.out) 2 (v := .slice a2 nr c2) rfl
                        have t3 := cell_of_heap (keep_heap IT.out B5.out) 3 (v := .slice a3 np c3) rfl
                        have t4 := cell_of_heap (keep_heap IT.out B5.out) 4 (v := .slice a4 l4 c4) rfl
                        have t5 := cell_of_heap (keep_heap IT.out B5.out) 5 (v := .slice a5 l5 c5) rfl
                        have f0 := cell_of_heap G5.out 0 (v := .int .i64 k) rfl
                        have f1 := cell_of_heap G5.out 1 (v := .int .i64 (a : Int)) rfl
                        have f2 := cell_of_heap G5.out 2 (v := .int .i64 c) rfl
                        go_wp2_with fail
                        go_at_call 10; with_reducible refine (HC2.out _ (B0.out.trans (B5.out.mono B0.out.size))).mono ?_; rintro e w6 ⟨rfl, b9⟩
                        have B6 := Lib.hid (B5.out.trans (b9.mono B5.out.size))
                        have G6 := Lib.hid (keep_heap G5.out b9)
                        have F6 := Lib.hid (F5.out.keep b9)
                        clear t0 t1 t2 t3 t4 t5 f0 f1 f2 b9 B5 G5 F5
                        cases X2 with
                        | false =>
                          have HE := Lib.hid (HSK.out (by rw [HX.out]; rfl))
                          go_wp2_with fail
                          go_roundw
                          case rel => exact ⟨j + 1, v, o, rfl, by first | rfl | (rw [hNX]), by omega, Lib.hid (by have := HLN.out; omega), HE, F6, B6⟩
                          case measure => simp [intOf]; omega
                        | true =>
                          have p0 := cell_of_heap (keep_heap IS.out B6.out) 0 (v := .int .i64 f.w) rfl
                          have p1 := cell_of_heap (keep_heap IS.out B6.out) 1 (v := .int .i64 f.h) rfl
                          have p2 := cell_of_heap (keep_heap IS.out B6.out) 2 (v := .int .i64 f.d) rfl
                          have p3 := cell_of_heap (keep_heap IS.out B6.out) 3 (v := .slice ka nk kc) rfl
                          have p4 := cell_of_heap (keep_heap IS.out B6.out) 4 (v := ov) rfl
                          have p5 := cell_of_heap (keep_heap IS.out B6.out) 5 (v := zv) rfl
                          have p6 := cell_of_heap (keep_heap IS.out B6.out) 6 (v := av) rfl
                          have p7 := cell_of_heap (keep_heap IS.out B6.out) 7 (v := hv) rfl
                          have p8 := cell_of_heap (keep_heap IS.out B6.out) 8 (v := bv) rfl
                          have t0 := cell_of_heap (keep_heap IT.out B6.out) 0 (v := .int .i64 s.tick) rfl
                          have t1 := cell_of_heap (keep_heap IT.out B6.out) 1 (v := .slice a1 l1 c1) rfl
                          have t2 := cell_of_heap (keep_heap IT.out B6.out) 2 (v := .slice a2 nr c2) rfl
                          have t3 := cell_of_heap (keep_heap IT.out B6.out) 3 (v := .slice a3 np c3) rfl
                          have t4 := cell_of_heap (keep_heap IT.out B6.out) 4 (v := .slice a4 l4 c4) rfl
                          have t5 := cell_of_heap (keep_heap IT.out B6.out) 5 (v := .slice a5 l5 c5) rfl
                          have f0 := cell_of_heap G6.out 0 (v := .int .i64 k) rfl
                          have f1 := cell_of_heap G6.out 1 (v := .int .i64 (a : Int)) rfl
                          have f2 := cell_of_heap G6.out 2 (v := .int .i64 c) rfl
                          go_wp2_with fail
                          go_at_call 57; with_reducible refine (HC3.out _ (B0.out.trans (B6.out.mono B0.out.size))).mono ?_; rintro e w7 ⟨rfl, b9⟩
                          have B7 := Lib.hid (B6.out.trans (b9.mono B6.out.size))
                          have G7 := Lib.hid (keep_heap G6.out b9)
                          have F7 := Lib.hid (F6.out.keep b9)
                          clear p0 p1 p2 p3 p4 p5 p6 p7 p8 t0 t1 t2 t3 t4 t5 f0 f1 f2 b9 B6 G6 F6
                          cases X3 with
                          | false =>
                            have HE := Lib.hid (HSK.out (by rw [HX.out]; rfl))
                            go_wp2_with fail
                            go_roundw
                            case rel => exact ⟨j + 1, v, o, rfl, by first | rfl | (rw [hNX]), by omega, Lib.hid (by have := HLN.out; omega), HE, F7, B7⟩
                            case measure => simp [intOf]; omega
                          | true =>
                            have f0 := cell_of_heap G7.out 0 (v := .int .i64 k) rfl
                            have f1 := cell_of_heap G7.out 1 (v := .int .i64 (a : Int)) rfl
                            have f2 := cell_of_heap G7.out 2 (v := .int .i64 c) rfl
                            have HE := Lib.hid (HAD.out (by rw [HX.out]; rfl))
                            have b8 : Below w7.heap.size w7 (w7.alloc (.cells #[.int .i64 k, .int .i64 (a : Int), .int .i64 c] 38)) := (Below.refl _ _).alloc (Nat.le_refl _) _
                            have B8 := Lib.hid (B7.out.trans (b8.mono B7.out.size))
                            have F8 := Lib.hid (F7.out.keep b8)
                            have N8 := Lib.hid (ftv_one (x := ⟨k, (a : Int), c⟩) (heap_alloc_new w7 (.cells #[.int .i64 k, .int .i64 (a : Int), .int .i64 c] 38)))
                            have hbs := B8.out.size
                            go_wp2_with (at_builtin; refine wpList_app_ft rfl (.tmp 89) (.tmp 91) rfl w3.heap.size v _ rfl F8.out _ [⟨k, (a : Int), c⟩] rfl N8.out ?d1 hbs ?_)
                            case d1 => have := HLN.out; simp; omega
                            intro v9 w9 ho9 hg9
                            have F9 := Lib.hid ho9
                            have B9 := Lib.hid (B8.out.trans (below_ft F8.out hg9 (Nat.le_refl _) hbs))
                            clear ho9 hg9 hbs b8 f0 f1 f2
                            go_wp2_with fail
                            go_roundw
                            case rel => exact ⟨j + 1, v9, o ++ [⟨k, (a : Int), c⟩], rfl, by first | rfl | (rw [hNX]), by omega, Lib.hid (by have := HLN.out; rw [List.length_append, List.length_singleton]; omega), HE, F9, B9⟩
                            case measure => simp [intOf]; omega
                    · have hje : j = LN := by omega
                      have hcT : ¬ (FR + (j : Int) < TO) := by omega
                      have HE : Hid (o = ⟨0, 0, 0⟩ :: (KI k ++ RI k (a + 1))) := Lib.hid (by rw [HRa.out, HO.out, hje])
                      have wa1 : IntKind.i64.wrap ((a : Int) + 1) = ((a + 1 : Nat) : Int) := (IntWalk.i64_in _ (by omega)).trans (by omega)
                      go_wp2_with fail
                      go_roundw
                      case rel => exact ⟨a + 1, v, o, rfl, by first | rfl | (rw [wa1]), by omega, Lib.hid (by have := HLN.out; omega), HE, HF, HB⟩
                      case measure => simp [intOf]; omega
              · have hae : a = M := by omega
                have haT : ¬ ((a : Int) < (M : Int)) := by omega
                have HE : Hid (o = ⟨0, 0, 0⟩ :: KI (k + 1)) := Lib.hid (by rw [HS.out, HO.out, hae])
                have wk1 : IntKind.i64.wrap (k + 1) = k + 1 := IntWalk.i64_in _ (by omega)
                go_wp2_with fail
                go_roundw
                case rel => exact ⟨k + 1, v, o, rfl, by first | rfl | (rw [wk1]), by omega, by omega, Lib.hid (by have := HLN.out; omega), HE, HF, HB⟩
                case measure => simp [intOf]; omega
    · have hke : k = 6 := by omega
      have HL := Lib.hid HL6.out
      have HE : Hid (o = ⟨0, 0, 0⟩ :: KI 6) := Lib.hid (by rw [HO.out, hke])
      go_wp2_with fail
      go_ret
      exact ⟨_, rfl, o, HF.out.ftv, by rw [HE.out]; exact HL.out, B0.out.trans (HB.out.mono B0.out.size)⟩
end Go.Proofs.YtcdfmgobokjcnaaGreatDoor
