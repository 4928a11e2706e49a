/- Parts TeY of this claim, laid one behind the other: walks and the plain laws behind them; each contract states its own conditions. -/
import Derived.Test.YtfcbcpfnaadpeaaGreatDoorTB
import Derived.Test.YtfcbcpfnaadpeaaGreatDoorTX
namespace Go.Proofs.YtfcbcpfnaadpeaaGreatDoor
set_option maxRecDepth 100000
set_option maxHeartbeats 64000000
set_option linter.unusedSimpArgs false
set_option linter.unusedVariables false
open Go.RowKit
def R14PostM (s : Si.Site) (st : Bd.State) (w : World) (e : Ending) (w' : World) : Prop := (∃ b : Bool, e = .returned (.bool b) ∧ (b = true → (∀ r ∈ st.robots, RIn s.floor.kind.length st.shelves.length r) ∧ st.robots.length = s.robots.length)) ∧ Below w.heap.size w w'
theorem r14rightM_any (s : Si.Site) (kv ov zv av sv rv : Value) (st : Bd.State) (shv rov pev dev skv : Value) (w : World) (hs : SiV w kv ov zv av sv rv s) (h : StV w shv rov pev dev skv st) (hf : Few4 st) :
 Calls Tryz.prog 27 #[siV s kv ov zv av sv rv, stV st shv rov pev dev skv] w (R14PostM s st w) := by
 have HRB := hid (fun W (hW : Below w.heap.size w W) (x : Nat) (r : Bd.Robot) (hx : st.robots[x]? = some r) => (by
  obtain ⟨h1, h2⟩ := List.getElem?_eq_some_iff.1 hx
  have h9 := r14robM_any s kv ov zv av sv rv st shv rov pev dev skv x W (hs.keep hW) (h.keep hW) h1
  rw [h2] at h9
  exact h9 : Calls Tryz.prog 74 #[siV s kv ov zv av sv rv, stV st shv rov pev dev skv, .int .i64 x] W (RobPostM s.floor.kind.length st.shelves.length r.cell r.load W)))
 have HKI := hid (fun W (hW : Below w.heap.size w W) c => r14kind_any s.floor kv ov c W (hs.keep hW).fl.kind)
 have HCA := hid (fun W (hW : Below w.heap.size w W) c => r14carrier_any st shv rov pev dev skv c W (h.keep hW).ro)
 have HAL := hid (fun W (hW : Below w.heap.size w W) => r14all_any st shv rov pev dev skv W (h.keep hW) hf)
 have HCL := hid (fun v l W hv hl => r14clash_any v l W hv hl)
 have HSH := hid (fun W (hW : Below w.heap.size w W) => (h.keep hW).sh)
 have HPE := hid (fun W (hW : Below w.heap.size w W) => (h.keep hW).pe)
 have HDE := hid (fun W (hW : Below w.heap.size w W) => (h.keep hW).de)
 have HSK := hid (fun W (hW : Below w.heap.size w W) => (h.keep hW).sk)
 obtain ⟨a1, c1, a2, c2, a3, c3, a4, c4, a5, c5, a6, c6, rfl, rfl, rfl, rfl, rfl, rfl, m1, m2, m3, m4, m5, m6⟩ := hs.open
 obtain ⟨ov, hov⟩ : ∃ v, Value.slice a2 s.floor.out.length c2 = v := ⟨_, rfl⟩
 obtain ⟨zv, hzv⟩ : ∃ v, Value.slice a3 s.zones.length c3 = v := ⟨_, rfl⟩
 obtain ⟨av, hav⟩ : ∃ v, Value.slice a4 s.aparts.length c4 = v := ⟨_, rfl⟩
 rw [hov, hzv, hav] at HRB
 rw [hov] at HKI
 obtain ⟨sa, sc, ra, rc, pa, pc, da, dc, xa, xc, rfl, rfl, rfl, rfl, rfl, n1, n2, n3, n4, n5⟩ := h.open
 unfold siV stV at HRB ⊢
 unfold flV KindPost at HKI
 unfold stV at HAL HCA
 unfold IntPost at HCA
 unfold RowPost at HAL
 unfold ClashPost at HCL
 unfold RobPostM at HRB
 rw [hov, hzv, hav]
 have g1 := hf.sh
 have g2 := hf.ro
 have g3 := hf.pe
 have g4 := hf.de
 have g5 := hf.sk
 obtain ⟨nk, e0⟩ : ∃ n, s.floor.kind.length = n := ⟨_, rfl⟩
 obtain ⟨l5, e6⟩ : ∃ n, s.shelves.length = n := ⟨_, rfl⟩
 obtain ⟨l6, e7⟩ : ∃ n, s.robots.length = n := ⟨_, rfl⟩
 obtain ⟨ns, e1⟩ : ∃ n, st.shelves.length = n := ⟨_, rfl⟩
 obtain ⟨nr, e2⟩ : ∃ n, st.robots.length = n := ⟨_, rfl⟩
 obtain ⟨np, e3⟩ : ∃ n, st.people.length = n := ⟨_, rfl⟩
 obtain ⟨nd, e4⟩ : ∃ n, st.dead.length = n := ⟨_, rfl⟩
 obtain ⟨nx, e5⟩ : ∃ n, st.stuck.length = n := ⟨_, rfl⟩
 have HALL : Hid (nr = l6 → (∀ j (hj : j < st.robots.length), (0 ≤ st.robots[j].cell ∧ st.robots[j].cell < (nk : Int)) ∧ (-1 ≤ st.robots[j].load ∧ st.robots[j].load < (ns : Int))) → (∀ r ∈ st.robots, RIn s.floor.kind.length st.shelves.length r) ∧ st.robots.length = s.robots.length) := hid (fun he h => ⟨fun r hr => by obtain ⟨j, hj, rfl⟩ := List.mem_iff_getElem.1 hr; unfold RIn; rw [e0, e1]; exact h j hj, by rw [e2, e7]; exact he⟩)
 have HNS := hid e1
 have HNR := hid e2
 have HNP := hid e3
 have HND := hid e4
 have HNX := hid e5
 rw [e0, e6, e7, e1, e2, e3, e4, e5] at HRB
 rw [e0] at HKI
 rw [e1, e2, e3, e4, e5] at HCA HAL
 rw [e1] at HSH n1 g1
 rw [e2] at n2 g2
 rw [e3] at HPE n3 g3
 rw [e4] at HDE n4 g4
 rw [e5] at HSK n5 g5
 rw [e0, e6, e7, e1, e2, e3, e4, e5]
 obtain ⟨w1, hw1⟩ : ∃ w1, w1 = (w.alloc (.cells #[.int .i64 s.floor.w, .int .i64 s.floor.h, .int .i64 s.floor.d, .slice a1 nk c1, ov, zv, av, .slice a5 l5 c5, .slice a6 l6 c6] 30)).alloc (.cells #[.int .i64 st.tick, .slice sa ns sc, .slice ra nr rc, .slice pa np pc, .slice da nd dc, .slice xa nx xc] 58) := ⟨_, rfl⟩
 have B1 : Hid (Below w.heap.size w w1) := hid (by rw [hw1]; exact ((Below.refl _ _).alloc (Nat.le_refl _) _).alloc (by simp) _)
 have I1 : Hid (w1.heap[w.heap.size]? = some (.cells #[.int .i64 s.floor.w, .int .i64 s.floor.h, .int .i64 s.floor.d, .slice a1 nk c1, ov, zv, av, .slice a5 l5 c5, .slice a6 l6 c6] 30 (0, 0))) := hid (by rw [hw1]; exact heap_two0 _ _ _)
 have I2 : Hid (w1.heap[w.heap.size + 1]? = some (.cells #[.int .i64 st.tick, .slice sa ns sc, .slice ra nr rc, .slice pa np pc, .slice da nd dc, .slice xa nx xc] 58 (0, 0))) := hid (by rw [hw1]; exact heap_two3 _ _ _)
 have HW1 := hid hw1
 have s1 : w.heap.size + 1 < w1.heap.size := heap_lt I2.out
 have Z0 : Hid (Below w1.heap.size w1 w1) := hid (Below.refl _ _)
 have BB : Hid (∀ W, Below w1.heap.size w1 W → Below w.heap.size w W) := hid (fun W hW => B1.out.trans (hW.mono B1.out.size))
 clear hs h hf hov hzv hav e0 e1 e2 e3 e4 e5 e6 e7 m1 m2 m3 m4 m5 m6 n1 n2 n3 n4 n5 hw1
 obtain ⟨p0, p1, p2, p3, p4, p5, p6, p7, p8⟩ := cells9 I1.out
 obtain ⟨q0, q1, q2, q3, q4, q5⟩ := cells6 I2.out
 go_enter Tryz.func27, Tryz.ntmps27
 go_upto_region 1 with fail
 rw [← HW1.out]
 by_cases f0 : st.tick < 0
 case pos =>
  go_wp2_with fail
  go_ret
  exact ⟨⟨false, rfl, fun h => by cases h⟩, B1.out⟩
 by_cases f1 : 20000 < st.tick
 case pos =>
  go_wp2_with fail
  go_ret
  exact ⟨⟨false, rfl, fun h => by cases h⟩, B1.out⟩
 by_cases f2 : ns = l5
 case neg =>
  have f2' : ((ns : Int) != (l5 : Int)) = true := by simp; omega
  go_wp2_with fail
  go_ret
  exact ⟨⟨false, rfl, fun h => by cases h⟩, B1.out⟩
 subst f2
 by_cases f3 : nr = l6
 case neg =>
  have f3' : ((nr : Int) != (l6 : Int)) = true := by simp; omega
  go_wp2_with fail
  go_ret
  exact ⟨⟨false, rfl, fun h => by cases h⟩, B1.out⟩
 subst f3
 by_cases f4 : 20 < np
 case pos =>
  have f4' : decide ((np : Int) > 20) = true := by simp; omega
  clear f4
  go_wp2_with fail
  go_ret
  exact ⟨⟨false, rfl, fun h => by cases h⟩, B1.out⟩
 have f4' : decide ((np : Int) > 20) = false := by simp; omega
 clear f4
 go_wp2_with fail
 clear f0 f1 f4' p0 p1 p2 p3 p4 p5 p6 p7 p8 q0 q1 q2 q3 q4 q5
 go_loopw [5] (fun iv wr => ∃ (i : Nat), i ≤ nr ∧ iv = .int .i64 i ∧ Hid (∀ j (hj : j < st.robots.length), j < i → (0 ≤ st.robots[j].cell ∧ st.robots[j].cell < (nk : Int)) ∧ (-1 ≤ st.robots[j].load ∧ st.robots[j].load < (ns : Int))) ∧ Hid (Below w1.heap.size w1 wr)) (fun iv _ => nr - (intOf iv).toNat)
 case atStart => exact ⟨0, by omega, rfl, hid (fun j _ h => by omega), Z0⟩
 case round =>
  clear Z0
  obtain ⟨i, hin, rfl, HI, HB⟩ := hrel
  obtain ⟨wA, hwA⟩ : ∃ W, W = wr := ⟨_, rfl⟩
  subst hwA
  have J1 := hid (keep_heap I1.out HB.out)
  have J2 := hid (keep_heap I2.out HB.out)
  obtain ⟨p0, p1, p2, p3, p4, p5, p6, p7, p8⟩ := cells9 J1.out
  obtain ⟨q0, q1, q2, q3, q4, q5⟩ := cells6 J2.out
  by_cases hil : i < nr
  · have d0 : (0 : Int) ≤ (i : Int) := by omega
    have d1 : (i : Int) < (nr : Int) := by omega
    have HC := hid (HRB.out wA (BB.out _ HB.out) i (st.robots[i]'(by rw [HNR.out]; exact hil)) (List.getElem?_eq_getElem _))
    go_wp2_with fail
    go_at_call 74; refine HC.out.mono ?_; rintro e w3 ⟨⟨b, rfl, hb⟩, b3⟩
    have B3 := hid (HB.out.trans (b3.mono HB.out.size))
    have HBT := hid hb
    clear b3 hb HC p0 p1 p2 p3 p4 p5 p6 p7 p8 q0 q1 q2 q3 q4 q5
    cases b with
    | false =>
     go_wp2_with fail
     go_ret
     exact ⟨⟨false, rfl, fun h => by cases h⟩, BB.out _ B3.out⟩
    | true =>
     go_wp2_with fail
     go_roundw
     case rel => exact ⟨i + 1, by omega, by go_num, hid (fun j hj h => by rcases Nat.lt_or_ge j i with e | e; exact HI.out j hj e; obtain rfl : j = i := (by omega); exact HBT.out (by simp)), B3⟩
     case measure => simp [intOf]; omega
  · have k9 : ¬ (i : Int) < (nr : Int) := by omega
    have HIN := hid (HALL.out (by simp) (fun j hj => HI.out j hj (by have := HNR.out; omega)))
    clear HI HALL HRB
    go_wp2_with fail
    clear k9 hil hin p0 p1 p2 p3 p4 p5 p6 p7 p8 q0 q1 q2 q3 q4 q5
    go_loopw [6, 7] (fun iv kv wr => ∃ (i : Nat), i ≤ ns ∧ iv = .int .i64 i ∧ Hid (Below w1.heap.size w1 wr)) (fun iv _ _ => ns - (intOf iv).toNat)
    case atStart => exact ⟨0, by omega, rfl, HB⟩
    case round =>
     clear HB J1 J2
     obtain ⟨i, hin, rfl, HB⟩ := hrel
     obtain ⟨wA, hwA⟩ : ∃ W, W = wr := ⟨_, rfl⟩
     subst hwA
     have J1 := hid (keep_heap I1.out HB.out)
     have J2 := hid (keep_heap I2.out HB.out)
     obtain ⟨p0, p1, p2, p3, p4, p5, p6, p7, p8⟩ := cells9 J1.out
     obtain ⟨q0, q1, q2, q3, q4, q5⟩ := cells6 J2.out
     by_cases hil : i < ns
     · have d0 : (0 : Int) ≤ (i : Int) := by omega
       have d1 : (i : Int) < (ns : Int) := by omega
       obtain ⟨b, o, es, r0⟩ := (HSH.out wA (BB.out _ HB.out)).cell i (by rw [HNS.out]; exact hil)
       subst es
       obtain ⟨Z, hZ⟩ : ∃ Z, Z = st.shelves[i]'(by rw [HNS.out]; exact hil) := ⟨_, rfl⟩
       rw [← hZ] at r0
       clear hZ
       go_upto_region 11 with fail
       refine wp_region_held_drew (S := fun W' => W'.cell? ⟨w.heap.size, 0, none⟩ = some (.int .i64 s.floor.w) ∧ W'.cell? ⟨w.heap.size, 1, none⟩ = some (.int .i64 s.floor.h) ∧ W'.cell? ⟨w.heap.size, 2, none⟩ = some (.int .i64 s.floor.d) ∧ W'.cell? ⟨w.heap.size, 3, none⟩ = some (.slice a1 nk c1) ∧ W'.cell? ⟨w.heap.size, 4, none⟩ = some (ov) ∧ W'.cell? ⟨w.heap.size + 1, 1, none⟩ = some (.slice (some ⟨b, o, none⟩) ns sc) ∧ W'.cell? ⟨b, o + i, none⟩ = some (.int .i64 Z)) (by kernel_rfl) ⟨p0, p1, p2, p3, p4, q1, r0⟩ (fun hHeld => ?_)
       obtain ⟨wX, hwx⟩ : ∃ W, W = wA.drew := ⟨_, rfl⟩
       rw [← hwx] at hHeld ⊢
       have BX : Hid (Below w1.heap.size w1 wX) := hid (HB.out.trans (by subst hwx; exact ⟨rfl, rfl, rfl, Nat.le_refl _, fun _ _ => rfl⟩))
       clear hwx
       refine tk 0 ?_
       try simp only [Act.put, zA, zB, zC, zD, zE, zF]
       refine tk 1 ?_
       try simp only [Act.put, zA, zB, zC, zD, zE, zF]
       refine tk 2 ?_
       try simp only [Act.put, zA, zB, zC, zD, zE, zF]
       refine tk 3 ?_
       try simp only [Act.put, zA, zB, zC, zD, zE, zF]
       refine tk 4 ?_
       try simp only [Act.put, zA, zB, zC, zD, zE, zF]
       refine tk 5 ?_
       try simp only [Act.put, zA, zB, zC, zD, zE, zF]
       refine tk 6 ?_
       try simp only [Act.put, zA, zB, zC, zD, zE, zF]
       refine wpAnyH_ready (rs := [7]) (by kernel_rfl) (by simp) ?_
       refine AllReadyH.cons (o := _) rfl (fun K9 hK => ?_) AllReadyH.nil
       go_simp
       go_at_call 75; with_reducible refine (HKI.out wX (BB.out _ BX.out) Z).mono ?_; rintro e wY ⟨⟨K, rfl, -⟩, bY⟩
       have BY := hid (BX.out.trans (bY.mono BX.out.size))
       have SX : wY.cell? ⟨w.heap.size, 0, none⟩ = some (.int .i64 s.floor.w) ∧ wY.cell? ⟨w.heap.size, 1, none⟩ = some (.int .i64 s.floor.h) ∧ wY.cell? ⟨w.heap.size, 2, none⟩ = some (.int .i64 s.floor.d) ∧ wY.cell? ⟨w.heap.size, 3, none⟩ = some (.slice a1 nk c1) ∧ wY.cell? ⟨w.heap.size, 4, none⟩ = some (ov) ∧ wY.cell? ⟨w.heap.size + 1, 1, none⟩ = some (.slice (some ⟨b, o, none⟩) ns sc) ∧ wY.cell? ⟨b, o + i, none⟩ = some (.int .i64 Z) := by
        obtain ⟨k0, k1, k2, k3, k4, k5, k6⟩ := hHeld
        exact ⟨(bY.cell (p := ⟨w.heap.size, 0, none⟩) (cell_block_lt k0)).trans k0, (bY.cell (p := ⟨w.heap.size, 1, none⟩) (cell_block_lt k1)).trans k1, (bY.cell (p := ⟨w.heap.size, 2, none⟩) (cell_block_lt k2)).trans k2, (bY.cell (p := ⟨w.heap.size, 3, none⟩) (cell_block_lt k3)).trans k3, (bY.cell (p := ⟨w.heap.size, 4, none⟩) (cell_block_lt k4)).trans k4, (bY.cell (p := ⟨w.heap.size + 1, 1, none⟩) (cell_block_lt k5)).trans k5, (bY.cell (p := ⟨b, o + i, none⟩) (cell_block_lt k6)).trans k6⟩
       clear bY hHeld
       go_wp2_with fail
       refine hK.out _ _ SX (fun hHeld => ?_)
       clear hK K9
       try simp only [Act.put, zA, zB, zC, zD, zE, zF]
       refine tk 8 ?_
       try simp only [Act.put, zA, zB, zC, zD, zE, zF]
       refine wpAnyH_done (by kernel_rfl) ?_ _
       clear hHeld SX
       clear p0 p1 p2 p3 p4 p5 p6 p7 p8 q0 q1 q2 q3 q4 q5 r0 J1 J2
       have J2 := hid (keep_heap I2.out BY.out)
       obtain ⟨q0, q1, q2, q3, q4, q5⟩ := cells6 J2.out
       go_wp2_with fail
       go_at_call 76; with_reducible refine (HCA.out wY (BB.out _ BY.out) (i : Int)).mono ?_; rintro e wZ ⟨⟨C, rfl⟩, bZ⟩
       have BZ := hid (BY.out.trans (bZ.mono BY.out.size))
       clear bZ J2 q0 q1 q2 q3 q4 q5
       by_cases c0 : C < 0
       · by_cases c1 : K = 1
         · subst c1
           go_wp2_with fail
           go_roundw
           case rel => exact ⟨i + 1, by omega, by go_num, BZ⟩
           case measure => simp [intOf]; omega
         by_cases c2 : K = 2
         · subst c2
           go_wp2_with fail
           go_roundw
           case rel => exact ⟨i + 1, by omega, by go_num, BZ⟩
           case measure => simp [intOf]; omega
         have e1 : (K != 1) = true := by simpa using c1
         have e2 : (K != 2) = true := by simpa using c2
         clear c1 c2
         go_wp2_with fail
         go_ret
         exact ⟨⟨false, rfl, fun h => by cases h⟩, BB.out _ BZ.out⟩
       · skip
         go_wp2_with fail
         go_roundw
         case rel => exact ⟨i + 1, by omega, by go_num, BZ⟩
         case measure => simp [intOf]; omega
     · have k9 : ¬ (i : Int) < (ns : Int) := by omega
       go_wp2_with fail
       clear k9 hil hin J1 J2 p0 p1 p2 p3 p4 p5 p6 p7 p8 q0 q1 q2 q3 q4 q5
       go_loopw [8, 9] (fun iv kv wr => ∃ (i : Nat), i ≤ np ∧ iv = .int .i64 i ∧ Hid (Below w1.heap.size w1 wr)) (fun iv _ _ => np - (intOf iv).toNat)
       case atStart => exact ⟨0, by omega, rfl, HB⟩
       case round =>
        clear HB
        obtain ⟨i, hin, rfl, HB⟩ := hrel
        obtain ⟨wA, hwA⟩ : ∃ W, W = wr := ⟨_, rfl⟩
        subst hwA
        have J1 := hid (keep_heap I1.out HB.out)
        have J2 := hid (keep_heap I2.out HB.out)
        obtain ⟨p0, p1, p2, p3, p4, p5, p6, p7, p8⟩ := cells9 J1.out
        obtain ⟨q0, q1, q2, q3, q4, q5⟩ := cells6 J2.out
        by_cases hil : i < np
        · have d0 : (0 : Int) ≤ (i : Int) := by omega
          have d1 : (i : Int) < (np : Int) := by omega
          obtain ⟨b, o, es, r0⟩ := (HPE.out wA (BB.out _ HB.out)).cell i (by rw [HNP.out]; exact hil)
          subst es
          obtain ⟨Z, hZ⟩ : ∃ Z, Z = st.people[i]'(by rw [HNP.out]; exact hil) := ⟨_, rfl⟩
          rw [← hZ] at r0
          clear hZ
          go_upto_region 17 with fail
          refine wp_region_held_drew (S := fun W' => W'.cell? ⟨w.heap.size, 0, none⟩ = some (.int .i64 s.floor.w) ∧ W'.cell? ⟨w.heap.size, 1, none⟩ = some (.int .i64 s.floor.h) ∧ W'.cell? ⟨w.heap.size, 2, none⟩ = some (.int .i64 s.floor.d) ∧ W'.cell? ⟨w.heap.size, 3, none⟩ = some (.slice a1 nk c1) ∧ W'.cell? ⟨w.heap.size, 4, none⟩ = some (ov) ∧ W'.cell? ⟨w.heap.size + 1, 3, none⟩ = some (.slice (some ⟨b, o, none⟩) np pc) ∧ W'.cell? ⟨b, o + i, none⟩ = some (.int .i64 Z)) (by kernel_rfl) ⟨p0, p1, p2, p3, p4, q3, r0⟩ (fun hHeld => ?_)
          obtain ⟨wX, hwx⟩ : ∃ W, W = wA.drew := ⟨_, rfl⟩
          rw [← hwx] at hHeld ⊢
          have BX : Hid (Below w1.heap.size w1 wX) := hid (HB.out.trans (by subst hwx; exact ⟨rfl, rfl, rfl, Nat.le_refl _, fun _ _ => rfl⟩))
          clear hwx
          refine tk 0 ?_
          try simp only [Act.put, zA, zB, zC, zD, zE, zF]
          refine tk 1 ?_
          try simp only [Act.put, zA, zB, zC, zD, zE, zF]
          refine tk 2 ?_
          try simp only [Act.put, zA, zB, zC, zD, zE, zF]
          refine tk 3 ?_
          try simp only [Act.put, zA, zB, zC, zD, zE, zF]
          refine tk 4 ?_
          try simp only [Act.put, zA, zB, zC, zD, zE, zF]
          refine tk 5 ?_
          try simp only [Act.put, zA, zB, zC, zD, zE, zF]
          refine tk 6 ?_
          try simp only [Act.put, zA, zB, zC, zD, zE, zF]
          refine wpAnyH_ready (rs := [7]) (by kernel_rfl) (by simp) ?_
          refine AllReadyH.cons (o := _) rfl (fun K9 hK => ?_) AllReadyH.nil
          go_simp
          go_at_call 75; with_reducible refine (HKI.out wX (BB.out _ BX.out) Z).mono ?_; rintro e wY ⟨⟨K, rfl, -⟩, bY⟩
          have BY := hid (BX.out.trans (bY.mono BX.out.size))
          have SX : wY.cell? ⟨w.heap.size, 0, none⟩ = some (.int .i64 s.floor.w) ∧ wY.cell? ⟨w.heap.size, 1, none⟩ = some (.int .i64 s.floor.h) ∧ wY.cell? ⟨w.heap.size, 2, none⟩ = some (.int .i64 s.floor.d) ∧ wY.cell? ⟨w.heap.size, 3, none⟩ = some (.slice a1 nk c1) ∧ wY.cell? ⟨w.heap.size, 4, none⟩ = some (ov) ∧ wY.cell? ⟨w.heap.size + 1, 3, none⟩ = some (.slice (some ⟨b, o, none⟩) np pc) ∧ wY.cell? ⟨b, o + i, none⟩ = some (.int .i64 Z) := by
           obtain ⟨k0, k1, k2, k3, k4, k5, k6⟩ := hHeld
           exact ⟨(bY.cell (p := ⟨w.heap.size, 0, none⟩) (cell_block_lt k0)).trans k0, (bY.cell (p := ⟨w.heap.size, 1, none⟩) (cell_block_lt k1)).trans k1, (bY.cell (p := ⟨w.heap.size, 2, none⟩) (cell_block_lt k2)).trans k2, (bY.cell (p := ⟨w.heap.size, 3, none⟩) (cell_block_lt k3)).trans k3, (bY.cell (p := ⟨w.heap.size, 4, none⟩) (cell_block_lt k4)).trans k4, (bY.cell (p := ⟨w.heap.size + 1, 3, none⟩) (cell_block_lt k5)).trans k5, (bY.cell (p := ⟨b, o + i, none⟩) (cell_block_lt k6)).trans k6⟩
          clear bY hHeld
          go_wp2_with fail
          refine hK.out _ _ SX (fun hHeld => ?_)
          clear hK K9
          try simp only [Act.put, zA, zB, zC, zD, zE, zF]
          refine tk 8 ?_
          try simp only [Act.put, zA, zB, zC, zD, zE, zF]
          refine wpAnyH_done (by kernel_rfl) ?_ _
          clear hHeld SX
          clear p0 p1 p2 p3 p4 p5 p6 p7 p8 q0 q1 q2 q3 q4 q5 r0 J1 J2
          by_cases c1 : K = 4
          · subst c1
            go_wp2_with fail
            go_roundw
            case rel => exact ⟨i + 1, by omega, by go_num, BY⟩
            case measure => simp [intOf]; omega
          by_cases c2 : K = 5
          · subst c2
            go_wp2_with fail
            go_roundw
            case rel => exact ⟨i + 1, by omega, by go_num, BY⟩
            case measure => simp [intOf]; omega
          have e1 : (K != 4) = true := by simpa using c1
          have e2 : (K != 5) = true := by simpa using c2
          clear c1 c2
          go_wp2_with fail
          go_ret
          exact ⟨⟨false, rfl, fun h => by cases h⟩, BB.out _ BY.out⟩
        · have k9 : ¬ (i : Int) < (np : Int) := by omega
          go_wp2_with fail
          clear k9 hil hin J1 J2 p0 p1 p2 p3 p4 p5 p6 p7 p8 q0 q1 q2 q3 q4 q5
          go_loopw [10, 11] (fun lv iv wr => ∃ (i : Nat) (L : Int), i ≤ nd ∧ lv = .int .i64 L ∧ iv = .int .i64 i ∧ Hid (Below w1.heap.size w1 wr)) (fun _ iv _ => nd - (intOf iv).toNat)
          case atStart => exact ⟨0, -1, by omega, rfl, rfl, HB⟩
          case round =>
           clear HB
           obtain ⟨i, L, hin, rfl, rfl, HB⟩ := hrel
           obtain ⟨wA, hwA⟩ : ∃ W, W = wr := ⟨_, rfl⟩
           subst hwA
           have J1 := hid (keep_heap I1.out HB.out)
           have J2 := hid (keep_heap I2.out HB.out)
           obtain ⟨p0, p1, p2, p3, p4, p5, p6, p7, p8⟩ := cells9 J1.out
           obtain ⟨q0, q1, q2, q3, q4, q5⟩ := cells6 J2.out
           by_cases hil : i < nd
           · have d0 : (0 : Int) ≤ (i : Int) := by omega
             have d1 : (i : Int) < (nd : Int) := by omega
             obtain ⟨b, o, es, r0⟩ := (HDE.out wA (BB.out _ HB.out)).cell i (by rw [HND.out]; exact hil)
             subst es
             obtain ⟨Z, hZ⟩ : ∃ Z, Z = st.dead[i]'(by rw [HND.out]; exact hil) := ⟨_, rfl⟩
             rw [← hZ] at r0
             have hbk := cell_block_lt r0
             have hl0 := cell_block_lt p3
             have hl1 := cell_block_lt q4
             clear hZ
             by_cases c1 : Z ≤ L
             · skip
               go_wp2_with fail
               go_quiet (fail)
               go_upto_region 25 with fail
               generalize hwq : wA.drewN _ = wq
               have BQ : Hid (Below wA.heap.size wA wq) := hid (by rw [← hwq]; exact below_drewN _ _ _)
               have BW := hid (HB.out.trans (BQ.out.mono HB.out.size))
               have cr := (BQ.out.cell (p := ⟨b, o + i, none⟩) hbk).trans r0
               have c4 := (BQ.out.cell (p := ⟨w.heap.size + 1, 4, none⟩) hl1).trans q4
               clear hwq r0 p0 p1 p2 p3 p4 p5 p6 p7 p8 q0 q1 q2 q3 q4 q5
               go_wp2_with fail
               go_ret
               exact ⟨⟨false, rfl, fun h => by cases h⟩, BB.out _ BW.out⟩
             by_cases c2 : (nk : Int) ≤ Z
             · skip
               go_wp2_with fail
               go_quiet (fail)
               go_upto_region 25 with fail
               generalize hwq : wA.drewN _ = wq
               have BQ : Hid (Below wA.heap.size wA wq) := hid (by rw [← hwq]; exact below_drewN _ _ _)
               have BW := hid (HB.out.trans (BQ.out.mono HB.out.size))
               have cr := (BQ.out.cell (p := ⟨b, o + i, none⟩) hbk).trans r0
               have c4 := (BQ.out.cell (p := ⟨w.heap.size + 1, 4, none⟩) hl1).trans q4
               clear hwq r0 p0 p1 p2 p3 p4 p5 p6 p7 p8 q0 q1 q2 q3 q4 q5
               go_wp2_with fail
               go_ret
               exact ⟨⟨false, rfl, fun h => by cases h⟩, BB.out _ BW.out⟩
             go_wp2_with fail
             go_quiet (fail)
             go_upto_region 26 with fail
             generalize hwq : wA.drewN _ = wq
             have BQ : Hid (Below wA.heap.size wA wq) := hid (by rw [← hwq]; exact below_drewN _ _ _)
             have BW := hid (HB.out.trans (BQ.out.mono HB.out.size))
             have cr := (BQ.out.cell (p := ⟨b, o + i, none⟩) hbk).trans r0
             have c4 := (BQ.out.cell (p := ⟨w.heap.size + 1, 4, none⟩) hl1).trans q4
             clear hwq r0 p0 p1 p2 p3 p4 p5 p6 p7 p8 q0 q1 q2 q3 q4 q5
             go_wp2_with fail
             go_roundw
             case rel => exact ⟨i + 1, Z, by omega, rfl, by go_num, BW⟩
             case measure => simp [intOf]; omega
           · have k9 : ¬ (i : Int) < (nd : Int) := by omega
             go_wp2_with fail
             clear k9 hil hin J1 J2 p0 p1 p2 p3 p4 p5 p6 p7 p8 q0 q1 q2 q3 q4 q5
             go_loopw [10, 12, 13] (fun lv iv xv wr => ∃ (i : Nat) (L : Int), i ≤ nx ∧ lv = .int .i64 L ∧ iv = .int .i64 i ∧ Hid (Below w1.heap.size w1 wr)) (fun _ iv _ _ => nx - (intOf iv).toNat)
             case atStart => exact ⟨0, -1, by omega, rfl, rfl, HB⟩
             case round =>
              clear HB
              obtain ⟨i, L, hin, rfl, rfl, HB⟩ := hrel
              obtain ⟨wA, hwA⟩ : ∃ W, W = wr := ⟨_, rfl⟩
              subst hwA
              have J1 := hid (keep_heap I1.out HB.out)
              have J2 := hid (keep_heap I2.out HB.out)
              obtain ⟨p0, p1, p2, p3, p4, p5, p6, p7, p8⟩ := cells9 J1.out
              obtain ⟨q0, q1, q2, q3, q4, q5⟩ := cells6 J2.out
              by_cases hil : i < nx
              · have d0 : (0 : Int) ≤ (i : Int) := by omega
                have d1 : (i : Int) < (nx : Int) := by omega
                obtain ⟨b, o, es, hlt, hcs⟩ := Rw.cell (HSK.out wA (BB.out _ HB.out)) i (by rw [List.length_map, HNX.out]; exact hil)
                subst es
                obtain ⟨Z, hZ⟩ : ∃ Z, Z = st.stuck[i]'(by rw [HNX.out]; exact hil) := ⟨_, rfl⟩
                have r0 := hcs 0 (by omega)
                have r1 := hcs 1 (by omega)
                rw [List.getElem_map, ← hZ] at r0 r1
                obtain ⟨ZC, ZL⟩ := Z
                simp only [spanC, Nat.add_zero, List.getElem?_cons_zero, List.getElem?_cons_succ, List.getElem_cons_zero, List.getElem_cons_succ] at r0 r1
                clear hZ hcs
                obtain ⟨wS, hwS⟩ : ∃ W, W = wA.alloc (.cells #[.int .i64 ZC, .int .i64 ZL] 115) := ⟨_, rfl⟩
                have BS0 : Hid (Below wA.heap.size wA wS) := hid (by rw [hwS]; exact (Below.refl _ _).alloc (Nat.le_refl _) _)
                have JS : Hid (wS.heap[wA.heap.size]? = some (.cells #[.int .i64 ZC, .int .i64 ZL] 115 (0, 0))) := hid (by rw [hwS]; exact heap_alloc_new _ _)
                have BS := hid (HB.out.trans (BS0.out.mono HB.out.size))
                have HWS := hid hwS
                clear hwS
                go_upto_region 32 with fail
                rw [← HWS.out]
                clear r0 r1 J1 J2 p0 p1 p2 p3 p4 p5 p6 p7 p8 q0 q1 q2 q3 q4 q5
                have J1 := hid (keep_heap I1.out BS.out)
                have z0 : wS.cell? ⟨wA.heap.size, 0, none⟩ = some (.int .i64 ZC) := cell_of_heap JS.out 0 rfl
                have z1 : wS.cell? ⟨wA.heap.size, 1, none⟩ = some (.int .i64 ZL) := cell_of_heap JS.out 1 rfl
                obtain ⟨p0, p1, p2, p3, p4, -⟩ := cells9 J1.out
                by_cases c1 : ZC ≤ L
                · skip
                  go_wp2_with fail
                  go_ret
                  exact ⟨⟨false, rfl, fun h => by cases h⟩, BB.out _ BS.out⟩
                have HC := hid (HKI.out wS (BB.out _ BS.out) ZC)
                go_wp2_with fail
                go_at_call 75; refine HC.out.mono ?_; rintro e wT ⟨⟨K, rfl, -⟩, bT⟩
                have BT := hid (BS.out.trans (bT.mono BS.out.size))
                have JT := hid (keep_heap JS.out bT)
                clear bT HC z0 z1 p0 p1 p2 p3 p4
                have z0 : wT.cell? ⟨wA.heap.size, 0, none⟩ = some (.int .i64 ZC) := cell_of_heap JT.out 0 rfl
                have z1 : wT.cell? ⟨wA.heap.size, 1, none⟩ = some (.int .i64 ZL) := cell_of_heap JT.out 1 rfl
                by_cases c2 : K = 6
                case neg =>
                 go_wp2_with fail
                 go_ret
                 exact ⟨⟨false, rfl, fun h => by cases h⟩, BB.out _ BT.out⟩
                subst c2
                by_cases c3 : ZL < 1
                · skip
                  go_wp2_with fail
                  go_ret
                  exact ⟨⟨false, rfl, fun h => by cases h⟩, BB.out _ BT.out⟩
                by_cases c4 : 20000 < ZL
                · skip
                  go_wp2_with fail
                  go_ret
                  exact ⟨⟨false, rfl, fun h => by cases h⟩, BB.out _ BT.out⟩
                go_wp2_with fail
                go_roundw
                case rel => exact ⟨i + 1, ZC, by omega, rfl, by go_num, BT⟩
                case measure => simp [intOf]; omega
              · have k9 : ¬ (i : Int) < (nx : Int) := by omega
                go_wp2_with fail
                clear k9 hil hin J1 J2 p0 p1 p2 p3 p4 p5 p6 p7 p8 q0 q1 q2 q3 q4 q5
                have J2 := hid (keep_heap I2.out HB.out)
                obtain ⟨q0, q1, q2, q3, q4, q5⟩ := cells6 J2.out
                go_wp2_with fail
                go_at_call 78; refine (HAL.out wA (BB.out _ HB.out)).mono ?_; rintro e wC ⟨⟨v, l, rfl, ho, hl⟩, bC⟩
                have BC := hid (HB.out.trans (bC.mono HB.out.size))
                have HCC := hid (HCL.out v l wC (Sl.of_own ho (own_max ho)) (by omega))
                clear bC J2 q0 q1 q2 q3 q4 q5
                obtain ⟨va, vc, rfl⟩ := own_form3 ho
                clear ho
                go_wp2_with fail
                go_at_call 77; refine HCC.out.mono ?_; rintro e wD ⟨⟨k, cb, rfl⟩, bD⟩
                have BD := hid (BC.out.trans (bD.mono BC.out.size))
                clear bD HCC
                go_wp2_with fail
                go_ret
                exact ⟨⟨_, rfl, fun _ => HIN.out⟩, BB.out _ BD.out⟩
end Go.Proofs.YtfcbcpfnaadpeaaGreatDoor
