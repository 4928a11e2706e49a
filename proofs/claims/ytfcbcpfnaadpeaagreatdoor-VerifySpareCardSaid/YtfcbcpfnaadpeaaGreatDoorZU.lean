/- Parts Bq of this claim, laid one behind the other: walks and the plain laws behind them; each contract states its own conditions. -/
import Derived.Test.YtfcbcpfnaadpeaaGreatDoorZJ
import Derived.Test.YtfcbcpfnaadpeaaGreatDoorZK
/- Walks of package blocks: Caps. -/
namespace Go.Proofs.YtfcbcpfnaadpeaaGreatDoor
set_option linter.unusedSimpArgs false
set_option linter.unusedVariables false
open Go.RowKit

theorem made_intsN (n : Nat) : madeCells #[.int .i64 0] n = (ints (List.replicate n 0)).toArray := by
  apply Array.ext_getElem?
  intro k
  by_cases hk : k < n
  · simp [madeCells, ints, hk, Nat.mod_one]
  · simp [madeCells, ints, hk]
set_option maxRecDepth 100000 in
set_option maxHeartbeats 16000000 in
theorem Caps_any (s : Si.Site) (kv ov zv av sv rv : Value) (w : World) (h : SiV w kv ov zv av sv rv s) (hk : Si.Ok s) :
    Calls Tryz.prog 46 #[siV s kv ov zv av sv rv] w fun e w' => ∃ v, e = .returned v ∧ Is w' v (Si.capsL s) ∧ w'.ownsRow w.heap.size 3 1 v s.zones.length (ints (Si.capsL s)) ∧ Below w.heap.size w w' := by
  obtain ⟨a1, c1, a2, c2, a3, c3, a4, c4, a5, c5, a6, c6, rfl, rfl, rfl, rfl, rfl, rfl, m1, m2, m3, m4, m5, m6⟩ := h.open
  have hzn := hk.zn
  have hsn := hk.sn
  obtain ⟨w1, hw1⟩ : ∃ w1, w1 = w.alloc (.cells #[.int .i64 s.floor.w, .int .i64 s.floor.h, .int .i64 s.floor.d, .slice a1 s.floor.kind.length c1, .slice a2 s.floor.out.length c2, .slice a3 s.zones.length c3, .slice a4 s.aparts.length c4, .slice a5 s.shelves.length c5, .slice a6 s.robots.length c6] 30) := ⟨_, rfl⟩
  have B1 : Hid (Below w.heap.size w w1) := Lib.hid (by rw [hw1]; exact (Below.refl _ w).alloc (Nat.le_refl _) _)
  have I1 : Hid (w1.heap[w.heap.size]? = some (.cells #[.int .i64 s.floor.w, .int .i64 s.floor.h, .int .i64 s.floor.d, .slice a1 s.floor.kind.length c1, .slice a2 s.floor.out.length c2, .slice a3 s.zones.length c3, .slice a4 s.aparts.length c4, .slice a5 s.shelves.length c5, .slice a6 s.robots.length c6] 30 (0, 0))) := Lib.hid (by rw [hw1]; exact heap_alloc_new _ _)
  have hzz : ZnS s.zones := hk.zs
  have HX := Lib.hid (fun W c hV => ZoneOf_any s (.slice a1 s.floor.kind.length c1) (.slice a2 s.floor.out.length c2) (.slice a3 s.zones.length c3) (.slice a4 s.aparts.length c4) (.slice a5 s.shelves.length c5) (.slice a6 s.robots.length c6) c W hV hzz)
  unfold siV at HX ⊢
  obtain ⟨l1, e1⟩ : ∃ n, s.floor.kind.length = n := ⟨_, rfl⟩
  obtain ⟨l2, e2⟩ : ∃ n, s.floor.out.length = n := ⟨_, rfl⟩
  obtain ⟨l3, e3⟩ : ∃ n, s.zones.length = n := ⟨_, rfl⟩
  obtain ⟨l4, e4⟩ : ∃ n, s.aparts.length = n := ⟨_, rfl⟩
  obtain ⟨l5, e5⟩ : ∃ n, s.shelves.length = n := ⟨_, rfl⟩
  obtain ⟨l6, e6⟩ : ∃ n, s.robots.length = n := ⟨_, rfl⟩
  rw [e1, e2, e3, e4, e5, e6] at h hw1 I1 HX
  rw [e1, e2, e3, e4, e5, e6]
  rw [e3] at m3 hzn
  rw [e5] at m5 hsn
  have HV := Lib.hid h
  have HK := Lib.hid hk
  have E3 := Lib.hid e3
  have E5 := Lib.hid e5
  have HW1 := Lib.hid hw1
  have s1 : w.heap.size < w1.heap.size := heap_lt I1.out
  have hs1 : w1.heap.size = w.heap.size + 1 := by rw [hw1]; simp
  have HS1 := Lib.hid hs1
  have ls1 : w1.heap.size ≤ w.heap.size + 1 := by omega
  have ls2 : w.heap.size + 1 ≤ w1.heap.size := by omega
  have p5 : w1.cell? ⟨w.heap.size, 5, none⟩ = some (.slice a3 l3 c3) := cell_of_heap I1.out 5 rfl
  have p7 : w1.cell? ⟨w.heap.size, 7, none⟩ = some (.slice a5 l5 c5) := cell_of_heap I1.out 7 rfl
  have hmk := make_ints l3 (l3 : Int) rfl (by omega)
  have H0 : Hid ((w1.alloc (.cells (madeCells #[.int .i64 0] l3) 3)).heap[w.heap.size + 1]? = some (.cells (ints (Si.takenL s 0)).toArray 3 (0, 0))) := Lib.hid (by
    rw [made_intsN, ← hs1, show Si.takenL s 0 = List.replicate l3 0 by
      unfold Si.takenL Si.takenK
      rw [e3]
      apply List.ext_getElem?
      intro i
      by_cases hi : i < l3
      · simp [hi]
      · simp [hi]]
    exact heap_alloc_new _ _)
  have HC0 := Lib.hid (show ints (Si.capsL s) = ints ((List.range l3).map (Si.capOf s)) by unfold Si.capsL; rw [e3])
  clear h hk e1 e2 e3 e4 e5 e6 hw1 hs1 hzz
  go_enter Tryz.func46, Tryz.ntmps46
  go_wp2_with fail
  rw [← HW1.out]
  go_loopw [17] (fun iv wr => ∃ k : Nat, k ≤ l5 ∧ iv = .int .i64 k ∧ Hid (wr.heap[w.heap.size + 1]? = some (.cells (ints (Si.takenL s k)).toArray 3 (0, 0))) ∧ Hid (Below w1.heap.size w1 wr)) (fun iv _ => l5 - (intOf iv).toNat)
  case atStart => exact ⟨0, by omega, rfl, H0, Lib.hid ((Below.refl _ _).alloc (Nat.le_refl _) _)⟩
  case round =>
    obtain ⟨k, hkl, rfl, HT, HB⟩ := hrel
    have hwz := HB.out.size
    have BT := Lib.hid (B1.out.trans (HB.out.mono B1.out.size))
    by_cases hkn : k < l5
    · have hku : k < s.shelves.length := by rw [E5.out]; exact hkn
      obtain ⟨sb, so, e1, hsb, q0, q1⟩ := SfV.cell (Rw.keep HV.out.sf BT.out) k hku
      subst e1
      have i1 := keep_heap I1.out HB.out
      have r0 : wr.cell? ⟨w.heap.size, 0, none⟩ = some (.int .i64 s.floor.w) := cell_of_heap i1 0 rfl
      have r1 : wr.cell? ⟨w.heap.size, 1, none⟩ = some (.int .i64 s.floor.h) := cell_of_heap i1 1 rfl
      have r2 : wr.cell? ⟨w.heap.size, 2, none⟩ = some (.int .i64 s.floor.d) := cell_of_heap i1 2 rfl
      have r3 : wr.cell? ⟨w.heap.size, 3, none⟩ = some (.slice a1 l1 c1) := cell_of_heap i1 3 rfl
      have r4 : wr.cell? ⟨w.heap.size, 4, none⟩ = some (.slice a2 l2 c2) := cell_of_heap i1 4 rfl
      have r5 : wr.cell? ⟨w.heap.size, 5, none⟩ = some (.slice a3 l3 c3) := cell_of_heap i1 5 rfl
      have r6 : wr.cell? ⟨w.heap.size, 6, none⟩ = some (.slice a4 l4 c4) := cell_of_heap i1 6 rfl
      have r7 : wr.cell? ⟨w.heap.size, 7, none⟩ = some (.slice (some ⟨sb, so, none⟩) l5 c5) := cell_of_heap i1 7 rfl
      have r8 : wr.cell? ⟨w.heap.size, 8, none⟩ = some (.slice a6 l6 c6) := cell_of_heap i1 8 rfl
      have lw : w.heap.size < wr.heap.size := heap_lt i1
      have hzr := Si.zoneOf_range s.zones s.shelves[k].1
      have HN1 := Lib.hid (Si.takenL_none s k hku)
      have HN2 := Lib.hid (fun z => Si.takenL_some s k z hku)
      obtain ⟨C, hC⟩ : ∃ C, s.shelves[k].1 = C := ⟨_, rfl⟩
      obtain ⟨NM, hNM⟩ : ∃ C, s.shelves[k].2 = C := ⟨_, rfl⟩
      rw [hC] at q0 hzr HN1 HN2
      rw [hNM] at q1
      have k0 : (0 : Int) ≤ (k : Int) := by omega
      have k1 : (k : Int) < (l5 : Int) := by omega
      have BA := Lib.hid ((Below.refl _ wr).alloc (Nat.le_refl _) (.cells #[.int .i64 C, .string ⟨NM.toArray⟩] 163))
      have HVA : Hid (SiV (wr.alloc (.cells #[.int .i64 C, .string ⟨NM.toArray⟩] 163)) (.slice a1 l1 c1) (.slice a2 l2 c2) (.slice a3 l3 c3) (.slice a4 l4 c4) (.slice (some ⟨sb, so, none⟩) l5 c5) (.slice a6 l6 c6) s) := Lib.hid ((HV.out.keep BT.out).keep BA.out)
      clear i1 hC hNM
      obtain ⟨Z, hZ⟩ : ∃ Z, Si.zoneOf s.zones C = Z := ⟨_, rfl⟩
      have HZ := Lib.hid hZ
      rw [hZ, E3.out] at hzr
      rw [hZ] at HN1 HN2
      clear hZ
      by_cases hz0 : Z < 0
      · have HN3 := Lib.hid (HN1.out hz0)
        go_wp2_with fail
        go_at_call 100; refine (HX.out _ C HVA.out).mono ?_; rintro e w3 ⟨rfl, b3⟩
        rw [HZ.out]
        have B3 := Lib.hid (BA.out.trans (b3.mono (by simp)))
        clear b3
        go_wp2_with fail
        go_roundw
        case rel => exact ⟨k + 1, by omega, by go_num, Lib.hid (by rw [HN3.out]; exact keep_heap HT.out B3.out), Lib.hid (HB.out.trans (B3.out.mono hwz))⟩
        case measure => simp [intOf]; omega
      · obtain ⟨z, rfl⟩ : ∃ z : Nat, Z = (z : Int) := ⟨Z.toNat, by omega⟩
        have hzl : z < l3 := by omega
        have HN3 := Lib.hid (HN2.out z rfl)
        have htl := Si.takenK_le s k z
        have hcell := Si.takenL_get s k z (by rw [E3.out]; exact hzl)
        obtain ⟨T, hT⟩ : ∃ T, Si.takenK s k z = T := ⟨_, rfl⟩
        rw [hT] at HN3 htl hcell
        have HCE := Lib.hid hcell
        have z0 : (0 : Int) ≤ (z : Int) := by omega
        have z1 : (z : Int) < (l3 : Int) := by omega
        clear hT hcell hz0
        go_wp2_with fail
        go_at_call 100; refine (HX.out _ C HVA.out).mono ?_; rintro e w3 ⟨rfl, b3⟩
        rw [HZ.out]
        have B3 := Lib.hid (BA.out.trans (b3.mono (by simp)))
        clear b3
        have hg3 := keep_heap HT.out B3.out
        have g0 : w3.cell? ⟨w.heap.size + 1, z, none⟩ = some (.int .i64 T) := cell_of_heap hg3 z (by
          have := HCE.out
          simp only [ints, List.getElem?_toArray, List.getElem?_map, this]; rfl)
        have g1 : w3.frozen? ⟨w.heap.size + 1, z, none⟩ = false := free_of_heap hg3 z
        have HG3 := Lib.hid hg3
        clear hg3
        go_wp2_with fail
        go_roundw
        case rel =>
          refine ⟨k + 1, by omega, by go_num, Lib.hid ?_, Lib.hid ((HB.out.trans (B3.out.mono hwz)).setCell (by show w1.heap.size ≤ w.heap.size + 1; exact ls1) _)⟩
          rw [HN3.out]
          have := set_heap HG3.out z (.int .i64 ((T : Int) + 1))
          rw [ints_set] at this
          exact this
        case measure => simp [intOf]; omega
    · obtain rfl : k = l5 := by omega
      have r5 : wr.cell? ⟨w.heap.size, 5, none⟩ = some (.slice a3 l3 c3) := (HB.out.cell (p := ⟨w.heap.size, 5, none⟩) s1).trans p5
      have lw : w.heap.size < wr.heap.size := by omega
      obtain ⟨wo, rfl⟩ : ∃ wo : World, wo = wr := ⟨_, rfl⟩
      have H1 : Hid (wo.ownsRow wo.heap.size 3 1 (.slice none 0 0) 0 (ints ((List.range 0).map (Si.capOf s)))) := Lib.hid (World.ownsRow_nil ..)
      have lgo : w.heap.size + 1 < wo.heap.size := heap_lt HT.out
      go_wp2_with fail
      go_loopw [37, 7] (fun iv vv wr => ∃ i : Nat, i ≤ l3 ∧ iv = .int .i64 i ∧ Hid (wr.ownsRow wo.heap.size 3 1 vv i (ints ((List.range i).map (Si.capOf s)))) ∧ Hid (Below wo.heap.size wo wr)) (fun iv _ _ => l3 - (intOf iv).toNat)
      case atStart => exact ⟨0, by omega, rfl, H1, Lib.hid (Below.refl _ _)⟩
      case round =>
        obtain ⟨i, hi, rfl, HO, HBR⟩ := hrel
        obtain ⟨vv, rfl⟩ : ∃ v, v = u7 := ⟨_, rfl⟩
        by_cases hil : i < l3
        · have hiu : i < s.zones.length := by rw [E3.out]; exact hil
          obtain ⟨zb, zo, u1, u2, e1, hzb, hu1, hu2, q0, q1, q2, q3, q4⟩ := ((HV.out.zn.keep BT.out).keep HBR.out).cell i hiu
          subst e1
          obtain ⟨z1, d1, rfl, hd1⟩ := hu1.form
          obtain ⟨z2, d2, rfl, -⟩ := two_form hu2
          have hkp := HK.out.zk _ (List.getElem_mem hiu)
          have hcl := (HK.out.zs _ (List.getElem_mem hiu)).2
          have hcap := Si.capOf_eq hiu
          have htl := Si.takenK_le s k i
          have htk := Si.takenK_all s i
          rw [E5.out] at htk
          rw [← htk] at hcap
          have hcell := Si.takenL_get s k i hiu
          obtain ⟨T, hT⟩ : ∃ T, Si.takenK s k i = T := ⟨_, rfl⟩
          rw [hT] at hcap htl hcell
          obtain ⟨Y1, hY1⟩ : ∃ n, s.zones[i].cells.length = n := ⟨_, rfl⟩
          obtain ⟨KP, hKP⟩ : ∃ n, s.zones[i].keep = n := ⟨_, rfl⟩
          obtain ⟨Y2, hY2⟩ : ∃ n, s.zones[i].shut.length = n := ⟨_, rfl⟩
          rw [hY1] at q1 hcl hcap
          rw [hKP] at q3 hkp hcap
          rw [hY2] at q4
          have g0 : wr.cell? ⟨w.heap.size + 1, i, none⟩ = some (.int .i64 T) := (HBR.out.cell (p := ⟨w.heap.size + 1, i, none⟩) lgo).trans (cell_of_heap HT.out i (by
            simp only [ints, List.getElem?_toArray, List.getElem?_map, hcell]; rfl))
          have i0 : (0 : Int) ≤ (i : Int) := by omega
          have i9 : (i : Int) < (l3 : Int) := by omega
          obtain ⟨NM, hNM⟩ : ∃ C, s.zones[i].name = C := ⟨_, rfl⟩
          obtain ⟨SP, hSP⟩ : ∃ C, s.zones[i].speed = C := ⟨_, rfl⟩
          rw [hNM] at q0
          rw [hSP] at q2
          have HCAP := Lib.hid hcap
          have HCS : Hid (ints ((List.range (i + 1)).map (Si.capOf s)) = ints ((List.range i).map (Si.capOf s)) ++ [.int .i64 (Si.capOf s i)]) := Lib.hid (by rw [List.range_succ, List.map_append]; simp [ints])
          obtain ⟨oa, oc, rfl, -⟩ := own_slice HO.out
          have hwr := HBR.out.size
          obtain ⟨hk0, hk1⟩ := hkp
          have hw1 : IntKind.i64.wrap ((Y1 : Int) - (T : Int)) = (Y1 : Int) - (T : Int) := IntWalk.i64_in _ (by omega)
          have hw2 : IntKind.i64.wrap ((Y1 : Int) - (T : Int) - KP) = (Y1 : Int) - (T : Int) - KP := IntWalk.i64_in _ (by omega)
          clear hu1 hu2 hcap hcell hT hY1 hKP hY2 hNM hSP hd1 htk
          have OW : Hid (∀ V : Int, ((wr.alloc (.cells #[.string ⟨NM.toArray⟩, .slice z1 Y1 d1, .int .i64 SP, .int .i64 KP, .slice z2 Y2 d2] 80)).alloc (.cells #[.int .i64 V] 3)).drew.ownsRow wo.heap.size 3 1 (.slice oa i oc) i (ints (List.map (Si.capOf s) (List.range i)))) := Lib.hid (fun V => (World.ownsRow.alloc (World.ownsRow.alloc HO.out _) _).drew)
          have BW : Hid (∀ V : Int, Below wo.heap.size wr ((wr.alloc (.cells #[.string ⟨NM.toArray⟩, .slice z1 Y1 d1, .int .i64 SP, .int .i64 KP, .slice z2 Y2 d2] 80)).alloc (.cells #[.int .i64 V] 3)).drew) := Lib.hid (fun V => (((Below.refl _ wr).alloc hwr _).alloc (by simp; omega) _).drew)
          have hzh : ∀ V : Int, ((wr.alloc (.cells #[.string ⟨NM.toArray⟩, .slice z1 Y1 d1, .int .i64 SP, .int .i64 KP, .slice z2 Y2 d2] 80)).alloc (.cells #[.int .i64 V] 3)).drew.heap[wr.heap.size]? = some (.cells #[.string ⟨NM.toArray⟩, .slice z1 Y1 d1, .int .i64 SP, .int .i64 KP, .slice z2 Y2 d2] 80) := fun V => (heap_alloc_old _ _ (by simp)).trans (heap_alloc_new _ _)
          have Z1 : Hid (∀ V : Int, ((wr.alloc (.cells #[.string ⟨NM.toArray⟩, .slice z1 Y1 d1, .int .i64 SP, .int .i64 KP, .slice z2 Y2 d2] 80)).alloc (.cells #[.int .i64 V] 3)).drew.cell? ⟨wr.heap.size, 1, none⟩ = some (.slice z1 Y1 d1)) := Lib.hid (fun V => cell_of_heap (hzh V) 1 rfl)
          have Z2 : Hid (∀ V : Int, ((wr.alloc (.cells #[.string ⟨NM.toArray⟩, .slice z1 Y1 d1, .int .i64 SP, .int .i64 KP, .slice z2 Y2 d2] 80)).alloc (.cells #[.int .i64 V] 3)).drew.cell? ⟨wr.heap.size, 3, none⟩ = some (.int .i64 KP)) := Lib.hid (fun V => cell_of_heap (hzh V) 3 rfl)
          have Z3 : Hid (∀ V : Int, ((wr.alloc (.cells #[.string ⟨NM.toArray⟩, .slice z1 Y1 d1, .int .i64 SP, .int .i64 KP, .slice z2 Y2 d2] 80)).alloc (.cells #[.int .i64 V] 3)).drew.cell? ⟨w.heap.size + 1, i, none⟩ = some (.int .i64 T)) := Lib.hid (fun V => ((((Below.refl wr.heap.size wr).alloc (Nat.le_refl _) (.cells #[.string ⟨NM.toArray⟩, .slice z1 Y1 d1, .int .i64 SP, .int .i64 KP, .slice z2 Y2 d2] 80)).alloc (by simp) (.cells #[.int .i64 V] 3)).drew.cell (p := ⟨w.heap.size + 1, i, none⟩) (by show w.heap.size + 1 < wr.heap.size; omega)).trans g0)
          have ZN : Hid (∀ k : Nat, k < wo.heap.size ∨ k = wr.heap.size → some k ≠ (Value.slice oa i oc).ownBlock) := Lib.hid (fun k hk e => by
            have := World.ownsRow.lt HO.out k e.symm
            omega)
          clear hzh
          go_wp2_with fail
          go_region_held3 (fun w' => w'.cell? ⟨wr.heap.size, 1, none⟩ = some (.slice z1 Y1 d1) ∧ w'.cell? ⟨wr.heap.size, 3, none⟩ = some (.int .i64 KP) ∧ w'.cell? ⟨w.heap.size + 1, i, none⟩ = some (.int .i64 T)) (go_keep)
            ((refine step_app_int (by rfl) _ _ (by rfl) wo.heap.size (.slice oa i oc) i (ints (List.map (Si.capOf s) (List.range i))) (by rfl) (by exact OW.out _) (wr.heap.size + 1) 1 (max ((Y1 : Int) - (T : Int) - KP) 0) (by rfl) (by exact heap_two3 wr _ _) (by omega) (by simp; omega) ?_; intro av cv w5 ho5 hg5; have hb5 : Below wo.heap.size wr w5 := Below.trans (by exact BW.out _) (below_own (by exact OW.out _) hg5 (Nat.le_refl _) (by simp; omega)); have m1 := hg5.cell (by exact Z1.out _) (by exact ZN.out wr.heap.size (by omega)); have m2 := hg5.cell (by exact Z2.out _) (by exact ZN.out wr.heap.size (by omega)); have m3 := hg5.cell (by exact Z3.out _) (by exact ZN.out (w.heap.size + 1) (by omega)); have HO5 := Lib.hid ho5; have HB5 := Lib.hid hb5; clear ho5 hg5 hb5))
          all_goals
            go_wp2_with fail
            go_roundw
            case rel =>
              refine ⟨i + 1, by omega, by go_num, Lib.hid ?_, Lib.hid (HBR.out.trans HB5.out)⟩
              rw [HCS.out, HCAP.out]
              exact HO5.out
            case measure => simp [intOf]; omega
        · obtain rfl : i = l3 := by omega
          go_wp2_with fail
          go_ret
          have hO : wr.ownsRow wo.heap.size 3 1 vv i (ints (Si.capsL s)) := by rw [HC0.out]; exact HO.out
          refine ⟨_, rfl, Sl.of_own hO (own_max hO), own_mono hO (by omega), BT.out.trans (HBR.out.mono (by omega))⟩
end Go.Proofs.YtfcbcpfnaadpeaaGreatDoor
