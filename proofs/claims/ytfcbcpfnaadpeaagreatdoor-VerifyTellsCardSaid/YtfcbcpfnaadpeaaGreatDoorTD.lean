/- Parts TeC, TeE, TeF of this claim, laid one behind the other: walks and the plain laws behind them; each contract states its own conditions. -/
import Derived.Test.YtfcbcpfnaadpeaaGreatDoorTC
import Derived.Test.YtfcbcpfnaadpeaaGreatDoorZJ
import Derived.Test.YtfcbcpfnaadpeaaGreatDoorYL
import Derived.Test.YtfcbcpfnaadpeaaGreatDoorZA
namespace Go.Proofs.YtfcbcpfnaadpeaaGreatDoor
set_option maxRecDepth 100000
set_option maxHeartbeats 64000000
set_option linter.unusedSimpArgs false
set_option linter.unusedVariables false
open Go.RowKit
theorem any_takeN {α : Type} {l : List α} {p : α → Bool} {k : Nat} (h : k < l.length) : (l.take (k + 1)).any p = ((l.take k).any p || p l[k]) := by
 rw [List.take_succ_eq_append_getElem h, List.any_append]; simp
theorem rGets_in (s : Si.Site) (kv ov zv av sv rv : Value) (a b : Nat) (w : World) (h : SiV w kv ov zv av sv rv s) (hk : Si.Ok s) (ha : a < s.zones.length) (hb : b < s.zones.length) (hab : a ≠ b) :
 Calls Tryz.prog 25 #[siV s kv ov zv av sv rv, .int .i64 a, .int .i64 b] w fun e w' => e = .returned (.bool (Si.nextZ s a b)) ∧ Below w.heap.size w w' := by
 obtain ⟨a1, c1, a2, c2, a3, c3, a4, c4, a5, c5, a6, c6, rfl, rfl, rfl, rfl, rfl, rfl, m1, m2, m3, m4, m5, m6⟩ := h.open
 obtain ⟨l1, e1⟩ : ∃ n, s.floor.kind.length = n := ⟨_, rfl⟩
 obtain ⟨l3, e3⟩ : ∃ n, s.zones.length = n := ⟨_, rfl⟩
 obtain ⟨l4, e4⟩ : ∃ n, s.aparts.length = n := ⟨_, rfl⟩
 obtain ⟨l5, e5⟩ : ∃ n, s.shelves.length = n := ⟨_, rfl⟩
 obtain ⟨l6, e6⟩ : ∃ n, s.robots.length = n := ⟨_, rfl⟩
 have hzn := hk.zn
 obtain ⟨R, hR⟩ : ∃ R, Si.nextZ s a b = R := ⟨_, rfl⟩
 rw [hR]
 have HRR := hid hR
 clear hR
 unfold siV
 rw [hk.fl.ol, e1, e3, e4, e5, e6] at h ⊢
 rw [e3] at ha hb m3 hzn
 have HV := hid h
 have HK := hid hk
 have E3 := hid e3
 have E1 := hid e1
 obtain ⟨w1, hw1⟩ : ∃ w1, w1 = w.alloc (.cells #[.int .i64 s.floor.w, .int .i64 s.floor.h, .int .i64 s.floor.d, .slice a1 l1 c1, .slice a2 l1 c2, .slice a3 l3 c3, .slice a4 l4 c4, .slice a5 l5 c5, .slice a6 l6 c6] 30) := ⟨_, rfl⟩
 have B1 : Hid (Below w.heap.size w w1) := hid (by rw [hw1]; exact (Below.refl _ w).alloc (Nat.le_refl _) _)
 have I1 : Hid (w1.heap[w.heap.size]? = some (.cells #[.int .i64 s.floor.w, .int .i64 s.floor.h, .int .i64 s.floor.d, .slice a1 l1 c1, .slice a2 l1 c2, .slice a3 l3 c3, .slice a4 l4 c4, .slice a5 l5 c5, .slice a6 l6 c6] 30 (0, 0))) := hid (by rw [hw1]; exact heap_alloc_new _ _)
 have HW1 := hid hw1
 have s1 : w.heap.size < w1.heap.size := heap_lt I1.out
 have p5 : w1.cell? ⟨w.heap.size, 5, none⟩ = some (.slice a3 l3 c3) := cell_of_heap I1.out 5 rfl
 have H0 : Hid (w1.ownsRow w1.heap.size 3 1 (.slice none 0 0) (Si.others a b 0 (s.zones.take 0)).length (ints (Si.others a b 0 (s.zones.take 0)))) := hid (by
  rw [List.take_zero]; exact World.ownsRow_nil w1 w1.heap.size 3 1)
 have a0 : (0 : Int) ≤ (a : Int) := by omega
 have a9 : (a : Int) < (l3 : Int) := by omega
 have b0 : (0 : Int) ≤ (b : Int) := by omega
 have b9 : (b : Int) < (l3 : Int) := by omega
 have ab9 : ((a : Int) == (b : Int)) = false := by simp; omega
 have a8 : ¬ (a : Int) < 0 := by omega
 have b8 : ¬ (b : Int) < 0 := by omega
 have a7 : ¬ (l3 : Int) ≤ (a : Int) := by omega
 have b7 : ¬ (l3 : Int) ≤ (b : Int) := by omega
 have HAB := hid hab
 clear h hk e1 e3 e4 e5 e6 hw1 hab
 go_enter Tryz.func25, Tryz.ntmps25
 go_upto_region 1 with fail
 rw [← HW1.out]
 go_wp2_with fail
 go_loopw [9, 8] (fun iv vv wr => ∃ k : Nat, k ≤ l3 ∧ iv = .int .i64 k ∧ Hid (wr.ownsRow w1.heap.size 3 1 vv (Si.others a b 0 (s.zones.take k)).length (ints (Si.others a b 0 (s.zones.take k)))) ∧ Hid (Below w1.heap.size w1 wr)) (fun iv _ _ => l3 - (intOf iv).toNat)
 case atStart => exact ⟨0, by omega, rfl, H0, hid (Below.refl _ _)⟩
 case round =>
  obtain ⟨k, hkl, rfl, HO, HB⟩ := hrel
  obtain ⟨oa, oc, hvv, hon⟩ := own_slice HO.out
  subst hvv
  have i5 := keep_heap I1.out HB.out
  have lw : w.heap.size < wr.heap.size := heap_lt i5
  by_cases hkn : k < l3
  · have hku : k < s.zones.length := by rw [E3.out]; exact hkn
    have BT := hid (B1.out.trans (HB.out.mono B1.out.size))
    obtain ⟨zb, zo, u1, u2, e1, hzb, hu1, hu2, q0, q1, q2, q3, q4⟩ := (HV.out.zn.keep BT.out).cell k hku
    subst e1
    have r5 : wr.cell? ⟨w.heap.size, 5, none⟩ = some (.slice (some ⟨zb, zo, none⟩) l3 c3) := cell_of_heap i5 5 rfl
    have hlr := (HK.out.zs _ (List.getElem_mem hku)).2
    have kI0 : (0 : Int) ≤ (k : Int) := by omega
    have kI1 : (k : Int) < (l3 : Int) := by omega
    obtain ⟨z1, d1, rfl, -⟩ := hu1.form
    obtain ⟨Z, hZ⟩ : ∃ Z, s.zones[k] = Z := ⟨_, rfl⟩
    rw [hZ] at q1 hu1 hlr
    obtain ⟨y1, hy1⟩ : ∃ n, Z.cells.length = n := ⟨_, rfl⟩
    rw [hy1] at q1 hu1 hlr
    have HZ := hid hZ
    have HU := hid hu1
    have HY := hid hy1
    clear hZ hu1 hu2 hy1 q0 q2 q3 q4 i5 p5
    by_cases hka : k = a
    · have t1 : ((k : Int) != (a : Int)) = false := by simp [hka]
      have HST : Hid (Si.others a b 0 (s.zones.take (k + 1)) = Si.others a b 0 (s.zones.take k)) := hid (by rw [Si.others_step a b s.zones 0 k hku, if_neg (by omega), List.append_nil])
      clear hka
      go_wp2_with fail
      go_roundw
      case rel => exact ⟨k + 1, by omega, by go_num, hid (by rw [HST.out]; exact HO.out), HB⟩
      case measure => simp [intOf]; omega
    by_cases hkb : k = b
    · have t1 : ((k : Int) != (a : Int)) = true := by simp; omega
      have t2 : ((k : Int) != (b : Int)) = false := by simp [hkb]
      have HST : Hid (Si.others a b 0 (s.zones.take (k + 1)) = Si.others a b 0 (s.zones.take k)) := hid (by rw [Si.others_step a b s.zones 0 k hku, if_neg (by omega), List.append_nil])
      clear hka hkb
      go_wp2_with fail
      go_roundw
      case rel => exact ⟨k + 1, by omega, by go_num, hid (by rw [HST.out]; exact HO.out), HB⟩
      case measure => simp [intOf]; omega
    have t1 : ((k : Int) != (a : Int)) = true := by simp; omega
    have t2 : ((k : Int) != (b : Int)) = true := by simp; omega
    have HST : Hid (Si.others a b 0 (s.zones.take (k + 1)) = Si.others a b 0 (s.zones.take k) ++ Z.cells) := hid (by rw [Si.others_step a b s.zones 0 k hku, if_pos (by omega), HZ.out])
    have hol := Si.others_len a b 100000 (s.zones.take k) 0 (fun z hz => (HK.out.zs z (List.mem_of_mem_take hz)).2)
    rw [List.length_take] at hol
    obtain ⟨y3, hy3⟩ : ∃ n, (Si.others a b 0 (s.zones.take k)).length = n := ⟨_, rfl⟩
    have hy4 : y3 ≤ 6400000 := by rw [← hy3]; have := Nat.min_le_left k s.zones.length; have := Nat.mul_le_mul_right 100000 this; omega
    rw [hy3] at HO hon ⊢
    have HY3 := hid hy3
    clear hy3 hol hka hkb
    have hwz := HB.out.size
    go_wp2_with (at_builtin; refine wpList_append_sl rfl (.tmp 49) (.tmp 55) 22 rfl w1.heap.size 3 (.int .i64 0) 8 Tryz.underlying22 Tryz.intInfo rfl (.slice oa y3 oc) y3 (ints (Si.others a b 0 (s.zones.take k))) rfl HO.out (.slice z1 y1 d1) (ints Z.cells) rfl HU.out ?c1 ?c2 ?c3 ?c4 ?_)
    case c1 => intro u hu; obtain ⟨x, -, rfl⟩ := List.mem_map.1 hu; rfl
    case c2 => rw [ints_len, HY.out]; unfold maxLen; omega
    case c3 => rw [ints_len, HY.out]; omega
    case c4 => omega
    intro v' w' ho' hg'
    have HO2 := hid ho'
    have HG2 := hid hg'
    clear ho' hg'
    go_wp2_with fail
    go_roundw
    case rel =>
     refine ⟨k + 1, by omega, by go_num, hid ?_, hid (HB.out.trans (below_own HO.out HG2.out (Nat.le_refl _) hwz))⟩
     rw [HST.out, ints_append, List.length_append, HY3.out]
     have := HO2.out
     rw [ints_len] at this
     exact this
    case measure => simp [intOf]; omega
  · have k9 : ¬ (k : Int) < (l3 : Int) := by omega
    have hkE : k = l3 := by omega
    have BT := hid (B1.out.trans (HB.out.mono B1.out.size))
    have haz : a < s.zones.length := by rw [E3.out]; exact ha
    have hbz : b < s.zones.length := by rw [E3.out]; exact hb
    obtain ⟨zb, zo, u1, u2, e1, hzb, hu1, hu2, q0, q1, q2, q3, q4⟩ := (HV.out.zn.keep BT.out).cell a haz
    obtain ⟨xb, xo, x1, x2, e2, hxb, hx1, hx2, r0, r1, r2, r3, r4⟩ := (HV.out.zn.keep BT.out).cell b hbz
    subst e1
    injection e2 with e2
    injection e2 with e2 e4
    subst e2 e4
    have HAV : Hid (Is wr (.slice oa (Si.others a b 0 (s.zones.take k)).length oc) (Si.others a b 0 s.zones)) := hid (by
     have := Sl.of_own HO.out (own_max HO.out)
     rw [List.take_of_length_le (by rw [E3.out]; omega)] at this ⊢
     exact this)
    have HFL := hid (HV.out.fl.keep BT.out)
    have HU := hid hu1
    have HX := hid hx1
    have HCA : Hid (Si.cellsOf s a = s.zones[a].cells) := hid (Si.cellsOf_eq haz)
    have HFAR : Hid (Si.far s a b = Fl.dist s.floor s.zones[a].cells (Si.others a b 0 s.zones)) := hid (by unfold Si.far; rw [HCA.out])
    have HCB : Hid (Si.cellsOf s b = s.zones[b].cells) := hid (Si.cellsOf_eq hbz)
    obtain ⟨z1, d1, rfl, -⟩ := hu1.form
    obtain ⟨z2, d2, rfl, hz2m⟩ := hx1.form
    have I5 := hid i5
    obtain ⟨p0, p1, p2, p3, p4, p5, -⟩ := cells9 I5.out
    obtain ⟨y1, hy1⟩ : ∃ n, s.zones[a].cells.length = n := ⟨_, rfl⟩
    obtain ⟨y2, hy2⟩ : ∃ n, s.zones[b].cells.length = n := ⟨_, rfl⟩
    obtain ⟨y3, hy3⟩ : ∃ n, (Si.others a b 0 (s.zones.take k)).length = n := ⟨_, rfl⟩
    rw [hy1] at q1 HU
    rw [hy2] at r1 HX hz2m
    rw [hy3] at HAV HO
    rw [hy3]
    have HY2 := hid hy2
    have HFR := hid HK.out.fl
    have HKE := hid hkE
    obtain ⟨wo, hwo⟩ : ∃ wo : World, wo = wr := ⟨_, rfl⟩
    subst hwo
    clear hu1 hu2 hx1 hx2 i5 q0 q2 q3 q4 r0 r2 r3 r4 hy1 hy2 hy3 hon hkE hkn
    have HDI := hid (fun W (hW : Below wo.heap.size wo W) => rDist_any s.floor (.slice a1 l1 c1) (.slice a2 l1 c2) (.slice z1 y1 d1) (.slice oa y3 oc) s.zones[a].cells (Si.others a b 0 s.zones) W HFR.out (HFL.out.keep hW) (HU.out.keep hW) (HAV.out.keep hW))
    unfold flV DistPost at HDI
    go_upto_region 10 with fail
    refine wp_region_held_drew (S := fun W' => W'.cell? ⟨w.heap.size, 0, none⟩ = some (.int .i64 s.floor.w) ∧ W'.cell? ⟨w.heap.size, 1, none⟩ = some (.int .i64 s.floor.h) ∧ W'.cell? ⟨w.heap.size, 2, none⟩ = some (.int .i64 s.floor.d) ∧ W'.cell? ⟨w.heap.size, 3, none⟩ = some (.slice a1 l1 c1) ∧ W'.cell? ⟨w.heap.size, 4, none⟩ = some (.slice a2 l1 c2) ∧ W'.cell? ⟨w.heap.size, 5, none⟩ = some (.slice (some ⟨zb, zo, none⟩) l3 c3) ∧ W'.cell? ⟨zb, zo + a * 5 + 1, none⟩ = some (.slice z1 y1 d1)) (by kernel_rfl) ⟨p0, p1, p2, p3, p4, p5, q1⟩ (fun hHeld => ?_)
    obtain ⟨wx, hwx⟩ : ∃ W, W = wo.drew := ⟨_, rfl⟩
    rw [← hwx] at hHeld ⊢
    have BX0 : Hid (Below wo.heap.size wo wx) := hid (by subst hwx; exact ⟨rfl, rfl, rfl, Nat.le_refl _, fun _ _ => rfl⟩)
    clear hwx
    refine tk 0 ?_
    try simp only [Act.put, zA, zB, zC, zD, zE, zF]
    refine tk 1 ?_
    try simp only [Act.put, zA, zB, zC, zD, zE, zF]
    refine tk 2 ?_
    try simp only [Act.put, zA, zB, zC, zD, zE, zF]
    refine tk 3 ?_
    try simp only [Act.put, zA, zB, zC, zD, zE, zF]
    refine tk 4 ?_
    try simp only [Act.put, zA, zB, zC, zD, zE, zF]
    refine tk 5 ?_
    try simp only [Act.put, zA, zB, zC, zD, zE, zF]
    refine tk 6 ?_
    try simp only [Act.put, zA, zB, zC, zD, zE, zF]
    refine tk 7 ?_
    try simp only [Act.put, zA, zB, zC, zD, zE, zF]
    refine tk 8 ?_
    try simp only [Act.put, zA, zB, zC, zD, zE, zF]
    refine wpAnyH_ready (rs := [9]) (by kernel_rfl) (by simp) ?_
    refine AllReadyH.cons (o := _) rfl (fun K hK => ?_) AllReadyH.nil
    go_simp
    go_at_call 71; with_reducible refine (HDI.out _ BX0.out).mono ?_; rintro e w5 ⟨g, n, rfl, hgn, hg1, hg2, b5⟩
    have BX := hid (BX0.out.trans (b5.mono BX0.out.size))
    rw [← HFAR.out] at hgn hg2
    have HG := hid hg2
    have HGN := hid hgn
    clear b5 hgn hg2
    go_wp2_with fail
    refine hK.out _ _ ?_ (fun hHeld => ?_)
    · exact ⟨(BX.out.cell (p := ⟨w.heap.size, 0, none⟩) lw).trans p0, (BX.out.cell (p := ⟨w.heap.size, 1, none⟩) lw).trans p1, (BX.out.cell (p := ⟨w.heap.size, 2, none⟩) lw).trans p2, (BX.out.cell (p := ⟨w.heap.size, 3, none⟩) lw).trans p3, (BX.out.cell (p := ⟨w.heap.size, 4, none⟩) lw).trans p4, (BX.out.cell (p := ⟨w.heap.size, 5, none⟩) lw).trans p5, (BX.out.cell (p := ⟨zb, zo + a * 5 + 1, none⟩) hzb).trans q1⟩
    clear hK K
    try simp only [Act.put, zA, zB, zC, zD, zE, zF]
    refine tk 10 ?_
    try simp only [Act.put, zA, zB, zC, zD, zE, zF]
    refine wpAnyH_done (by kernel_rfl) ?_ _
    have HFN := hid (Si.far_len (s := s) a b)
    have IX := hid (keep_heap I5.out BX.out)
    have xr1 : w5.cell? ⟨zb, zo + b * 5 + 1, none⟩ = some (.slice z2 y2 d2) := (BX.out.cell (p := ⟨zb, zo + b * 5 + 1, none⟩) hzb).trans r1
    have p5b : w5.cell? ⟨w.heap.size, 5, none⟩ = some (.slice (some ⟨zb, zo, none⟩) l3 c3) := cell_of_heap IX.out 5 rfl
    have HX5 := hid (HX.out.keep BX.out)
    have BT5 := hid (BT.out.trans (BX.out.mono BT.out.size))
    have HNO : Hid ((s.zones[b].cells.take 0).any (fun c => decide (0 ≤ (Si.far s a b).getD c.toNat (-1))) = false) := hid (by simp)
    have HANY : Hid (Si.nextZ s a b = s.zones[b].cells.any fun c => decide (0 ≤ (Si.far s a b).getD c.toNat (-1))) := hid (by unfold Si.nextZ; rw [HCB.out])
    clear hHeld q1 r1 hg1 p0 p1 p2 p3 p4 p5
    go_wp2_with fail
    go_loopw [11] (fun iv wr => ∃ j : Nat, j ≤ y2 ∧ iv = .int .i64 j ∧ Hid ((s.zones[b].cells.take j).any (fun c => decide (0 ≤ (Si.far s a b).getD c.toNat (-1))) = false) ∧ Hid (Below w5.heap.size w5 wr)) (fun iv _ => y2 - (intOf iv).toNat)
    case atStart => exact ⟨0, by omega, rfl, HNO, hid (Below.refl _ _)⟩
    case round =>
     clear HNO
     obtain ⟨j, hj, rfl, HNO, HBQ⟩ := hrel
     obtain ⟨wq, hwq⟩ : ∃ W, W = wr := ⟨_, rfl⟩
     subst hwq
     have IQ := hid (keep_heap IX.out HBQ.out)
     have lx : zb < w5.heap.size := Nat.lt_of_lt_of_le hzb BX.out.size
     have xr2 : wq.cell? ⟨zb, zo + b * 5 + 1, none⟩ = some (.slice z2 y2 d2) := (HBQ.out.cell (p := ⟨zb, zo + b * 5 + 1, none⟩) lx).trans xr1
     have p5q : wq.cell? ⟨w.heap.size, 5, none⟩ = some (.slice (some ⟨zb, zo, none⟩) l3 c3) := cell_of_heap IQ.out 5 rfl
     clear xr1 p5b
     by_cases hjn : j < y2
     · have hjl : j < (s.zones[b]'hbz).cells.length := by rw [HY2.out]; exact hjn
       obtain ⟨cb, co, e9, cx⟩ := (HX5.out.keep HBQ.out).cell j hjl
       subst e9
       have HAT := hid (any_takeN (p := fun c => decide (0 ≤ (Si.far s a b).getD c.toNat (-1))) hjl)
       obtain ⟨m, hm1, hm2⟩ : ∃ m : Nat, (s.zones[b]'hbz).cells[j] = (m : Int) ∧ m < s.floor.kind.length := by
        have h9 := Si.cell_nat HK.out (List.getElem_mem hbz) (List.getElem_mem hjl)
        exact ⟨((s.zones[b]'hbz).cells[j]).toNat, by omega, by omega⟩
       rw [hm1] at cx HAT
       have hmf : m < (Si.far s a b).length := by rw [HFN.out]; exact hm2
       obtain ⟨V, hV⟩ : ∃ V, (Si.far s a b).getD m (-1) = V := ⟨_, rfl⟩
       have gx : wq.cell? ⟨g, m, none⟩ = some (.int .i64 V) := cell_of_heap (keep_heap HG.out HBQ.out) m (by rw [← hV]; simp [ints, List.getD_eq_getElem?_getD, hmf])
       have m0 : (0 : Int) ≤ (m : Int) := by omega
       have m1n : (m : Int) < (n : Int) := by have := HGN.out; omega
       have j0 : (0 : Int) ≤ (j : Int) := by omega
       have j1 : (j : Int) < (y2 : Int) := by omega
       have HVX : Hid ((Si.far s a b).getD ((m : Int)).toNat (-1) = V) := hid (by rw [Int.toNat_natCast]; exact hV)
       clear hm1 hm2 hmf hV
       by_cases hv : 0 ≤ V
       · have HRT : Hid (R = true) := hid (by
          rw [← HRR.out, HANY.out]
          have h1 := HAT.out
          rw [HVX.out, decide_eq_true hv, Bool.or_true] at h1
          rw [List.any_eq_true] at h1 ⊢
          obtain ⟨x, hx, hx2⟩ := h1
          exact ⟨x, List.mem_of_mem_take hx, hx2⟩)
         clear hjl
         go_wp2_with fail
         go_ret
         exact ⟨by rw [HRT.out]; rfl, BT5.out.trans (HBQ.out.mono BT5.out.size)⟩
       · have HN1 : Hid ((s.zones[b].cells.take (j + 1)).any (fun c => decide (0 ≤ (Si.far s a b).getD c.toNat (-1))) = false) := hid (by rw [HAT.out, HNO.out, HVX.out, decide_eq_false hv]; rfl)
         clear hjl
         go_wp2_with fail
         go_roundw
         case rel => exact ⟨j + 1, by omega, by go_num, HN1, HBQ⟩
         case measure => simp [intOf]; omega
     · have j9 : ¬ (j : Int) < (y2 : Int) := by omega
       have HRT : Hid (R = false) := hid (by
        rw [← HRR.out, HANY.out]
        have h1 := HNO.out
        rw [List.take_of_length_le (by rw [HY2.out]; omega)] at h1
        exact h1)
       go_wp2_with fail
       go_ret
       exact ⟨by rw [HRT.out]; rfl, BT5.out.trans (HBQ.out.mono BT5.out.size)⟩
theorem rGets_any (s : Si.Site) (kv ov zv av sv rv : Value) (a b : Int) (w : World) (h : SiV w kv ov zv av sv rv s) (hk : Si.Ok s) :
 Calls Tryz.prog 25 #[siV s kv ov zv av sv rv, .int .i64 a, .int .i64 b] w fun e w' => e = .returned (.bool (getsB s a b)) ∧ Below w.heap.size w w' := by
 by_cases hin : 0 ≤ a ∧ a < (s.zones.length : Int) ∧ 0 ≤ b ∧ b < (s.zones.length : Int) ∧ a ≠ b
 · obtain ⟨h0, h1, h2, h3, h4⟩ := hin
   obtain ⟨x, rfl⟩ := Int.eq_ofNat_of_zero_le h0
   obtain ⟨y, rfl⟩ := Int.eq_ofNat_of_zero_le h2
   have e : getsB s (x : Int) (y : Int) = Si.nextZ s x y := by
    unfold getsB
    rw [decide_eq_true h0, decide_eq_true h1, decide_eq_true h2, decide_eq_true h3, decide_eq_true h4]
    simp
   rw [e]
   exact rGets_in s kv ov zv av sv rv x y w h hk (by omega) (by omega) (by omega)
 · have e : getsB s a b = false := by
    unfold getsB
    rw [Bool.eq_false_iff]
    intro hc
    simp only [Bool.and_eq_true, decide_eq_true_eq] at hc
    exact hin ⟨hc.1, hc.2.1, hc.2.2.1, hc.2.2.2.1, hc.2.2.2.2.1⟩
   rw [e]
   obtain ⟨a1, c1, a2, c2, a3, c3, a4, c4, a5, c5, a6, c6, rfl, rfl, rfl, rfl, rfl, rfl, m1, m2, m3, m4, m5, m6⟩ := h.open
   obtain ⟨l3, e3⟩ : ∃ n, s.zones.length = n := ⟨_, rfl⟩
   unfold siV
   rw [e3] at hin ⊢
   obtain ⟨l1, e1⟩ : ∃ n, s.floor.kind.length = n := ⟨_, rfl⟩
   obtain ⟨l2, e2⟩ : ∃ n, s.floor.out.length = n := ⟨_, rfl⟩
   obtain ⟨l4, e4⟩ : ∃ n, s.aparts.length = n := ⟨_, rfl⟩
   obtain ⟨l5, e5⟩ : ∃ n, s.shelves.length = n := ⟨_, rfl⟩
   obtain ⟨l6, e6⟩ : ∃ n, s.robots.length = n := ⟨_, rfl⟩
   rw [e1, e2, e4, e5, e6]
   have B1 := hid ((Below.refl _ w).alloc (Nat.le_refl _) (.cells #[.int .i64 s.floor.w, .int .i64 s.floor.h, .int .i64 s.floor.d, .slice a1 l1 c1, .slice a2 l2 c2, .slice a3 l3 c3, .slice a4 l4 c4, .slice a5 l5 c5, .slice a6 l6 c6] 30))
   clear h hk e e1 e2 e3 e4 e5 e6 m1 m2 m3 m4 m5 m6
   have hcs : a < 0 ∨ (¬ a < 0 ∧ (l3 : Int) ≤ a) ∨ (¬ a < 0 ∧ ¬ (l3 : Int) ≤ a ∧ b < 0) ∨ (¬ a < 0 ∧ ¬ (l3 : Int) ≤ a ∧ ¬ b < 0 ∧ (l3 : Int) ≤ b) ∨ (¬ a < 0 ∧ ¬ (l3 : Int) ≤ a ∧ ¬ b < 0 ∧ ¬ (l3 : Int) ≤ b ∧ (a == b) = true) := by
    by_cases g1 : a < 0
    · exact .inl g1
    by_cases g2 : (l3 : Int) ≤ a
    · exact .inr (.inl ⟨g1, g2⟩)
    by_cases g3 : b < 0
    · exact .inr (.inr (.inl ⟨g1, g2, g3⟩))
    by_cases g4 : (l3 : Int) ≤ b
    · exact .inr (.inr (.inr (.inl ⟨g1, g2, g3, g4⟩)))
    · refine .inr (.inr (.inr (.inr ⟨g1, g2, g3, g4, ?_⟩)))
      rw [beq_iff_eq]
      exact Classical.byContradiction (fun hne => hin ⟨by omega, by omega, by omega, by omega, hne⟩)
   clear hin
   rcases hcs with g1 | ⟨g1, g2⟩ | ⟨g1, g2, g3⟩ | ⟨g1, g2, g3, g4⟩ | ⟨g1, g2, g3, g4, g5⟩
   all_goals
    go_enter Tryz.func25, Tryz.ntmps25
    go_wp2_with fail
    go_ret
    exact ⟨rfl, B1.out⟩
theorem any_mem (l : List Int) (c : Int) : (l.any fun y => decide (y = c)) = decide (c ∈ l) := by
 rw [Bool.eq_iff_iff, List.any_eq_true, decide_eq_true_eq]
 constructor
 · rintro ⟨x, hx, he⟩
   rw [decide_eq_true_eq] at he
   subst he; exact hx
 · intro h
   exact ⟨c, h, by simp⟩
theorem Room_any (s : Si.Site) (kv ov zv av sv rv : Value) (z : Nat) (w : World) (h : SiV w kv ov zv av sv rv s) (hr : Si.Right s) (hk : Si.Ok s) (hz : z < s.zones.length) (hkp : 0 ≤ s.zones[z].keep ∧ s.zones[z].keep ≤ 9223372036854775807) (hsl : s.shelves.length ≤ 1000000) :
 Calls Tryz.prog 70 #[siV s kv ov zv av sv rv, .int .i64 z] w fun e w' => e = .returned (.int .i64 (Si.capOf s z)) ∧ Below w.heap.size w w' := by
 have HCO := hid (Si.capOf_eq (s := s) hz)
 have hlr := (hk.zs _ (List.getElem_mem hz)).2
 have HZI := hid (fun c => Si.zoneOf_iff hr.zd (c := c) hz)
 obtain ⟨a3, c3, rfl, hzm⟩ := h.zn.form
 obtain ⟨a5, c5, rfl, h5m⟩ := two_form h.sf
 obtain ⟨nz, enz⟩ : ∃ n, s.zones.length = n := ⟨_, rfl⟩
 obtain ⟨l5, e5⟩ : ∃ n, s.shelves.length = n := ⟨_, rfl⟩
 unfold siV
 rw [enz] at hzm ⊢
 rw [e5] at h5m hsl ⊢
 have hzn : z < nz := by rw [← enz]; exact hz
 rw [enz, e5] at h
 have HV := hid h
 have E5 := hid e5
 obtain ⟨w1, hw1⟩ : ∃ w1, w1 = w.alloc (.cells #[.int .i64 s.floor.w, .int .i64 s.floor.h, .int .i64 s.floor.d, kv, ov, .slice a3 nz c3, av, .slice a5 l5 c5, rv] 30) := ⟨_, rfl⟩
 have B1 : Hid (Below w.heap.size w w1) := hid (by rw [hw1]; exact (Below.refl _ w).alloc (Nat.le_refl _) _)
 have I1 : Hid (w1.heap[w.heap.size]? = some (.cells #[.int .i64 s.floor.w, .int .i64 s.floor.h, .int .i64 s.floor.d, kv, ov, .slice a3 nz c3, av, .slice a5 l5 c5, rv] 30 (0, 0))) := hid (by rw [hw1]; exact heap_alloc_new _ _)
 have HW1 := hid hw1
 have s1 : w.heap.size < w1.heap.size := heap_lt I1.out
 obtain ⟨zb, zo, u1, u2, e1, hzb, hu1, hu2, q0, q1, q2, q3, q4⟩ := (HV.out.zn.keep B1.out).cell z hz
 subst e1
 obtain ⟨z1, d1, rfl, -⟩ := hu1.form
 obtain ⟨CL, hCL⟩ : ∃ l, s.zones[z].cells = l := ⟨_, rfl⟩
 obtain ⟨KP, hKP⟩ : ∃ l, s.zones[z].keep = l := ⟨_, rfl⟩
 rw [hCL] at q1 hu1 HCO hlr HZI
 rw [hKP] at q3 HCO hkp
 obtain ⟨y1, hy1⟩ : ∃ n, CL.length = n := ⟨_, rfl⟩
 rw [hy1] at q1 hu1 HCO hlr
 have HU := hid hu1
 have HY := hid hy1
 have p5 : w1.cell? ⟨w.heap.size, 5, none⟩ = some (.slice (some ⟨zb, zo, none⟩) nz c3) := cell_of_heap I1.out 5 rfl
 have z0 : (0 : Int) ≤ (z : Int) := by omega
 have z9 : (z : Int) < (nz : Int) := by omega
 have HTK : Hid (∀ k, (s.shelves.take k).countP (fun x => decide (Si.zoneOf s.zones x.1 = (z : Int))) ≤ y1) := hid (fun k => Nat.le_trans (List.Sublist.countP_le (List.take_sublist k s.shelves)) (by have h1 := Si.taken_le hr hz; unfold Si.taken at h1; rw [hCL, hy1] at h1; exact h1))
 have HT0 : Hid ((y1 : Int) - KP = (y1 : Int) - ((s.shelves.take 0).countP (fun x => decide (Si.zoneOf s.zones x.1 = (z : Int))) : Nat) - KP) := hid (by simp)
 obtain ⟨hk0, hk1⟩ := hkp
 clear h hr hk hz enz e5 hw1 hu1 hu2 q0 q2 q4 hCL hKP hy1
 go_enter Tryz.func70, Tryz.ntmps70
 go_upto_region 1 with fail
 rw [← HW1.out]
 go_quiet (fail)
 go_upto_region 2 with fail
 generalize hwq : w1.drewN _ = wq
 have BQ : Hid (Below w1.heap.size w1 wq) := hid (by rw [← hwq]; exact below_drewN _ _ _)
 clear hwq p5
 go_wp2_with fail
 go_loopw [5, 6] (fun nv iv wr => ∃ (i : Nat) (N : Int), i ≤ l5 ∧ iv = .int .i64 i ∧ nv = .int .i64 N ∧ Hid (N = (y1 : Int) - ((s.shelves.take i).countP (fun x => decide (Si.zoneOf s.zones x.1 = (z : Int))) : Nat) - KP) ∧ Hid (Below w1.heap.size w1 wr)) (fun _ iv _ => l5 - (intOf iv).toNat)
 case atStart => exact ⟨0, (y1 : Int) - KP, by omega, rfl, by first | rfl | go_num, HT0, BQ⟩
 case round =>
  clear HT0 BQ
  obtain ⟨i, N, hi, rfl, rfl, HNN, HB⟩ := hrel
  obtain ⟨wo, hwo⟩ : ∃ W, W = wr := ⟨_, rfl⟩
  subst hwo
  have IO := hid (keep_heap I1.out HB.out)
  have p5 : wo.cell? ⟨w.heap.size, 5, none⟩ = some (.slice (some ⟨zb, zo, none⟩) nz c3) := cell_of_heap IO.out 5 rfl
  have hN1 : -9223372036854775807 ≤ N ∧ N ≤ 1000000 := by have h1 := HNN.out; have h2 := HTK.out i; omega
  have BT := hid (B1.out.trans (HB.out.mono B1.out.size))
  by_cases hin : i < l5
  · have hiu : i < s.shelves.length := by rw [E5.out]; exact hin
    obtain ⟨sb, so, e5, hsb, r0, r1⟩ := SfV.cell (Rw.keep HV.out.sf BT.out) i hiu
    subst e5
    have p7 : wo.cell? ⟨w.heap.size, 7, none⟩ = some (.slice (some ⟨sb, so, none⟩) l5 c5) := cell_of_heap IO.out 7 rfl
    have q1o : wo.cell? ⟨zb, zo + z * 5 + 1, none⟩ = some (.slice z1 y1 d1) := (HB.out.cell (p := ⟨zb, zo + z * 5 + 1, none⟩) hzb).trans q1
    have hzo : zb < wo.heap.size := Nat.lt_of_lt_of_le hzb HB.out.size
    have lw : w.heap.size < wo.heap.size := heap_lt IO.out
    have HST : Hid ((s.shelves.take (i + 1)).countP (fun x => decide (Si.zoneOf s.zones x.1 = (z : Int))) = (s.shelves.take i).countP (fun x => decide (Si.zoneOf s.zones x.1 = (z : Int))) + if decide (Si.zoneOf s.zones s.shelves[i].1 = (z : Int)) = true then 1 else 0) := hid (by
     rw [List.take_succ_eq_append_getElem hiu, List.countP_append, List.countP_singleton])
    have HZX := hid (HZI.out s.shelves[i].1)
    obtain ⟨C, hC⟩ : ∃ C, s.shelves[i].1 = C := ⟨_, rfl⟩
    rw [hC] at r0 HST HZX
    have HHA := hid (fun W (hW : Below w1.heap.size w1 W) => Has_any (.slice z1 y1 d1) CL C W (HU.out.keep hW))
    rw [any_mem] at HHA
    have i0 : (0 : Int) ≤ (i : Int) := by omega
    have i1 : (i : Int) < (l5 : Int) := by omega
    clear hC r1 hiu
    by_cases hm : C ∈ CL
    · rw [decide_eq_true hm] at HHA
      have HN2 : Hid (N - 1 = (y1 : Int) - ((s.shelves.take (i + 1)).countP (fun x => decide (Si.zoneOf s.zones x.1 = (z : Int))) : Nat) - KP) := hid (by
       have h1 := HNN.out
       rw [HST.out, if_pos (decide_eq_true (HZX.out.2 hm))]
       omega)
      have hN3 : -9223372036854775807 ≤ N - 1 := by have h1 := HN2.out; have h2 := HTK.out (i + 1); omega
      clear hm
      go_upto_region 5 with fail
      refine wp_region_held_drew (S := fun W' => W'.cell? ⟨w.heap.size, 5, none⟩ = some (.slice (some ⟨zb, zo, none⟩) nz c3) ∧ W'.cell? ⟨w.heap.size, 7, none⟩ = some (.slice (some ⟨sb, so, none⟩) l5 c5) ∧ W'.cell? ⟨zb, zo + z * 5 + 1, none⟩ = some (.slice z1 y1 d1) ∧ W'.cell? ⟨sb, so + i * 2, none⟩ = some (.int .i64 C)) (by kernel_rfl) ⟨p5, p7, q1o, r0⟩ (fun hHeld => ?_)
      obtain ⟨wx, hwx⟩ : ∃ W, W = wo.drew := ⟨_, rfl⟩
      rw [← hwx] at hHeld ⊢
      have HBX : Hid (Below w1.heap.size w1 wx) := hid (HB.out.trans (by subst hwx; exact ⟨rfl, rfl, rfl, Nat.le_refl _, fun _ _ => rfl⟩))
      clear hwx
      refine tk 0 ?_
      try simp only [Act.put, zA, zB, zC, zD, zE, zF]
      refine tk 1 ?_
      try simp only [Act.put, zA, zB, zC, zD, zE, zF]
      refine tk 2 ?_
      try simp only [Act.put, zA, zB, zC, zD, zE, zF]
      refine tk 3 ?_
      try simp only [Act.put, zA, zB, zC, zD, zE, zF]
      refine tk 4 ?_
      try simp only [Act.put, zA, zB, zC, zD, zE, zF]
      refine tk 5 ?_
      try simp only [Act.put, zA, zB, zC, zD, zE, zF]
      refine tk 6 ?_
      try simp only [Act.put, zA, zB, zC, zD, zE, zF]
      refine tk 7 ?_
      try simp only [Act.put, zA, zB, zC, zD, zE, zF]
      refine tk 8 ?_
      try simp only [Act.put, zA, zB, zC, zD, zE, zF]
      refine tk 9 ?_
      try simp only [Act.put, zA, zB, zC, zD, zE, zF]
      refine tk 10 ?_
      try simp only [Act.put, zA, zB, zC, zD, zE, zF]
      refine tk 11 ?_
      try simp only [Act.put, zA, zB, zC, zD, zE, zF]
      refine wpAnyH_ready (rs := [12]) (by kernel_rfl) (by simp) ?_
      refine AllReadyH.cons (o := _) rfl (fun K hK => ?_) AllReadyH.nil
      go_simp
      go_at_call 20; with_reducible refine (HHA.out _ HBX.out).mono ?_; rintro e w5 ⟨rfl, rfl⟩
      go_wp2_with fail
      refine hK.out _ _ (by assumption) (fun hHeld => ?_)
      clear hK K
      try simp only [Act.put, zA, zB, zC, zD, zE, zF]
      refine wpAnyH_done (by kernel_rfl) ?_ _
      go_wp2_with fail
      go_roundw
      case rel => exact ⟨i + 1, N - 1, by omega, by go_num, by go_num, HN2, HBX⟩
      case measure => simp [intOf]; omega
    · rw [decide_eq_false hm] at HHA
      have HN2 : Hid (N = (y1 : Int) - ((s.shelves.take (i + 1)).countP (fun x => decide (Si.zoneOf s.zones x.1 = (z : Int))) : Nat) - KP) := hid (by
       have h1 := HNN.out
       rw [HST.out, if_neg (fun h => hm (HZX.out.1 (of_decide_eq_true h)))]
       omega)
      clear hm
      go_upto_region 5 with fail
      refine wp_region_held_drew (S := fun W' => W'.cell? ⟨w.heap.size, 5, none⟩ = some (.slice (some ⟨zb, zo, none⟩) nz c3) ∧ W'.cell? ⟨w.heap.size, 7, none⟩ = some (.slice (some ⟨sb, so, none⟩) l5 c5) ∧ W'.cell? ⟨zb, zo + z * 5 + 1, none⟩ = some (.slice z1 y1 d1) ∧ W'.cell? ⟨sb, so + i * 2, none⟩ = some (.int .i64 C)) (by kernel_rfl) ⟨p5, p7, q1o, r0⟩ (fun hHeld => ?_)
      obtain ⟨wx, hwx⟩ : ∃ W, W = wo.drew := ⟨_, rfl⟩
      rw [← hwx] at hHeld ⊢
      have HBX : Hid (Below w1.heap.size w1 wx) := hid (HB.out.trans (by subst hwx; exact ⟨rfl, rfl, rfl, Nat.le_refl _, fun _ _ => rfl⟩))
      clear hwx
      refine tk 0 ?_
      try simp only [Act.put, zA, zB, zC, zD, zE, zF]
      refine tk 1 ?_
      try simp only [Act.put, zA, zB, zC, zD, zE, zF]
      refine tk 2 ?_
      try simp only [Act.put, zA, zB, zC, zD, zE, zF]
      refine tk 3 ?_
      try simp only [Act.put, zA, zB, zC, zD, zE, zF]
      refine tk 4 ?_
      try simp only [Act.put, zA, zB, zC, zD, zE, zF]
      refine tk 5 ?_
      try simp only [Act.put, zA, zB, zC, zD, zE, zF]
      refine tk 6 ?_
      try simp only [Act.put, zA, zB, zC, zD, zE, zF]
      refine tk 7 ?_
      try simp only [Act.put, zA, zB, zC, zD, zE, zF]
      refine tk 8 ?_
      try simp only [Act.put, zA, zB, zC, zD, zE, zF]
      refine tk 9 ?_
      try simp only [Act.put, zA, zB, zC, zD, zE, zF]
      refine tk 10 ?_
      try simp only [Act.put, zA, zB, zC, zD, zE, zF]
      refine tk 11 ?_
      try simp only [Act.put, zA, zB, zC, zD, zE, zF]
      refine wpAnyH_ready (rs := [12]) (by kernel_rfl) (by simp) ?_
      refine AllReadyH.cons (o := _) rfl (fun K hK => ?_) AllReadyH.nil
      go_simp
      go_at_call 20; with_reducible refine (HHA.out _ HBX.out).mono ?_; rintro e w5 ⟨rfl, rfl⟩
      go_wp2_with fail
      refine hK.out _ _ (by assumption) (fun hHeld => ?_)
      clear hK K
      try simp only [Act.put, zA, zB, zC, zD, zE, zF]
      refine wpAnyH_done (by kernel_rfl) ?_ _
      go_wp2_with fail
      go_roundw
      case rel => exact ⟨i + 1, N, by omega, by go_num, by go_num, HN2, HBX⟩
      case measure => simp [intOf]; omega
  · have i9 : ¬ (i : Int) < (l5 : Int) := by omega
    have p7 : wo.cell? ⟨w.heap.size, 7, none⟩ = some (.slice a5 l5 c5) := cell_of_heap IO.out 7 rfl
    have HMX : Hid (Si.capOf s z = max N 0) := hid (by
     have h1 := HNN.out
     rw [List.take_of_length_le (by rw [E5.out]; omega)] at h1
     rw [HCO.out, h1]; rfl)
    rcases Int.lt_trichotomy N 0 with hs | hs | hs
    · have e : max N 0 = 0 := by omega
      go_wp2_with fail
      all_goals go_ret
      all_goals exact ⟨by rw [HMX.out, e]; first | rfl | simp [e], BT.out⟩
    · subst hs
      go_wp2_with fail
      all_goals go_ret
      all_goals exact ⟨by rw [HMX.out]; first | rfl | simp, BT.out⟩
    · have e : max N 0 = N := by omega
      go_wp2_with fail
      all_goals go_ret
      all_goals exact ⟨by rw [HMX.out, e]; first | rfl | simp [e], BT.out⟩
theorem rnet_any (s : Si.Site) (c : Ve.Cert) (kv ov zv av sv rv tv cv ke se : Value) (w : World) (h : SiV w kv ov zv av sv rv s) (hk : Si.Ok s) (hc : CertV w tv cv ke se c) :
 Calls Tryz.prog 69 #[siV s kv ov zv av sv rv, .agg (certA c tv cv ke se)] w fun e w' => e = .returned (.bool (Ve.netB s c)) ∧ Below w.heap.size w w' := by
 have HGT := hid (fun W (hW : Below w.heap.size w W) (a b : Nat) (ha : a < s.zones.length) (hb : b < s.zones.length) => (by
  have h9 := rGets_any s kv ov zv av sv rv (a : Int) (b : Int) W (h.keep hW) hk
  rw [getsB_nat s a b ha hb] at h9
  exact h9 : Calls Tryz.prog 25 #[siV s kv ov zv av sv rv, .int .i64 (a : Int), .int .i64 (b : Int)] W fun e w' => e = .returned (.bool (Si.linked s a b)) ∧ Below W.heap.size W w'))
 have HTR := hid (fun W (hW : Below w.heap.size w W) => hc.tr.keep hW)
 have hzn := hk.zn
 obtain ⟨a1, c1, a2, c2, a3, c3, a4, c4, a5, c5, a6, c6, rfl, rfl, rfl, rfl, rfl, rfl, m1, m2, m3, m4, m5, m6⟩ := h.open
 obtain ⟨ta, tc, rfl, htm⟩ := hc.tr.form
 obtain ⟨ca, cc, rfl, hcm⟩ := hc.ca.form
 obtain ⟨ka, kc, rfl, hkm⟩ := hc.ke.form
 obtain ⟨sa, sc, rfl, hsm⟩ := hc.si.form
 unfold siV at HGT ⊢
 unfold certA
 obtain ⟨l1, e1⟩ : ∃ n, s.floor.kind.length = n := ⟨_, rfl⟩
 obtain ⟨l2, e2⟩ : ∃ n, s.floor.out.length = n := ⟨_, rfl⟩
 obtain ⟨n, e3⟩ : ∃ n, s.zones.length = n := ⟨_, rfl⟩
 obtain ⟨l4, e4⟩ : ∃ n, s.aparts.length = n := ⟨_, rfl⟩
 obtain ⟨l5, e5⟩ : ∃ n, s.shelves.length = n := ⟨_, rfl⟩
 obtain ⟨l6, e6⟩ : ∃ n, s.robots.length = n := ⟨_, rfl⟩
 rw [e1, e2, e3, e4, e5, e6] at HGT ⊢
 rw [e3] at hzn
 have HZ := hid e3
 obtain ⟨P0, hP⟩ : ∃ P, P = c.places := ⟨_, rfl⟩
 obtain ⟨R, hR⟩ : ∃ P, P = c.robots := ⟨_, rfl⟩
 obtain ⟨lt, hlt⟩ : ∃ P, P = c.trans.length := ⟨_, rfl⟩
 obtain ⟨lc, hlc⟩ : ∃ P, P = c.caps.length := ⟨_, rfl⟩
 obtain ⟨ln, hln⟩ : ∃ P, P = c.keeps.length := ⟨_, rfl⟩
 obtain ⟨ls, hls⟩ : ∃ P, P = c.sips.length := ⟨_, rfl⟩
 rw [← hP, ← hR, ← hlt, ← hlc, ← hln, ← hls]
 rw [← hlt] at HTR htm
 have HLT := hid hlt
 have HEND : Hid (∀ k, k ≤ lt → c.trans.take k = Vt.Pn s n 0 → Ve.netB s c = decide (k = lt)) := hid (fun k h1 h2 => by rw [hlt] at h1 ⊢; rw [← e3] at h2; exact Vt.net_end h2 h1)
 have HSH : Hid (∀ a b k, a < n → b < n → k ≤ lt → c.trans.take k = Vt.Pn s a b → Si.linked s a b = true → ¬ k < lt → Ve.netB s c = false) := hid (fun a b k h1 h2 h3 h4 h5 h6 => Vt.net_short (by omega) (by omega) h4 (by omega) h5 (by omega))
 have HOT : Hid (∀ a b k, a < n → b < n → c.trans.take k = Vt.Pn s a b → Si.linked s a b = true → (hx : k < c.trans.length) → c.trans[k] ≠ ([(b : Int)], [(a : Int)]) → Ve.netB s c = false) := hid (fun a b k h1 h2 h4 h5 hx h6 => Vt.net_other (by omega) (by omega) h4 h5 hx h6)
 have HSK : Hid (∀ a b, Si.linked s a b = false → Vt.Pn s a (b + 1) = Vt.Pn s a b) := hid (fun a b => Vt.Pn.skip s a b)
 have HSP : Hid (∀ a b k, c.trans.take k = Vt.Pn s a b → Si.linked s a b = true → (hx : k < c.trans.length) → c.trans[k] = ([(b : Int)], [(a : Int)]) → c.trans.take (k + 1) = Vt.Pn s a (b + 1)) := hid (fun a b k h1 h2 h3 h4 => Vt.net_step h1 h2 h3 h4)
 have HTN : Hid (∀ a, Vt.Pn s a n = Vt.Pn s (a + 1) 0) := hid (fun a => by rw [← e3]; exact Vt.Pn.turn s a)
 obtain ⟨lk, hlk⟩ : ∃ l, Si.linked s = l := ⟨_, rfl⟩
 obtain ⟨G, hG⟩ : ∃ G, G = Ve.netB s c := ⟨_, rfl⟩
 obtain ⟨T, hT⟩ : ∃ T, T = c.trans := ⟨_, rfl⟩
 obtain ⟨Pn, hPn⟩ : ∃ P, P = Vt.Pn s := ⟨_, rfl⟩
 rw [← hG, ← hT, ← hPn] at HEND
 rw [← hG, ← hT, ← hPn, hlk] at HSH HOT
 rw [← hT, ← hPn, hlk] at HSP
 rw [← hPn, hlk] at HSK
 rw [← hPn] at HTN
 rw [← hT] at HTR HLT
 rw [hlk] at HGT
 rw [← hG]
 have T0 : Hid (T.take 0 = Pn 0 0) := hid (by rw [hPn, Vt.Pn.zero]; rfl)
 obtain ⟨w1, hw1⟩ : ∃ w1, w1 = (w.alloc (.cells #[.int .i64 s.floor.w, .int .i64 s.floor.h, .int .i64 s.floor.d, .slice a1 l1 c1, .slice a2 l2 c2, .slice a3 n c3, .slice a4 l4 c4, .slice a5 l5 c5, .slice a6 l6 c6] 30)).alloc (.cells #[.int .i64 P0, .slice ta lt tc, .slice ca lc cc, .slice ka ln kc, .int .i64 R, .slice sa ls sc] 38) := ⟨_, rfl⟩
 have B1 : Hid (Below w.heap.size w w1) := hid (by rw [hw1]; exact ((Below.refl _ _).alloc (Nat.le_refl _) _).alloc (by simp) _)
 have I1 : Hid (w1.heap[w.heap.size]? = some (.cells #[.int .i64 s.floor.w, .int .i64 s.floor.h, .int .i64 s.floor.d, .slice a1 l1 c1, .slice a2 l2 c2, .slice a3 n c3, .slice a4 l4 c4, .slice a5 l5 c5, .slice a6 l6 c6] 30 (0, 0))) := hid (by rw [hw1]; exact heap_two0 _ _ _)
 have I2 : Hid (w1.heap[w.heap.size + 1]? = some (.cells #[.int .i64 P0, .slice ta lt tc, .slice ca lc cc, .slice ka ln kc, .int .i64 R, .slice sa ls sc] 38 (0, 0))) := hid (by rw [hw1]; exact heap_two3 _ _ _)
 have HW1 := hid hw1
 have s1 : w.heap.size + 1 < w1.heap.size := heap_lt I2.out
 clear h hk hc e1 e2 e3 e4 e5 e6 m1 m2 m3 m4 m5 m6 hw1 hP hR hlt hlc hln hls hcm hkm hsm hlk hG hT hPn
 go_enter Tryz.func69, Tryz.ntmps69
 go_upto_region 1 with fail
 rw [← HW1.out]
 have Z0 : Hid (Below w1.heap.size w1 w1) := hid (Below.refl _ _)
 go_wp2_with fail
 go_loopw [5, 6] (fun kv av wr => ∃ (k a : Nat), a ≤ n ∧ k ≤ lt ∧ kv = .int .i64 k ∧ av = .int .i64 a ∧ Hid (T.take k = Pn a 0) ∧ Hid (Below w1.heap.size w1 wr)) (fun _ iv _ => n - (intOf iv).toNat)
 case atStart => exact ⟨0, 0, by omega, by omega, rfl, rfl, T0, Z0⟩
 case round =>
  clear T0 Z0
  obtain ⟨k, a, ha, hkl, rfl, rfl, HT, HB⟩ := hrel
  obtain ⟨wA, hwA⟩ : ∃ W, W = wr := ⟨_, rfl⟩
  subst hwA
  have J1 := hid (keep_heap I1.out HB.out)
  have J2 := hid (keep_heap I2.out HB.out)
  obtain ⟨p0, p1, p2, p3, p4, p5, p6, p7, p8⟩ := cells9 J1.out
  obtain ⟨q0, q1, q2, q3, q4, q5⟩ := cells6 J2.out
  by_cases han : a < n
  · have d0 : (0 : Int) ≤ (a : Int) := by omega
    have d1 : (a : Int) < (n : Int) := by omega
    go_wp2_with fail
    go_loopw [5, 7] (fun kv bv wr => ∃ (k b : Nat), b ≤ n ∧ k ≤ lt ∧ kv = .int .i64 k ∧ bv = .int .i64 b ∧ Hid (T.take k = Pn a b) ∧ Hid (Below w1.heap.size w1 wr)) (fun _ iv _ => n - (intOf iv).toNat)
    case atStart => exact ⟨k, 0, by omega, hkl, rfl, rfl, HT, HB⟩
    case round =>
     clear HT J1 J2 p0 p1 p2 p3 p4 p5 p6 p7 p8 q0 q1 q2 q3 q4 q5
     clear hkl
     obtain ⟨k, b, hb, hkl, rfl, rfl, HT, HU⟩ := hrel
     obtain ⟨wB, hwB⟩ : ∃ W, W = wr := ⟨_, rfl⟩
     subst hwB
     have J1 := hid (keep_heap I1.out HU.out)
     have J2 := hid (keep_heap I2.out HU.out)
     obtain ⟨p0, p1, p2, p3, p4, p5, p6, p7, p8⟩ := cells9 J1.out
     by_cases hbn : b < n
     · have b0 : (0 : Int) ≤ (b : Int) := by omega
       have b1 : (b : Int) < (n : Int) := by omega
       have BW := hid (B1.out.trans (HU.out.mono B1.out.size))
       have hCG := hid (HGT.out wB BW.out a b han hbn)
       obtain ⟨A, hA⟩ : ∃ x, lk a b = x := ⟨_, rfl⟩
       rw [hA] at hCG
       have HA := hid hA
       clear hA
       cases A with
       | false =>
        go_wp2_with fail
        go_at_call 25; refine (hCG.out).mono ?_; rintro e w3 ⟨rfl, b3⟩
        have B3 := hid (HU.out.trans (b3.mono HU.out.size))
        clear b3
        go_wp2_with fail
        go_roundw
        case rel => exact ⟨k, b + 1, by omega, hkl, rfl, by go_num, hid (by rw [HSK.out a b HA.out]; exact HT.out), B3⟩
        case measure => simp [intOf]; omega
       | true =>
        go_wp2_with fail
        go_at_call 25; refine (hCG.out).mono ?_; rintro e w3 ⟨rfl, b3⟩
        have B3 := hid (HU.out.trans (b3.mono HU.out.size))
        have BW3 := hid (B1.out.trans (B3.out.mono B1.out.size))
        have K2 := hid (keep_heap I2.out B3.out)
        have hq1 : w3.cell? ⟨w.heap.size + 1, 1, none⟩ = some (.slice ta lt tc) := cell_of_heap K2.out 1 rfl
        clear b3 p0 p1 p2 p3 p4 p5 p6 p7 p8
        have k0 : (0 : Int) ≤ (k : Int) := by omega
        by_cases hkt : k < lt
        · have hx : k < T.length := by rw [← HLT.out]; exact hkt
          have k1 : (k : Int) < (lt : Int) := by omega
          obtain ⟨bb, off, u1, u2, et, hbl, x1, x2, y1, y2⟩ := (HTR.out w3 BW3.out).cell k hx
          subst et
          obtain ⟨xa, xc, rfl, -⟩ := y1.form
          obtain ⟨ya, yc, rfl, -⟩ := y2.form
          obtain ⟨t, ht⟩ : ∃ t, T[k] = t := ⟨_, rfl⟩
          rw [ht] at y1 y2 x1 x2
          have HO1 : Hid (t ≠ ([(b : Int)], [(a : Int)]) → G = false) := hid (fun h9 => HOT.out a b k han hbn HT.out HA.out hx (by rw [ht]; exact h9))
          have HS1 : Hid (t = ([(b : Int)], [(a : Int)]) → T.take (k + 1) = Pn a (b + 1)) := hid (fun h9 => HSP.out a b k HT.out HA.out hx (by rw [ht]; exact h9))
          have Y1 := hid (fun W (hW : Below w3.heap.size w3 W) => y1.keep hW)
          have Y2 := hid (fun W (hW : Below w3.heap.size w3 W) => y2.keep hW)
          obtain ⟨t1, t2⟩ := t
          simp only at Y1 Y2 x1 x2
          have hs3 := B3.out.size
          clear ht y1 y2 hx hbl
          by_cases g1 : t1.length = 1
          · by_cases g2 : t2.length = 1
            · obtain ⟨x, rfl⟩ := List.length_eq_one_iff.mp g1
              obtain ⟨y, rfl⟩ := List.length_eq_one_iff.mp g2
              clear g1 g2
              have hm := (Y1.out w3 (Below.refl _ _)).cell 0 (by simp)
              have hm2 := (Y2.out w3 (Below.refl _ _)).cell 0 (by simp)
              obtain ⟨xb, xo, ex, z1⟩ := hm
              obtain ⟨yb, yo, ey, z2⟩ := hm2
              subst ex ey
              simp only [List.getElem_cons_zero, List.length_singleton, Nat.add_zero] at z1 z2 x1 x2
              clear Y1 Y2
              have hxb := cell_block_lt z1
              have hyb := cell_block_lt z2
              by_cases g3 : x = (b : Int)
              · by_cases g4 : y = (a : Int)
                · subst g3 g4
                  have HE := hid (HS1.out rfl)
                  go_wp2_with fail
                  go_roundw
                  case rel => exact ⟨k + 1, b + 1, by omega, by omega, by go_num, by go_num, HE, hid (B3.out.trans ((Below.refl _ w3).alloc hs3 _))⟩
                  case measure => simp [intOf]; omega
                · have HF : Hid (G = false) := hid (HO1.out (fun h9 => by injection h9 with h8 h7; injection h7 with h6; exact g4 h6))
                  subst g3
                  go_wp2_with fail
                  go_ret
                  exact ⟨by rw [HF.out]; rfl, BW3.out.trans ((Below.refl _ w3).alloc BW3.out.size _)⟩
              · have HF : Hid (G = false) := hid (HO1.out (fun h9 => by injection h9 with h8 h7; injection h8 with h6; exact g3 h6))
                go_wp2_with fail
                go_ret
                exact ⟨by rw [HF.out]; rfl, BW3.out.trans ((Below.refl _ w3).alloc BW3.out.size _)⟩
            · have HF : Hid (G = false) := hid (HO1.out (Vt.pair_ne2 g2))
              obtain ⟨m1, hm1⟩ : ∃ m, t1.length = m := ⟨_, rfl⟩
              obtain ⟨m2, hm2⟩ : ∃ m, t2.length = m := ⟨_, rfl⟩
              simp only [hm1, hm2] at x1 x2 g1 g2
              subst g1
              have g3 : ¬ ((m2 : Nat) : Int) = 1 := by omega
              clear Y1 Y2 HO1 HS1 hm1 hm2
              go_wp2_with fail
              go_ret
              exact ⟨by rw [HF.out]; rfl, BW3.out.trans ((Below.refl _ w3).alloc BW3.out.size _)⟩
          · have HF : Hid (G = false) := hid (HO1.out (Vt.pair_ne1 g1))
            obtain ⟨m1, hm1⟩ : ∃ m, t1.length = m := ⟨_, rfl⟩
            obtain ⟨m2, hm2⟩ : ∃ m, t2.length = m := ⟨_, rfl⟩
            simp only [hm1, hm2] at x1 x2 g1
            have g3 : ¬ ((m1 : Nat) : Int) = 1 := by omega
            clear Y1 Y2 HO1 HS1 hm1 hm2
            go_wp2_with fail
            go_ret
            exact ⟨by rw [HF.out]; rfl, BW3.out.trans ((Below.refl _ w3).alloc BW3.out.size _)⟩
        · have HF : Hid (G = false) := hid (HSH.out a b k han hbn hkl HT.out HA.out hkt)
          have k1 : (lt : Int) ≤ (k : Int) := by omega
          go_wp2_with fail
          go_ret
          exact ⟨by rw [HF.out]; rfl, BW3.out⟩
     · obtain rfl : b = n := by omega
       have HT2 : Hid (T.take k = Pn (a + 1) 0) := hid (by rw [← HTN.out]; exact HT.out)
       go_wp2_with fail
       go_roundw
       case rel => exact ⟨k, a + 1, by omega, hkl, rfl, by go_num, HT2, HU⟩
       case measure => simp [intOf]; omega
  · obtain rfl : a = n := by omega
    have BR := hid (B1.out.trans (HB.out.mono B1.out.size))
    have HG := hid (HEND.out k hkl HT.out)
    have k0 : (0 : Int) ≤ (k : Int) := by omega
    go_wp2_with fail
    go_ret
    refine ⟨?_, BR.out⟩
    rw [HG.out]
    by_cases hkk : k = lt
    · subst hkk; simp
    · rw [decide_eq_false hkk]
      have h9 : ((k : Int) == (lt : Int)) = false := by rw [beq_eq_false_iff_ne]; omega
      exact congrArg (fun b => Ending.returned (.bool b)) h9
end Go.Proofs.YtfcbcpfnaadpeaaGreatDoor
