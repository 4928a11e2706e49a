/- Parts TeK of this claim, laid one behind the other: walks and the plain laws behind them; each contract states its own conditions. -/
import Derived.Test.YtfcbcpfnaadpeaaGreatDoorTD
import Derived.Test.YtfcbcpfnaadpeaaGreatDoorTF
import Derived.Test.YtfcbcpfnaadpeaaGreatDoorYM
import Derived.Test.YtfcbcpfnaadpeaaGreatDoorYL
namespace Go.Proofs.YtfcbcpfnaadpeaaGreatDoor
set_option maxRecDepth 100000
set_option maxHeartbeats 64000000
set_option linter.unusedSimpArgs false
set_option linter.unusedVariables false
open Go.RowKit
theorem caps_no {s : Si.Site} {c : Ve.Cert} {z : Nat} (h2 : c.caps.length = s.zones.length) (hz : z < s.zones.length) (h : c.caps[z]'(by omega) ≠ Si.capOf s z) : Ve.capsB s c = false := by
 unfold Ve.capsB
 rw [decide_eq_false (p := c.caps = Si.capsL s) (fun e => h (by simp only [e]; unfold Si.capsL; rw [List.getElem_map, List.getElem_range])), Bool.false_and]
theorem keeps_no {s : Si.Site} {c : Ve.Cert} {z : Nat} (h2 : c.keeps.length = s.zones.length) (hz : z < s.zones.length) (h : c.keeps[z]'(by omega) ≠ s.zones[z].keep) : Ve.capsB s c = false := by
 unfold Ve.capsB
 rw [decide_eq_false (p := c.keeps = Ve.keepsL s) (fun e => h (by simp only [e]; unfold Ve.keepsL; rw [List.getElem_map])), Bool.and_false]
theorem caps_all {s : Si.Site} {c : Ve.Cert} (h2 : c.caps.length = s.zones.length) (h3 : c.keeps.length = s.zones.length) (h : ∀ i (hi : i < s.zones.length), c.caps[i]'(by omega) = Si.capOf s i ∧ c.keeps[i]'(by omega) = s.zones[i].keep) : Ve.capsB s c = true := by
 unfold Ve.capsB
 rw [Bool.and_eq_true, decide_eq_true_eq, decide_eq_true_eq]
 constructor
 · refine List.ext_getElem (by rw [h2, Si.capsL_len]) (fun i h4 h5 => ?_)
   rw [(h i (by omega)).1]; simp [Si.capsL]
 · refine List.ext_getElem (by rw [h3, Ve.keepsL_len]) (fun i h4 h5 => ?_)
   rw [(h i (by omega)).2]; simp [Ve.keepsL]
theorem rCheck_any (s : Si.Site) (c : Ve.Cert) (sl : List Nat) (kv ov zv av sv rv tv cv ke se : Value) (w : World) (h : SiV w kv ov zv av sv rv s) (hr : Si.Right s) (hk : Si.Ok s) (hc : CertV w tv cv ke se c) (hsl : Pt.Sips (Si.linked s) s.zones.length sl) :
 Calls Tryz.prog 24 #[siV s kv ov zv av sv rv, .agg (certA c tv cv ke se)] w (ChkPost (Ve.part s sl c) w) := by
 have hzn := hk.zn
 have hrn := hk.rn
 have HNE := hid (fun W (hW : Below w.heap.size w W) => rnet_any s c kv ov zv av sv rv tv cv ke se W (h.keep hW) hk (hc.keep hW))
 have HRM := hid (fun W (hW : Below w.heap.size w W) (z : Nat) (hz : z < s.zones.length) => Room_any s kv ov zv av sv rv z W (h.keep hW) hr hk hz (by have h9 := hk.zk _ (List.getElem_mem hz); omega) (by have := hk.sn; omega))
 have HEN := hid (fun W (hW : Below w.heap.size w W) => (rEnds_any s kv ov zv av sv rv W (h.keep hW) hk hk.zn).mono (R' := fun e w' => ∃ v, e = .returned v ∧ Ll w' v (Ve.sipL sl) ∧ Below W.heap.size W w') (by
  rintro e w' ⟨hb, v, sl2, rfl, hs2, hl2⟩
  have e2 : sl2 = sl := Ve.sips_one hs2 hsl
  subst e2
  exact ⟨v, rfl, hl2, hb⟩))
 have HZN := hid (fun W (hW : Below w.heap.size w W) => (h.keep hW).zn)
 have HCK := hid (fun W (hW : Below w.heap.size w W) => hc.keep hW)
 have HLT := hid (fun y z (hy : y ∈ sl) (hz : z ∈ Pt.listW y) => sip_lt hsl hzn hy hz)
 have HSB : Hid (Ve.safeB s sl = sl.all fun y => decide ((s.robots.length : Int) < Si.sumCaps s y)) := hid rfl
 have HSU := hid (fun l k hk => sumTo_succ s l k hk)
 have HSL := hid (fun l k hk2 => sumTo_le hk l k hk2)
 have HSA := hid (fun y => sumTo_all s y)
 have HCP : Hid (∀ z (h : z < s.zones.length), (Si.capsL s)[z]'(by rw [Si.capsL_len]; exact h) = Si.capOf s z) := hid (fun z h => by unfold Si.capsL; rw [List.getElem_map, List.getElem_range])
 have HSG : Hid (∀ i (h : i < sl.length), (Ve.sipL sl)[i]'(by simpa [Ve.sipL] using h) = Si.nn (Pt.listW sl[i])) := hid (fun i h => by unfold Ve.sipL; rw [List.getElem_map])
 have HSN : Hid ((Ve.sipL sl).length = sl.length) := hid (by simp [Ve.sipL])
 obtain ⟨a1, c1, a2, c2, a3, c3, a4, c4, a5, c5, a6, c6, rfl, rfl, rfl, rfl, rfl, rfl, m1, m2, m3, m4, m5, m6⟩ := h.open
 obtain ⟨ta, tc, rfl, htm⟩ := hc.tr.form
 obtain ⟨ca, cc, rfl, hcm⟩ := hc.ca.form
 obtain ⟨ka, kc, rfl, hkm⟩ := hc.ke.form
 obtain ⟨sa, sc, rfl, hsm⟩ := hc.si.form
 have hzr : Si.Right s := hr
 unfold siV certA at *
 obtain ⟨l1, e1⟩ : ∃ n, s.floor.kind.length = n := ⟨_, rfl⟩
 obtain ⟨l2, e2⟩ : ∃ n, s.floor.out.length = n := ⟨_, rfl⟩
 obtain ⟨n, e3⟩ : ∃ n, s.zones.length = n := ⟨_, rfl⟩
 obtain ⟨l4, e4⟩ : ∃ n, s.aparts.length = n := ⟨_, rfl⟩
 obtain ⟨l5, e5⟩ : ∃ n, s.shelves.length = n := ⟨_, rfl⟩
 obtain ⟨l6, e6⟩ : ∃ n, s.robots.length = n := ⟨_, rfl⟩
 obtain ⟨P0, hP⟩ : ∃ P, c.places = P := ⟨_, rfl⟩
 obtain ⟨R0, hR⟩ : ∃ P, c.robots = P := ⟨_, rfl⟩
 obtain ⟨n1, hn1⟩ : ∃ P, c.trans.length = P := ⟨_, rfl⟩
 obtain ⟨n2, hn2⟩ : ∃ P, c.caps.length = P := ⟨_, rfl⟩
 obtain ⟨n3, hn3⟩ : ∃ P, c.keeps.length = P := ⟨_, rfl⟩
 obtain ⟨n4, hn4⟩ : ∃ P, c.sips.length = P := ⟨_, rfl⟩
 rw [e1, e2, e3, e4, e5, e6] at HNE HRM HEN
 rw [e3] at HZN
 rw [hP, hR, hn1, hn2, hn3, hn4] at HNE
 rw [hn1, hn2, hn3, hn4] at HCK
 rw [hP, hR, hn1, hn2, hn3, hn4, e1, e2, e3, e4, e5, e6]
 rw [e6] at HSB hrn
 rw [e3] at HLT hzn
 have HN2 := hid hn2
 have HN3 := hid hn3
 have HN4 := hid hn4
 have E3 := hid e3
 have hzn' : Hid (s.zones.length ≤ 64) := hid (by omega)
 have HFB : Hid (Ve.formB s c = (decide (P0 = (n : Int)) && (decide (n2 = n) && (decide (n3 = n) && decide (R0 = (l6 : Int)))))) := hid (by unfold Ve.formB; rw [hP, hn2, hn3, hR, e3, e6])
 clear h hr hk hc m1 m2 m3 m4 m5 m6 htm hcm hkm hsm e1 e2 e3 e4 e5 e6 hP hR hn1 hn2 hn3 hn4 hzr
 obtain ⟨W, hW⟩ : ∃ W, W = (w.alloc (.cells #[.int .i64 s.floor.w, .int .i64 s.floor.h, .int .i64 s.floor.d, .slice a1 l1 c1, .slice a2 l2 c2, .slice a3 n c3, .slice a4 l4 c4, .slice a5 l5 c5, .slice a6 l6 c6] 30)).alloc (.cells #[.int .i64 P0, .slice ta n1 tc, .slice ca n2 cc, .slice ka n3 kc, .int .i64 R0, .slice sa n4 sc] 38) := ⟨_, rfl⟩
 have BW : Hid (Below w.heap.size w W) := hid (by rw [hW]; exact ((Below.refl _ _).alloc (Nat.le_refl _) _).alloc (by simp) _)
 have IS : Hid (W.heap[w.heap.size]? = some (.cells #[.int .i64 s.floor.w, .int .i64 s.floor.h, .int .i64 s.floor.d, .slice a1 l1 c1, .slice a2 l2 c2, .slice a3 n c3, .slice a4 l4 c4, .slice a5 l5 c5, .slice a6 l6 c6] 30 (0, 0))) := hid (by rw [hW]; exact heap_two0 _ _ _)
 have IC : Hid (W.heap[w.heap.size + 1]? = some (.cells #[.int .i64 P0, .slice ta n1 tc, .slice ca n2 cc, .slice ka n3 kc, .int .i64 R0, .slice sa n4 sc] 38 (0, 0))) := hid (by rw [hW]; exact heap_two3 _ _ _)
 have HW := hid hW
 have hwW := BW.out.size
 have lW : w.heap.size + 1 < W.heap.size := heap_lt IC.out
 clear hW hsl
 obtain ⟨p0, p1, p2, p3, p4, p5, p6, p7, p8⟩ := cells9 IS.out
 obtain ⟨q0, q1, q2, q3, q4, q5⟩ := cells6 IC.out
 go_enter Tryz.func24, Tryz.ntmps24
 go_upto_region 1 with fail
 rw [← HW.out]
 clear HW
 by_cases hf : (n : Int) = P0 ∧ n = n2 ∧ n = n3 ∧ (l6 : Int) = R0
 case neg =>
  have HP : Hid (Ve.part s sl c = 0) := hid (Ve.part_form (by
   rw [HFB.out, Bool.eq_false_iff]
   intro hcc
   simp only [Bool.and_eq_true, decide_eq_true_eq] at hcc
   exact hf ⟨hcc.1.symm, hcc.2.1.symm, hcc.2.2.1.symm, hcc.2.2.2.symm⟩))
  have hcs : ¬ P0 = (n : Int) ∨ (P0 = (n : Int) ∧ ¬ (n2 : Int) = (n : Int)) ∨ (P0 = (n : Int) ∧ n = n2 ∧ ¬ (n3 : Int) = (n : Int)) ∨ (P0 = (n : Int) ∧ n = n2 ∧ n = n3 ∧ ¬ R0 = (l6 : Int)) := by
   by_cases g1 : P0 = (n : Int)
   · by_cases g2 : n = n2
     · by_cases g3 : n = n3
       · exact .inr (.inr (.inr ⟨g1, g2, g3, fun g4 => hf ⟨g1.symm, g2, g3, g4.symm⟩⟩))
       · exact .inr (.inr (.inl ⟨g1, g2, by omega⟩))
     · exact .inr (.inl ⟨g1, by omega⟩)
   · exact .inl g1
  clear hf HNE HRM HEN HZN HCK HLT HSB HSU HSL HSA HCP HSG HSN HFB
  rcases hcs with g | ⟨rfl, g⟩ | ⟨rfl, rfl, g⟩ | ⟨rfl, rfl, rfl, g⟩
  all_goals
   go_wp2_with fail
   go_ret2
   exact ⟨by rw [HP.out]; rfl, BW.out⟩
 obtain ⟨f1, f2, f3, f4⟩ := hf
 subst f1 f2 f3 f4
 have F1 : Hid (Ve.formB s c = true) := hid (by rw [HFB.out]; simp)
 clear HFB
 obtain ⟨r, hrr⟩ : ∃ r, Ve.netB s c = r := ⟨_, rfl⟩
 have HCN := hid (HNE.out W BW.out)
 rw [hrr] at HCN
 have HR := hid hrr
 clear hrr HNE
 go_wp2_with fail
 go_at_call 69; refine HCN.out.mono ?_; rintro e w2 ⟨rfl, b2⟩
 have B2 := hid b2
 have BR2 := hid (BW.out.trans (b2.mono hwW))
 clear b2 HCN p0 p1 p2 p3 p4 p5 p6 p7 p8 q0 q1 q2 q3 q4 q5
 cases r with
 | false =>
  have HP := hid (Ve.part_net (s := s) (sl := sl) (c := c) F1.out HR.out)
  go_wp2_with fail
  go_ret2
  exact ⟨by rw [HP.out]; rfl, BR2.out⟩
 | true =>
  have F2 := HR
  have CP0 : Hid (∀ i, i < 0 → ∀ (h1 : i < c.caps.length) (h2 : i < c.keeps.length) (h3 : i < s.zones.length), c.caps[i] = Si.capOf s i ∧ c.keeps[i] = s.zones[i].keep) := hid (fun i hi => by omega)
  go_wp2_with fail
  go_loopw [7] (fun zv wr => ∃ z : Nat, z ≤ n ∧ zv = .int .i64 z ∧ Hid (∀ i, i < z → ∀ (h1 : i < c.caps.length) (h2 : i < c.keeps.length) (h3 : i < s.zones.length), c.caps[i] = Si.capOf s i ∧ c.keeps[i] = s.zones[i].keep) ∧ Hid (Below W.heap.size W wr)) (fun zv _ => n - (intOf zv).toNat)
  case atStart => exact ⟨0, by omega, rfl, CP0, B2⟩
  case round =>
   clear CP0
   obtain ⟨z, hz, rfl, HCP2, HB⟩ := hrel
   obtain ⟨wo, hwo⟩ : ∃ W, W = wr := ⟨_, rfl⟩
   subst hwo
   have IS2 := hid (keep_heap IS.out HB.out)
   have IC2 := hid (keep_heap IC.out HB.out)
   have BT := hid (BW.out.trans (HB.out.mono hwW))
   have hso := HB.out.size
   by_cases hzl : z < n
   · have hzc : z < c.caps.length := by rw [HN2.out]; exact hzl
     have hzk : z < c.keeps.length := by rw [HN3.out]; exact hzl
     have hzs : z < s.zones.length := by rw [E3.out]; exact hzl
     obtain ⟨cb, co, ec, x1⟩ := (HCK.out wo BT.out).ca.cell z hzc
     subst ec
     obtain ⟨kb, ko, ek, x2⟩ := (HCK.out wo BT.out).ke.cell z hzk
     subst ek
     obtain ⟨zb, zo, u1, u2, ez, hzb, hu1, hu2, y0, y1, y2, y3, y4⟩ := (HZN.out wo BT.out).cell z hzs
     subst ez
     have HCR := hid (fun V (hV : Below w.heap.size w V) => HRM.out V hV z hzl)
     have HNC : Hid (c.caps[z] ≠ Si.capOf s z → Ve.part s sl c = 2) := hid (fun h9 => Ve.part_caps F1.out F2.out (caps_no (by rw [HN2.out, E3.out]) hzs h9))
     have HNK : Hid (c.keeps[z] ≠ s.zones[z].keep → Ve.part s sl c = 2) := hid (fun h9 => Ve.part_caps F1.out F2.out (keeps_no (by rw [HN3.out, E3.out]) hzs h9))
     have HYE : Hid (c.caps[z] = Si.capOf s z → c.keeps[z] = s.zones[z].keep → ∀ i, i < z + 1 → ∀ (h1 : i < c.caps.length) (h2 : i < c.keeps.length) (h3 : i < s.zones.length), c.caps[i] = Si.capOf s i ∧ c.keeps[i] = s.zones[i].keep) := hid (fun g1 g2 i hi h1 h2 h3 => by
      by_cases e : i = z
      · subst e; exact ⟨g1, g2⟩
      · exact HCP2.out i (by omega) h1 h2 h3)
     obtain ⟨C1, hC1⟩ : ∃ C, c.caps[z] = C := ⟨_, rfl⟩
     obtain ⟨C2, hC2⟩ : ∃ C, Si.capOf s z = C := ⟨_, rfl⟩
     obtain ⟨K1, hK1⟩ : ∃ C, c.keeps[z] = C := ⟨_, rfl⟩
     obtain ⟨K2, hK2⟩ : ∃ C, s.zones[z].keep = C := ⟨_, rfl⟩
     rw [hC1] at x1 HNC HYE
     rw [hC2] at HNC HYE HCR
     rw [hK1] at x2 HNK HYE
     rw [hK2] at y3 HNK HYE
     have z0 : (0 : Int) ≤ (z : Int) := by omega
     have z9 : (z : Int) < (n : Int) := by omega
     have hcb := cell_block_lt x1
     have hkb := cell_block_lt x2
     have lw : w.heap.size < wo.heap.size := heap_lt IS2.out
     have lw1 : w.heap.size + 1 < wo.heap.size := heap_lt IC2.out
     clear hzc hzk hzs hC1 hC2 hK1 hK2 hu1 hu2 y0 y1 y2 y4 HRM
     obtain ⟨p0, p1, p2, p3, p4, p5, p6, p7, p8⟩ := cells9 IS2.out
     have q2 : wo.cell? ⟨w.heap.size + 1, 2, none⟩ = some (.slice (some ⟨cb, co, none⟩) n cc) := cell_of_heap IC2.out 2 rfl
     have q3 : wo.cell? ⟨w.heap.size + 1, 3, none⟩ = some (.slice (some ⟨kb, ko, none⟩) n kc) := cell_of_heap IC2.out 3 rfl
     by_cases g1 : C1 = C2
     · subst g1
       by_cases g2 : K1 = K2
       · subst g2
         have HY2 := hid (HYE.out rfl rfl)
         clear HNC HNK HYE
         go_upto_region 9 with fail
         refine wp_region_held_drew (S := fun W' => W'.cell? ⟨w.heap.size, 0, none⟩ = some (.int .i64 s.floor.w) ∧ W'.cell? ⟨w.heap.size, 1, none⟩ = some (.int .i64 s.floor.h) ∧ W'.cell? ⟨w.heap.size, 2, none⟩ = some (.int .i64 s.floor.d) ∧ W'.cell? ⟨w.heap.size, 3, none⟩ = some (.slice a1 l1 c1) ∧ W'.cell? ⟨w.heap.size, 4, none⟩ = some (.slice a2 l2 c2) ∧ W'.cell? ⟨w.heap.size, 5, none⟩ = some (.slice (some ⟨zb, zo, none⟩) n c3) ∧ W'.cell? ⟨w.heap.size, 6, none⟩ = some (.slice a4 l4 c4) ∧ W'.cell? ⟨w.heap.size, 7, none⟩ = some (.slice a5 l5 c5) ∧ W'.cell? ⟨w.heap.size, 8, none⟩ = some (.slice a6 l6 c6) ∧ W'.cell? ⟨w.heap.size + 1, 2, none⟩ = some (.slice (some ⟨cb, co, none⟩) n cc) ∧ W'.cell? ⟨w.heap.size + 1, 3, none⟩ = some (.slice (some ⟨kb, ko, none⟩) n kc) ∧ W'.cell? ⟨cb, co + z, none⟩ = some (.int .i64 C1) ∧ W'.cell? ⟨kb, ko + z, none⟩ = some (.int .i64 K1) ∧ W'.cell? ⟨zb, zo + z * 5 + 3, none⟩ = some (.int .i64 K1)) (by kernel_rfl) ⟨p0, p1, p2, p3, p4, p5, p6, p7, p8, q2, q3, x1, x2, y3⟩ (fun hHeld => ?_)
         obtain ⟨wx, hwx⟩ : ∃ W, W = wo.drew := ⟨_, rfl⟩
         rw [← hwx] at hHeld ⊢
         have BX0 : Hid (Below wo.heap.size wo wx) := hid (by subst hwx; exact ⟨rfl, rfl, rfl, Nat.le_refl _, fun _ _ => rfl⟩)
         have BXW : Hid (Below w.heap.size w wx) := hid (BT.out.trans (BX0.out.mono BT.out.size))
         clear hwx
         refine tk 0 ?_
         try simp only [Act.put, zA, zB, zC, zD, zE, zF]
         refine tk 1 ?_
         try simp only [Act.put, zA, zB, zC, zD, zE, zF]
         refine tk 2 ?_
         try simp only [Act.put, zA, zB, zC, zD, zE, zF]
         refine tk 3 ?_
         try simp only [Act.put, zA, zB, zC, zD, zE, zF]
         refine tk 4 ?_
         try simp only [Act.put, zA, zB, zC, zD, zE, zF]
         refine tk 5 ?_
         try simp only [Act.put, zA, zB, zC, zD, zE, zF]
         refine tk 6 ?_
         try simp only [Act.put, zA, zB, zC, zD, zE, zF]
         refine wpAnyH_ready (rs := [7]) (by kernel_rfl) (by simp) ?_
         refine AllReadyH.cons (o := _) rfl (fun K hK => ?_) AllReadyH.nil
         go_simp
         go_at_call 70; with_reducible refine (HCR.out _ BXW.out).mono ?_; rintro e w5 ⟨rfl, b5⟩
         have BX := hid (BX0.out.trans (b5.mono BX0.out.size))
         have BXT := hid (HB.out.trans (BX.out.mono hso))
         have BXR := hid (BT.out.trans (BX.out.mono BT.out.size))
         clear b5
         go_wp2_with fail
         refine hK.out _ _ ?_ (fun hHeld => ?_)
         · exact ⟨(BX.out.cell (p := ⟨w.heap.size, 0, none⟩) lw).trans p0, (BX.out.cell (p := ⟨w.heap.size, 1, none⟩) lw).trans p1, (BX.out.cell (p := ⟨w.heap.size, 2, none⟩) lw).trans p2, (BX.out.cell (p := ⟨w.heap.size, 3, none⟩) lw).trans p3, (BX.out.cell (p := ⟨w.heap.size, 4, none⟩) lw).trans p4, (BX.out.cell (p := ⟨w.heap.size, 5, none⟩) lw).trans p5, (BX.out.cell (p := ⟨w.heap.size, 6, none⟩) lw).trans p6, (BX.out.cell (p := ⟨w.heap.size, 7, none⟩) lw).trans p7, (BX.out.cell (p := ⟨w.heap.size, 8, none⟩) lw).trans p8, (BX.out.cell (p := ⟨w.heap.size + 1, 2, none⟩) lw1).trans q2, (BX.out.cell (p := ⟨w.heap.size + 1, 3, none⟩) lw1).trans q3, (BX.out.cell (p := ⟨cb, co + z, none⟩) hcb).trans x1, (BX.out.cell (p := ⟨kb, ko + z, none⟩) hkb).trans x2, (BX.out.cell (p := ⟨zb, zo + z * 5 + 3, none⟩) hzb).trans y3⟩
         clear hK K
         try simp only [Act.put, zA, zB, zC, zD, zE, zF]
         refine tk 8 ?_
         try simp only [Act.put, zA, zB, zC, zD, zE, zF]
         refine tk 9 ?_
         try simp only [Act.put, zA, zB, zC, zD, zE, zF]
         refine tk 10 ?_
         try simp only [Act.put, zA, zB, zC, zD, zE, zF]
         refine tk 11 ?_
         try simp only [Act.put, zA, zB, zC, zD, zE, zF]
         refine tk 12 ?_
         try simp only [Act.put, zA, zB, zC, zD, zE, zF]
         refine tk 13 ?_
         try simp only [Act.put, zA, zB, zC, zD, zE, zF]
         refine tk 14 ?_
         try simp only [Act.put, zA, zB, zC, zD, zE, zF]
         refine tk 15 ?_
         try simp only [Act.put, zA, zB, zC, zD, zE, zF]
         refine tk 16 ?_
         try simp only [Act.put, zA, zB, zC, zD, zE, zF]
         refine tk 17 ?_
         try simp only [Act.put, zA, zB, zC, zD, zE, zF]
         refine tk 18 ?_
         try simp only [Act.put, zA, zB, zC, zD, zE, zF]
         refine tk 19 ?_
         try simp only [Act.put, zA, zB, zC, zD, zE, zF]
         refine tk 20 ?_
         try simp only [Act.put, zA, zB, zC, zD, zE, zF]
         refine tk 21 ?_
         try simp only [Act.put, zA, zB, zC, zD, zE, zF]
         refine tk 22 ?_
         try simp only [Act.put, zA, zB, zC, zD, zE, zF]
         refine wpAnyH_done (by kernel_rfl) ?_ _
         go_wp2_with fail
         go_roundw
         case rel => exact ⟨z + 1, by omega, by go_num, HY2, BXT⟩
         case measure => simp [intOf]; omega
       · have HP := hid (HNK.out g2)
         clear HNC HNK HYE
         go_upto_region 9 with fail
         refine wp_region_held_drew (S := fun W' => W'.cell? ⟨w.heap.size, 0, none⟩ = some (.int .i64 s.floor.w) ∧ W'.cell? ⟨w.heap.size, 1, none⟩ = some (.int .i64 s.floor.h) ∧ W'.cell? ⟨w.heap.size, 2, none⟩ = some (.int .i64 s.floor.d) ∧ W'.cell? ⟨w.heap.size, 3, none⟩ = some (.slice a1 l1 c1) ∧ W'.cell? ⟨w.heap.size, 4, none⟩ = some (.slice a2 l2 c2) ∧ W'.cell? ⟨w.heap.size, 5, none⟩ = some (.slice (some ⟨zb, zo, none⟩) n c3) ∧ W'.cell? ⟨w.heap.size, 6, none⟩ = some (.slice a4 l4 c4) ∧ W'.cell? ⟨w.heap.size, 7, none⟩ = some (.slice a5 l5 c5) ∧ W'.cell? ⟨w.heap.size, 8, none⟩ = some (.slice a6 l6 c6) ∧ W'.cell? ⟨w.heap.size + 1, 2, none⟩ = some (.slice (some ⟨cb, co, none⟩) n cc) ∧ W'.cell? ⟨w.heap.size + 1, 3, none⟩ = some (.slice (some ⟨kb, ko, none⟩) n kc) ∧ W'.cell? ⟨cb, co + z, none⟩ = some (.int .i64 C1) ∧ W'.cell? ⟨kb, ko + z, none⟩ = some (.int .i64 K1) ∧ W'.cell? ⟨zb, zo + z * 5 + 3, none⟩ = some (.int .i64 K2)) (by kernel_rfl) ⟨p0, p1, p2, p3, p4, p5, p6, p7, p8, q2, q3, x1, x2, y3⟩ (fun hHeld => ?_)
         obtain ⟨wx, hwx⟩ : ∃ W, W = wo.drew := ⟨_, rfl⟩
         rw [← hwx] at hHeld ⊢
         have BX0 : Hid (Below wo.heap.size wo wx) := hid (by subst hwx; exact ⟨rfl, rfl, rfl, Nat.le_refl _, fun _ _ => rfl⟩)
         have BXW : Hid (Below w.heap.size w wx) := hid (BT.out.trans (BX0.out.mono BT.out.size))
         clear hwx
         refine tk 0 ?_
         try simp only [Act.put, zA, zB, zC, zD, zE, zF]
         refine tk 1 ?_
         try simp only [Act.put, zA, zB, zC, zD, zE, zF]
         refine tk 2 ?_
         try simp only [Act.put, zA, zB, zC, zD, zE, zF]
         refine tk 3 ?_
         try simp only [Act.put, zA, zB, zC, zD, zE, zF]
         refine tk 4 ?_
         try simp only [Act.put, zA, zB, zC, zD, zE, zF]
         refine tk 5 ?_
         try simp only [Act.put, zA, zB, zC, zD, zE, zF]
         refine tk 6 ?_
         try simp only [Act.put, zA, zB, zC, zD, zE, zF]
         refine wpAnyH_ready (rs := [7]) (by kernel_rfl) (by simp) ?_
         refine AllReadyH.cons (o := _) rfl (fun K hK => ?_) AllReadyH.nil
         go_simp
         go_at_call 70; with_reducible refine (HCR.out _ BXW.out).mono ?_; rintro e w5 ⟨rfl, b5⟩
         have BX := hid (BX0.out.trans (b5.mono BX0.out.size))
         have BXT := hid (HB.out.trans (BX.out.mono hso))
         have BXR := hid (BT.out.trans (BX.out.mono BT.out.size))
         clear b5
         go_wp2_with fail
         refine hK.out _ _ ?_ (fun hHeld => ?_)
         · exact ⟨(BX.out.cell (p := ⟨w.heap.size, 0, none⟩) lw).trans p0, (BX.out.cell (p := ⟨w.heap.size, 1, none⟩) lw).trans p1, (BX.out.cell (p := ⟨w.heap.size, 2, none⟩) lw).trans p2, (BX.out.cell (p := ⟨w.heap.size, 3, none⟩) lw).trans p3, (BX.out.cell (p := ⟨w.heap.size, 4, none⟩) lw).trans p4, (BX.out.cell (p := ⟨w.heap.size, 5, none⟩) lw).trans p5, (BX.out.cell (p := ⟨w.heap.size, 6, none⟩) lw).trans p6, (BX.out.cell (p := ⟨w.heap.size, 7, none⟩) lw).trans p7, (BX.out.cell (p := ⟨w.heap.size, 8, none⟩) lw).trans p8, (BX.out.cell (p := ⟨w.heap.size + 1, 2, none⟩) lw1).trans q2, (BX.out.cell (p := ⟨w.heap.size + 1, 3, none⟩) lw1).trans q3, (BX.out.cell (p := ⟨cb, co + z, none⟩) hcb).trans x1, (BX.out.cell (p := ⟨kb, ko + z, none⟩) hkb).trans x2, (BX.out.cell (p := ⟨zb, zo + z * 5 + 3, none⟩) hzb).trans y3⟩
         clear hK K
         try simp only [Act.put, zA, zB, zC, zD, zE, zF]
         refine tk 8 ?_
         try simp only [Act.put, zA, zB, zC, zD, zE, zF]
         refine tk 9 ?_
         try simp only [Act.put, zA, zB, zC, zD, zE, zF]
         refine tk 10 ?_
         try simp only [Act.put, zA, zB, zC, zD, zE, zF]
         refine tk 11 ?_
         try simp only [Act.put, zA, zB, zC, zD, zE, zF]
         refine tk 12 ?_
         try simp only [Act.put, zA, zB, zC, zD, zE, zF]
         refine tk 13 ?_
         try simp only [Act.put, zA, zB, zC, zD, zE, zF]
         refine tk 14 ?_
         try simp only [Act.put, zA, zB, zC, zD, zE, zF]
         refine tk 15 ?_
         try simp only [Act.put, zA, zB, zC, zD, zE, zF]
         refine tk 16 ?_
         try simp only [Act.put, zA, zB, zC, zD, zE, zF]
         refine tk 17 ?_
         try simp only [Act.put, zA, zB, zC, zD, zE, zF]
         refine tk 18 ?_
         try simp only [Act.put, zA, zB, zC, zD, zE, zF]
         refine tk 19 ?_
         try simp only [Act.put, zA, zB, zC, zD, zE, zF]
         refine tk 20 ?_
         try simp only [Act.put, zA, zB, zC, zD, zE, zF]
         refine tk 21 ?_
         try simp only [Act.put, zA, zB, zC, zD, zE, zF]
         refine tk 22 ?_
         try simp only [Act.put, zA, zB, zC, zD, zE, zF]
         refine wpAnyH_done (by kernel_rfl) ?_ _
         go_wp2_with fail
         go_ret2
         exact ⟨by rw [HP.out]; rfl, BXR.out⟩
     · have HP := hid (HNC.out g1)
       clear HNC HNK HYE
       have hne : (C1 != C2) = true := by simpa using g1
       go_upto_region 9 with fail
       refine wp_region_held_drew (S := fun W' => W'.cell? ⟨w.heap.size, 0, none⟩ = some (.int .i64 s.floor.w) ∧ W'.cell? ⟨w.heap.size, 1, none⟩ = some (.int .i64 s.floor.h) ∧ W'.cell? ⟨w.heap.size, 2, none⟩ = some (.int .i64 s.floor.d) ∧ W'.cell? ⟨w.heap.size, 3, none⟩ = some (.slice a1 l1 c1) ∧ W'.cell? ⟨w.heap.size, 4, none⟩ = some (.slice a2 l2 c2) ∧ W'.cell? ⟨w.heap.size, 5, none⟩ = some (.slice (some ⟨zb, zo, none⟩) n c3) ∧ W'.cell? ⟨w.heap.size, 6, none⟩ = some (.slice a4 l4 c4) ∧ W'.cell? ⟨w.heap.size, 7, none⟩ = some (.slice a5 l5 c5) ∧ W'.cell? ⟨w.heap.size, 8, none⟩ = some (.slice a6 l6 c6) ∧ W'.cell? ⟨w.heap.size + 1, 2, none⟩ = some (.slice (some ⟨cb, co, none⟩) n cc) ∧ W'.cell? ⟨w.heap.size + 1, 3, none⟩ = some (.slice (some ⟨kb, ko, none⟩) n kc) ∧ W'.cell? ⟨cb, co + z, none⟩ = some (.int .i64 C1) ∧ W'.cell? ⟨kb, ko + z, none⟩ = some (.int .i64 K1) ∧ W'.cell? ⟨zb, zo + z * 5 + 3, none⟩ = some (.int .i64 K2)) (by kernel_rfl) ⟨p0, p1, p2, p3, p4, p5, p6, p7, p8, q2, q3, x1, x2, y3⟩ (fun hHeld => ?_)
       obtain ⟨wx, hwx⟩ : ∃ W, W = wo.drew := ⟨_, rfl⟩
       rw [← hwx] at hHeld ⊢
       have BX0 : Hid (Below wo.heap.size wo wx) := hid (by subst hwx; exact ⟨rfl, rfl, rfl, Nat.le_refl _, fun _ _ => rfl⟩)
       have BXW : Hid (Below w.heap.size w wx) := hid (BT.out.trans (BX0.out.mono BT.out.size))
       clear hwx
       refine tk 0 ?_
       try simp only [Act.put, zA, zB, zC, zD, zE, zF]
       refine tk 1 ?_
       try simp only [Act.put, zA, zB, zC, zD, zE, zF]
       refine tk 2 ?_
       try simp only [Act.put, zA, zB, zC, zD, zE, zF]
       refine tk 3 ?_
       try simp only [Act.put, zA, zB, zC, zD, zE, zF]
       refine tk 4 ?_
       try simp only [Act.put, zA, zB, zC, zD, zE, zF]
       refine tk 5 ?_
       try simp only [Act.put, zA, zB, zC, zD, zE, zF]
       refine tk 6 ?_
       try simp only [Act.put, zA, zB, zC, zD, zE, zF]
       refine wpAnyH_ready (rs := [7]) (by kernel_rfl) (by simp) ?_
       refine AllReadyH.cons (o := _) rfl (fun K hK => ?_) AllReadyH.nil
       go_simp
       go_at_call 70; with_reducible refine (HCR.out _ BXW.out).mono ?_; rintro e w5 ⟨rfl, b5⟩
       have BX := hid (BX0.out.trans (b5.mono BX0.out.size))
       have BXT := hid (HB.out.trans (BX.out.mono hso))
       have BXR := hid (BT.out.trans (BX.out.mono BT.out.size))
       clear b5
       go_wp2_with fail
       refine hK.out _ _ ?_ (fun hHeld => ?_)
       · exact ⟨(BX.out.cell (p := ⟨w.heap.size, 0, none⟩) lw).trans p0, (BX.out.cell (p := ⟨w.heap.size, 1, none⟩) lw).trans p1, (BX.out.cell (p := ⟨w.heap.size, 2, none⟩) lw).trans p2, (BX.out.cell (p := ⟨w.heap.size, 3, none⟩) lw).trans p3, (BX.out.cell (p := ⟨w.heap.size, 4, none⟩) lw).trans p4, (BX.out.cell (p := ⟨w.heap.size, 5, none⟩) lw).trans p5, (BX.out.cell (p := ⟨w.heap.size, 6, none⟩) lw).trans p6, (BX.out.cell (p := ⟨w.heap.size, 7, none⟩) lw).trans p7, (BX.out.cell (p := ⟨w.heap.size, 8, none⟩) lw).trans p8, (BX.out.cell (p := ⟨w.heap.size + 1, 2, none⟩) lw1).trans q2, (BX.out.cell (p := ⟨w.heap.size + 1, 3, none⟩) lw1).trans q3, (BX.out.cell (p := ⟨cb, co + z, none⟩) hcb).trans x1, (BX.out.cell (p := ⟨kb, ko + z, none⟩) hkb).trans x2, (BX.out.cell (p := ⟨zb, zo + z * 5 + 3, none⟩) hzb).trans y3⟩
       clear hK K
       try simp only [Act.put, zA, zB, zC, zD, zE, zF]
       refine tk 8 ?_
       try simp only [Act.put, zA, zB, zC, zD, zE, zF]
       refine tk 9 ?_
       try simp only [Act.put, zA, zB, zC, zD, zE, zF]
       try simp only [hne]
       refine tj 10 ?_
       try simp only [Act.put, zA, zB, zC, zD, zE, zF]
       refine tj 11 ?_
       try simp only [Act.put, zA, zB, zC, zD, zE, zF]
       refine tj 12 ?_
       try simp only [Act.put, zA, zB, zC, zD, zE, zF]
       refine tj 13 ?_
       try simp only [Act.put, zA, zB, zC, zD, zE, zF]
       refine tj 14 ?_
       try simp only [Act.put, zA, zB, zC, zD, zE, zF]
       refine tj 15 ?_
       try simp only [Act.put, zA, zB, zC, zD, zE, zF]
       refine tj 16 ?_
       try simp only [Act.put, zA, zB, zC, zD, zE, zF]
       refine tj 17 ?_
       try simp only [Act.put, zA, zB, zC, zD, zE, zF]
       refine tj 18 ?_
       try simp only [Act.put, zA, zB, zC, zD, zE, zF]
       refine tj 19 ?_
       try simp only [Act.put, zA, zB, zC, zD, zE, zF]
       refine tj 20 ?_
       try simp only [Act.put, zA, zB, zC, zD, zE, zF]
       refine tj 21 ?_
       try simp only [Act.put, zA, zB, zC, zD, zE, zF]
       refine tk 22 ?_
       try simp only [Act.put, zA, zB, zC, zD, zE, zF]
       refine wpAnyH_done (by kernel_rfl) ?_ _
       go_wp2_with fail
       go_ret2
       exact ⟨by rw [HP.out]; rfl, BXR.out⟩
   · skip
     have hze : z = n := by omega
     have F3 : Hid (Ve.capsB s c = true) := hid (caps_all (by rw [HN2.out, E3.out]) (by rw [HN3.out, E3.out]) (fun i hi => HCP2.out i (by rw [hze, ← E3.out]; exact hi) (by rw [HN2.out, ← E3.out]; exact hi) (by rw [HN3.out, ← E3.out]; exact hi) hi))
     have HCW : Hid (∀ i (h1 : i < c.caps.length), c.caps[i] = Si.capOf s i) := hid (fun i h1 => (HCP2.out i (by rw [hze, ← HN2.out]; exact h1) h1 (by rw [HN3.out, ← HN2.out]; exact h1) (by rw [E3.out, ← HN2.out]; exact h1)).1)
     have z9 : ¬ (z : Int) < (n : Int) := by omega
     have HCE := hid (HEN.out wo BT.out)
     obtain ⟨p0, p1, p2, p3, p4, p5, p6, p7, p8⟩ := cells9 IS2.out
     clear HCP2 HRM HEN HCP HZN
     go_wp2_with fail
     go_at_call 26; refine HCE.out.mono ?_; rintro e w3 ⟨lv, rfl, hl, b3⟩
     have B3 := hid (HB.out.trans (b3.mono hso))
     have BT3 := hid (BT.out.trans (b3.mono BT.out.size))
     obtain ⟨la, lcc, rfl, hlm⟩ := hl.form
     obtain ⟨m, hm⟩ : ∃ m, m = sl.length := ⟨_, rfl⟩
     rw [HSN.out, ← hm] at hl hlm
     rw [HSN.out, ← hm]
     have HL := hid hl
     have HM := hid hm
     have IC3 := hid (keep_heap IC.out B3.out)
     have q5 : w3.cell? ⟨w.heap.size + 1, 5, none⟩ = some (.slice sa n4 sc) := cell_of_heap IC3.out 5 rfl
     have hs3 := B3.out.size
     have ht3 := BT3.out.size
     clear hl hm b3 HCE p0 p1 p2 p3 p4 p5 p6 p7 p8
     by_cases hmn : m = n4
     case neg =>
      have HP : Hid (Ve.part s sl c = 3) := hid (Ve.part_sips F1.out F2.out F3.out (by
       unfold Ve.sipsB
       exact decide_eq_false (fun e => hmn (by rw [HM.out, ← HSN.out, ← e, HN4.out]))))
      have g : ¬ (m : Int) = (n4 : Int) := by omega
      go_wp2_with fail
      go_ret2
      exact ⟨by rw [HP.out]; rfl, BT3.out⟩
     subst hmn
     obtain ⟨G, hG⟩ : ∃ G, Ve.sipsB sl c = G := ⟨_, rfl⟩
     have HG := hid hG
     have G0 : Hid (G = decide ((Ve.sipL sl).drop 0 = c.sips.drop 0)) := hid (by rw [List.drop_zero, List.drop_zero, ← hG]; unfold Ve.sipsB; exact decide_eq_decide.mpr ⟨Eq.symm, Eq.symm⟩)
     have Z0 : Hid (Below w3.heap.size w3 w3) := hid (Below.refl _ _)
     clear hG
     go_wp2_with fail
     clear q5
     go_loopw [9] (fun iv wr => ∃ k : Nat, k ≤ m ∧ iv = .int .i64 k ∧ Hid (G = decide ((Ve.sipL sl).drop k = c.sips.drop k)) ∧ Hid (Below w3.heap.size w3 wr)) (fun iv _ => m - (intOf iv).toNat)
     case atStart => exact ⟨0, by omega, rfl, G0, Z0⟩
     case round =>
      clear G0 Z0
      obtain ⟨k, hk, rfl, HRG, HU⟩ := hrel
      obtain ⟨wB, hwB⟩ : ∃ W, W = wr := ⟨_, rfl⟩
      subst hwB
      have BTB := hid (BT3.out.trans (HU.out.mono ht3))
      have ICB := hid (keep_heap IC.out (B3.out.trans (HU.out.mono hs3)))
      have hub := HU.out.size
      by_cases hkm : k < m
      · have hx : k < (Ve.sipL sl).length := by rw [HSN.out, ← HM.out]; exact hkm
        have hy : k < c.sips.length := by rw [HN4.out]; exact hkm
        obtain ⟨b1, o1, x1, e1, r1, hx1⟩ := (HL.out.keep HU.out).cell k hx
        obtain ⟨b2, o2, y1, e2, r2, hy1⟩ := (HCK.out wB BTB.out).si.cell k hy
        subst e1 e2
        have HST := hid (HRG.out.trans (vdropl_eq (Ve.sipL sl) c.sips k hx hy))
        have HC := hid (fun W (hW : Below wB.heap.size wB W) => rSame_any x1 y1 (Ve.sipL sl)[k] c.sips[k] W (hx1.keep hW) (hy1.keep hW))
        obtain ⟨g, hg⟩ : ∃ g, g = decide ((Ve.sipL sl)[k] = c.sips[k]) := ⟨_, rfl⟩
        rw [← hg] at HST HC
        obtain ⟨xa, xc, hxs, hxm⟩ := hx1.form
        obtain ⟨ya, yc, hys, hym⟩ := hy1.form
        obtain ⟨k1, hn1⟩ : ∃ n1, n1 = (Ve.sipL sl)[k].length := ⟨_, rfl⟩
        obtain ⟨k2, hn2⟩ : ∃ n1, n1 = c.sips[k].length := ⟨_, rfl⟩
        rw [← hn1] at hxs hxm
        rw [← hn2] at hys hym
        subst hxs hys
        have kI0 : (0 : Int) ≤ (k : Int) := by omega
        have kI1 : (k : Int) < (m : Int) := by omega
        have lb1 := cell_block_lt r1
        have lb2 := cell_block_lt r2
        have q5 : wB.cell? ⟨w.heap.size + 1, 5, none⟩ = some (.slice (some ⟨b2, o2, none⟩) m sc) := cell_of_heap ICB.out 5 rfl
        have lb3 := cell_block_lt q5
        clear hg hx1 hy1 hn1 hn2 hx hy
        go_wp2_with fail
        go_region_held3 (fun w' => w'.cell? ⟨b1, o1 + k, none⟩ = some (.slice xa k1 xc) ∧ w'.cell? ⟨b2, o2 + k, none⟩ = some (.slice ya k2 yc) ∧ w'.cell? ⟨w.heap.size + 1, 5, none⟩ = some (.slice (some ⟨b2, o2, none⟩) m sc)) (go_keep)
         ((go_at_call 28; refine (HC.out _ (by (repeat (with_reducible first | exact Below.refl _ _ | refine Below.drew ?_ | refine Below.alloc ?_ (by simp) _)); all_goals fail)).mono ?_; rintro e w2 ⟨rfl, hb9⟩; have BB := hid (below_then (a := wB) (by (repeat (with_reducible first | exact Below.refl _ _ | refine Below.drew ?_ | refine Below.alloc ?_ (by simp) _)); all_goals fail) hb9); have z1 := (BB.out.cell (p := ⟨b1, o1 + k, none⟩) lb1).trans r1; have z2 := (BB.out.cell (p := ⟨b2, o2 + k, none⟩) lb2).trans r2; have z3 := (BB.out.cell (p := ⟨w.heap.size + 1, 5, none⟩) lb3).trans q5; clear hb9))
        all_goals
         have BBX := hid (HU.out.trans (BB.out.mono hub))
         have BRX := hid (BTB.out.trans (BB.out.mono BTB.out.size))
         cases g with
         | true =>
          have HS : Hid (G = decide ((Ve.sipL sl).drop (k + 1) = c.sips.drop (k + 1))) := hid (by rw [HST.out, Bool.true_and])
          go_wp2_with fail
          go_roundw
          case rel => exact ⟨k + 1, by omega, by go_num, HS, BBX⟩
          case measure => simp [intOf]; omega
         | false =>
          have HP : Hid (Ve.part s sl c = 3) := hid (Ve.part_sips F1.out F2.out F3.out (by rw [HG.out, HST.out, Bool.false_and]))
          go_wp2_with fail
          go_ret2
          exact ⟨by rw [HP.out]; rfl, BRX.out⟩
      · have hkk : k = m := by omega
        have k9 : ¬ (k : Int) < (m : Int) := by omega
        have F4 : Hid (Ve.sipsB sl c = true) := hid (by
         rw [HG.out, HRG.out, List.drop_of_length_le (by rw [HSN.out, ← HM.out]; omega), List.drop_of_length_le (by rw [HN4.out]; omega)]; rfl)
        have T0 : Hid ((sl.take 0).all (fun y => decide ((l6 : Int) < Si.sumCaps s y)) = true) := hid (by simp)
        clear HRG HG
        go_wp2_with fail
        go_loopw [10] (fun iv wr => ∃ k : Nat, k ≤ m ∧ iv = .int .i64 k ∧ Hid ((sl.take k).all (fun y => decide ((l6 : Int) < Si.sumCaps s y)) = true) ∧ Hid (Below w3.heap.size w3 wr)) (fun iv _ => m - (intOf iv).toNat)
        case atStart => exact ⟨0, by omega, rfl, T0, HU⟩
        case round =>
         clear T0 hkk k9 HU BTB ICB hub hk
         obtain ⟨k, hk, rfl, HK, HU⟩ := hrel
         obtain ⟨wC, hwC⟩ : ∃ W, W = wr := ⟨_, rfl⟩
         subst hwC
         by_cases hkm : k < m
         · have hks : k < sl.length := by rw [← HM.out]; exact hkm
           obtain ⟨b1, o1, u, e1, hpu, hu⟩ := HL.out.cell k (by rw [HSN.out]; exact hks)
           subst e1
           rw [HSG.out k hks] at hu
           obtain ⟨y, hy⟩ : ∃ y, y = sl[k] := ⟨_, rfl⟩
           rw [← hy] at hu
           have hym : y ∈ sl := by rw [hy]; exact List.getElem_mem hks
           have HLY := hid (fun z hz => HLT.out y z hym hz)
           have HSY := hid (HSA.out y)
           have HTK : Hid (sl.take (k + 1) = sl.take k ++ [y]) := hid (by rw [List.take_succ_eq_append_getElem hks, hy])
           have hl64 := listW_le y
           have HYM := hid hym
           obtain ⟨l, hl⟩ : ∃ l, l = Pt.listW y := ⟨_, rfl⟩
           rw [← hl] at hu HLY HSY hl64
           obtain ⟨ua, uc, hus, hum⟩ := hu.form
           rw [nn_len] at hus hum
           subst hus
           obtain ⟨q, hq⟩ : ∃ q, q = l.length := ⟨_, rfl⟩
           rw [← hq] at hl64 HSY hum hpu
           rw [← hq] at hu
           have HQ := hid hq
           have HUI := hid hu
           have HPU := hid hpu
           have lb1 := cell_block_lt hpu
           have k0 : (0 : Int) ≤ (k : Int) := by omega
           have k1 : (k : Int) < (m : Int) := by omega
           have HZ0 : Hid (sumTo s l 0 = 0) := hid rfl
           clear hu hy hym hl hq hpu hks
           go_wp2_with fail
           go_loopw [11, 12] (fun sv iv wr => ∃ (j : Nat) (S : Int), j ≤ q ∧ iv = .int .i64 j ∧ sv = .int .i64 S ∧ Hid (S = sumTo s l j) ∧ Hid (Below w3.heap.size w3 wr)) (fun _ iv _ => q - (intOf iv).toNat)
           case atStart => exact ⟨0, 0, by omega, rfl, rfl, hid HZ0.out.symm, HU⟩
           case round =>
            clear HU
            obtain ⟨j, S, hj, rfl, rfl, HS, HU⟩ := hrel
            obtain ⟨wD, hwD⟩ : ∃ W, W = wr := ⟨_, rfl⟩
            subst hwD
            have BTD := hid (BT3.out.trans (HU.out.mono ht3))
            have ICD := hid (keep_heap IC.out (B3.out.trans (HU.out.mono hs3)))
            have r1 : wD.cell? ⟨b1, o1 + k, none⟩ = some (.slice ua q uc) := (HU.out.cell (p := ⟨b1, o1 + k, none⟩) lb1).trans HPU.out
            by_cases hjq : j < q
            · have hjl : j < l.length := by rw [← HQ.out]; exact hjq
              obtain ⟨b2, o2, e2, r2⟩ := (HUI.out.keep HU.out).cell j (by rw [nn_len]; exact hjl)
              subst e2
              obtain ⟨z, hz⟩ : ∃ z, l[j] = z := ⟨_, rfl⟩
              rw [show (Si.nn l)[j]'(by rw [nn_len]; exact hjl) = (z : Int) by simp [Si.nn, hz]] at r2
              have hzn2 : z < n := HLY.out z (by rw [← hz]; exact List.getElem_mem hjl)
              have hzc : z < c.caps.length := by rw [HN2.out]; exact hzn2
              obtain ⟨b3, o3, e3, r3⟩ := (HCK.out wD BTD.out).ca.cell z hzc
              subst e3
              rw [HCW.out z hzc] at r3
              have q2 : wD.cell? ⟨w.heap.size + 1, 2, none⟩ = some (.slice (some ⟨b3, o3, none⟩) n cc) := cell_of_heap ICD.out 2 rfl
              have HST := HSU.out l j hjl
              rw [hz, ← HS.out] at HST
              have hS1 := HSL.out l j (by omega)
              have hS2 := HSL.out l (j + 1) (by omega)
              rw [← HS.out] at hS1
              rw [HST] at hS2
              have HST := hid HST
              obtain ⟨cz, hcz⟩ : ∃ cz, cz = Si.capOf s z := ⟨_, rfl⟩
              rw [← hcz] at HST r3 hS2
              have j0 : (0 : Int) ≤ (j : Int) := by omega
              have j1 : (j : Int) < (q : Int) := by omega
              have z0 : (0 : Int) ≤ (z : Int) := by omega
              have z1 : (z : Int) < (n : Int) := by omega
              have v1 : -9223372036854775808 ≤ S + cz := by omega
              have v2 : S + cz ≤ 9223372036854775807 := by omega
              clear hz hcz hS1 hS2 hzc hjl
              go_wp2_with fail
              go_quiet (fail)
              go_upto_region 25 with fail
              generalize hwq : wD.drewN _ = wq
              have BQ : Hid (Below wD.heap.size wD wq) := hid (by rw [← hwq]; exact below_drewN _ _ _)
              have BQ2 := hid (HU.out.trans (BQ.out.mono HU.out.size))
              clear hwq
              go_wp2_with fail
              go_roundw
              case rel => exact ⟨j + 1, S + cz, by omega, by go_num, by go_num, hid HST.out.symm, BQ2⟩
              case measure => simp [intOf]; omega
            · have hjj : j = q := by omega
              have j9 : ¬ (j : Int) < (q : Int) := by omega
              have HSS : Hid (S = Si.sumCaps s y) := hid (by rw [HS.out, hjj]; exact HSY.out)
              have q4 : wD.cell? ⟨w.heap.size + 1, 4, none⟩ = some (.int .i64 (l6 : Int)) := cell_of_heap ICD.out 4 rfl
              by_cases hSR : S ≤ (l6 : Int)
              · have HF : Hid (Ve.safeB s sl = false) := hid (by
                 rw [HSB.out, List.all_eq_false]
                 exact ⟨y, HYM.out, by rw [← HSS.out]; simp; omega⟩)
                have HP := hid (Ve.part_safe F1.out F2.out F3.out F4.out HF.out)
                go_wp2_with fail
                go_ret2
                exact ⟨by rw [HP.out]; rfl, BTD.out⟩
              · have HT : Hid ((sl.take (k + 1)).all (fun y => decide ((l6 : Int) < Si.sumCaps s y)) = true) := hid (by
                 rw [HTK.out, List.all_append, HK.out]
                 simp
                 rw [← HSS.out]; omega)
                go_wp2_with fail
                go_roundw
                case rel => exact ⟨k + 1, by omega, by go_num, HT, HU⟩
                case measure => simp [intOf]; omega
         · have hkk : k = m := by omega
           have k9 : ¬ (k : Int) < (m : Int) := by omega
           have HT : Hid (Ve.safeB s sl = true) := hid (by
            have h9 := HK.out
            rw [List.take_of_length_le (by rw [← HM.out]; omega)] at h9
            rw [HSB.out]; exact h9)
           have HP := hid (Ve.part_none F1.out F2.out F3.out F4.out HT.out)
           have BTD := hid (BT3.out.trans (HU.out.mono ht3))
           go_wp2_with fail
           go_ret2
           exact ⟨by rw [HP.out]; rfl, BTD.out⟩
end Go.Proofs.YtfcbcpfnaadpeaaGreatDoor
