/- Parts TeL, TeM, TeN, TeO, TeP of this claim, laid one behind the other: walks and the plain laws behind them; each contract states its own conditions. -/
import Derived.Test.YtfcbcpfnaadpeaaGreatDoorTD
import Derived.Test.YtfcbcpfnaadpeaaGreatDoorTF
import Derived.Test.YtfcbcpfnaadpeaaGreatDoorTJ
namespace Go.Proofs.YtfcbcpfnaadpeaaGreatDoor
set_option maxRecDepth 100000
set_option maxHeartbeats 64000000
set_option linter.unusedSimpArgs false
set_option linter.unusedVariables false
open Go.RowKit
theorem sp_next {L l : List Int} {i : Nat} (hi : i < l.length) (h : Si.spareOf L (l.take i) < 0) (h0 : ∀ z ∈ l, 0 ≤ z) : Si.spareOf L (l.take (i + 1)) = if 0 < L.getD l[i].toNat 0 then l[i] else -1 := by
 unfold Si.spareOf at h ⊢
 rw [List.take_succ_eq_append_getElem hi, List.find?_append]
 cases hf : (l.take i).find? (fun z => decide (0 < L.getD z.toNat 0)) with
 | some z =>
  rw [hf] at h
  have := h0 z (List.mem_of_mem_take (List.mem_of_find?_eq_some hf))
  simp only at h
  omega
 | none =>
  by_cases g : 0 < L.getD l[i].toNat 0
  · rw [if_pos g]; simp only [List.find?_cons, decide_eq_true g, Option.none_or]
  · rw [if_neg g]; simp only [List.find?_cons, decide_eq_false g, Option.none_or, List.find?_nil]
theorem sp_done {L l : List Int} {i : Nat} (h : 0 ≤ Si.spareOf L (l.take i)) : Si.spareOf L l = Si.spareOf L (l.take i) := by
 unfold Si.spareOf at h ⊢
 cases hf : (l.take i).find? (fun z => decide (0 < L.getD z.toNat 0)) with
 | some z =>
  have e : l = l.take i ++ l.drop i := (List.take_append_drop i l).symm
  rw [e, List.find?_append, hf, Option.some_or]
 | none => rw [hf] at h; simp at h
theorem sp_lo (L l : List Int) (h0 : ∀ z ∈ l, 0 ≤ z) : -1 ≤ Si.spareOf L l := by
 unfold Si.spareOf
 cases hf : l.find? (fun z => decide (0 < L.getD z.toNat 0)) with
 | some z => have := h0 z (List.mem_of_find?_eq_some hf); simp only; omega
 | none => simp
theorem rSpare_any (s : Si.Site) (kv ov zv av sv rv : Value) (pl rb : Int) (tv cv ke se : Value) (sips : List (List Int)) (st : Bd.State) (shv rov pev dev skv : Value) (w : World) (h : SiV w kv ov zv av sv rv s) (hr : Si.Right s)
 (hcb : ∀ z, z < s.zones.length → Si.capOf s z ≤ 1000000) (hcv : Is w cv (Si.capsL s)) (hse : Ll w se sips) (hsp : ∀ l ∈ sips, ∀ z ∈ l, 0 ≤ z ∧ z < (s.zones.length : Int)) (hsl : sips.length ≤ 1000000)
 (ht : StV w shv rov pev dev skv st) (hrl : st.robots.length ≤ 1000) :
 Calls Tryz.prog 30 #[siV s kv ov zv av sv rv, .agg #[.int .i64 pl, tv, cv, ke, .int .i64 rb, se], stV st shv rov pev dev skv] w fun e w' => (∃ v, e = .returned v ∧ Is w' v (sips.map (Si.spareOf (Si.leftL s (st.robots.map (·.cell)) st.robots.length)))) ∧ Below w.heap.size w w' := by
 have hnz : s.zones.length ≤ 64 := hr.zn
 obtain ⟨a3, c3, rfl, hzm⟩ := h.zn.form
 obtain ⟨ra, rc, rfl, hrm⟩ := ht.ro.form
 obtain ⟨ca, cc, rfl, hcm⟩ := hcv.form
 obtain ⟨sa, sc, rfl, hsm⟩ := hse.form
 have HZN := hid (fun W (hW : Below w.heap.size w W) => (h.keep hW).zn)
 have HRO := hid (fun W (hW : Below w.heap.size w W) => (ht.keep hW).ro)
 have HCV := hid (fun W (hW : Below w.heap.size w W) => hcv.keep hW)
 have HSE := hid (fun W (hW : Below w.heap.size w W) => hse.keep hW)
 have HZI := hid (fun c z (hz : z < s.zones.length) => Si.zoneOf_iff hr.zd (c := c) hz)
 have HCB := hid hcb
 have HSP := hid hsp
 have HCL : Hid ((Si.capsL s).length = s.zones.length) := hid (Si.capsL_len s)
 have HCP : Hid (∀ z (h : z < (Si.capsL s).length), (Si.capsL s)[z] = Si.capOf s z) := hid (fun z h => by simp [Si.capsL])
 obtain ⟨cs, hcs⟩ : ∃ l, st.robots.map (·.cell) = l := ⟨_, rfl⟩
 have HCS : Hid (∀ r (h : r < st.robots.length), ∃ h2 : r < cs.length, cs[r] = st.robots[r].cell) := hid (fun r h => ⟨by rw [← hcs, List.length_map]; exact h, by subst hcs; rw [List.getElem_map]⟩)
 have HRZ := hid (fun k z (h : k < cs.length) => Si.robZ_succ s cs k z h)
 have HR0 := hid (fun z => Si.robZ_zero s cs z)
 have HRB : Hid (∀ k z, Si.robZ s cs k z ≤ k) := hid (fun k z => Nat.le_trans List.countP_le_length (by rw [List.length_take]; omega))
 rw [hcs]
 unfold siV stV
 obtain ⟨N, hN⟩ : ∃ n, st.robots.length = n := ⟨_, rfl⟩
 obtain ⟨n, hz⟩ : ∃ n, s.zones.length = n := ⟨_, rfl⟩
 obtain ⟨m, hm⟩ : ∃ n, sips.length = n := ⟨_, rfl⟩
 have HN := hid hN
 have HNZ := hid hz
 have HM := hid hm
 obtain ⟨L, hL⟩ : ∃ L, L = Si.leftL s cs N := ⟨_, rfl⟩
 have HLG : Hid (∀ z, z < n → L.getD z 0 = Si.capOf s z - (Si.robZ s cs N z : Int)) := hid (fun z h => by rw [hL, List.getD_eq_getElem?_getD, Si.leftL_get s cs N z (by omega)]; rfl)
 rw [hN] at hrm hrl HRO ⊢
 rw [← hL]
 rw [HCL.out, hz] at HCV hcm ⊢
 rw [hz] at HZN HCB HSP HCL hnz hzm
 rw [hm] at HSE hsm hsl ⊢
 obtain ⟨w1, hw1⟩ : ∃ w1, w1 = ((w.alloc (.cells #[.int .i64 s.floor.w, .int .i64 s.floor.h, .int .i64 s.floor.d, kv, ov, .slice a3 n c3, av, sv, rv] 30)).alloc (.cells #[.int .i64 pl, tv, .slice ca n cc, ke, .int .i64 rb, .slice sa m sc] 38)).alloc (.cells #[.int .i64 st.tick, shv, .slice ra N rc, pev, dev, skv] 58) := ⟨_, rfl⟩
 have B1 : Hid (Below w.heap.size w w1) := hid (by rw [hw1]; exact (((Below.refl _ _).alloc (Nat.le_refl _) _).alloc (by simp) _).alloc (by simp; omega) _)
 have I1 : Hid (w1.heap[w.heap.size]? = some (.cells #[.int .i64 s.floor.w, .int .i64 s.floor.h, .int .i64 s.floor.d, kv, ov, .slice a3 n c3, av, sv, rv] 30 (0, 0))) := hid (by rw [hw1]; exact keep_heap (heap_two0 _ _ _) ((Below.refl _ _).alloc (Nat.le_refl _) _))
 have I2 : Hid (w1.heap[w.heap.size + 1]? = some (.cells #[.int .i64 pl, tv, .slice ca n cc, ke, .int .i64 rb, .slice sa m sc] 38 (0, 0))) := hid (by rw [hw1]; exact keep_heap (heap_two3 _ _ _) ((Below.refl _ _).alloc (Nat.le_refl _) _))
 have I3 : Hid (w1.heap[w.heap.size + 2]? = some (.cells #[.int .i64 st.tick, shv, .slice ra N rc, pev, dev, skv] 58 (0, 0))) := hid (by rw [hw1]; exact heap_thr3 _ _ _ _)
 have HW1 := hid hw1
 have s1 : w.heap.size + 2 < w1.heap.size := heap_lt I3.out
 have hw1s := B1.out.size
 obtain ⟨i0, hi, hz0, hz1, hz2⟩ := info_parts teIInfo
 have O0 : Hid (w1.ownsRow w1.heap.size 3 1 (.slice none 0 0) 0 (ints ((sips.take 0).map (Si.spareOf L)))) := hid (World.ownsRow_nil ..)
 have Z0 : Hid (Below w1.heap.size w1 w1) := hid (Below.refl _ _)
 clear h hr hcb hcv hse hsp ht hcs hN hz hm hL hzm hrm hcm hsm hw1
 go_enter Tryz.func30, Tryz.ntmps30
 go_upto_region 1 with fail
 rw [← HW1.out]
 clear HW1
 go_wp2_with fail
 go_loopw [7, 8] (fun ov kv wr => ∃ (k : Nat) (oa : Option Addr) (oc : Nat), k ≤ m ∧ kv = .int .i64 k ∧ ov = .slice oa k oc ∧ Hid (wr.ownsRow w1.heap.size 3 1 (.slice oa k oc) k (ints ((sips.take k).map (Si.spareOf L)))) ∧ Hid (Below w1.heap.size w1 wr)) (fun _ kv _ => m - (intOf kv).toNat)
 case atStart => exact ⟨0, none, 0, by omega, rfl, rfl, O0, Z0⟩
 case round =>
  clear O0 Z0
  obtain ⟨k, oa, oc, hk, rfl, rfl, HO, HB⟩ := hrel
  obtain ⟨wA, hwA⟩ : ∃ W, W = wr := ⟨_, rfl⟩
  subst hwA
  have BT := hid (B1.out.trans (HB.out.mono hw1s))
  have J2 := hid (keep_heap I2.out HB.out)
  have hsA := HB.out.size
  have p5 : wA.cell? ⟨w.heap.size + 1, 5, none⟩ = some (.slice sa m sc) := cell_of_heap J2.out 5 rfl
  by_cases hkm : k < m
  · have hks : k < sips.length := by rw [HM.out]; exact hkm
    obtain ⟨sb, so, u, es, x1, hu⟩ := (HSE.out wA BT.out).cell k hks
    subst es
    have HTK : Hid ((sips.take (k + 1)).map (Si.spareOf L) = (sips.take k).map (Si.spareOf L) ++ [Si.spareOf L sips[k]]) := hid (by rw [List.take_succ_eq_append_getElem hks, List.map_append]; rfl)
    have HLZ := hid (fun (z : Int) (hz : z ∈ sips[k]) => HSP.out sips[k] (List.getElem_mem hks) z hz)
    obtain ⟨l, hl⟩ : ∃ l, sips[k] = l := ⟨_, rfl⟩
    rw [hl] at hu HTK HLZ
    obtain ⟨ua, uc, hus, hum⟩ := hu.form
    subst hus
    obtain ⟨q, hq⟩ : ∃ q, l.length = q := ⟨_, rfl⟩
    rw [hq] at hu hum x1
    have HQ := hid hq
    have HU := hid (fun W (hW : Below wA.heap.size wA W) => hu.keep hW)
    have hsb := cell_block_lt x1
    have X1 := hid x1
    have k0 : (0 : Int) ≤ (k : Int) := by omega
    have k1 : (k : Int) < (m : Int) := by omega
    have HF0 : Hid (-1 = Si.spareOf L (l.take 0)) := hid rfl
    have R0 : Hid (Below wA.heap.size wA wA) := hid (Below.refl _ _)
    clear hu hl hq hks x1
    go_wp2_with fail
    go_loopw [9, 10] (fun fv iv wr => ∃ (i : Nat) (F : Int), i ≤ q ∧ iv = .int .i64 i ∧ fv = .int .i64 F ∧ Hid (F = Si.spareOf L (l.take i)) ∧ Hid (Below wA.heap.size wA wr)) (fun _ iv _ => q - (intOf iv).toNat)
    case atStart => exact ⟨0, -1, by omega, rfl, rfl, HF0, R0⟩
    case round =>
     clear HF0 R0
     obtain ⟨i, F, hi2, rfl, rfl, HF, HR⟩ := hrel
     obtain ⟨wB, hwB⟩ : ∃ W, W = wr := ⟨_, rfl⟩
     subst hwB
     have hsB := HR.out.size
     have BB := hid (HB.out.trans (HR.out.mono hsA))
     have BTB := hid (BT.out.trans (HR.out.mono BT.out.size))
     have J2 := hid (keep_heap I2.out BB.out)
     have p5 : wB.cell? ⟨w.heap.size + 1, 5, none⟩ = some (.slice (some ⟨sb, so, none⟩) m sc) := cell_of_heap J2.out 5 rfl
     have x1 : wB.cell? ⟨sb, so + k, none⟩ = some (.slice ua q uc) := (HR.out.cell (p := ⟨sb, so + k, none⟩) hsb).trans X1.out
     have hF1 : -1 ≤ F := by rw [HF.out]; exact sp_lo L _ (fun z hz => (HLZ.out z (List.mem_of_mem_take hz)).1)
     by_cases hiq : i < q
     · have i1 : (i : Int) < (q : Int) := by omega
       have i00 : (0 : Int) ≤ (i : Int) := by omega
       by_cases hF0 : F < 0
       · have hil : i < l.length := by rw [HQ.out]; exact hiq
         obtain ⟨ub, uo, eu, r1⟩ := (HU.out wB HR.out).cell i hil
         subst eu
         obtain ⟨hz3, hz4⟩ := HLZ.out l[i] (List.getElem_mem hil)
         have HNX := hid (sp_next hil (by rw [← HF.out]; exact hF0) (fun z hz => (HLZ.out z hz).1))
         obtain ⟨zi, hzi⟩ : ∃ z, l[i] = z := ⟨_, rfl⟩
         rw [hzi] at r1 hz3 hz4 HNX
         obtain ⟨z, rfl⟩ := Int.eq_ofNat_of_zero_le hz3
         have hzn : z < n := by omega
         rw [Int.toNat_natCast, HLG.out z hzn] at HNX
         have hzs : z < s.zones.length := by rw [HNZ.out]; exact hzn
         obtain ⟨zb, zo, u1, u2, ez, hzb, hu1, hu2, y0, y1, y2, y3, y4⟩ := (HZN.out wB BTB.out).cell z hzs
         subst ez
         obtain ⟨za, zc, rfl, -⟩ := hu1.form
         have HZX := hid (fun c => HZI.out c z hzs)
         obtain ⟨CL, hCL⟩ : ∃ l, s.zones[z].cells = l := ⟨_, rfl⟩
         rw [hCL] at hu1 y1 HZX
         obtain ⟨zl, hzl⟩ : ∃ n, CL.length = n := ⟨_, rfl⟩
         rw [hzl] at hu1 y1
         have HUC := hid (fun W (hW : Below wB.heap.size wB W) => hu1.keep hW)
         have Y1 := hid y1
         have hcap := HCB.out z hzn
         have C0 : Hid (0 = Si.robZ s cs 0 z) := hid (HR0.out z).symm
         have Q0 : Hid (Below wB.heap.size wB wB) := hid (Below.refl _ _)
         have z1 : (z : Int) < (n : Int) := by omega
         clear hil hzi hzs hCL hzl hu1 hu2 y0 y1 y2 y3 y4 hz4
         go_wp2_with fail
         clear p5 x1 r1
         go_loopw [12, 13] (fun cv rv wr => ∃ (r c : Nat), r ≤ N ∧ rv = .int .i64 r ∧ cv = .int .i64 c ∧ c ≤ r ∧ Hid (c = Si.robZ s cs r z) ∧ Hid (Below wB.heap.size wB wr)) (fun _ rv _ => N - (intOf rv).toNat)
         case atStart => exact ⟨0, 0, by omega, rfl, rfl, by omega, C0, Q0⟩
         case round =>
          clear C0 Q0 J2
          obtain ⟨r, c, hr, rfl, rfl, hc, HC, HW⟩ := hrel
          obtain ⟨wC, hwC⟩ : ∃ W, W = wr := ⟨_, rfl⟩
          subst hwC
          have hsC := HW.out.size
          have BC := hid (BB.out.trans (HW.out.mono BB.out.size))
          have BTC := hid (BTB.out.trans (HW.out.mono BTB.out.size))
          have J1 := hid (keep_heap I1.out BC.out)
          have J2 := hid (keep_heap I2.out BC.out)
          have J3 := hid (keep_heap I3.out BC.out)
          have c0 : (0 : Int) ≤ (c : Int) := by omega
          by_cases hrn : r < N
          · have hrs : r < st.robots.length := by rw [HN.out]; exact hrn
            obtain ⟨gb, go, eg, hgb, t0, -⟩ := (HRO.out wC BTC.out).cell r hrs
            subst eg
            obtain ⟨h2, hcr⟩ := HCS.out r hrs
            have HRS := hid (HRZ.out r z h2)
            rw [hcr] at HRS
            obtain ⟨C, hC⟩ : ∃ C, st.robots[r].cell = C := ⟨_, rfl⟩
            rw [hC] at t0 HRS
            have HZC := hid (HZX.out C)
            have HHA := hid (fun W (hW : Below wB.heap.size wB W) => Has_any (.slice za zl zc) CL C W (HUC.out W hW))
            rw [any_mem] at HHA
            have r0 : (0 : Int) ≤ (r : Int) := by omega
            have r1 : (r : Int) < (N : Int) := by omega
            have p5 : wC.cell? ⟨w.heap.size, 5, none⟩ = some (.slice (some ⟨zb, zo, none⟩) n c3) := cell_of_heap J1.out 5 rfl
            have p2 : wC.cell? ⟨w.heap.size + 2, 2, none⟩ = some (.slice (some ⟨gb, go, none⟩) N rc) := cell_of_heap J3.out 2 rfl
            have y1 : wC.cell? ⟨zb, zo + z * 5 + 1, none⟩ = some (.slice za zl zc) := (HW.out.cell (p := ⟨zb, zo + z * 5 + 1, none⟩) hzb).trans Y1.out
            clear hrs h2 hcr hC
            by_cases hm2 : C ∈ CL
            · rw [decide_eq_true hm2] at HHA
              have HN2 : Hid (c + 1 = Si.robZ s cs (r + 1) z) := hid (by rw [HRS.out, if_pos (HZC.out.2 hm2), ← HC.out])
              clear hm2
              go_upto_region 14 with fail
              refine wp_region_held_drew (S := fun W' => W'.cell? ⟨w.heap.size, 5, none⟩ = some (.slice (some ⟨zb, zo, none⟩) n c3) ∧ W'.cell? ⟨w.heap.size + 2, 2, none⟩ = some (.slice (some ⟨gb, go, none⟩) N rc) ∧ W'.cell? ⟨zb, zo + z * 5 + 1, none⟩ = some (.slice za zl zc) ∧ W'.cell? ⟨gb, go + r * 6, none⟩ = some (.int .i64 C)) (by kernel_rfl) ⟨p5, p2, y1, t0⟩ (fun hHeld => ?_)
              obtain ⟨wx, hwx⟩ : ∃ W, W = wC.drew := ⟨_, rfl⟩
              rw [← hwx] at hHeld ⊢
              have HBX : Hid (Below wB.heap.size wB wx) := hid (HW.out.trans (by subst hwx; exact ⟨rfl, rfl, rfl, Nat.le_refl _, fun _ _ => rfl⟩))
              clear hwx
              refine tk 0 ?_
              try simp only [Act.put, zA, zB, zC, zD, zE, zF]
              refine tk 1 ?_
              try simp only [Act.put, zA, zB, zC, zD, zE, zF]
              refine tk 2 ?_
              try simp only [Act.put, zA, zB, zC, zD, zE, zF]
              refine tk 3 ?_
              try simp only [Act.put, zA, zB, zC, zD, zE, zF]
              refine tk 4 ?_
              try simp only [Act.put, zA, zB, zC, zD, zE, zF]
              refine tk 5 ?_
              try simp only [Act.put, zA, zB, zC, zD, zE, zF]
              refine tk 6 ?_
              try simp only [Act.put, zA, zB, zC, zD, zE, zF]
              refine tk 7 ?_
              try simp only [Act.put, zA, zB, zC, zD, zE, zF]
              refine tk 8 ?_
              try simp only [Act.put, zA, zB, zC, zD, zE, zF]
              refine tk 9 ?_
              try simp only [Act.put, zA, zB, zC, zD, zE, zF]
              refine tk 10 ?_
              try simp only [Act.put, zA, zB, zC, zD, zE, zF]
              refine tk 11 ?_
              try simp only [Act.put, zA, zB, zC, zD, zE, zF]
              refine wpAnyH_ready (rs := [12]) (by kernel_rfl) (by simp) ?_
              refine AllReadyH.cons (o := _) rfl (fun K hK => ?_) AllReadyH.nil
              go_simp
              go_at_call 20; with_reducible refine (HHA.out _ HBX.out).mono ?_; rintro e w5 ⟨rfl, rfl⟩
              go_wp2_with fail
              refine hK.out _ _ (by assumption) (fun hHeld => ?_)
              clear hK K
              try simp only [Act.put, zA, zB, zC, zD, zE, zF]
              refine wpAnyH_done (by kernel_rfl) ?_ _
              go_wp2_with fail
              go_roundw
              case rel => exact ⟨r + 1, c + 1, by omega, by go_num, by go_num, by omega, HN2, HBX⟩
              case measure => simp [intOf]; omega
            · rw [decide_eq_false hm2] at HHA
              have HN2 : Hid (c = Si.robZ s cs (r + 1) z) := hid (by rw [HRS.out, if_neg (fun h9 => hm2 (HZC.out.1 h9)), ← HC.out]; rfl)
              clear hm2
              go_upto_region 14 with fail
              refine wp_region_held_drew (S := fun W' => W'.cell? ⟨w.heap.size, 5, none⟩ = some (.slice (some ⟨zb, zo, none⟩) n c3) ∧ W'.cell? ⟨w.heap.size + 2, 2, none⟩ = some (.slice (some ⟨gb, go, none⟩) N rc) ∧ W'.cell? ⟨zb, zo + z * 5 + 1, none⟩ = some (.slice za zl zc) ∧ W'.cell? ⟨gb, go + r * 6, none⟩ = some (.int .i64 C)) (by kernel_rfl) ⟨p5, p2, y1, t0⟩ (fun hHeld => ?_)
              obtain ⟨wx, hwx⟩ : ∃ W, W = wC.drew := ⟨_, rfl⟩
              rw [← hwx] at hHeld ⊢
              have HBX : Hid (Below wB.heap.size wB wx) := hid (HW.out.trans (by subst hwx; exact ⟨rfl, rfl, rfl, Nat.le_refl _, fun _ _ => rfl⟩))
              clear hwx
              refine tk 0 ?_
              try simp only [Act.put, zA, zB, zC, zD, zE, zF]
              refine tk 1 ?_
              try simp only [Act.put, zA, zB, zC, zD, zE, zF]
              refine tk 2 ?_
              try simp only [Act.put, zA, zB, zC, zD, zE, zF]
              refine tk 3 ?_
              try simp only [Act.put, zA, zB, zC, zD, zE, zF]
              refine tk 4 ?_
              try simp only [Act.put, zA, zB, zC, zD, zE, zF]
              refine tk 5 ?_
              try simp only [Act.put, zA, zB, zC, zD, zE, zF]
              refine tk 6 ?_
              try simp only [Act.put, zA, zB, zC, zD, zE, zF]
              refine tk 7 ?_
              try simp only [Act.put, zA, zB, zC, zD, zE, zF]
              refine tk 8 ?_
              try simp only [Act.put, zA, zB, zC, zD, zE, zF]
              refine tk 9 ?_
              try simp only [Act.put, zA, zB, zC, zD, zE, zF]
              refine tk 10 ?_
              try simp only [Act.put, zA, zB, zC, zD, zE, zF]
              refine tk 11 ?_
              try simp only [Act.put, zA, zB, zC, zD, zE, zF]
              refine wpAnyH_ready (rs := [12]) (by kernel_rfl) (by simp) ?_
              refine AllReadyH.cons (o := _) rfl (fun K hK => ?_) AllReadyH.nil
              go_simp
              go_at_call 20; with_reducible refine (HHA.out _ HBX.out).mono ?_; rintro e w5 ⟨rfl, rfl⟩
              go_wp2_with fail
              refine hK.out _ _ (by assumption) (fun hHeld => ?_)
              clear hK K
              try simp only [Act.put, zA, zB, zC, zD, zE, zF]
              refine wpAnyH_done (by kernel_rfl) ?_ _
              go_wp2_with fail
              go_roundw
              case rel => exact ⟨r + 1, c, by omega, by go_num, by go_num, by omega, HN2, HBX⟩
              case measure => simp [intOf]; omega
          · have hrN : r = N := by omega
            have r9 : ¬ (r : Int) < (N : Int) := by omega
            have p2 : wC.cell? ⟨w.heap.size + 2, 2, none⟩ = some (.slice ra N rc) := cell_of_heap J3.out 2 rfl
            obtain ⟨cb, co, ec, x3⟩ := (HCV.out wC BTC.out).cell z (by rw [HCL.out]; exact hzn)
            subst ec
            rw [HCP.out z (by rw [HCL.out]; exact hzn)] at x3
            have q2 : wC.cell? ⟨w.heap.size + 1, 2, none⟩ = some (.slice (some ⟨cb, co, none⟩) n cc) := cell_of_heap J2.out 2 rfl
            have HCN : Hid ((c : Int) = (Si.robZ s cs N z : Int)) := hid (by rw [HC.out, hrN])
            obtain ⟨K, hK⟩ : ∃ K, Si.capOf s z = K := ⟨_, rfl⟩
            rw [hK] at x3 HNX
            have HRX := hid (HR.out.trans (HW.out.mono hsB))
            by_cases hg : (c : Int) < K
            · have HE : Hid ((z : Int) = Si.spareOf L (l.take (i + 1))) := hid (by rw [HNX.out, if_pos (by rw [← HCN.out]; omega)])
              go_wp2_with fail
              go_roundw
              case rel => exact ⟨i + 1, (z : Int), by omega, by go_num, rfl, HE, HRX⟩
              case measure => simp [intOf]; omega
            · have HE : Hid (F = Si.spareOf L (l.take (i + 1))) := hid (by rw [HNX.out, if_neg (by rw [← HCN.out]; omega)]; omega)
              go_wp2_with fail
              go_roundw
              case rel => exact ⟨i + 1, F, by omega, by go_num, rfl, HE, HRX⟩
              case measure => simp [intOf]; omega
       · have HE : Hid (Si.spareOf L l = F) := hid (by rw [HF.out]; exact sp_done (by rw [← HF.out]; omega))
         go_wp2_with (at_builtin; refine wpList_append_own_at _ rfl _ _ 22 rfl w1.heap.size 3 i0 (.int .i64 0) 1 8 Tryz.underlying22 hi hz0 hz1 hz2 rfl (by decide) (.slice oa k oc) k _ rfl ((own_keepB HO.out HR.out).alloc _) ⟨wB.heap.size, 0, none⟩ 1 1 [.int .i64 F] rfl rfl (Go.cell_one_new _ _ _) ?qc3 ?qc4 ?qc5 ?qc6 ?_)
         case qc3 => first | rfl | (intro u hu; simp at hu; subst hu; rfl)
         case qc4 => unfold maxLen; omega
         case qc5 => omega
         case qc6 => first | omega | (simp; omega)
         intro v' w8 hown hgrow hnil hat
         obtain ⟨la', lc', rfl⟩ := own_form3 hown
         have hbb : Below w1.heap.size wB w8 := ((Below.refl _ wB).alloc (by omega) _).grown hgrow (by simp; omega) (fun g hg => (HO.out.lt g hg).1)
         have HU8 := hid (BB.out.trans hbb)
         have HO8 : Hid (w8.ownsRow w1.heap.size 3 1 (.slice la' (k + 1) lc') (k + 1) (ints ((sips.take (k + 1)).map (Si.spareOf L)))) := hid (by rw [HTK.out, HE.out, ints_app, List.map_take]; exact hown)
         clear hown hgrow hnil hat hbb
         go_wp2_with fail
         go_roundw
         case rel => exact ⟨k + 1, la', lc', by omega, by go_num, rfl, HO8, HU8⟩
         case measure => simp [intOf]; omega
     · have i9 : ¬ (i : Int) < (q : Int) := by omega
       have HE : Hid (Si.spareOf L l = F) := hid (by rw [HF.out, List.take_of_length_le (by rw [HQ.out]; omega)])
       go_wp2_with (at_builtin; refine wpList_append_own_at _ rfl _ _ 22 rfl w1.heap.size 3 i0 (.int .i64 0) 1 8 Tryz.underlying22 hi hz0 hz1 hz2 rfl (by decide) (.slice oa k oc) k _ rfl ((own_keepB HO.out HR.out).alloc _) ⟨wB.heap.size, 0, none⟩ 1 1 [.int .i64 F] rfl rfl (Go.cell_one_new _ _ _) ?qc3 ?qc4 ?qc5 ?qc6 ?_)
       case qc3 => first | rfl | (intro u hu; simp at hu; subst hu; rfl)
       case qc4 => unfold maxLen; omega
       case qc5 => omega
       case qc6 => first | omega | (simp; omega)
       intro v' w8 hown hgrow hnil hat
       obtain ⟨la', lc', rfl⟩ := own_form3 hown
       have hbb : Below w1.heap.size wB w8 := ((Below.refl _ wB).alloc (by omega) _).grown hgrow (by simp; omega) (fun g hg => (HO.out.lt g hg).1)
       have HU8 := hid (BB.out.trans hbb)
       have HO8 : Hid (w8.ownsRow w1.heap.size 3 1 (.slice la' (k + 1) lc') (k + 1) (ints ((sips.take (k + 1)).map (Si.spareOf L)))) := hid (by rw [HTK.out, HE.out, ints_app, List.map_take]; exact hown)
       clear hown hgrow hnil hat hbb
       go_wp2_with fail
       go_roundw
       case rel => exact ⟨k + 1, la', lc', by omega, by go_num, rfl, HO8, HU8⟩
       case measure => simp [intOf]; omega
  · have hkk : k = m := by omega
    have k9 : ¬ (k : Int) < (m : Int) := by omega
    have HI : Hid (Is wA (.slice oa k oc) (sips.map (Si.spareOf L))) := hid (by
     have h9 := HO.out
     rw [List.take_of_length_le (by rw [HM.out]; omega)] at h9
     exact Sl.of_own h9 (own_max h9))
    clear hkk
    go_wp2_with fail
    go_ret
    exact ⟨⟨_, rfl, HI.out⟩, BT.out⟩
def KindPost (n : Nat) (c : Int) (w : World) (e : Ending) (w' : World) : Prop := (∃ k : Int, e = .returned (.int .i64 k) ∧ (k ≠ -1 → 0 ≤ c ∧ c < (n : Int))) ∧ Below w.heap.size w w'
def IntPost (w : World) (e : Ending) (w' : World) : Prop := (∃ k : Int, e = .returned (.int .i64 k)) ∧ Below w.heap.size w w'
theorem r14kind_any (f : Fl.Floor) (kv ov : Value) (c : Int) (w : World) (h : Is w kv f.kind) :
 Calls Tryz.prog 75 #[flV f kv ov, .int .i64 c] w (KindPost f.kind.length c w) := by
 obtain ⟨ka, kc, rfl, hkm⟩ := h.form
 unfold flV
 obtain ⟨n, hn⟩ : ∃ n, f.kind.length = n := ⟨_, rfl⟩
 rw [hn] at h hkm ⊢
 have HK := hid h
 have HN := hid hn
 have B1 := hid ((Below.refl _ w).alloc (Nat.le_refl _) (.cells #[.int .i64 f.w, .int .i64 f.h, .int .i64 f.d, .slice ka n kc, ov] 24))
 clear h hn
 by_cases h0 : c < 0
 · go_enter Tryz.func75, Tryz.ntmps75
   go_wp2_with fail
   go_ret
   exact ⟨⟨-1, rfl, fun h9 => absurd rfl h9⟩, B1.out⟩
 · by_cases h1 : (n : Int) ≤ c
   · go_enter Tryz.func75, Tryz.ntmps75
     go_wp2_with fail
     go_ret
     exact ⟨⟨-1, rfl, fun h9 => absurd rfl h9⟩, B1.out⟩
   · obtain ⟨x, rfl⟩ := Int.eq_ofNat_of_zero_le (show 0 ≤ c by omega)
     have hx : x < f.kind.length := by rw [HN.out]; omega
     obtain ⟨b, o, e1, c0⟩ := HK.out.cell x hx
     subst e1
     obtain ⟨k, hk⟩ : ∃ k, f.kind[x] = k := ⟨_, rfl⟩
     rw [hk] at c0
     have hb := cell_block_lt c0
     have x0 : (0 : Int) ≤ (x : Int) := by omega
     have x1 : (x : Int) < (n : Int) := by omega
     have HR : Hid (k ≠ -1 → 0 ≤ (x : Int) ∧ (x : Int) < (n : Int)) := hid (fun _ => ⟨x0, x1⟩)
     clear hk hx h0 h1
     go_enter Tryz.func75, Tryz.ntmps75
     go_wp2_with fail
     go_ret
     exact ⟨⟨k, rfl, HR.out⟩, B1.out⟩
theorem r14carrier_any (st : Bd.State) (shv rov pev dev skv : Value) (c : Int) (w : World) (h : RoV w rov st.robots) :
 Calls Tryz.prog 76 #[stV st shv rov pev dev skv, .int .i64 c] w (IntPost w) := by
 obtain ⟨ra, rc, rfl, hrm⟩ := h.form
 unfold stV
 obtain ⟨n, hn⟩ : ∃ n, st.robots.length = n := ⟨_, rfl⟩
 rw [hn] at h hrm ⊢
 have HRO := hid (fun W (hW : Below w.heap.size w W) => h.keep hW)
 have HN := hid hn
 obtain ⟨w1, hw1⟩ : ∃ w1, w1 = w.alloc (.cells #[.int .i64 st.tick, shv, .slice ra n rc, pev, dev, skv] 58) := ⟨_, rfl⟩
 have B1 : Hid (Below w.heap.size w w1) := hid (by rw [hw1]; exact (Below.refl _ w).alloc (Nat.le_refl _) _)
 have I1 : Hid (w1.heap[w.heap.size]? = some (.cells #[.int .i64 st.tick, shv, .slice ra n rc, pev, dev, skv] 58 (0, 0))) := hid (by rw [hw1]; exact heap_alloc_new _ _)
 have HW1 := hid hw1
 have p2 : w1.cell? ⟨w.heap.size, 2, none⟩ = some (.slice ra n rc) := cell_of_heap I1.out 2 rfl
 clear h hn hw1
 go_enter Tryz.func76, Tryz.ntmps76
 go_upto_region 1 with fail
 rw [← HW1.out]
 go_wp2_with fail
 go_loop [5] (fun iv => ∃ k : Nat, k ≤ n ∧ iv = .int .i64 k) (fun iv => n - (intOf iv).toNat)
 case atStart => exact ⟨0, by omega, rfl⟩
 case round =>
  obtain ⟨k, hk, rfl⟩ := hrel
  by_cases hkn : k < n
  · have k0 : (0 : Int) ≤ (k : Int) := by omega
    have k1 : (k : Int) < (n : Int) := by omega
    by_cases hc : 0 ≤ c
    · have hks : k < st.robots.length := by rw [HN.out]; exact hkn
      obtain ⟨b, o, e1, hb, t0, t1, -⟩ := (HRO.out w1 B1.out).cell k hks
      subst e1
      obtain ⟨x, hx⟩ : ∃ x, st.robots[k].load = x := ⟨_, rfl⟩
      rw [hx] at t1
      clear hx t0 hks
      by_cases hxc : x = c
      · subst hxc
        go_wp2_with fail
        go_ret
        exact ⟨⟨_, rfl⟩, B1.out⟩
      · go_wp2_with fail
        go_round
        case rel => exact ⟨k + 1, by omega, by go_num⟩
        case measure => simp [intOf]; omega
    · go_wp2_with fail
      go_ret
      exact ⟨⟨_, rfl⟩, B1.out⟩
  · have k9 : ¬ (k : Int) < (n : Int) := by omega
    go_wp2_with fail
    go_ret
    exact ⟨⟨_, rfl⟩, B1.out⟩
def RowPost (m : Nat) (w : World) (e : Ending) (w' : World) : Prop := (∃ v l, e = .returned v ∧ w'.ownsRow w.heap.size 3 1 v l.length (ints l) ∧ l.length ≤ m) ∧ Below w.heap.size w w'
theorem r14at_any (r : Bd.Robot) (c : Int) (w : World) (hc : -1152921504606846976 ≤ c ∧ c ≤ 1152921504606846976) :
 Calls Tryz.prog 224 #[.agg (robC r).toArray, .int .i64 c] w (RowPost 2 w) := by
 unfold robC
 have h1 : -9223372036854775808 ≤ 2 * c := by omega
 have h2 : 2 * c ≤ 9223372036854775807 := by omega
 have h3 : -9223372036854775808 ≤ 2 * c + 1 := by omega
 have h4 : 2 * c + 1 ≤ 9223372036854775807 := by omega
 obtain ⟨L, hL⟩ : ∃ L, r.load = L := ⟨_, rfl⟩
 rw [hL]
 have hw : ∀ O, w.heap.size ≤ (w.alloc O).heap.size := fun O => by simp
 have HB : Hid (∀ O P, Below w.heap.size w ((w.alloc O).alloc P)) := hid (fun O P => ((Below.refl _ w).alloc (Nat.le_refl _) O).alloc (hw O) P)
 have HO : Hid (∀ O (cs : Array Value) (n : Nat), n ≤ 2 → cs.size = n * 1 → ((w.alloc O).alloc (.cells cs 3)).ownsRow w.heap.size 3 1 (.slice (some ⟨(w.alloc O).heap.size, 0, none⟩) n n) n cs.toList) := hid (fun O cs n hn hs => World.ownsRow_lit (base := w.heap.size) (e := 3) (size := 1) (w.alloc O) cs n (hw O) (by unfold maxLen; omega) hs)
 clear hL hc hw
 by_cases hl : L < 0
 · go_enter Tryz.func224, Tryz.ntmps224
   go_wp2_with fail
   go_ret
   exact ⟨⟨_, [2 * c], rfl, by simpa [ints] using HO.out _ #[.int .i64 (2 * c)] 1 (by omega) rfl, by simp⟩, HB.out _ _⟩
 · go_enter Tryz.func224, Tryz.ntmps224
   go_wp2_with fail
   go_ret
   exact ⟨⟨_, [2 * c, 2 * c + 1], rfl, by simpa [ints] using HO.out _ #[.int .i64 (2 * c), .int .i64 (2 * c + 1)] 2 (by omega) rfl, by simp⟩, HB.out _ _⟩
theorem r14with_any (v : Value) (l : List Int) (c : Int) (w : World) (h : Is w v l) (hl : l.length ≤ 1000000) :
 Calls Tryz.prog 225 #[v, .int .i64 c] w (RowPost (l.length + 1) w) := by
 obtain ⟨va, vc, rfl, hvm⟩ := h.form
 obtain ⟨n, hn⟩ : ∃ n, l.length = n := ⟨_, rfl⟩
 rw [hn] at h hl hvm ⊢
 have HL := hid (fun W (hW : Below w.heap.size w W) => h.keep hW)
 have HN := hid hn
 obtain ⟨i0, hi, hz0, hz1, hz2⟩ := info_parts teIInfo
 have O0 : Hid (w.ownsRow w.heap.size 3 1 (.slice none 0 0) 0 (ints [])) := hid (World.ownsRow_nil ..)
 have Z0 : Hid (Below w.heap.size w w) := hid (Below.refl _ _)
 clear h hn
 go_enter Tryz.func225, Tryz.ntmps225
 go_wp2_with fail
 go_loopw [5, 6, 7] (fun ov dv iv wr => ∃ (i k : Nat) (D : Bool) (R : List Int) (oa : Option Addr) (oc : Nat), i ≤ n ∧ iv = .int .i64 i ∧ dv = .bool D ∧ ov = .slice oa k oc ∧ k ≤ i + 1 ∧ (D = false → k ≤ i) ∧ Hid (wr.ownsRow w.heap.size 3 1 (.slice oa k oc) k (ints R)) ∧ Hid (Below w.heap.size w wr)) (fun _ _ iv _ => n - (intOf iv).toNat)
 case atStart => exact ⟨0, 0, false, [], none, 0, by omega, rfl, rfl, rfl, by omega, (fun _ => by omega), O0, Z0⟩
 case round =>
  clear O0 Z0
  obtain ⟨i, k, D, R, oa, oc, hin, rfl, rfl, rfl, hk1, hk2, HO, HB⟩ := hrel
  obtain ⟨wA, hwA⟩ : ∃ W, W = wr := ⟨_, rfl⟩
  subst hwA
  have hsA := HB.out.size
  by_cases hil : i < n
  · have hls : i < l.length := by rw [HN.out]; exact hil
    obtain ⟨b, o, e1, c0⟩ := (HL.out wA HB.out).cell i hls
    subst e1
    have HC := hid (fun W (hW : Below w.heap.size w W) => (show ∃ x, W.cell? ⟨b, o + i, none⟩ = some (.int .i64 x) ∧ x = l[i] from by
     obtain ⟨b2, o2, e2, c2⟩ := (HL.out W hW).cell i hls
     injection e2 with e3; injection e3 with e4 e5; subst e4 e5; exact ⟨_, c2, rfl⟩))
    obtain ⟨x, hx⟩ : ∃ x, l[i] = x := ⟨_, rfl⟩
    have HCX : Hid (∀ W, Below w.heap.size w W → W.cell? ⟨b, o + i, none⟩ = some (.int .i64 x)) := hid (fun W hW => by obtain ⟨y, h1, h2⟩ := HC.out W hW; rw [h1, h2, hx])
    rw [hx] at c0
    have d0 : (0 : Int) ≤ (i : Int) := by omega
    have d1 : (i : Int) < (n : Int) := by omega
    have hbk := cell_block_lt c0
    clear hx hls HC
    cases D with
    | true =>
     clear hk2
     go_wp2_with (at_builtin; refine wpList_append_own_at _ rfl _ _ 22 rfl w.heap.size 3 i0 (.int .i64 0) 1 8 Tryz.underlying22 hi hz0 hz1 hz2 rfl (by decide) (.slice oa k oc) k _ rfl (HO.out.alloc _) ⟨wA.heap.size, 0, none⟩ 1 1 [.int .i64 x] rfl rfl (Go.cell_one_new _ _ _) ?qc3 ?qc4 ?qc5 ?qc6 ?_)
     case qc3 => first | rfl | (intro u hu; simp at hu; subst hu; rfl)
     case qc4 => unfold maxLen; omega
     case qc5 => omega
     case qc6 => first | omega | (simp; omega)
     intro v8 w8 hown8 hgrow8 hnil hat
     obtain ⟨la8, lc8, rfl⟩ := own_form3 hown8
     have hbb8 : Below w.heap.size wA w8 := ((Below.refl _ wA).alloc HB.out.size _).grown hgrow8 (by simp; omega) (fun g hg => (HO.out.lt g hg).1)
     have HB8 := hid (HB.out.trans hbb8)
     have HO8 := hid hown8
     clear hown8 hgrow8 hbb8 hnil hat
     have HR8 : Hid (w8.ownsRow w.heap.size 3 1 (.slice la8 (k + 1) lc8) (k + 1) (ints (R ++ [x]))) := hid (by rw [ints_app]; exact HO8.out)
     go_wp2_with fail
     go_roundw
     case rel => exact ⟨i + 1, k + 1, true, _, la8, lc8, by omega, by go_num, rfl, rfl, by omega, (fun h9 => by cases h9), HR8, HB8⟩
     case measure => simp [intOf]; omega
    | false =>
     have hk3 := hk2 rfl
     clear hk2
     by_cases hg : c < x
     · skip
       go_wp2_with (at_builtin; refine wpList_append_own_at _ rfl _ _ 22 rfl w.heap.size 3 i0 (.int .i64 0) 1 8 Tryz.underlying22 hi hz0 hz1 hz2 rfl (by decide) (.slice oa k oc) k _ rfl (HO.out.alloc _) ⟨wA.heap.size, 0, none⟩ 1 1 [.int .i64 c] rfl rfl (Go.cell_one_new _ _ _) ?qc3 ?qc4 ?qc5 ?qc6 ?_)
       case qc3 => first | rfl | (intro u hu; simp at hu; subst hu; rfl)
       case qc4 => unfold maxLen; omega
       case qc5 => omega
       case qc6 => first | omega | (simp; omega)
       intro v8 w8 hown8 hgrow8 hnil hat
       obtain ⟨la8, lc8, rfl⟩ := own_form3 hown8
       have hbb8 : Below w.heap.size wA w8 := ((Below.refl _ wA).alloc HB.out.size _).grown hgrow8 (by simp; omega) (fun g hg => (HO.out.lt g hg).1)
       have HB8 := hid (HB.out.trans hbb8)
       have HO8 := hid hown8
       clear hown8 hgrow8 hbb8 hnil hat
       have HR8 : Hid (w8.ownsRow w.heap.size 3 1 (.slice la8 (k + 1) lc8) (k + 1) (ints (R ++ [c]))) := hid (by rw [ints_app]; exact HO8.out)
       have c8 := HCX.out w8 HB8.out
       have hs8 := HB8.out.size
       have hbk8 := cell_block_lt c8
       clear HO8 c0 hbk
       go_wp2_with (at_builtin; refine wpList_append_own_at _ rfl _ _ 22 rfl w.heap.size 3 i0 (.int .i64 0) 1 8 Tryz.underlying22 hi hz0 hz1 hz2 rfl (by decide) (.slice la8 (k + 1) lc8) (k + 1) _ rfl (HR8.out.alloc _) ⟨w8.heap.size, 0, none⟩ 1 1 [.int .i64 x] rfl rfl (Go.cell_one_new _ _ _) ?qc3 ?qc4 ?qc5 ?qc6 ?_)
       case qc3 => first | rfl | (intro u hu; simp at hu; subst hu; rfl)
       case qc4 => unfold maxLen; omega
       case qc5 => omega
       case qc6 => first | omega | (simp; omega)
       intro v9 w9 hown9 hgrow9 hnil hat
       obtain ⟨la9, lc9, rfl⟩ := own_form3 hown9
       have hbb9 : Below w.heap.size w8 w9 := ((Below.refl _ w8).alloc HB8.out.size _).grown hgrow9 (by simp; omega) (fun g hg => (HR8.out.lt g hg).1)
       have HB9 := hid (HB8.out.trans hbb9)
       have HO9 := hid hown9
       clear hown9 hgrow9 hbb9 hnil hat
       have HR9 : Hid (w9.ownsRow w.heap.size 3 1 (.slice la9 (k + 1 + 1) lc9) (k + 1 + 1) (ints ((R ++ [c]) ++ [x]))) := hid (by rw [ints_app]; exact HO9.out)
       go_wp2_with fail
       go_roundw
       case rel => exact ⟨i + 1, k + 1 + 1, true, _, la9, lc9, by omega, by go_num, rfl, rfl, by omega, (fun h9 => by cases h9), HR9, HB9⟩
       case measure => simp [intOf]; omega
     · skip
       go_wp2_with (at_builtin; refine wpList_append_own_at _ rfl _ _ 22 rfl w.heap.size 3 i0 (.int .i64 0) 1 8 Tryz.underlying22 hi hz0 hz1 hz2 rfl (by decide) (.slice oa k oc) k _ rfl (HO.out.alloc _) ⟨wA.heap.size, 0, none⟩ 1 1 [.int .i64 x] rfl rfl (Go.cell_one_new _ _ _) ?qc3 ?qc4 ?qc5 ?qc6 ?_)
       case qc3 => first | rfl | (intro u hu; simp at hu; subst hu; rfl)
       case qc4 => unfold maxLen; omega
       case qc5 => omega
       case qc6 => first | omega | (simp; omega)
       intro v8 w8 hown8 hgrow8 hnil hat
       obtain ⟨la8, lc8, rfl⟩ := own_form3 hown8
       have hbb8 : Below w.heap.size wA w8 := ((Below.refl _ wA).alloc HB.out.size _).grown hgrow8 (by simp; omega) (fun g hg => (HO.out.lt g hg).1)
       have HB8 := hid (HB.out.trans hbb8)
       have HO8 := hid hown8
       clear hown8 hgrow8 hbb8 hnil hat
       have HR8 : Hid (w8.ownsRow w.heap.size 3 1 (.slice la8 (k + 1) lc8) (k + 1) (ints (R ++ [x]))) := hid (by rw [ints_app]; exact HO8.out)
       go_wp2_with fail
       go_roundw
       case rel => exact ⟨i + 1, k + 1, false, _, la8, lc8, by omega, by go_num, rfl, rfl, by omega, (fun _ => by omega), HR8, HB8⟩
       case measure => simp [intOf]; omega
  · have k9 : ¬ (i : Int) < (n : Int) := by omega
    have HRL := hid HO.out.1
    cases D with
    | true =>
     have hlen : R.length = k := by have h9 := HRL.out; simp [ints] at h9; omega
     have HF : Hid ((∃ v l, Ending.returned (.slice oa k oc) = .returned v ∧ wA.ownsRow w.heap.size 3 1 v l.length (ints l) ∧ l.length ≤ n + 1) ∧ Below w.heap.size w wA) := hid ⟨⟨_, R, rfl, by rw [hlen]; exact HO.out, by omega⟩, HB.out⟩
     clear hlen
     go_wp2_with fail
     go_ret
     exact HF.out
    | false =>
     have hk3 := hk2 rfl
     clear hk2
     go_wp2_with (at_builtin; refine wpList_append_own_at _ rfl _ _ 22 rfl w.heap.size 3 i0 (.int .i64 0) 1 8 Tryz.underlying22 hi hz0 hz1 hz2 rfl (by decide) (.slice oa k oc) k _ rfl (HO.out.alloc _) ⟨wA.heap.size, 0, none⟩ 1 1 [.int .i64 c] rfl rfl (Go.cell_one_new _ _ _) ?qc3 ?qc4 ?qc5 ?qc6 ?_)
     case qc3 => first | rfl | (intro u hu; simp at hu; subst hu; rfl)
     case qc4 => unfold maxLen; omega
     case qc5 => omega
     case qc6 => first | omega | (simp; omega)
     intro v8 w8 hown8 hgrow8 hnil hat
     obtain ⟨la8, lc8, rfl⟩ := own_form3 hown8
     have hbb8 : Below w.heap.size wA w8 := ((Below.refl _ wA).alloc HB.out.size _).grown hgrow8 (by simp; omega) (fun g hg => (HO.out.lt g hg).1)
     have HB8 := hid (HB.out.trans hbb8)
     have HO8 := hid hown8
     clear hown8 hgrow8 hbb8 hnil hat
     have hlen : R.length = k := by have h9 := HRL.out; simp [ints] at h9; omega
     have HF : Hid ((∃ v l, Ending.returned (.slice la8 (k + 1) lc8) = .returned v ∧ w8.ownsRow w.heap.size 3 1 v l.length (ints l) ∧ l.length ≤ n + 1) ∧ Below w.heap.size w w8) := hid ⟨⟨_, R ++ [c], rfl, by rw [List.length_append, hlen, ints_app]; exact HO8.out, by rw [List.length_append, hlen]; simp; omega⟩, HB8.out⟩
     clear hlen
     go_wp2_with fail
     go_ret
     exact HF.out
theorem r14sorted_any (v : Value) (l : List Int) (w : World) (h : Is w v l) (hl : l.length ≤ 100000) :
 Calls Tryz.prog 155 #[v] w (RowPost l.length w) := by
 obtain ⟨va, vc, rfl, hvm⟩ := h.form
 obtain ⟨n, hn⟩ : ∃ n, l.length = n := ⟨_, rfl⟩
 rw [hn] at h hl hvm ⊢
 have HL := hid (fun W (hW : Below w.heap.size w W) => h.keep hW)
 have HN := hid hn
 have O0 : Hid (w.ownsRow w.heap.size 3 1 (.slice none 0 0) 0 (ints [])) := hid (World.ownsRow_nil ..)
 have Z0 : Hid (Below w.heap.size w w) := hid (Below.refl _ _)
 clear h hn
 go_enter Tryz.func155, Tryz.ntmps155
 go_wp2_with fail
 go_loopw [3, 4] (fun ov iv wr => ∃ (i k : Nat) (R : List Int) (oa : Option Addr) (oc : Nat), i ≤ n ∧ iv = .int .i64 i ∧ ov = .slice oa k oc ∧ k ≤ i ∧ Hid (wr.ownsRow w.heap.size 3 1 (.slice oa k oc) k (ints R)) ∧ Hid (Below w.heap.size w wr)) (fun _ iv _ => n - (intOf iv).toNat)
 case atStart => exact ⟨0, 0, [], none, 0, by omega, rfl, rfl, by omega, O0, Z0⟩
 case round =>
  clear O0 Z0
  obtain ⟨i, k, R, oa, oc, hin, rfl, rfl, hk, HO, HB⟩ := hrel
  obtain ⟨wA, hwA⟩ : ∃ W, W = wr := ⟨_, rfl⟩
  subst hwA
  have hsA := HB.out.size
  have HRK : Hid (R.length = k) := hid (by have h9 := HO.out.1; simp [ints] at h9; omega)
  by_cases hil : i < n
  · have hls : i < l.length := by rw [HN.out]; exact hil
    obtain ⟨b, o, e1, c0⟩ := (HL.out wA HB.out).cell i hls
    subst e1
    obtain ⟨x, hx⟩ : ∃ x, l[i] = x := ⟨_, rfl⟩
    rw [hx] at c0
    have d0 : (0 : Int) ≤ (i : Int) := by omega
    have d1 : (i : Int) < (n : Int) := by omega
    have HIR : Hid (Is wA (.slice oa k oc) R) := hid (Sl.of_own HO.out (own_max HO.out))
    have HC := hid (r14with_any (.slice oa k oc) R x wA HIR.out (by rw [HRK.out]; omega))
    clear hx hls
    go_wp2_with fail
    go_at_call 225; refine HC.out.mono ?_; rintro e w2 ⟨⟨v2, R2, rfl, ho2, hl2⟩, b2⟩
    obtain ⟨oa2, oc2, rfl⟩ := own_form3 ho2
    rw [HRK.out] at hl2
    have HB2 := hid (HB.out.trans (b2.mono hsA))
    have HO2 := hid (own_baseB ho2 hsA)
    obtain ⟨k2, hk2⟩ : ∃ k2, R2.length = k2 := ⟨_, rfl⟩
    rw [hk2] at HO2 hl2 ⊢
    clear ho2 b2 hk2 HC
    go_wp2_with fail
    go_roundw
    case rel => exact ⟨i + 1, k2, R2, oa2, oc2, by omega, by go_num, rfl, by omega, HO2, HB2⟩
    case measure => simp [intOf]; omega
  · have k9 : ¬ (i : Int) < (n : Int) := by omega
    have HF : Hid ((∃ v l, Ending.returned (.slice oa k oc) = .returned v ∧ wA.ownsRow w.heap.size 3 1 v l.length (ints l) ∧ l.length ≤ n) ∧ Below w.heap.size w wA) := hid ⟨⟨_, R, rfl, by rw [HRK.out]; exact HO.out, by rw [HRK.out]; omega⟩, HB.out⟩
    go_wp2_with fail
    go_ret
    exact HF.out
end Go.Proofs.YtfcbcpfnaadpeaaGreatDoor
