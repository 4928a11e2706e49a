/- Parts Vk, Vn of this claim, laid one behind the other: walks and the plain laws behind them; each contract states its own conditions. -/
import Derived.Test.YtfcbcpfnaadpeaaGreatDoorYJ
import Derived.Test.YtfcbcpfnaadpeaaGreatDoorZN
namespace Go.Proofs.YtfcbcpfnaadpeaaGreatDoor
set_option maxRecDepth 100000
set_option maxHeartbeats 64000000
set_option linter.unusedSimpArgs false
set_option linter.unusedVariables false
open Go.RowKit Go.Sort
theorem sip_lt {lk : Nat → Nat → Bool} {n : Nat} {sl : List Nat} (h : Pt.Sips lk n sl) (hn : n ≤ 64) {x z : Nat} (hx : x ∈ sl) (hz : z ∈ Pt.listW x) : z < n := by
 have h1 := ((h.mem x).1 hx).1
 have h64 : x < 2 ^ 64 := Nat.lt_of_lt_of_le h1 (Nat.pow_le_pow_right (by omega) hn)
 exact Pt.bit_lt h1 ((Pt.mem_listW h64).1 hz)
theorem listW_le (x : Nat) : (Pt.listW x).length ≤ 64 := by
 unfold Pt.listW
 have := List.length_filter_le (fun i => x.testBit i) (List.range 64)
 rwa [List.length_range] at this
theorem vsafe_any (s : Si.Site) (c : Ve.Cert) (sl : List Nat) (x : Value) (tv cv ke se : Value) (w : World) (hk : Si.Ok s) (hc : CertV w tv cv ke se c) (hsl : Pt.Sips (Si.linked s) s.zones.length sl)
 (h1 : c.caps = Si.capsL s) (h2 : c.sips = Ve.sipL sl) (h3 : c.robots = s.robots.length) :
 Calls Tryz.prog 52 #[x, .agg (certA c tv cv ke se)] w fun e w' => e = .returned (.bool (Ve.safeB s sl)) ∧ Below w.heap.size w w' := by
 obtain ⟨ta, tc, rfl, htm⟩ := hc.tr.form
 obtain ⟨ca, cc, rfl, hcm⟩ := hc.ca.form
 obtain ⟨ka, kc, rfl, hkm⟩ := hc.ke.form
 obtain ⟨sa, sc, rfl, hsm⟩ := hc.si.form
 have hzn := hk.zn
 have hrn := hk.rn
 have HCA := hc.ca
 have HSI := hc.si
 unfold certA
 have hsl1 : c.sips.length = sl.length := by rw [h2]; simp [Ve.sipL]
 have hcl1 : c.caps.length = s.zones.length := by rw [h1, Si.capsL_len]
 rw [h1] at HCA
 rw [h2] at HSI
 rw [h3]
 have HLT := hid (fun y z (hy : y ∈ sl) (hz : z ∈ Pt.listW y) => sip_lt hsl hzn hy hz)
 have HSB : Hid (Ve.safeB s sl = sl.all fun y => decide ((s.robots.length : Int) < Si.sumCaps s y)) := hid rfl
 have HSU := hid (fun l k hk => sumTo_succ s l k hk)
 have HSL := hid (fun l k hk2 => sumTo_le hk l k hk2)
 have HSA := hid (fun y => sumTo_all s y)
 have HCP : Hid (∀ z (h : z < s.zones.length), (Si.capsL s)[z]'(by rw [Si.capsL_len]; exact h) = Si.capOf s z) := hid (fun z h => by unfold Si.capsL; rw [List.getElem_map, List.getElem_range])
 have HSG : Hid (∀ i (h : i < sl.length), (Ve.sipL sl)[i]'(by simpa [Ve.sipL] using h) = Si.nn (Pt.listW sl[i])) := hid (fun i h => by unfold Ve.sipL; rw [List.getElem_map])
 have HCN := hid (Si.capsL_len s)
 have HSN : Hid ((Ve.sipL sl).length = sl.length) := hid (by simp [Ve.sipL])
 obtain ⟨n, hn⟩ : ∃ n, n = s.zones.length := ⟨_, rfl⟩
 obtain ⟨m, hm⟩ : ∃ n, n = sl.length := ⟨_, rfl⟩
 obtain ⟨R, hR⟩ : ∃ n, n = s.robots.length := ⟨_, rfl⟩
 obtain ⟨G, hG⟩ : ∃ G, G = Ve.safeB s sl := ⟨_, rfl⟩
 rw [hcl1, ← hn] at hcm
 rw [hsl1, ← hm] at hsm
 rw [← hm] at HSN
 rw [← hn] at HLT HCN
 rw [← hR] at HSB hrn
 rw [← hG] at HSB
 rw [hcl1, hsl1, ← hn, ← hm, ← hR, ← hG]
 have HN := hid hn
 have HM := hid hm
 obtain ⟨P0, hP⟩ : ∃ P, P = c.places := ⟨_, rfl⟩
 obtain ⟨lt, hlt⟩ : ∃ P, P = c.trans.length := ⟨_, rfl⟩
 obtain ⟨ln, hln⟩ : ∃ P, P = c.keeps.length := ⟨_, rfl⟩
 rw [← hP, ← hlt, ← hln]
 rw [HCN.out] at HCA
 rw [HSN.out] at HSI
 have HCA := hid HCA
 have HSI := hid HSI
 clear hk hc hsl h1 h2 h3 hn hm hR hG hP hlt hln htm hkm hsl1 hcl1
 obtain ⟨W, hW⟩ : ∃ W, W = w.alloc (.cells #[.int .i64 P0, .slice ta lt tc, .slice ca n cc, .slice ka ln kc, .int .i64 R, .slice sa m sc] 38) := ⟨_, rfl⟩
 have BW : Hid (Below w.heap.size w W) := hid (by rw [hW]; exact (Below.refl _ _).alloc (Nat.le_refl _) _)
 have IW : Hid (W.heap[w.heap.size]? = some (.cells #[.int .i64 P0, .slice ta lt tc, .slice ca n cc, .slice ka ln kc, .int .i64 R, .slice sa m sc] 38 (0, 0))) := hid (by rw [hW]; exact heap_alloc_new _ _)
 have HW := hid hW
 have q2 : W.cell? ⟨w.heap.size, 2, none⟩ = some (.slice ca n cc) := cell_of_heap IW.out 2 rfl
 have q4 : W.cell? ⟨w.heap.size, 4, none⟩ = some (.int .i64 (R : Int)) := cell_of_heap IW.out 4 rfl
 have q5 : W.cell? ⟨w.heap.size, 5, none⟩ = some (.slice sa m sc) := cell_of_heap IW.out 5 rfl
 clear hW
 go_enter Tryz.func52, Tryz.ntmps52
 go_upto_region 1 with fail
 rw [← HW.out]
 go_wp2_with fail
 go_loop [13] (fun iv => ∃ k : Nat, k ≤ m ∧ iv = .int .i64 k ∧ Hid ((sl.take k).all (fun y => decide ((R : Int) < Si.sumCaps s y)) = true)) (fun iv => m - (intOf iv).toNat)
 case atStart => exact ⟨0, by omega, rfl, hid (by simp)⟩
 case round =>
  obtain ⟨k, hk, rfl, HK⟩ := hrel
  by_cases hkm : k < m
  · have hks : k < sl.length := by rw [← HM.out]; exact hkm
    obtain ⟨b1, o1, u, e1, p1, hu⟩ := (HSI.out.keep BW.out).cell k (by rw [HSN.out]; exact hkm)
    subst e1
    rw [HSG.out k hks] at hu
    obtain ⟨y, hy⟩ : ∃ y, y = sl[k] := ⟨_, rfl⟩
    rw [← hy] at hu
    have hym : y ∈ sl := by rw [hy]; exact List.getElem_mem hks
    have HLY := hid (fun z hz => HLT.out y z hym hz)
    have HSY := hid (HSA.out y)
    have HTK : Hid (sl.take (k + 1) = sl.take k ++ [y]) := hid (by rw [List.take_succ_eq_append_getElem hks, hy])
    have hl64 := listW_le y
    have HYM := hid hym
    obtain ⟨l, hl⟩ : ∃ l, l = Pt.listW y := ⟨_, rfl⟩
    rw [← hl] at hu HLY HSY hl64
    obtain ⟨ua, uc, hus, hum⟩ := hu.form
    rw [nn_len] at hus hum
    subst hus
    obtain ⟨q, hq⟩ : ∃ q, q = l.length := ⟨_, rfl⟩
    rw [← hq] at hl64 HSY hum p1
    rw [← hq] at hu
    have HQ := hid hq
    have HU := hid hu
    have k0 : (0 : Int) ≤ (k : Int) := by omega
    have k1 : (k : Int) < (m : Int) := by omega
    have HZ0 : Hid (sumTo s l 0 = 0) := hid rfl
    clear hu hy hym hl hq
    go_wp2_with fail
    go_loop [7, 19] (fun sv iv => ∃ (j : Nat) (S : Int), j ≤ q ∧ iv = .int .i64 j ∧ sv = .int .i64 S ∧ Hid (S = sumTo s l j)) (fun _ iv => q - (intOf iv).toNat)
    case atStart => exact ⟨0, 0, by omega, rfl, rfl, hid HZ0.out.symm⟩
    case round =>
     clear p1
     obtain ⟨j, S, hj, rfl, rfl, HS⟩ := hrel
     by_cases hjq : j < q
     · have hjl : j < l.length := by rw [← HQ.out]; exact hjq
       obtain ⟨b2, o2, e2, p2⟩ := HU.out.cell j (by rw [nn_len]; exact hjl)
       subst e2
       obtain ⟨z, hz⟩ : ∃ z, l[j] = z := ⟨_, rfl⟩
       rw [show (Si.nn l)[j]'(by rw [nn_len]; exact hjl) = (z : Int) by simp [Si.nn, hz]] at p2
       have hzn2 : z < n := HLY.out z (by rw [← hz]; exact List.getElem_mem hjl)
       obtain ⟨b3, o3, e3, p3⟩ := (HCA.out.keep BW.out).cell z (by rw [HCN.out]; exact hzn2)
       subst e3
       rw [HCP.out z (by rw [← HN.out]; exact hzn2)] at p3
       have HST := HSU.out l j hjl
       rw [hz, ← HS.out] at HST
       have hS1 := HSL.out l j (by omega)
       have hS2 := HSL.out l (j + 1) (by omega)
       rw [← HS.out] at hS1
       rw [HST] at hS2
       have HST := hid HST
       obtain ⟨cz, hcz⟩ : ∃ cz, cz = Si.capOf s z := ⟨_, rfl⟩
       rw [← hcz] at HST p3 hS2
       have j0 : (0 : Int) ≤ (j : Int) := by omega
       have j1 : (j : Int) < (q : Int) := by omega
       have z0 : (0 : Int) ≤ (z : Int) := by omega
       have z1 : (z : Int) < (n : Int) := by omega
       have w1 : -9223372036854775808 ≤ S + cz := by omega
       have w2 : S + cz ≤ 9223372036854775807 := by omega
       clear hz hcz hS1 hS2
       go_wp2_with fail
       go_round
       case rel => exact ⟨j + 1, S + cz, by omega, by go_num, by go_num, hid HST.out.symm⟩
       case measure => simp [intOf]; omega
     · obtain rfl : j = q := by omega
       have HSS : Hid (S = Si.sumCaps s y) := hid (HS.out.trans HSY.out)
       by_cases hSR : S ≤ (R : Int)
       · have HF : Hid (G = false) := hid (by
          rw [HSB.out, List.all_eq_false]
          exact ⟨y, HYM.out, by rw [← HSS.out]; simp; omega⟩)
         go_wp2_with fail
         go_ret
         exact ⟨by rw [HF.out]; rfl, BW.out⟩
       · have HT : Hid ((sl.take (k + 1)).all (fun y => decide ((R : Int) < Si.sumCaps s y)) = true) := hid (by
          rw [HTK.out, List.all_append, HK.out]
          simp
          rw [← HSS.out]; omega)
         go_wp2_with fail
         go_round
         case rel => exact ⟨k + 1, by omega, by go_num, HT⟩
         case measure => simp [intOf]; omega
  · obtain rfl : k = m := by omega
    have HT : Hid (G = true) := hid (by
     have h9 := HK.out
     rw [List.take_of_length_le (by rw [← HM.out]; omega)] at h9
     rw [HSB.out]; exact h9)
    go_wp2_with fail
    go_ret
    exact ⟨by rw [HT.out]; rfl, BW.out⟩
open Go.RowKit Go.Sort
theorem SfV.keep2 {w W : World} {kv ov zv av sv rv : Value} {s : Si.Site} (h : SiV w kv ov zv av sv rv s) (hb : Below w.heap.size w W) : SfV W sv s.shelves := Rw.keep h.sf hb
theorem take_eq_succ {xs ys : List Int} {k : Nat} (hx : k < xs.length) (hy : k < ys.length) (h : xs.take k = ys.take k) (he : xs[k] = ys[k]) : xs.take (k + 1) = ys.take (k + 1) := by
 rw [List.take_succ_eq_append_getElem hx, List.take_succ_eq_append_getElem hy, h, he]
theorem vcaps_any (s : Si.Site) (c : Ve.Cert) (kv ov zv av sv rv tv cv ke se : Value) (B g0 : Nat) (w : World) (h : ZdV w B g0 s kv ov zv av sv rv) (hr : Si.Right s) (hk : Si.Ok s) (hc : CertV w tv cv ke se c)
 (hf1 : c.caps.length = s.zones.length) (hf2 : c.keeps.length = s.zones.length) :
 Calls Tryz.prog 50 #[.pointer (some ⟨B, 0, none⟩), .agg (certA c tv cv ke se)] w fun e w' => e = .returned (.bool (Ve.capsB s c)) ∧ Below w.heap.size w w' := by
 obtain ⟨a1, c1, a2, c2, a3, c3, a4, c4, a5, c5, a6, c6, rfl, rfl, rfl, rfl, rfl, rfl, m1, m2, m3, m4, m5, m6⟩ := h.sv.open
 obtain ⟨ta, tc, rfl, htm⟩ := hc.tr.form
 obtain ⟨ca, cc, rfl, hcm⟩ := hc.ca.form
 obtain ⟨ka, kc, rfl, hkm⟩ := hc.ke.form
 obtain ⟨sa, sc, rfl, hsm⟩ := hc.si.form
 have hB := h.hB
 unfold zdC at hB
 have hzn := hk.zn
 have hsn := hk.sn
 have HCA := hc.ca
 have HKE := hc.ke
 rw [hf1] at HCA hcm
 rw [hf2] at HKE hkm
 have HCA := hid HCA
 have HKE := hid HKE
 have HGG := hid h.hg
 have HBB := hid hB
 have HV := hid h.sv
 have HZG := hid (fun c hc => Ve.zoneL_get s c hc)
 have HCN := hid (Si.capsL_len s)
 have HKN := hid (Ve.keepsL_len s)
 have HCL := hid hf1
 have HKL := hid hf2
 have HCP : Hid (∀ z (h : z < s.zones.length), (Si.capsL s)[z]'(by rw [Si.capsL_len]; exact h) = max ((s.zones[z].cells.length : Int) - Si.takenK s s.shelves.length z - s.zones[z].keep) 0) := hid (fun z h => by unfold Si.capsL; rw [List.getElem_map, List.getElem_range, Si.capOf_eq h, Si.takenK_all])
 have HKP : Hid (∀ z (h : z < s.zones.length), (Ve.keepsL s)[z]'(by rw [Ve.keepsL_len]; exact h) = s.zones[z].keep) := hid (fun z h => by unfold Ve.keepsL; rw [List.getElem_map])
 have HZS := hid (fun z (hz : z ∈ s.zones) => (hk.zs z hz).2)
 have HZK := hid (fun z (hz : z ∈ s.zones) => hk.zk z hz)
 have HSC := hid (fun x (hx : x ∈ s.shelves) => hk.sc x hx)
 have HFL := hid hk.fl
 have HTS := hid (fun k a hk => Si.takenK_step s k a hk)
 have HTL := hid (fun k a => Si.takenK_le s k a)
 have HT0 : Hid (∀ a, Si.takenK s 0 a = 0) := hid (fun a => by unfold Si.takenK; simp)
 have HCB : Hid (Ve.capsB s c = (decide (c.caps = Si.capsL s) && decide (c.keeps = Ve.keepsL s))) := hid rfl
 obtain ⟨G, hG⟩ : ∃ G, G = Ve.capsB s c := ⟨_, rfl⟩
 rw [← hG] at HCB
 unfold certA
 rw [hf1, hf2, ← hG]
 obtain ⟨P0, hP⟩ : ∃ P, P = c.places := ⟨_, rfl⟩
 obtain ⟨R, hR⟩ : ∃ P, P = c.robots := ⟨_, rfl⟩
 obtain ⟨lt, hlt⟩ : ∃ P, P = c.trans.length := ⟨_, rfl⟩
 obtain ⟨ls, hls⟩ : ∃ P, P = c.sips.length := ⟨_, rfl⟩
 obtain ⟨l1, e1⟩ : ∃ n, s.floor.kind.length = n := ⟨_, rfl⟩
 obtain ⟨n, e3⟩ : ∃ n, s.zones.length = n := ⟨_, rfl⟩
 obtain ⟨l5, e5⟩ : ∃ n, s.shelves.length = n := ⟨_, rfl⟩
 have E1 := hid e1
 have E3 := hid e3
 have E5 := hid e5
 rw [← hP, ← hR, ← hlt, ← hls]
 rw [e1, e3, e5] at HBB HV
 rw [e1] at HZG
 rw [e3] at m3 hzn HCN HKN HCL HKL HCA HKE hcm hkm
 rw [e5] at m5 hsn HCP
 rw [e3]
 have lB : B < w.heap.size := heap_lt HBB.out
 clear h hr hk hc hB hf1 hf2 hG hP hR hlt hls e1 e3 e5 htm hsm
 obtain ⟨W, hW⟩ : ∃ W, W = w.alloc (.cells #[.int .i64 P0, .slice ta lt tc, .slice ca n cc, .slice ka n kc, .int .i64 R, .slice sa ls sc] 38) := ⟨_, rfl⟩
 have BW : Hid (Below w.heap.size w W) := hid (by rw [hW]; exact (Below.refl _ _).alloc (Nat.le_refl _) _)
 have IW : Hid (W.heap[w.heap.size]? = some (.cells #[.int .i64 P0, .slice ta lt tc, .slice ca n cc, .slice ka n kc, .int .i64 R, .slice sa ls sc] 38 (0, 0))) := hid (by rw [hW]; exact heap_alloc_new _ _)
 have HW := hid hW
 have hwW := BW.out.size
 have r5 : W.cell? ⟨B, 5, none⟩ = some (.slice a3 n c3) := cell_of_heap (keep_heap HBB.out BW.out) 5 rfl
 clear hW
 go_enter Tryz.func50, Tryz.ntmps50
 go_upto_region 1 with fail
 rw [← HW.out]
 go_wp2_with fail
 go_loopw [16] (fun iv wr => ∃ k : Nat, k ≤ n ∧ iv = .int .i64 k ∧ Hid (c.caps.take k = (Si.capsL s).take k) ∧ Hid (c.keeps.take k = (Ve.keepsL s).take k) ∧ Hid (Below W.heap.size W wr)) (fun iv _ => n - (intOf iv).toNat)
 case atStart => exact ⟨0, by omega, rfl, hid (by simp), hid (by simp), hid (Below.refl _ _)⟩
 case round =>
  clear r5
  obtain ⟨k, hk, rfl, HK1, HK2, HB⟩ := hrel
  obtain ⟨wo, rfl⟩ : ∃ wo : World, wo = wr := ⟨_, rfl⟩
  have BO := hid (BW.out.trans (HB.out.mono hwW))
  have hwo := BO.out.size
  by_cases hkn : k < n
  · have hkz : k < s.zones.length := by rw [E3.out]; exact hkn
    have hkc : k < c.caps.length := by rw [HCL.out]; exact hkn
    have hkk : k < c.keeps.length := by rw [HKL.out]; exact hkn
    obtain ⟨zb, zo, u1, u2, t1, hzb, hu1, hu2, z0, z1, z2, z3, z4⟩ := (HV.out.zn.keep BO.out).cell k hkz
    subst t1
    obtain ⟨y1, d1, rfl, hnm⟩ := hu1.form
    obtain ⟨y2, d2, rfl, -⟩ := two_form hu2
    have hzs := HZS.out _ (List.getElem_mem hkz)
    have hzk := HZK.out _ (List.getElem_mem hkz)
    have HCK := HCP.out k hkz
    have HKK := HKP.out k hkz
    obtain ⟨b1, o1, f1, x1⟩ := (HCA.out.keep BO.out).cell k hkc
    obtain ⟨b2, o2, f2, x2⟩ := (HKE.out.keep BO.out).cell k hkk
    subst f1 f2
    obtain ⟨X, hX⟩ : ∃ X, c.caps[k] = X := ⟨_, rfl⟩
    obtain ⟨Y, hY⟩ : ∃ X, c.keeps[k] = X := ⟨_, rfl⟩
    obtain ⟨z, hz⟩ : ∃ z, s.zones[k] = z := ⟨_, rfl⟩
    rw [hX] at x1
    rw [hY] at x2
    rw [hz] at z0 z1 z2 z3 z4 hzs hzk HCK HKK hnm
    obtain ⟨NM, hNM⟩ : ∃ N : ByteArray, ⟨z.name.toArray⟩ = N := ⟨_, rfl⟩
    obtain ⟨SP, hSP⟩ : ∃ x, z.speed = x := ⟨_, rfl⟩
    obtain ⟨KP, hKP⟩ : ∃ x, z.keep = x := ⟨_, rfl⟩
    obtain ⟨q, hq⟩ : ∃ n, z.cells.length = n := ⟨_, rfl⟩
    obtain ⟨q2, hq2⟩ : ∃ n, z.shut.length = n := ⟨_, rfl⟩
    rw [hNM] at z0
    rw [hq] at z1 hzs HCK hnm
    rw [hSP] at z2
    rw [hKP] at z3 hzk HCK HKK
    rw [hq2] at z4
    have HX := hid hX
    have HY := hid hY
    have HCK := hid HCK
    have HKK := hid HKK
    have k0 : (0 : Int) ≤ (k : Int) := by omega
    have k1 : (k : Int) < (n : Int) := by omega
    have T00 := HT0.out k
    clear hX hY hz hNM hSP hKP hq hq2 hu1 hu2
    obtain ⟨W2, hW2⟩ : ∃ W, W = wo.alloc (.cells #[.string NM, .slice y1 q d1, .int .i64 SP, .int .i64 KP, .slice y2 q2 d2] 80) := ⟨_, rfl⟩
    have B2 : Hid (Below wo.heap.size wo W2) := hid (by rw [hW2]; exact (Below.refl _ _).alloc (Nat.le_refl _) _)
    have I2 : Hid (W2.heap[wo.heap.size]? = some (.cells #[.string NM, .slice y1 q d1, .int .i64 SP, .int .i64 KP, .slice y2 q2 d2] 80 (0, 0))) := hid (by rw [hW2]; exact heap_alloc_new _ _)
    have HW2 := hid hW2
    have c1' : W2.cell? ⟨wo.heap.size, 1, none⟩ = some (.slice y1 q d1) := cell_of_heap I2.out 1 rfl
    have c3' : W2.cell? ⟨wo.heap.size, 3, none⟩ = some (.int .i64 KP) := cell_of_heap I2.out 3 rfl
    have lw2 : wo.heap.size < W2.heap.size := heap_lt I2.out
    have BO2 := hid (BO.out.trans (B2.out.mono hwo))
    have BW2 := hid (HB.out.trans (B2.out.mono HB.out.size))
    have hw2 := BO2.out.size
    have s7 : W2.cell? ⟨B, 7, none⟩ = some (.slice a5 l5 c5) := cell_of_heap (keep_heap HBB.out BO2.out) 7 rfl
    clear hW2
    go_upto_region 4 with fail
    rw [← HW2.out]
    clear z0 z1 z2 z3 z4 x1 x2
    go_wp2_with fail
    go_loopw [7, 33] (fun rv iv wr => ∃ (j T : Nat), j ≤ l5 ∧ T ≤ j ∧ iv = .int .i64 j ∧ rv = .int .i64 ((q : Int) - KP - (T : Int)) ∧ Hid (Si.takenK s j k = T) ∧ Hid (Below W2.heap.size W2 wr)) (fun _ iv _ => l5 - (intOf iv).toNat)
    case atStart => exact ⟨0, 0, by omega, by omega, rfl, by go_num, hid T00, hid (Below.refl _ _)⟩
    case round =>
     clear c1' c3' s7
     obtain ⟨j, T, hj, hT, rfl, rfl, HT, HB3⟩ := hrel
     obtain ⟨wi, rfl⟩ : ∃ wo : World, wo = wr := ⟨_, rfl⟩
     have BO3 := hid (BO2.out.trans (HB3.out.mono hw2))
     have hw3 := BO3.out.size
     by_cases hjl : j < l5
     · have hjs : j < s.shelves.length := by rw [E5.out]; exact hjl
       obtain ⟨sb, so, t5, hsb, r0, r1⟩ := (SfV.keep2 HV.out BO3.out).cell j hjs
       subst t5
       have hsc := HSC.out _ (List.getElem_mem hjs)
       have HTS2 := hid (HTS.out j k hjs)
       obtain ⟨sh, hsh⟩ : ∃ x, s.shelves[j] = x := ⟨_, rfl⟩
       rw [hsh] at r0 r1 hsc HTS2
       obtain ⟨C, hC⟩ : ∃ C, sh.1 = C := ⟨_, rfl⟩
       obtain ⟨ST, hST⟩ : ∃ N : ByteArray, ⟨sh.2.toArray⟩ = N := ⟨_, rfl⟩
       rw [hC] at r0 hsc HTS2
       rw [hST] at r1
       have hc0 : 0 ≤ C ∧ C < (l1 : Int) := by
        unfold Fl.isC at hsc
        have h9 := HFL.out.kl
        rw [E1.out] at h9
        simp at hsc
        omega
       obtain ⟨cn, rfl⟩ : ∃ c : Nat, C = (c : Int) := ⟨C.toNat, by omega⟩
       have hcl : cn < l1 := by omega
       obtain ⟨W4, hW4⟩ : ∃ W, W = wi.alloc (.cells #[.int .i64 (cn : Int), .string ST] 163) := ⟨_, rfl⟩
       have B4 : Hid (Below wi.heap.size wi W4) := hid (by rw [hW4]; exact (Below.refl _ _).alloc (Nat.le_refl _) _)
       have I4 : Hid (W4.heap[wi.heap.size]? = some (.cells #[.int .i64 (cn : Int), .string ST] 163 (0, 0))) := hid (by rw [hW4]; exact heap_alloc_new _ _)
       have HW4 := hid hW4
       have BO4 := hid (BO3.out.trans (B4.out.mono hw3))
       have BJ4 := hid (HB3.out.trans (B4.out.mono HB3.out.size))
       have v0 : W4.cell? ⟨wi.heap.size, 0, none⟩ = some (.int .i64 (cn : Int)) := cell_of_heap I4.out 0 rfl
       have v9 : W4.cell? ⟨B, 9, none⟩ = some (.slice (some ⟨g0, 0, none⟩) l1 l1) := cell_of_heap (keep_heap HBB.out BO4.out) 9 rfl
       have vz : W4.cell? ⟨g0, cn, none⟩ = some (.int .i64 (Si.zoneOf s.zones (cn : Int))) := cell_of_heap (keep_heap HGG.out BO4.out) cn (by have := HZG.out cn hcl; simp [ints, this])
       obtain ⟨Z, hZ⟩ : ∃ Z, Si.zoneOf s.zones (cn : Int) = Z := ⟨_, rfl⟩
       rw [hZ] at vz HTS2
       rw [HT.out] at HTS2
       have j0 : (0 : Int) ≤ (j : Int) := by omega
       have j1 : (j : Int) < (l5 : Int) := by omega
       have n0 : (0 : Int) ≤ (cn : Int) := by omega
       have n1 : (cn : Int) < (l1 : Int) := by omega
       clear hsh hC hST hsc hc0 hW4 hZ
       go_upto_region 8 with fail
       rw [← HW4.out]
       clear r0 r1
       by_cases hZk : Z = (k : Int)
       · have t1 : (Z == (k : Int)) = true := by simp [hZk]
         have HT2 : Hid (Si.takenK s (j + 1) k = T + 1) := hid (by rw [HTS2.out, if_pos hZk])
         clear hZk
         go_wp2_with fail
         go_quiet (fail)
         go_wp2_with fail
         go_roundw
         case rel => exact ⟨j + 1, T + 1, by omega, by omega, by go_num, by go_num, HT2, hid (BJ4.out.trans (below_drewN _ _ _))⟩
         case measure => simp [intOf]; omega
       · have t1 : (Z == (k : Int)) = false := by simpa using hZk
         have HT2 : Hid (Si.takenK s (j + 1) k = T) := hid (by rw [HTS2.out, if_neg hZk]; rfl)
         clear hZk
         go_wp2_with fail
         go_quiet (fail)
         go_wp2_with fail
         go_roundw
         case rel => exact ⟨j + 1, T, by omega, by omega, by go_num, by go_num, HT2, hid (BJ4.out.trans (below_drewN _ _ _))⟩
         case measure => simp [intOf]; omega
     · obtain rfl : j = l5 := by omega
       have HCV : Hid ((Si.capsL s)[k]'(by rw [HCN.out]; exact hkn) = max ((q : Int) - KP - (T : Int)) 0) := hid (by rw [HCK.out, HT.out]; congr 1; omega)
       obtain ⟨D, hD⟩ : ∃ D, D = (q : Int) - KP - (T : Int) := ⟨_, rfl⟩
       rw [← hD] at HCV
       rw [← hD]
       obtain ⟨b1, o1, f1, x1⟩ := (HCA.out.keep BO3.out).cell k hkc
       obtain ⟨b2, o2, f2, x2⟩ := (HKE.out.keep BO3.out).cell k hkk
       injection f1 with f1; injection f1 with f1 f3; subst f1 f3
       injection f2 with f2; injection f2 with f2 f3; subst f2 f3
       rw [HX.out] at x1
       rw [HY.out] at x2
       have BX3 := hid (BW2.out.trans (HB3.out.mono BW2.out.size))
       have IC := hid (keep_heap IW.out BX3.out)
       have IZ := hid (keep_heap I2.out HB3.out)
       have v2 : wi.cell? ⟨w.heap.size, 2, none⟩ = some (.slice (some ⟨b1, o1, none⟩) n cc) := cell_of_heap IC.out 2 rfl
       have v3 : wi.cell? ⟨w.heap.size, 3, none⟩ = some (.slice (some ⟨b2, o2, none⟩) n kc) := cell_of_heap IC.out 3 rfl
       have v4 : wi.cell? ⟨wo.heap.size, 3, none⟩ = some (.int .i64 KP) := cell_of_heap IZ.out 3 rfl
       obtain ⟨M, hM⟩ : ∃ M, M = max D 0 := ⟨_, rfl⟩
       rw [← hM] at HCV
       have hM2 : max D 0 = M := hM.symm
       have HFC : Hid (X ≠ M → G = false) := hid (fun h => by
        rw [HCB.out, decide_eq_false (p := c.caps = Si.capsL s) (fun e => h ?_), Bool.false_and]
        rw [← HX.out, ← HCV.out]
        congr 1)
       have HFK : Hid (Y ≠ KP → G = false) := hid (fun h => by
        rw [HCB.out, decide_eq_false (p := c.keeps = Ve.keepsL s) (fun e => h ?_), Bool.and_false]
        rw [← HY.out, ← HKK.out]
        congr 1)
       have HN1 : Hid (X = M → c.caps.take (k + 1) = (Si.capsL s).take (k + 1)) := hid (fun h => take_eq_succ hkc (by rw [HCN.out]; exact hkn) HK1.out (by rw [HX.out, HCV.out]; exact h))
       have HN2 : Hid (Y = KP → c.keeps.take (k + 1) = (Ve.keepsL s).take (k + 1)) := hid (fun h => take_eq_succ hkk (by rw [HKN.out]; exact hkn) HK2.out (by rw [HY.out, HKK.out]; exact h))
       have d1 : -9223372036854775808 ≤ D := by omega
       have d2 : D ≤ 9223372036854775807 := by omega
       clear hM hD hzs hzk
       by_cases hXM : X = M
       · have t1 : (X != M) = false := by simp [hXM]
         have A1 := hid (HN1.out hXM)
         clear hXM
         by_cases hYK : Y = KP
         · have t2 : (Y != KP) = false := by simp [hYK]
           have A2 := hid (HN2.out hYK)
           clear hYK
           go_wp2_with fail
           go_quiet (fail)
           go_wp2_with fail
           go_roundw
           case rel => exact ⟨k + 1, by omega, by go_num, A1, A2, hid (BX3.out.trans (below_drewN _ _ _))⟩
           case measure => simp [intOf]; omega
         · have t2 : (Y != KP) = true := by simpa using hYK
           have A2 := hid (HFK.out hYK)
           clear hYK
           go_wp2_with fail
           go_quiet (fail)
           go_wp2_with fail
           go_ret
           exact ⟨by rw [A2.out]; rfl, BO3.out.trans (below_drewN _ _ _)⟩
       · have t1 : (X != M) = true := by simpa using hXM
         have A1 := hid (HFC.out hXM)
         clear hXM
         go_wp2_with fail
         go_quiet (fail)
         go_wp2_with fail
         go_ret
         exact ⟨by rw [A1.out]; rfl, BO3.out.trans (below_drewN _ _ _)⟩
  · obtain rfl : k = n := by omega
    have HT : Hid (G = true) := hid (by
     have h1 := HK1.out
     have h2 := HK2.out
     rw [List.take_of_length_le (by rw [HCL.out]; omega), List.take_of_length_le (by rw [HCN.out]; omega)] at h1
     rw [List.take_of_length_le (by rw [HKL.out]; omega), List.take_of_length_le (by rw [HKN.out]; omega)] at h2
     rw [HCB.out, h1, h2]; simp)
    go_wp2_with fail
    go_ret
    exact ⟨by rw [HT.out]; rfl, BO.out⟩
end Go.Proofs.YtfcbcpfnaadpeaaGreatDoor
