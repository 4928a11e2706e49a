/- Parts SpC of this claim, laid one behind the other: walks and the plain laws behind them; each contract states its own conditions. -/
import Derived.Test.YtfcbcpfnaadpeaaGreatDoorNI
/- Walks of package blocks: Free. -/
namespace Go.Proofs.YtfcbcpfnaadpeaaGreatDoor
set_option linter.unusedSimpArgs false
set_option linter.unusedVariables false
open Go.RowKit

set_option maxRecDepth 100000 in
set_option maxHeartbeats 32000000 in
theorem Free_any (s : Si.Site) (kv ov zv av sv rv : Value) (pl rb : Int) (tv cv ke se : Value) (sips : List (List Int)) (st : Bd.State) (shv rov pev dev skv : Value) (w : World) (h : SiV w kv ov zv av sv rv s) (hr : Si.Right s) (hzs : ZnS s.zones)
    (hcb : ∀ z, z < s.zones.length → Si.capOf s z ≤ 1000000) (hcv : Is w cv (Si.capsL s)) (hse : Ll w se sips) (hsp : ∀ l ∈ sips, ∀ z ∈ l, 0 ≤ z ∧ z < (s.zones.length : Int)) (hs0 : s.zones.length = 0 → sips = []) (hsl : sips.length ≤ 1000000)
    (ht : StV w shv rov pev dev skv st) (hrc : ∀ r ∈ st.robots, 0 ≤ r.cell ∧ r.cell < (s.floor.kind.length : Int)) (hrl : st.robots.length ≤ 1000) :
    Calls Tryz.prog 38 #[siV s kv ov zv av sv rv, .agg #[.int .i64 pl, tv, cv, ke, .int .i64 rb, se], stV st shv rov pev dev skv] w fun e w' => (∃ v, e = .returned v ∧ Is w' v (Si.freeL s (st.robots.map (·.cell)) st.robots.length)) ∧ Below w.heap.size w w' := by
  have HZO := Lib.hid (fun c W (hW : Below w.heap.size w W) => ZoneOf_any s kv ov zv av sv rv c W (h.keep hW) hzs)
  obtain ⟨ra, rc, rfl, hrm⟩ := ht.ro.form
  have HV := Lib.hid h
  have HT := Lib.hid ht
  have HSE := Lib.hid hse
  have HSP := Lib.hid hsp
  have HS0 := Lib.hid hs0
  have HCB := Lib.hid hcb
  have HRC := Lib.hid hrc
  obtain ⟨cs, hcs⟩ : ∃ l, st.robots.map (·.cell) = l := ⟨_, rfl⟩
  have HCSL : Hid (cs.length = st.robots.length) := Lib.hid (by rw [← hcs, List.length_map])
  have HCS := Lib.hid hcs
  have HCL := Lib.hid (fun W (hW : Below w.heap.size w W) => cloneI_any cv (Si.capsL s) W (hcv.keep hW) (by have := hr.zn; unfold Si.capsL; rw [List.length_map, List.length_range]; omega))
  have hnz : s.zones.length ≤ 64 := hr.zn
  obtain ⟨N, hN⟩ : ∃ n, st.robots.length = n := ⟨_, rfl⟩
  have HN := Lib.hid hN
  rw [hcs]
  unfold siV stV
  rw [hN] at hrm hrl HT ⊢
  obtain ⟨nz, hz⟩ : ∃ n, s.zones.length = n := ⟨_, rfl⟩
  have HNZ := Lib.hid hz
  rw [hz] at hnz HSP HS0 HCB
  have HCL2 : Hid ((Si.capsL s).length = nz) := Lib.hid (by unfold Si.capsL; rw [List.length_map, List.length_range, hz])
  rw [HCL2.out] at HCL
  obtain ⟨w2, hw2⟩ : ∃ W, W = ((w.alloc (.cells #[.int .i64 s.floor.w, .int .i64 s.floor.h, .int .i64 s.floor.d, kv, ov, zv, av, sv, rv] 30)).alloc (.cells #[.int .i64 pl, tv, cv, ke, .int .i64 rb, se] 38)).alloc (.cells #[.int .i64 st.tick, shv, .slice ra N rc, pev, dev, skv] 58) := ⟨_, rfl⟩
  have HA := al3 w (.cells #[.int .i64 s.floor.w, .int .i64 s.floor.h, .int .i64 s.floor.d, kv, ov, zv, av, sv, rv] 30) (.cells #[.int .i64 pl, tv, cv, ke, .int .i64 rb, se] 38) (.cells #[.int .i64 st.tick, shv, .slice ra N rc, pev, dev, skv] 58)
  rw [← hw2] at HA
  have IS := Lib.hid HA.1
  have IC := Lib.hid HA.2.1
  have IT := Lib.hid HA.2.2.1
  have B2 := Lib.hid HA.2.2.2.1
  have HW2 := Lib.hid hw2
  unfold siV at HZO
  clear h hr hzs hcb hcv hse hsp hs0 ht hrc hcs hN hz hw2 HA
  have p2 : w2.cell? ⟨w.heap.size + 1, 2, none⟩ = some cv := cell_of_heap IC.out 2 rfl
  have CS : Hid (∀ W, Below w2.heap.size w2 W → W.heap[w.heap.size]? = some (.cells #[.int .i64 s.floor.w, .int .i64 s.floor.h, .int .i64 s.floor.d, kv, ov, zv, av, sv, rv] 30 (0, 0))) := Lib.hid (fun W hW => keep_heap IS.out hW)
  go_enter Tryz.func38, Tryz.ntmps38
  go_upto_region 1 with fail
  rw [← HW2.out]
  go_wp2_with fail
  go_at_call 79; refine (HCL.out _ B2.out).mono ?_; rintro e w4 ⟨v4, rfl, ho4, b4⟩
  obtain ⟨la, lc, rfl, hlm⟩ := own_slice ho4
  have BW4 := Lib.hid b4
  have HO5 : Hid (w4.ownsRow w2.heap.size 3 1 (.slice la nz lc) nz (ints (Si.freeL s cs 0))) := Lib.hid (by rw [Si.freeL_zero]; exact ho4)
  have t2 : w4.cell? ⟨w.heap.size + 1 + 1, 2, none⟩ = some (.slice ra N rc) := cell_of_heap (keep_heap IT.out BW4.out) 2 rfl
  clear ho4 b4 p2
  go_wp2_with fail
  go_loopw [17] (fun iv wr => ∃ k : Nat, k ≤ N ∧ iv = .int .i64 k ∧ Hid (wr.ownsRow w2.heap.size 3 1 (.slice la nz lc) nz (ints (Si.freeL s cs k))) ∧ Hid (Below w2.heap.size w2 wr)) (fun iv _ => N - (intOf iv).toNat)
  case atStart => exact ⟨0, by omega, rfl, HO5, BW4⟩
  case round =>
    clear HO5 BW4 t2
    obtain ⟨k, hk, rfl, HO, HU⟩ := hrel
    have BW : Hid (Below w.heap.size w wr) := Lib.hid (B2.out.trans (HU.out.mono B2.out.size))
    by_cases hkn : k < N
    · have hkl : k < st.robots.length := by rw [HN.out]; exact hkn
      have hkc : k < cs.length := by rw [HCSL.out]; exact hkl
      obtain ⟨rb2, ro2, rfl, hrb, c0, c1, c2, c3, c4, c5⟩ := (HT.out.ro.keep BW.out).cell k hkl
      have HCK : Hid (cs[k] = st.robots[k].cell) := Lib.hid (by have := HCS.out; subst this; simp)
      have LN := Lib.hid (Si.freeL_none s cs k hkc)
      have LS := Lib.hid (fun z => Si.freeL_some s cs k z hkc)
      have LT := Lib.hid (fun z => Si.freeL_stay s cs k z hkc)
      rw [HCK.out] at LN LS LT
      have k0 : (0 : Int) ≤ (k : Int) := by omega
      have k1 : (k : Int) < (N : Int) := by omega
      obtain ⟨X, hX⟩ : ∃ X, st.robots[k] = X := ⟨_, rfl⟩
      rw [hX] at c0 c1 c2 c3 c4 c5 LN LS LT
      clear hX HCK hkl hkc
      obtain ⟨wa, hwa⟩ : ∃ W, W = wr.alloc (.cells #[.int .i64 X.cell, .int .i64 X.load, .int .i64 X.charge, .int .i64 X.rest, .int .i64 X.mute, .bool X.dead] 105) := ⟨_, rfl⟩
      have ga := al1 wr (.cells #[.int .i64 X.cell, .int .i64 X.load, .int .i64 X.charge, .int .i64 X.rest, .int .i64 X.mute, .bool X.dead] 105)
      rw [← hwa] at ga
      have BRA := Lib.hid ga.2.1
      have y0 : wa.cell? ⟨wr.heap.size, 0, none⟩ = some (.int .i64 X.cell) := cell_of_heap ga.1 0 rfl
      have HWA := Lib.hid hwa
      have UA := Lib.hid (HU.out.trans (ga.2.1.mono HU.out.size))
      have BWA := Lib.hid (B2.out.trans (UA.out.mono B2.out.size))
      have OA := Lib.hid (own_keepB HO.out ga.2.1)
      have x0 : wa.cell? ⟨w.heap.size, 0, none⟩ = some (.int .i64 s.floor.w) := cell_of_heap (CS.out _ UA.out) 0 rfl
      have x1 : wa.cell? ⟨w.heap.size, 1, none⟩ = some (.int .i64 s.floor.h) := cell_of_heap (CS.out _ UA.out) 1 rfl
      have x2 : wa.cell? ⟨w.heap.size, 2, none⟩ = some (.int .i64 s.floor.d) := cell_of_heap (CS.out _ UA.out) 2 rfl
      have x3 : wa.cell? ⟨w.heap.size, 3, none⟩ = some (kv) := cell_of_heap (CS.out _ UA.out) 3 rfl
      have x4 : wa.cell? ⟨w.heap.size, 4, none⟩ = some (ov) := cell_of_heap (CS.out _ UA.out) 4 rfl
      have x5 : wa.cell? ⟨w.heap.size, 5, none⟩ = some (zv) := cell_of_heap (CS.out _ UA.out) 5 rfl
      have x6 : wa.cell? ⟨w.heap.size, 6, none⟩ = some (av) := cell_of_heap (CS.out _ UA.out) 6 rfl
      have x7 : wa.cell? ⟨w.heap.size, 7, none⟩ = some (sv) := cell_of_heap (CS.out _ UA.out) 7 rfl
      have x8 : wa.cell? ⟨w.heap.size, 8, none⟩ = some (rv) := cell_of_heap (CS.out _ UA.out) 8 rfl
      have hzr := Si.zoneOf_range s.zones X.cell
      rw [HNZ.out] at hzr
      have HZ := Lib.hid (HZO.out X.cell wa BWA.out)
      obtain ⟨Z, hZ⟩ : ∃ Z, Si.zoneOf s.zones X.cell = Z := ⟨_, rfl⟩
      rw [hZ] at HZ LN LS LT hzr
      clear hwa ga hZ
      go_upto_region 5 with fail
      rw [← HWA.out]
      clear c0 c1 c2 c3 c4 c5
      go_wp2_with fail
      go_at_call 100; refine HZ.out.mono ?_; rintro e wb ⟨rfl, bb⟩
      have UB := Lib.hid (UA.out.trans (bb.mono UA.out.size))
      have OB := Lib.hid (own_keepB OA.out bb)
      clear bb x0 x1 x2 x3 x4 x5 x6 x7 x8 y0
      by_cases hz0 : Z < 0
      · have HLN := Lib.hid (LN.out hz0)
        have hz1 : ¬ 0 ≤ Z := by omega
        have d1 : decide (0 ≤ Z) = false := decide_eq_false hz1
        go_wp2_with fail
        go_roundw
        case rel => exact ⟨k + 1, by omega, by go_num, Lib.hid (by rw [HLN.out]; exact OB.out), UB⟩
        case measure => simp [intOf]; omega
      · obtain ⟨z, hz⟩ := Int.eq_ofNat_of_zero_le (show 0 ≤ Z by omega)
        subst hz
        have hzn : z < nz := by omega
        obtain ⟨g2, cur, rfl, hg2, hcur⟩ := own_posB OB.out (by omega)
        have q0 : wb.cell? ⟨g2, z, none⟩ = some (.int .i64 (max (Si.capOf s z - (Si.robZ s cs k z : Int)) 0)) := own_cellI OB.out z (Si.freeL_get s cs k z (by rw [HNZ.out]; exact hzn))
        have q1 : wb.frozen? ⟨g2, z, none⟩ = false := free_of_heap hcur z
        have hcp := HCB.out z hzn
        have HLS := Lib.hid (LS.out z rfl)
        have HLT := Lib.hid (LT.out z rfl)
        have hvb : max (Si.capOf s z - (Si.robZ s cs k z : Int)) 0 ≤ 1000000 ∧ 0 ≤ max (Si.capOf s z - (Si.robZ s cs k z : Int)) 0 := by omega
        obtain ⟨V, hV⟩ : ∃ V, max (Si.capOf s z - (Si.robZ s cs k z : Int)) 0 = V := ⟨_, rfl⟩
        rw [hV] at q0 HLS HLT hvb
        have z0 : (0 : Int) ≤ (z : Int) := by omega
        have z1 : (z : Int) < (nz : Int) := by omega
        clear hV hcur hcp hz0 hzr
        by_cases hv : 0 < V
        · have hw1 : IntKind.i64.wrap (V - 1) = V - 1 := IntWalk.i64_in _ (by omega)
          have HL9 := Lib.hid (HLS.out hv)
          go_wp2_with fail
          go_roundw
          case rel => exact ⟨k + 1, by omega, by go_num, Lib.hid (by rw [HL9.out, ← ints_setB]; exact own_setB0 OB.out z _), Lib.hid (UB.out.setCell hg2 _)⟩
          case measure => simp [intOf]; omega
        · have HL9 := Lib.hid (HLT.out (by omega))
          go_wp2_with fail
          go_roundw
          case rel => exact ⟨k + 1, by omega, by go_num, Lib.hid (by rw [HL9.out]; exact OB.out), UB⟩
          case measure => simp [intOf]; omega
    · have hkN : k = N := by omega
      have HI : Hid (Is wr (.slice la nz lc) (Si.freeL s cs N)) := Lib.hid (by
        have h9 := HO.out
        rw [hkN] at h9
        exact Sl.of_own h9 (own_max h9))
      go_wp2_with fail
      go_ret
      exact ⟨⟨_, rfl, HI.out⟩, BW.out⟩
end Go.Proofs.YtfcbcpfnaadpeaaGreatDoor
