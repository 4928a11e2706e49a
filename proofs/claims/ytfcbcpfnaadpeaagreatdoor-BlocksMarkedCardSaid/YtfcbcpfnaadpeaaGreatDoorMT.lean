/- Parts SpA, SpB, SpC of this claim, laid one behind the other: walks and the plain laws behind them; each contract states its own conditions. -/
import Derived.Test.YtfcbcpfnaadpeaaGreatDoorMO
namespace Go.Proofs.YtfcbcpfnaadpeaaGreatDoor
set_option maxRecDepth 100000
set_option maxHeartbeats 64000000
set_option linter.unusedSimpArgs false
set_option linter.unusedVariables false
open Go.RowKit
theorem cloneI_any (v : Value) (l : List Int) (w : World) (h : Is w v l) (hm : l.length ≤ 1000000) :
 Calls Tryz.prog 79 #[v] w fun e w' => ∃ v', e = .returned v' ∧ w'.ownsRow w.heap.size 3 1 v' l.length (ints l) ∧ Below w.heap.size w w' := by
 obtain ⟨a, cap, rfl, -⟩ := h.form
 cases a with
 | none =>
  refine (Tryz.slices_Clone_int_nil l.length cap w).mono ?_
  rintro e w' ⟨rfl, rfl⟩
  have h0 : l = [] := by
   cases l with
   | nil => rfl
   | cons x t => obtain ⟨_, _, h', _⟩ := h.cell 0 (by simp); cases h'
  subst h0
  exact ⟨_, rfl, World.ownsRow_nil .., Below.refl _ _⟩
 | some a =>
  by_cases h0 : l = []
  · subst h0
    refine (Tryz.slices_Clone_int_zero a cap w).mono ?_
    rintro e w' ⟨v', rfl, h1, -, h2⟩
    exact ⟨v', rfl, h1, h2⟩
  · have hp : 0 < l.length := by cases l with
    | nil => exact absurd rfl h0
    | cons x t => simp
    obtain ⟨b, off, e, -⟩ := h.cell 0 hp
    cases e
    refine (Tryz.slices_Clone_int b off l.length cap l w (Nat.le_refl _) (by omega) (fun j hj => by
     obtain ⟨b2, off2, e, hc⟩ := h.cell j hj
     injection e with e; injection e with e1 e2; subst e1 e2
     rw [hc]; simp [List.getD, hj])).mono ?_
    rintro e w' ⟨v', rfl, h1, -, h2⟩
    rw [List.take_length] at h1
    exact ⟨v', rfl, h1, h2⟩
theorem own_cellI {w : World} {base g cap n : Nat} {l : List Int} (h : w.ownsRow base 3 1 (.slice (some ⟨g, 0, none⟩) n cap) n (ints l)) (i : Nat) {x : Int} (hx : l[i]? = some x) : w.cell? ⟨g, i, none⟩ = some (.int .i64 x) := by
 obtain ⟨hl, he⟩ := List.getElem?_eq_some_iff.1 hx
 have hI : Is w (.slice (some ⟨g, 0, none⟩) n cap) l := Sl.of_own h (own_max h)
 obtain ⟨b, off, e, hc⟩ := hI.cell i hl
 injection e with e; injection e with e1 e2; subst e1 e2
 rw [Nat.zero_add] at hc
 rw [hc, he]
theorem own_keepB {w W : World} {base : Nat} {e : TypeId} {sz : Nat} {v : Value} {n : Nat} {xs : List Value} (h : w.ownsRow base e sz v n xs) (hb : Below w.heap.size w W) : W.ownsRow base e sz v n xs :=
 World.ownsRow.kept (row := none) h ⟨hb.os, hb.tape, hb.output, hb.size, fun k hk _ => hb.block k hk⟩ (by cases hv : v.ownBlock with | none => exact .inl rfl | some g => exact .inr (by simp))
theorem own_posB {w : World} {base n cap : Nat} {e : TypeId} {a : Option Addr} {xs : List Value} (h : w.ownsRow base e 1 (.slice a n cap) n xs) (hn : 0 < n) : ∃ g cur, a = some ⟨g, 0, none⟩ ∧ base ≤ g ∧ w.heap[g]? = some (.cells cur e (0, 0)) := by
 rcases h.2 with ⟨-, h0⟩ | ⟨g, cap2, cur, e1, h1, h2, -⟩
 · omega
 · injection e1 with e1
   exact ⟨g, cur, e1, h1, h2⟩
theorem own_baseB {w : World} {base base2 n : Nat} {e : TypeId} {v : Value} {xs : List Value} (h : w.ownsRow base e 1 v n xs) (hb : base2 ≤ base) : w.ownsRow base2 e 1 v n xs := by
 refine ⟨h.1, ?_⟩
 rcases h.2 with h0 | ⟨g, cap, cur, e1, h1, h2⟩
 · exact .inl h0
 · exact .inr ⟨g, cap, cur, e1, Nat.le_trans hb h1, h2⟩
theorem own_setB0 {w : World} {base g cap n : Nat} {e : TypeId} {xs : List Value} (h : w.ownsRow base e 1 (.slice (some ⟨g, 0, none⟩) n cap) n xs) (i : Nat) (x : Value) : (w.setCell ⟨g, i, none⟩ x).ownsRow base e 1 (.slice (some ⟨g, 0, none⟩) n cap) n (xs.set i x) := by
 rcases h.2 with ⟨h, -⟩ | ⟨g2, cap2, cur, e1, h1, h2, h3, h4, h5, h6⟩
 · cases h
 · injection e1 with e1 _ e3
   injection e1 with e1
   injection e1 with e1
   subst e1 e3
   refine ⟨by rw [List.length_set]; exact h.1, .inr ⟨g, cap, _, rfl, h1, set_heap h2 i x, h3, h4, by simpa using h5, ?_⟩⟩
   simp only [Array.toList_setIfInBounds]
   rw [List.take_set, h6]
theorem ints_setB (l : List Int) (i : Nat) (x : Int) : (ints l).set i (.int .i64 x) = ints (l.set i x) := by unfold ints; rw [List.map_set]
theorem Free_any (s : Si.Site) (kv ov zv av sv rv : Value) (pl rb : Int) (tv cv ke se : Value) (sips : List (List Int)) (st : Bd.State) (shv rov pev dev skv : Value) (w : World) (h : SiV w kv ov zv av sv rv s) (hr : Si.Right s) (hzs : ZnS s.zones)
 (hcb : ∀ z, z < s.zones.length → Si.capOf s z ≤ 1000000) (hcv : Is w cv (Si.capsL s)) (hse : Ll w se sips) (hsp : ∀ l ∈ sips, ∀ z ∈ l, 0 ≤ z ∧ z < (s.zones.length : Int)) (hs0 : s.zones.length = 0 → sips = []) (hsl : sips.length ≤ 1000000)
 (ht : StV w shv rov pev dev skv st) (hrc : ∀ r ∈ st.robots, 0 ≤ r.cell ∧ r.cell < (s.floor.kind.length : Int)) (hrl : st.robots.length ≤ 1000) :
 Calls Tryz.prog 38 #[siV s kv ov zv av sv rv, .agg #[.int .i64 pl, tv, cv, ke, .int .i64 rb, se], stV st shv rov pev dev skv] w fun e w' => (∃ v, e = .returned v ∧ Is w' v (Si.freeL s (st.robots.map (·.cell)) st.robots.length)) ∧ Below w.heap.size w w' := by
 have HZO := hid (fun c W (hW : Below w.heap.size w W) => ZoneOf_any s kv ov zv av sv rv c W (h.keep hW) hzs)
 obtain ⟨ra, rc, rfl, hrm⟩ := ht.ro.form
 have HV := hid h
 have HT := hid ht
 have HSE := hid hse
 have HSP := hid hsp
 have HS0 := hid hs0
 have HCB := hid hcb
 have HRC := hid hrc
 obtain ⟨cs, hcs⟩ : ∃ l, st.robots.map (·.cell) = l := ⟨_, rfl⟩
 have HCSL : Hid (cs.length = st.robots.length) := hid (by rw [← hcs, List.length_map])
 have HCS := hid hcs
 have HCL := hid (fun W (hW : Below w.heap.size w W) => cloneI_any cv (Si.capsL s) W (hcv.keep hW) (by have := hr.zn; unfold Si.capsL; rw [List.length_map, List.length_range]; omega))
 have hnz : s.zones.length ≤ 64 := hr.zn
 obtain ⟨N, hN⟩ : ∃ n, st.robots.length = n := ⟨_, rfl⟩
 have HN := hid hN
 rw [hcs]
 unfold siV stV
 rw [hN] at hrm hrl HT ⊢
 obtain ⟨nz, hz⟩ : ∃ n, s.zones.length = n := ⟨_, rfl⟩
 have HNZ := hid hz
 rw [hz] at hnz HSP HS0 HCB
 have HCL2 : Hid ((Si.capsL s).length = nz) := hid (by unfold Si.capsL; rw [List.length_map, List.length_range, hz])
 rw [HCL2.out] at HCL
 obtain ⟨w2, hw2⟩ : ∃ W, W = ((w.alloc (.cells #[.int .i64 s.floor.w, .int .i64 s.floor.h, .int .i64 s.floor.d, kv, ov, zv, av, sv, rv] 30)).alloc (.cells #[.int .i64 pl, tv, cv, ke, .int .i64 rb, se] 38)).alloc (.cells #[.int .i64 st.tick, shv, .slice ra N rc, pev, dev, skv] 58) := ⟨_, rfl⟩
 have HA := al3 w (.cells #[.int .i64 s.floor.w, .int .i64 s.floor.h, .int .i64 s.floor.d, kv, ov, zv, av, sv, rv] 30) (.cells #[.int .i64 pl, tv, cv, ke, .int .i64 rb, se] 38) (.cells #[.int .i64 st.tick, shv, .slice ra N rc, pev, dev, skv] 58)
 rw [← hw2] at HA
 have IS := hid HA.1
 have IC := hid HA.2.1
 have IT := hid HA.2.2.1
 have B2 := hid HA.2.2.2.1
 have HW2 := hid hw2
 unfold siV at HZO
 clear h hr hzs hcb hcv hse hsp hs0 ht hrc hcs hN hz hw2 HA
 have p2 : w2.cell? ⟨w.heap.size + 1, 2, none⟩ = some cv := cell_of_heap IC.out 2 rfl
 have CS : Hid (∀ W, Below w2.heap.size w2 W → W.heap[w.heap.size]? = some (.cells #[.int .i64 s.floor.w, .int .i64 s.floor.h, .int .i64 s.floor.d, kv, ov, zv, av, sv, rv] 30 (0, 0))) := hid (fun W hW => keep_heap IS.out hW)
 go_enter Tryz.func38, Tryz.ntmps38
 go_upto_region 1 with fail
 rw [← HW2.out]
 go_wp2_with fail
 go_at_call 79; refine (HCL.out _ B2.out).mono ?_; rintro e w4 ⟨v4, rfl, ho4, b4⟩
 obtain ⟨la, lc, rfl, hlm⟩ := own_slice ho4
 have BW4 := hid b4
 have HO5 : Hid (w4.ownsRow w2.heap.size 3 1 (.slice la nz lc) nz (ints (Si.freeL s cs 0))) := hid (by rw [Si.freeL_zero]; exact ho4)
 have t2 : w4.cell? ⟨w.heap.size + 1 + 1, 2, none⟩ = some (.slice ra N rc) := cell_of_heap (keep_heap IT.out BW4.out) 2 rfl
 clear ho4 b4 p2
 go_wp2_with fail
 go_loopw [17] (fun iv wr => ∃ k : Nat, k ≤ N ∧ iv = .int .i64 k ∧ Hid (wr.ownsRow w2.heap.size 3 1 (.slice la nz lc) nz (ints (Si.freeL s cs k))) ∧ Hid (Below w2.heap.size w2 wr)) (fun iv _ => N - (intOf iv).toNat)
 case atStart => exact ⟨0, by omega, rfl, HO5, BW4⟩
 case round =>
  clear HO5 BW4 t2
  obtain ⟨k, hk, rfl, HO, HU⟩ := hrel
  have BW : Hid (Below w.heap.size w wr) := hid (B2.out.trans (HU.out.mono B2.out.size))
  by_cases hkn : k < N
  · have hkl : k < st.robots.length := by rw [HN.out]; exact hkn
    have hkc : k < cs.length := by rw [HCSL.out]; exact hkl
    obtain ⟨rb2, ro2, rfl, hrb, c0, c1, c2, c3, c4, c5⟩ := (HT.out.ro.keep BW.out).cell k hkl
    have HCK : Hid (cs[k] = st.robots[k].cell) := hid (by have := HCS.out; subst this; simp)
    have LN := hid (Si.freeL_none s cs k hkc)
    have LS := hid (fun z => Si.freeL_some s cs k z hkc)
    have LT := hid (fun z => Si.freeL_stay s cs k z hkc)
    rw [HCK.out] at LN LS LT
    have k0 : (0 : Int) ≤ (k : Int) := by omega
    have k1 : (k : Int) < (N : Int) := by omega
    obtain ⟨X, hX⟩ : ∃ X, st.robots[k] = X := ⟨_, rfl⟩
    rw [hX] at c0 c1 c2 c3 c4 c5 LN LS LT
    clear hX HCK hkl hkc
    obtain ⟨wa, hwa⟩ : ∃ W, W = wr.alloc (.cells #[.int .i64 X.cell, .int .i64 X.load, .int .i64 X.charge, .int .i64 X.rest, .int .i64 X.mute, .bool X.dead] 105) := ⟨_, rfl⟩
    have ga := al1 wr (.cells #[.int .i64 X.cell, .int .i64 X.load, .int .i64 X.charge, .int .i64 X.rest, .int .i64 X.mute, .bool X.dead] 105)
    rw [← hwa] at ga
    have BRA := hid ga.2.1
    have y0 : wa.cell? ⟨wr.heap.size, 0, none⟩ = some (.int .i64 X.cell) := cell_of_heap ga.1 0 rfl
    have HWA := hid hwa
    have UA := hid (HU.out.trans (ga.2.1.mono HU.out.size))
    have BWA := hid (B2.out.trans (UA.out.mono B2.out.size))
    have OA := hid (own_keepB HO.out ga.2.1)
    obtain ⟨x0, x1, x2, x3, x4, x5, x6, x7, x8⟩ := cells9 (CS.out _ UA.out)
    have hzr := Si.zoneOf_range s.zones X.cell
    rw [HNZ.out] at hzr
    have HZ := hid (HZO.out X.cell wa BWA.out)
    obtain ⟨Z, hZ⟩ : ∃ Z, Si.zoneOf s.zones X.cell = Z := ⟨_, rfl⟩
    rw [hZ] at HZ LN LS LT hzr
    clear hwa ga hZ
    go_upto_region 5 with fail
    rw [← HWA.out]
    clear c0 c1 c2 c3 c4 c5
    go_wp2_with fail
    go_at_call 100; refine HZ.out.mono ?_; rintro e wb ⟨rfl, bb⟩
    have UB := hid (UA.out.trans (bb.mono UA.out.size))
    have OB := hid (own_keepB OA.out bb)
    clear bb x0 x1 x2 x3 x4 x5 x6 x7 x8 y0
    by_cases hz0 : Z < 0
    · have HLN := hid (LN.out hz0)
      have hz1 : ¬ 0 ≤ Z := by omega
      have d1 : decide (0 ≤ Z) = false := decide_eq_false hz1
      go_wp2_with fail
      go_roundw
      case rel => exact ⟨k + 1, by omega, by go_num, hid (by rw [HLN.out]; exact OB.out), UB⟩
      case measure => simp [intOf]; omega
    · obtain ⟨z, hz⟩ := Int.eq_ofNat_of_zero_le (show 0 ≤ Z by omega)
      subst hz
      have hzn : z < nz := by omega
      obtain ⟨g2, cur, rfl, hg2, hcur⟩ := own_posB OB.out (by omega)
      have q0 : wb.cell? ⟨g2, z, none⟩ = some (.int .i64 (max (Si.capOf s z - (Si.robZ s cs k z : Int)) 0)) := own_cellI OB.out z (Si.freeL_get s cs k z (by rw [HNZ.out]; exact hzn))
      have q1 : wb.frozen? ⟨g2, z, none⟩ = false := free_of_heap hcur z
      have hcp := HCB.out z hzn
      have HLS := hid (LS.out z rfl)
      have HLT := hid (LT.out z rfl)
      have hvb : max (Si.capOf s z - (Si.robZ s cs k z : Int)) 0 ≤ 1000000 ∧ 0 ≤ max (Si.capOf s z - (Si.robZ s cs k z : Int)) 0 := by omega
      obtain ⟨V, hV⟩ : ∃ V, max (Si.capOf s z - (Si.robZ s cs k z : Int)) 0 = V := ⟨_, rfl⟩
      rw [hV] at q0 HLS HLT hvb
      have z0 : (0 : Int) ≤ (z : Int) := by omega
      have z1 : (z : Int) < (nz : Int) := by omega
      clear hV hcur hcp hz0 hzr
      by_cases hv : 0 < V
      · have hw1 : IntKind.i64.wrap (V - 1) = V - 1 := IntWalk.i64_in _ (by omega)
        have HL9 := hid (HLS.out hv)
        go_wp2_with fail
        go_roundw
        case rel => exact ⟨k + 1, by omega, by go_num, hid (by rw [HL9.out, ← ints_setB]; exact own_setB0 OB.out z _), hid (UB.out.setCell hg2 _)⟩
        case measure => simp [intOf]; omega
      · have HL9 := hid (HLT.out (by omega))
        go_wp2_with fail
        go_roundw
        case rel => exact ⟨k + 1, by omega, by go_num, hid (by rw [HL9.out]; exact OB.out), UB⟩
        case measure => simp [intOf]; omega
  · have hkN : k = N := by omega
    have HI : Hid (Is wr (.slice la nz lc) (Si.freeL s cs N)) := hid (by
     have h9 := HO.out
     rw [hkN] at h9
     exact Sl.of_own h9 (own_max h9))
    go_wp2_with fail
    go_ret
    exact ⟨⟨_, rfl, HI.out⟩, BW.out⟩
end Go.Proofs.YtfcbcpfnaadpeaaGreatDoor
