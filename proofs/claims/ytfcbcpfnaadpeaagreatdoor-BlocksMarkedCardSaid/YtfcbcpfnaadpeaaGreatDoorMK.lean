/- Parts Bq, Nt, Nu of this claim, laid one behind the other: walks and the plain laws behind them; each contract states its own conditions. -/
import Derived.Laws.ResultCell
import Derived.Laws.Rows
import Derived.Test.YtfcbcpfnaadpeaaGreatDoorMH
import Derived.Test.YtfcbcpfnaadpeaaGreatDoorMJ
namespace Go.Proofs.YtfcbcpfnaadpeaaGreatDoor
set_option maxRecDepth 100000
set_option maxHeartbeats 64000000
set_option linter.unusedSimpArgs false
set_option linter.unusedVariables false
open Go.RowKit
theorem made_intsN (n : Nat) : madeCells #[.int .i64 0] n = (ints (List.replicate n 0)).toArray := by
 apply Array.ext_getElem?
 intro k
 by_cases hk : k < n
 · simp [madeCells, ints, hk, Nat.mod_one]
 · simp [madeCells, ints, hk]
theorem Caps_any (s : Si.Site) (kv ov zv av sv rv : Value) (w : World) (h : SiV w kv ov zv av sv rv s) (hk : Si.Ok s) :
 Calls Tryz.prog 46 #[siV s kv ov zv av sv rv] w fun e w' => ∃ v, e = .returned v ∧ Is w' v (Si.capsL s) ∧ w'.ownsRow w.heap.size 3 1 v s.zones.length (ints (Si.capsL s)) ∧ Below w.heap.size w w' := by
 obtain ⟨a1, c1, a2, c2, a3, c3, a4, c4, a5, c5, a6, c6, rfl, rfl, rfl, rfl, rfl, rfl, m1, m2, m3, m4, m5, m6⟩ := h.open
 have hzn := hk.zn
 have hsn := hk.sn
 obtain ⟨w1, hw1⟩ : ∃ w1, w1 = w.alloc (.cells #[.int .i64 s.floor.w, .int .i64 s.floor.h, .int .i64 s.floor.d, .slice a1 s.floor.kind.length c1, .slice a2 s.floor.out.length c2, .slice a3 s.zones.length c3, .slice a4 s.aparts.length c4, .slice a5 s.shelves.length c5, .slice a6 s.robots.length c6] 30) := ⟨_, rfl⟩
 have B1 : Hid (Below w.heap.size w w1) := hid (by rw [hw1]; exact (Below.refl _ w).alloc (Nat.le_refl _) _)
 have I1 : Hid (w1.heap[w.heap.size]? = some (.cells #[.int .i64 s.floor.w, .int .i64 s.floor.h, .int .i64 s.floor.d, .slice a1 s.floor.kind.length c1, .slice a2 s.floor.out.length c2, .slice a3 s.zones.length c3, .slice a4 s.aparts.length c4, .slice a5 s.shelves.length c5, .slice a6 s.robots.length c6] 30 (0, 0))) := hid (by rw [hw1]; exact heap_alloc_new _ _)
 have hzz : ZnS s.zones := hk.zs
 have HX := hid (fun W c hV => ZoneOf_any s (.slice a1 s.floor.kind.length c1) (.slice a2 s.floor.out.length c2) (.slice a3 s.zones.length c3) (.slice a4 s.aparts.length c4) (.slice a5 s.shelves.length c5) (.slice a6 s.robots.length c6) c W hV hzz)
 unfold siV at HX ⊢
 obtain ⟨l1, e1⟩ : ∃ n, s.floor.kind.length = n := ⟨_, rfl⟩
 obtain ⟨l2, e2⟩ : ∃ n, s.floor.out.length = n := ⟨_, rfl⟩
 obtain ⟨l3, e3⟩ : ∃ n, s.zones.length = n := ⟨_, rfl⟩
 obtain ⟨l4, e4⟩ : ∃ n, s.aparts.length = n := ⟨_, rfl⟩
 obtain ⟨l5, e5⟩ : ∃ n, s.shelves.length = n := ⟨_, rfl⟩
 obtain ⟨l6, e6⟩ : ∃ n, s.robots.length = n := ⟨_, rfl⟩
 rw [e1, e2, e3, e4, e5, e6] at h hw1 I1 HX
 rw [e1, e2, e3, e4, e5, e6]
 rw [e3] at m3 hzn
 rw [e5] at m5 hsn
 have HV := hid h
 have HK := hid hk
 have E3 := hid e3
 have E5 := hid e5
 have HW1 := hid hw1
 have s1 : w.heap.size < w1.heap.size := heap_lt I1.out
 have hs1 : w1.heap.size = w.heap.size + 1 := by rw [hw1]; simp
 have HS1 := hid hs1
 have ls1 : w1.heap.size ≤ w.heap.size + 1 := by omega
 have ls2 : w.heap.size + 1 ≤ w1.heap.size := by omega
 have p5 : w1.cell? ⟨w.heap.size, 5, none⟩ = some (.slice a3 l3 c3) := cell_of_heap I1.out 5 rfl
 have p7 : w1.cell? ⟨w.heap.size, 7, none⟩ = some (.slice a5 l5 c5) := cell_of_heap I1.out 7 rfl
 have hmk := make_ints l3 (l3 : Int) rfl (by omega)
 have H0 : Hid ((w1.alloc (.cells (madeCells #[.int .i64 0] l3) 3)).heap[w.heap.size + 1]? = some (.cells (ints (Si.takenL s 0)).toArray 3 (0, 0))) := hid (by
  rw [made_intsN, ← hs1, show Si.takenL s 0 = List.replicate l3 0 by
   unfold Si.takenL Si.takenK
   rw [e3]
   apply List.ext_getElem?
   intro i
   by_cases hi : i < l3
   · simp [hi]
   · simp [hi]]
  exact heap_alloc_new _ _)
 have HC0 := hid (show ints (Si.capsL s) = ints ((List.range l3).map (Si.capOf s)) by unfold Si.capsL; rw [e3])
 clear h hk e1 e2 e3 e4 e5 e6 hw1 hs1 hzz
 go_enter Tryz.func46, Tryz.ntmps46
 go_wp2_with fail
 rw [← HW1.out]
 go_loopw [17] (fun iv wr => ∃ k : Nat, k ≤ l5 ∧ iv = .int .i64 k ∧ Hid (wr.heap[w.heap.size + 1]? = some (.cells (ints (Si.takenL s k)).toArray 3 (0, 0))) ∧ Hid (Below w1.heap.size w1 wr)) (fun iv _ => l5 - (intOf iv).toNat)
 case atStart => exact ⟨0, by omega, rfl, H0, hid ((Below.refl _ _).alloc (Nat.le_refl _) _)⟩
 case round =>
  obtain ⟨k, hkl, rfl, HT, HB⟩ := hrel
  have hwz := HB.out.size
  have BT := hid (B1.out.trans (HB.out.mono B1.out.size))
  by_cases hkn : k < l5
  · have hku : k < s.shelves.length := by rw [E5.out]; exact hkn
    obtain ⟨sb, so, e1, hsb, q0, q1⟩ := SfV.cell (Rw.keep HV.out.sf BT.out) k hku
    subst e1
    have i1 := keep_heap I1.out HB.out
    obtain ⟨r0, r1, r2, r3, r4, r5, r6, r7, r8⟩ := cells9 i1
    have lw : w.heap.size < wr.heap.size := heap_lt i1
    have hzr := Si.zoneOf_range s.zones s.shelves[k].1
    have HN1 := hid (Si.takenL_none s k hku)
    have HN2 := hid (fun z => Si.takenL_some s k z hku)
    obtain ⟨C, hC⟩ : ∃ C, s.shelves[k].1 = C := ⟨_, rfl⟩
    obtain ⟨NM, hNM⟩ : ∃ C, s.shelves[k].2 = C := ⟨_, rfl⟩
    rw [hC] at q0 hzr HN1 HN2
    rw [hNM] at q1
    have k0 : (0 : Int) ≤ (k : Int) := by omega
    have k1 : (k : Int) < (l5 : Int) := by omega
    have BA := hid ((Below.refl _ wr).alloc (Nat.le_refl _) (.cells #[.int .i64 C, .string ⟨NM.toArray⟩] 163))
    have HVA : Hid (SiV (wr.alloc (.cells #[.int .i64 C, .string ⟨NM.toArray⟩] 163)) (.slice a1 l1 c1) (.slice a2 l2 c2) (.slice a3 l3 c3) (.slice a4 l4 c4) (.slice (some ⟨sb, so, none⟩) l5 c5) (.slice a6 l6 c6) s) := hid ((HV.out.keep BT.out).keep BA.out)
    clear i1 hC hNM
    obtain ⟨Z, hZ⟩ : ∃ Z, Si.zoneOf s.zones C = Z := ⟨_, rfl⟩
    have HZ := hid hZ
    rw [hZ, E3.out] at hzr
    rw [hZ] at HN1 HN2
    clear hZ
    by_cases hz0 : Z < 0
    · have HN3 := hid (HN1.out hz0)
      go_wp2_with fail
      go_at_call 100; refine (HX.out _ C HVA.out).mono ?_; rintro e w3 ⟨rfl, b3⟩
      rw [HZ.out]
      have B3 := hid (BA.out.trans (b3.mono (by simp)))
      clear b3
      go_wp2_with fail
      go_roundw
      case rel => exact ⟨k + 1, by omega, by go_num, hid (by rw [HN3.out]; exact keep_heap HT.out B3.out), hid (HB.out.trans (B3.out.mono hwz))⟩
      case measure => simp [intOf]; omega
    · obtain ⟨z, rfl⟩ : ∃ z : Nat, Z = (z : Int) := ⟨Z.toNat, by omega⟩
      have hzl : z < l3 := by omega
      have HN3 := hid (HN2.out z rfl)
      have htl := Si.takenK_le s k z
      have hcell := Si.takenL_get s k z (by rw [E3.out]; exact hzl)
      obtain ⟨T, hT⟩ : ∃ T, Si.takenK s k z = T := ⟨_, rfl⟩
      rw [hT] at HN3 htl hcell
      have HCE := hid hcell
      have z0 : (0 : Int) ≤ (z : Int) := by omega
      have z1 : (z : Int) < (l3 : Int) := by omega
      clear hT hcell hz0
      go_wp2_with fail
      go_at_call 100; refine (HX.out _ C HVA.out).mono ?_; rintro e w3 ⟨rfl, b3⟩
      rw [HZ.out]
      have B3 := hid (BA.out.trans (b3.mono (by simp)))
      clear b3
      have hg3 := keep_heap HT.out B3.out
      have g0 : w3.cell? ⟨w.heap.size + 1, z, none⟩ = some (.int .i64 T) := cell_of_heap hg3 z (by
       have := HCE.out
       simp only [ints, List.getElem?_toArray, List.getElem?_map, this]; rfl)
      have g1 : w3.frozen? ⟨w.heap.size + 1, z, none⟩ = false := free_of_heap hg3 z
      have HG3 := hid hg3
      clear hg3
      go_wp2_with fail
      go_roundw
      case rel =>
       refine ⟨k + 1, by omega, by go_num, hid ?_, hid ((HB.out.trans (B3.out.mono hwz)).setCell (by show w1.heap.size ≤ w.heap.size + 1; exact ls1) _)⟩
       rw [HN3.out]
       have := set_heap HG3.out z (.int .i64 ((T : Int) + 1))
       rw [ints_set] at this
       exact this
      case measure => simp [intOf]; omega
  · obtain rfl : k = l5 := by omega
    have r5 : wr.cell? ⟨w.heap.size, 5, none⟩ = some (.slice a3 l3 c3) := (HB.out.cell (p := ⟨w.heap.size, 5, none⟩) s1).trans p5
    have lw : w.heap.size < wr.heap.size := by omega
    obtain ⟨wo, rfl⟩ : ∃ wo : World, wo = wr := ⟨_, rfl⟩
    have H1 : Hid (wo.ownsRow wo.heap.size 3 1 (.slice none 0 0) 0 (ints ((List.range 0).map (Si.capOf s)))) := hid (World.ownsRow_nil ..)
    have lgo : w.heap.size + 1 < wo.heap.size := heap_lt HT.out
    go_wp2_with fail
    go_loopw [37, 7] (fun iv vv wr => ∃ i : Nat, i ≤ l3 ∧ iv = .int .i64 i ∧ Hid (wr.ownsRow wo.heap.size 3 1 vv i (ints ((List.range i).map (Si.capOf s)))) ∧ Hid (Below wo.heap.size wo wr)) (fun iv _ _ => l3 - (intOf iv).toNat)
    case atStart => exact ⟨0, by omega, rfl, H1, hid (Below.refl _ _)⟩
    case round =>
     obtain ⟨i, hi, rfl, HO, HBR⟩ := hrel
     obtain ⟨vv, rfl⟩ : ∃ v, v = u7 := ⟨_, rfl⟩
     by_cases hil : i < l3
     · have hiu : i < s.zones.length := by rw [E3.out]; exact hil
       obtain ⟨zb, zo, u1, u2, e1, hzb, hu1, hu2, q0, q1, q2, q3, q4⟩ := ((HV.out.zn.keep BT.out).keep HBR.out).cell i hiu
       subst e1
       obtain ⟨z1, d1, rfl, hd1⟩ := hu1.form
       obtain ⟨z2, d2, rfl, -⟩ := two_form hu2
       have hkp := HK.out.zk _ (List.getElem_mem hiu)
       have hcl := (HK.out.zs _ (List.getElem_mem hiu)).2
       have hcap := Si.capOf_eq hiu
       have htl := Si.takenK_le s k i
       have htk := Si.takenK_all s i
       rw [E5.out] at htk
       rw [← htk] at hcap
       have hcell := Si.takenL_get s k i hiu
       obtain ⟨T, hT⟩ : ∃ T, Si.takenK s k i = T := ⟨_, rfl⟩
       rw [hT] at hcap htl hcell
       obtain ⟨Y1, hY1⟩ : ∃ n, s.zones[i].cells.length = n := ⟨_, rfl⟩
       obtain ⟨KP, hKP⟩ : ∃ n, s.zones[i].keep = n := ⟨_, rfl⟩
       obtain ⟨Y2, hY2⟩ : ∃ n, s.zones[i].shut.length = n := ⟨_, rfl⟩
       rw [hY1] at q1 hcl hcap
       rw [hKP] at q3 hkp hcap
       rw [hY2] at q4
       have g0 : wr.cell? ⟨w.heap.size + 1, i, none⟩ = some (.int .i64 T) := (HBR.out.cell (p := ⟨w.heap.size + 1, i, none⟩) lgo).trans (cell_of_heap HT.out i (by
        simp only [ints, List.getElem?_toArray, List.getElem?_map, hcell]; rfl))
       have i0 : (0 : Int) ≤ (i : Int) := by omega
       have i9 : (i : Int) < (l3 : Int) := by omega
       obtain ⟨NM, hNM⟩ : ∃ C, s.zones[i].name = C := ⟨_, rfl⟩
       obtain ⟨SP, hSP⟩ : ∃ C, s.zones[i].speed = C := ⟨_, rfl⟩
       rw [hNM] at q0
       rw [hSP] at q2
       have HCAP := hid hcap
       have HCS : Hid (ints ((List.range (i + 1)).map (Si.capOf s)) = ints ((List.range i).map (Si.capOf s)) ++ [.int .i64 (Si.capOf s i)]) := hid (by rw [List.range_succ, List.map_append]; simp [ints])
       obtain ⟨oa, oc, rfl, -⟩ := own_slice HO.out
       have hwr := HBR.out.size
       obtain ⟨hk0, hk1⟩ := hkp
       have hw1 : IntKind.i64.wrap ((Y1 : Int) - (T : Int)) = (Y1 : Int) - (T : Int) := IntWalk.i64_in _ (by omega)
       have hw2 : IntKind.i64.wrap ((Y1 : Int) - (T : Int) - KP) = (Y1 : Int) - (T : Int) - KP := IntWalk.i64_in _ (by omega)
       clear hu1 hu2 hcap hcell hT hY1 hKP hY2 hNM hSP hd1 htk
       have OW : Hid (∀ V : Int, ((wr.alloc (.cells #[.string ⟨NM.toArray⟩, .slice z1 Y1 d1, .int .i64 SP, .int .i64 KP, .slice z2 Y2 d2] 80)).alloc (.cells #[.int .i64 V] 3)).drew.ownsRow wo.heap.size 3 1 (.slice oa i oc) i (ints (List.map (Si.capOf s) (List.range i)))) := hid (fun V => (World.ownsRow.alloc (World.ownsRow.alloc HO.out _) _).drew)
       have BW : Hid (∀ V : Int, Below wo.heap.size wr ((wr.alloc (.cells #[.string ⟨NM.toArray⟩, .slice z1 Y1 d1, .int .i64 SP, .int .i64 KP, .slice z2 Y2 d2] 80)).alloc (.cells #[.int .i64 V] 3)).drew) := hid (fun V => (((Below.refl _ wr).alloc hwr _).alloc (by simp; omega) _).drew)
       have hzh : ∀ V : Int, ((wr.alloc (.cells #[.string ⟨NM.toArray⟩, .slice z1 Y1 d1, .int .i64 SP, .int .i64 KP, .slice z2 Y2 d2] 80)).alloc (.cells #[.int .i64 V] 3)).drew.heap[wr.heap.size]? = some (.cells #[.string ⟨NM.toArray⟩, .slice z1 Y1 d1, .int .i64 SP, .int .i64 KP, .slice z2 Y2 d2] 80) := fun V => (heap_alloc_old _ _ (by simp)).trans (heap_alloc_new _ _)
       have Z1 : Hid (∀ V : Int, ((wr.alloc (.cells #[.string ⟨NM.toArray⟩, .slice z1 Y1 d1, .int .i64 SP, .int .i64 KP, .slice z2 Y2 d2] 80)).alloc (.cells #[.int .i64 V] 3)).drew.cell? ⟨wr.heap.size, 1, none⟩ = some (.slice z1 Y1 d1)) := hid (fun V => cell_of_heap (hzh V) 1 rfl)
       have Z2 : Hid (∀ V : Int, ((wr.alloc (.cells #[.string ⟨NM.toArray⟩, .slice z1 Y1 d1, .int .i64 SP, .int .i64 KP, .slice z2 Y2 d2] 80)).alloc (.cells #[.int .i64 V] 3)).drew.cell? ⟨wr.heap.size, 3, none⟩ = some (.int .i64 KP)) := hid (fun V => cell_of_heap (hzh V) 3 rfl)
       have Z3 : Hid (∀ V : Int, ((wr.alloc (.cells #[.string ⟨NM.toArray⟩, .slice z1 Y1 d1, .int .i64 SP, .int .i64 KP, .slice z2 Y2 d2] 80)).alloc (.cells #[.int .i64 V] 3)).drew.cell? ⟨w.heap.size + 1, i, none⟩ = some (.int .i64 T)) := hid (fun V => ((((Below.refl wr.heap.size wr).alloc (Nat.le_refl _) (.cells #[.string ⟨NM.toArray⟩, .slice z1 Y1 d1, .int .i64 SP, .int .i64 KP, .slice z2 Y2 d2] 80)).alloc (by simp) (.cells #[.int .i64 V] 3)).drew.cell (p := ⟨w.heap.size + 1, i, none⟩) (by show w.heap.size + 1 < wr.heap.size; omega)).trans g0)
       have ZN : Hid (∀ k : Nat, k < wo.heap.size ∨ k = wr.heap.size → some k ≠ (Value.slice oa i oc).ownBlock) := hid (fun k hk e => by
        have := World.ownsRow.lt HO.out k e.symm
        omega)
       clear hzh
       go_wp2_with fail
       go_region_held3 (fun w' => w'.cell? ⟨wr.heap.size, 1, none⟩ = some (.slice z1 Y1 d1) ∧ w'.cell? ⟨wr.heap.size, 3, none⟩ = some (.int .i64 KP) ∧ w'.cell? ⟨w.heap.size + 1, i, none⟩ = some (.int .i64 T)) (go_keep)
        ((refine step_app_int (by rfl) _ _ (by rfl) wo.heap.size (.slice oa i oc) i (ints (List.map (Si.capOf s) (List.range i))) (by rfl) (by exact OW.out _) (wr.heap.size + 1) 1 (max ((Y1 : Int) - (T : Int) - KP) 0) (by rfl) (by exact heap_two3 wr _ _) (by omega) (by simp; omega) ?_; intro av cv w5 ho5 hg5; have hb5 : Below wo.heap.size wr w5 := Below.trans (by exact BW.out _) (below_own (by exact OW.out _) hg5 (Nat.le_refl _) (by simp; omega)); have m1 := hg5.cell (by exact Z1.out _) (by exact ZN.out wr.heap.size (by omega)); have m2 := hg5.cell (by exact Z2.out _) (by exact ZN.out wr.heap.size (by omega)); have m3 := hg5.cell (by exact Z3.out _) (by exact ZN.out (w.heap.size + 1) (by omega)); have HO5 := hid ho5; have HB5 := hid hb5; clear ho5 hg5 hb5))
       all_goals
        go_wp2_with fail
        go_roundw
        case rel =>
         refine ⟨i + 1, by omega, by go_num, hid ?_, hid (HBR.out.trans HB5.out)⟩
         rw [HCS.out, HCAP.out]
         exact HO5.out
        case measure => simp [intOf]; omega
     · obtain rfl : i = l3 := by omega
       go_wp2_with fail
       go_ret
       have hO : wr.ownsRow wo.heap.size 3 1 vv i (ints (Si.capsL s)) := by rw [HC0.out]; exact HO.out
       refine ⟨_, rfl, Sl.of_own hO (own_max hO), own_mono hO (by omega), BT.out.trans (HBR.out.mono (by omega))⟩
theorem Tryz.tranInfo : (Tryz.prog.info? 43).map (fun i => (i.zero, i.size, i.bytes)) = some (some (.agg #[.slice none 0 0, .slice none 0 0]), 2, 48) := by kernel_rfl
def one (g : Nat) : Value := .slice (some ⟨g, 0, none⟩) 1 1
def tranRows (gs : List (Nat × Nat)) : List (List Value) := gs.map fun g => [one g.1, one g.2]
def pairT (p : Nat × Nat) : List Int × List Int := ([(p.2 : Int)], [(p.1 : Int)])
def TrO (w : World) (base : Nat) (v : Value) (l : List (Nat × Nat)) : Prop := ∃ gs : List (Nat × Nat), gs.length = l.length ∧ w.ownsRow base 43 2 v l.length (tranRows gs).flatten ∧
 ∀ i (h1 : i < l.length) (h2 : i < gs.length), w.heap[gs[i].1]? = some (.cells #[.int .i64 (l[i].2 : Int)] 3 (0, 0)) ∧ w.heap[gs[i].2]? = some (.cells #[.int .i64 (l[i].1 : Int)] 3 (0, 0))
theorem TrO.nil (w : World) (base : Nat) : TrO w base (.slice none 0 0) [] := ⟨[], rfl, World.ownsRow_nil .., fun i h => by simp at h⟩
theorem TrO.below {w w' : World} {base : Nat} {v : Value} {l : List (Nat × Nat)} (h : TrO w base v l) (hb : Below w.heap.size w w') : TrO w' base v l := by
 obtain ⟨gs, a, b, c⟩ := h
 refine ⟨gs, a, ?_, fun i k1 k2 => ⟨keep_heap (c i k1 k2).1 hb, keep_heap (c i k1 k2).2 hb⟩⟩
 refine ⟨b.1, ?_⟩
 rcases b.2 with h | ⟨g, cap, cur, rfl, h1, h2, h3⟩
 · exact .inl h
 · exact .inr ⟨g, cap, cur, rfl, h1, keep_heap h2 hb, h3⟩
theorem TrO.form {w : World} {base : Nat} {v : Value} {l : List (Nat × Nat)} (h : TrO w base v l) : ∃ a cap, v = .slice a l.length cap ∧ l.length ≤ 9223372036854775807 := by
 obtain ⟨gs, -, b, -⟩ := h
 obtain ⟨a, c, rfl, h1⟩ := own_slice b
 exact ⟨a, c, rfl, h1⟩
theorem TrO.own {w : World} {base : Nat} {v : Value} {l : List (Nat × Nat)} (h : TrO w base v l) : ∀ k, v.ownBlock = some k → base ≤ k ∧ k < w.heap.size := by
 obtain ⟨gs, -, b, -⟩ := h
 exact b.lt
theorem one_is {w : World} {g : Nat} {x : Int} (h : w.heap[g]? = some (.cells #[.int .i64 x] 3 (0, 0))) : Is w (one g) [x] :=
 ⟨some ⟨g, 0, none⟩, 1, rfl, by show 1 ≤ maxLen; unfold maxLen; omega, by simp, fun i hi => ⟨g, 0, rfl, by
  have h0 : i = 0 := by simp [ints] at hi; omega
  subst h0
  exact cell_of_heap h 0 rfl⟩⟩
theorem TrO.tr {w : World} {base : Nat} {v : Value} {l : List (Nat × Nat)} (h : TrO w base v l) : Tr w v (l.map pairT) := by
 obtain ⟨gs, a, b, c⟩ := h
 refine ⟨(l.map pairT).zip (gs.map fun g => (one g.1, one g.2)), ?_, ?_, ?_⟩
 · rw [List.map_fst_zip]; simp [a]
 · have e : ((l.map pairT).zip (gs.map fun g => (one g.1, one g.2))).map (fun x => [x.2.1, x.2.2]) = tranRows gs := by
    have : ((l.map pairT).zip (gs.map fun g => (one g.1, one g.2))).map (·.2) = gs.map fun g => (one g.1, one g.2) := List.map_snd_zip (by simp [a])
    rw [show (fun x : (List Int × List Int) × Value × Value => [x.2.1, x.2.2]) = (fun y : Value × Value => [y.1, y.2]) ∘ (·.2) by rfl, ← List.map_map, this, List.map_map]; rfl
   rw [e]
   exact Rw.of_own b (by simp [tranRows, a]) (fun r hr => by
    simp only [tranRows, List.mem_map] at hr
    obtain ⟨e, -, rfl⟩ := hr
    rfl) (by omega)
 · intro x hx
   obtain ⟨i, hi, rfl⟩ := List.getElem_of_mem hx
   have h1 : i < l.length := by simp at hi; omega
   have h2 : i < gs.length := by omega
   obtain ⟨c1, c2⟩ := c i h1 h2
   rw [List.getElem_zip, List.getElem_map, List.getElem_map]
   exact ⟨one_is c1, one_is c2⟩
theorem wpList_app_tran {w : World} {ops : Array Oper} {rest : List Oper} {o : Oper} {a : Act} {Q : Exit → Act → World → Prop} (hgd : o.guard = none) (s x : Operand)
 (ho : o.op = .call { callee := .builtin .append, args := #[s, x], argTypes := #[33, 33] })
 (base : Nat) (v : Value) (n : Nat) (l : List (Nat × Nat)) (hn : l.length = n) (hs : a.eval s = v) (hT : TrO w base v l)
 (g c g1 g2 : Nat) (p : Nat × Nat) (hx : a.eval x = .slice (some ⟨g, 0, none⟩) 1 c) (hg : w.heap[g]? = some (.cells #[one g1, one g2] 43 (0, 0)))
 (hg1 : w.heap[g1]? = some (.cells #[.int .i64 (p.2 : Int)] 3 (0, 0))) (hg2 : w.heap[g2]? = some (.cells #[.int .i64 (p.1 : Int)] 3 (0, 0)))
 (hsz : n + 1 ≤ 1000000000) (hbase : base ≤ w.heap.size)
 (h : ∀ a' c' w', TrO w' base (.slice a' (n + 1) c') (l ++ [p]) → GT 43 w w' → Below base w w' → wpList Tryz.prog ops Q rest (a.put o.dst (.slice a' (n + 1) c')) w') : wpList Tryz.prog ops Q (o :: rest) a w := by
 subst hn
 obtain ⟨i, hi, hz, hsize, hby⟩ := info_parts Tryz.tranInfo
 obtain ⟨gs, hgl, hown, hin⟩ := hT
 refine wpList_append_own w hgd s x _ ho base 43 i _ 2 48 Tryz.underlying33 hi hz hsize hby rfl (by decide) v l.length _ hs hown ⟨g, 0, none⟩ 1 c [one g1, one g2] hx rfl ?_ ?_ (by unfold maxLen; omega) (by omega) hbase ?_
 · intro j u hj
   rw [Addr.add_lit]
   have h1 := (List.getElem?_eq_some_iff.1 hj).1
   have h2 : j = 0 ∨ j = 1 := by simp at h1; omega
   rcases h2 with rfl | rfl
   · simp at hj; subst hj; exact cell_of_heap hg 0 rfl
   · simp at hj; subst hj; exact cell_of_heap hg 1 rfl
 · intro u hu
   simp at hu
   rcases hu with rfl | rfl <;> rfl
 · intro v' w' h2 h3 _
   obtain ⟨a', c', rfl, -⟩ := own_slice h2
   have hgt := GT.of_own hown h3
   refine h a' c' w' ⟨gs ++ [(g1, g2)], by simp [hgl], ?_, fun i k1 k2 => ?_⟩ hgt (below_own hown h3 (Nat.le_refl _) hbase)
   · rw [List.length_append, show (tranRows (gs ++ [(g1, g2)])).flatten = (tranRows gs).flatten ++ [one g1, one g2] by simp [tranRows]]
     exact h2
   · by_cases hi2 : i < l.length
     · rw [List.getElem_append_left (by omega), List.getElem_append_left hi2]
       exact ⟨hgt.heap (hin i hi2 (by omega)).1 (by decide), hgt.heap (hin i hi2 (by omega)).2 (by decide)⟩
     · have e : i = l.length := by simp at k1; omega
       subst e
       rw [List.getElem_append_right (by omega), List.getElem_append_right (by omega)]
       simp only [hgl, Nat.sub_self, List.getElem_singleton]
       exact ⟨hgt.heap hg1 (by decide), hgt.heap hg2 (by decide)⟩
def pairsTo (s : Si.Site) (a : Nat) : List (Nat × Nat) := (List.range a).flatMap fun a => (Si.linksZ s a).map fun b : Nat => (a, b)
theorem pairs_net (s : Si.Site) : (pairsTo s s.zones.length).map pairT = Si.netT s := by
 unfold pairsTo Si.netT
 rw [List.map_flatMap]
 congr 1
 funext a
 rw [List.map_map]; rfl
theorem pairs_succ (s : Si.Site) (a : Nat) : pairsTo s (a + 1) = pairsTo s a ++ (Si.linksZ s a).map fun b : Nat => (a, b) := by
 unfold pairsTo
 rw [List.range_succ, List.flatMap_append]; simp
theorem linksZ_len (s : Si.Site) (a : Nat) : (Si.linksZ s a).length ≤ s.zones.length := by
 have := List.length_filter_le (Si.linked s a) (List.range s.zones.length)
 rwa [List.length_range] at this
theorem pairs_len (s : Si.Site) (h : s.zones.length ≤ 64) : ∀ a, a ≤ 64 → (pairsTo s a).length ≤ a * 64
 | 0, _ => by simp [pairsTo]
 | a + 1, ha => by
  rw [pairs_succ, List.length_append, List.length_map]
  have := pairs_len s h a (by omega)
  have := linksZ_len s a
  omega
def CellsN (N : Nat) (w w' : World) : Prop := w.heap.size ≤ w'.heap.size ∧ ∀ b o, b < w.heap.size → ¬ (b = N ∧ o = 1) → w'.cell? ⟨b, o, none⟩ = w.cell? ⟨b, o, none⟩
theorem CellsN.refl (N : Nat) (w : World) : CellsN N w w := ⟨Nat.le_refl _, fun _ _ _ _ => rfl⟩
theorem CellsN.below {N : Nat} {w w' w'' : World} (h : CellsN N w w') (hb : Below w.heap.size w' w'') : CellsN N w w'' :=
 ⟨Nat.le_trans h.1 hb.size, fun b o hb2 hn => (hb.cell (p := ⟨b, o, none⟩) hb2).trans (h.2 b o hb2 hn)⟩
theorem CellsN.set {N : Nat} {w w' : World} (h : CellsN N w w') (v : Value) : CellsN N w (w'.setCell ⟨N, 1, none⟩ v) := by
 refine ⟨by simpa [World.setCell] using h.1, fun b o hb hn => ?_⟩
 rw [← h.2 b o hb hn]
 by_cases hbN : b = N
 · subst hbN
   have ho : o ≠ 1 := fun e => hn ⟨rfl, e⟩
   unfold World.cell?
   cases hh : w'.heap[b]? with
   | none =>
    have : (w'.setCell ⟨b, 1, none⟩ v).heap[b]? = none := by
     rw [Array.getElem?_eq_none_iff] at hh ⊢
     simpa [World.setCell] using hh
    dsimp only
    rw [this]
   | some ob =>
    dsimp only
    simp only [World.setCell, Array.getElem?_modify, if_true, hh]
    cases ob <;> simp [Ne.symm ho]
 · unfold World.cell?
   dsimp only
   rw [heap_setCell_other _ _ b _ hbN]
theorem Is.keepN {N : Nat} {w w' : World} {v x : Value} {l : List Int} (h : Is w v l) (hx : w.cell? ⟨N, 1, none⟩ = some x) (hi : ∀ k, x ≠ .int .i64 k) (hc : CellsN N w w') : Is w' v l := by
 obtain ⟨a, cap, h1, h2, h3, h4⟩ := h
 refine ⟨a, cap, h1, h2, h3, fun i hi2 => ?_⟩
 obtain ⟨b, off, h5, h6⟩ := h4 i hi2
 refine ⟨b, off, h5, ?_⟩
 rw [hc.2 b (off + i) (cell_block_lt h6) (fun e => ?_), h6]
 obtain ⟨rfl, e2⟩ := e
 rw [e2, hx] at h6
 injection h6 with h6
 exact hi (l[i]'(by simpa [ints] using hi2)) (by rw [h6]; simp [ints])
theorem heap_set_type {w : World} {N k : Nat} {cs ds : Array Value} {t t' : TypeId} {fr f : Nat × Nat} (hN : w.heap[N]? = some (.cells cs t fr)) (hk : w.heap[k]? = some (.cells ds t' f)) (hne : t' ≠ t) (i : Nat) (x : Value) : (w.setCell ⟨N, i, none⟩ x).heap[k]? = some (.cells ds t' f) := by
 rw [heap_setCell_other _ _ k _ (fun e => ?_), hk]
 subst e
 rw [hN] at hk
 injection hk with hk; injection hk with _ hk
 exact hne hk.symm
theorem own_set {w : World} {base N : Nat} {e t : TypeId} {sz n : Nat} {v : Value} {xs : List Value} {cs : Array Value} {fr : Nat × Nat} (h : w.ownsRow base e sz v n xs) (hN : w.heap[N]? = some (.cells cs t fr)) (hne : e ≠ t) (i : Nat) (x : Value) : (w.setCell ⟨N, i, none⟩ x).ownsRow base e sz v n xs := by
 refine ⟨h.1, ?_⟩
 rcases h.2 with h | ⟨g, cap, cur, rfl, h1, h2, h3⟩
 · exact .inl h
 · exact .inr ⟨g, cap, cur, rfl, h1, heap_set_type hN h2 hne i x, h3⟩
theorem TrO.set {w : World} {base N : Nat} {v x : Value} {l : List (Nat × Nat)} {cs : Array Value} {t : TypeId} {fr : Nat × Nat} (h : TrO w base v l) (hN : w.heap[N]? = some (.cells cs t fr)) (h1 : 43 ≠ t) (h2 : 3 ≠ t) (i : Nat) : TrO (w.setCell ⟨N, i, none⟩ x) base v l := by
 obtain ⟨gs, a, b, c⟩ := h
 exact ⟨gs, a, own_set b hN h1 i x, fun j k1 k2 => ⟨heap_set_type hN (c j k1 k2).1 h2 i x, heap_set_type hN (c j k1 k2).2 h2 i x⟩⟩
theorem TrO.setN {w : World} {base N : Nat} {v x : Value} {l : List (Nat × Nat)} {cs : Array Value} {fr : Nat × Nat} (h : TrO w base v l) (hN : w.heap[N]? = some (.cells cs 35 fr)) (i : Nat) : TrO (w.setCell ⟨N, i, none⟩ x) base v l := h.set hN (by decide) (by decide) i
theorem TrO.mono {w : World} {base base' : Nat} {v : Value} {l : List (Nat × Nat)} (h : TrO w base v l) (hb : base' ≤ base) : TrO w base' v l := by
 obtain ⟨gs, a, b, c⟩ := h
 exact ⟨gs, a, own_mono b hb, c⟩
theorem Res.set {w : World} {base N : Nat} {v x : Value} {fs : List Nat} {cs : Array Value} {t : TypeId} {fr : Nat × Nat} (h : Res w base v fs) (hN : w.heap[N]? = some (.cells cs t fr)) (h1 : 22 ≠ t) (h2 : 3 ≠ t) (i : Nat) : Res (w.setCell ⟨N, i, none⟩ x) base v fs := by
 obtain ⟨us, a, b, c⟩ := h
 exact ⟨us, a, own_set b hN h1 i x, fun j k1 k2 => own_set (c j k1 k2) hN h2 i x⟩
theorem Net_any (s : Si.Site) (kv ov zv av sv rv : Value) (w : World) (h : SiV w kv ov zv av sv rv s) (hk : Si.Ok s) :
 Calls Tryz.prog 15 #[siV s kv ov zv av sv rv] w fun e w' => ∃ v, e = .returned (.agg #[.int .i64 s.zones.length, v]) ∧ TrO w' w.heap.size v (pairsTo s s.zones.length) ∧ Below w.heap.size w w' := by
 obtain ⟨a1, c1, a2, c2, a3, c3, a4, c4, a5, c5, a6, c6, rfl, rfl, rfl, rfl, rfl, rfl, m1, m2, m3, m4, m5, m6⟩ := h.open
 have hzn := hk.zn
 have HLK := hid (fun W hV => Links_any s (.slice a1 s.floor.kind.length c1) (.slice a2 s.floor.out.length c2) (.slice a3 s.zones.length c3) (.slice a4 s.aparts.length c4) (.slice a5 s.shelves.length c5) (.slice a6 s.robots.length c6) W hV hk)
 have HPL : Hid (∀ a, a ≤ 64 → (pairsTo s a).length ≤ a * 64) := hid (pairs_len s hzn)
 have HLG : Hid (∀ a (ha : a < (Si.linksL s).length), (Si.linksL s)[a] = Si.nn (Si.linksZ s a)) := hid (fun a ha => Si.linksL_get s a (by rw [Si.linksL_len] at ha; exact ha))
 have HLL := hid (Si.linksL_len s)
 unfold siV at HLK ⊢
 obtain ⟨l1, e1⟩ : ∃ n, s.floor.kind.length = n := ⟨_, rfl⟩
 obtain ⟨l2, e2⟩ : ∃ n, s.floor.out.length = n := ⟨_, rfl⟩
 obtain ⟨l3, e3⟩ : ∃ n, s.zones.length = n := ⟨_, rfl⟩
 obtain ⟨l4, e4⟩ : ∃ n, s.aparts.length = n := ⟨_, rfl⟩
 obtain ⟨l5, e5⟩ : ∃ n, s.shelves.length = n := ⟨_, rfl⟩
 obtain ⟨l6, e6⟩ : ∃ n, s.robots.length = n := ⟨_, rfl⟩
 rw [e1, e2, e3, e4, e5, e6] at h HLK
 rw [e1, e2, e3, e4, e5, e6]
 rw [e3] at m3 hzn HLL
 have HV := hid h
 have HE3 := hid e3
 clear h hk e1 e2 e3 e4 e5 e6
 go_enter Tryz.func15, Tryz.ntmps15
 go_wp2_with fail
 go_at_call 21; refine (HLK.out _ (HV.out.keep ?c1)).mono ?_
 case c1 => exact Below.al3 (Nat.le_refl _) _ _ _
 rintro e w1 ⟨g, n, rfl, hn, hll, hb1⟩
 subst hn
 have HN1 : Hid (w1.heap[w.heap.size + 2]? = some (.cells #[.int .i64 n, .slice none 0 0] 35 (0, 0))) := hid (keep_heap (heap_thr3 w _ _ _) hb1)
 have HR1 : Hid (w1.heap[w.heap.size + 1]? = some (.cells #[.int .i64 0, .slice none 0 0] 35 (0, 0))) := hid (keep_heap (heap_old (heap_two3 w _ _)) hb1)
 have B1 : Hid (Below w.heap.size w w1) := hid ((Below.al3 (Nat.le_refl _) _ _ _).trans (hb1.mono (by simp; omega)))
 have hs1 : w.heap.size + 3 ≤ w1.heap.size := by have := hb1.size; simpa [Nat.add_assoc] using this
 have HLW := hid hll
 clear hll hb1
 have T0 : Hid (TrO w1 w1.heap.size (.slice none 0 0) (pairsTo s 0)) := hid (TrO.nil ..)
 go_wp2_with fail
 go_loopw [15] (fun iv wr => ∃ (a : Nat) (v : Value), a ≤ n ∧ iv = .int .i64 a ∧ Hid (wr.heap[w.heap.size + 2]? = some (.cells #[.int .i64 n, v] 35 (0, 0))) ∧ Hid (TrO wr w1.heap.size v (pairsTo s a)) ∧ Hid (Below w.heap.size w wr) ∧ Hid (CellsN (w.heap.size + 2) w1 wr) ∧ Hid (wr.heap[w.heap.size + 1]? = some (.cells #[.int .i64 0, .slice none 0 0] 35 (0, 0)))) (fun iv _ => n - (intOf iv).toNat)
 case atStart => exact ⟨0, _, by omega, rfl, HN1, T0, B1, hid (CellsN.refl _ _), HR1⟩
 case round =>
  obtain ⟨a, v, ha, rfl, HNB, HT, HB, HC, HRB⟩ := hrel
  by_cases han : a < n
  · have hal : a < (Si.linksL s).length := by rw [HLL.out]; exact han
    obtain ⟨b, off, u, e1, hcu, hiu⟩ := HLW.out.cell a hal
    injection e1 with e1; injection e1 with e1 e2; subst e1 e2
    rw [HLG.out a hal] at hiu
    have hgN : g ≠ w.heap.size + 2 := by
     intro e
     obtain ⟨b, off, u0, e1, hc0, hi0⟩ := HLW.out.cell 0 (by rw [HLL.out]; omega)
     injection e1 with e1; injection e1 with e1 e2; subst e1 e2
     rw [e, cell_of_heap HN1.out 0 rfl] at hc0
     obtain ⟨z1, z2, rfl, -⟩ := hi0.form
     injection hc0 with hc0; cases hc0
    have hcu2 : wr.cell? ⟨g, a, none⟩ = some u := by
     rw [HC.out.2 g a (by have := cell_block_lt hcu; simpa using this) (fun e => hgN e.1)]
     simpa using hcu
    have hiu2 := hiu
    obtain ⟨q, hq⟩ : ∃ q, Si.linksZ s a = q := ⟨_, rfl⟩
    have HPS : Hid (pairsTo s (a + 1) = pairsTo s a ++ q.map fun b : Nat => (a, b)) := hid (by rw [pairs_succ, hq])
    have hql := linksZ_len s a
    rw [HE3.out] at hql
    have hpl := HPL.out a (by omega)
    rw [hq] at hiu2 hql
    obtain ⟨ua, uc, hus, -⟩ := hiu2.form
    subst hus
    have HIU := hid hiu2
    rw [nn_len] at hcu2 HIU
    obtain ⟨m, hm⟩ : ∃ m, q.length = m := ⟨_, rfl⟩
    rw [hm] at hcu2 HIU hql
    have HM := hid hm
    have T1 : Hid (TrO wr w1.heap.size v (pairsTo s a ++ (q.take 0).map fun b : Nat => (a, b))) := hid (by simpa using HT.out)
    obtain ⟨P, hP⟩ : ∃ P, pairsTo s a = P := ⟨_, rfl⟩
    rw [hP] at HPS T1 hpl
    have k0 : (0 : Int) ≤ (a : Int) := by omega
    have k1 : (a : Int) < (n : Int) := by omega
    clear hcu hiu hq hm hP hiu2 hgN HT
    go_wp2_with fail
    go_loopw [22] (fun iv wr => ∃ (k : Nat) (v : Value), k ≤ m ∧ iv = .int .i64 k ∧ Hid (wr.heap[w.heap.size + 2]? = some (.cells #[.int .i64 n, v] 35 (0, 0))) ∧ Hid (TrO wr w1.heap.size v (P ++ (q.take k).map fun b : Nat => (a, b))) ∧ Hid (Below w.heap.size w wr) ∧ Hid (CellsN (w.heap.size + 2) w1 wr) ∧ Hid (wr.heap[w.heap.size + 1]? = some (.cells #[.int .i64 0, .slice none 0 0] 35 (0, 0)))) (fun iv _ => m - (intOf iv).toNat)
    case atStart => exact ⟨0, v, by omega, rfl, HNB, T1, HB, HC, HRB⟩
    case round =>
     clear HNB HB HC HRB T1
     obtain ⟨k, v1, hk, rfl, HNB, HT, HB, HC, HRB⟩ := hrel
     by_cases hkm : k < m
     · have hkq : k < q.length := by rw [HM.out]; exact hkm
       have hI := HIU.out.keepN (N := w.heap.size + 2) (cell_of_heap HN1.out 1 rfl) (by intro j hj; cases hj) HC.out
       obtain ⟨b, off, e1, c0⟩ := hI.cell k (by rw [nn_len]; exact hkq)
       subst e1
       obtain ⟨x, hx⟩ : ∃ x, q[k] = x := ⟨_, rfl⟩
       rw [show (Si.nn q)[k]'(by rw [nn_len]; exact hkq) = (x : Int) by simp [Si.nn, hx]] at c0
       have HTK : Hid ((q.take (k + 1)).map (fun b : Nat => (a, b)) = (q.take k).map (fun b : Nat => (a, b)) ++ [(a, x)]) := hid (by rw [List.take_succ_eq_append_getElem hkq, List.map_append, hx]; rfl)
       obtain ⟨va, vc, hvs, -⟩ := HT.out.form
       obtain ⟨L, hL⟩ : ∃ L, (P ++ (q.take k).map fun b : Nat => (a, b)).length = L := ⟨_, rfl⟩
       have hLe : L = P.length + k := by rw [← hL, List.length_append, List.length_map, List.length_take]; omega
       rw [hL] at hvs
       subst hvs
       have HLen := hid hL
       have q0 : (0 : Int) ≤ (k : Int) := by omega
       have q1 : (k : Int) < (m : Int) := by omega
       have d1 := cell_of_heap HNB.out 1 (v := .slice va L vc) rfl
       have hbz := HC.out.1
       have hLb : L + 1 ≤ 1000000000 := by omega
       clear hI hx hL hLe
       go_wp2_with (at_builtin; refine wpList_app_tran rfl (.tmp 27) (.tmp 33) rfl w1.heap.size (.slice va L vc) L _ HLen.out rfl (HT.out.below (Below.al3 (Nat.le_refl _) _ _ _)) (wr.heap.size + 2) 1 wr.heap.size (wr.heap.size + 1) (a, x) rfl (heap_thr3 wr _ _ _) (heap_old (heap_old (heap_alloc_new wr _))) (heap_old (heap_two3 wr _ _)) hLb ?c1 ?_)
       case c1 => simp; omega
       intro av cv w4 ht4 _ hb4
       have HT4 := hid ht4
       have hbl : Below w1.heap.size wr w4 := (Below.al3 hbz _ _ _).trans hb4
       have HN4 : Hid (w4.heap[w.heap.size + 2]? = some (.cells #[.int .i64 n, .slice va L vc] 35 (0, 0))) := hid ((hbl.block _ (by omega)).trans HNB.out)
       have HR4 : Hid (w4.heap[w.heap.size + 1]? = some (.cells #[.int .i64 0, .slice none 0 0] 35 (0, 0))) := hid ((hbl.block _ (by omega)).trans HRB.out)
       have HBL := hid hbl
       have z0 := cell_of_heap HN4.out 1 (v := .slice va L vc) rfl
       have z1 := free_of_heap HN4.out 1
       clear ht4 hb4 hbl d1 c0
       go_wp2_with fail
       go_roundw
       case rel =>
        refine ⟨k + 1, .slice av (L + 1) cv, by omega, by go_num, hid (set_heap HN4.out 1 _), hid ?_, hid ((HB.out.trans (HBL.out.mono (by omega))).setCell (by show w.heap.size ≤ w.heap.size + 2; omega) _), hid ((HC.out.below HBL.out).set _), hid ((heap_setCell_other _ _ _ _ (show w.heap.size + 1 ≠ w.heap.size + 2 by omega)).trans HR4.out)⟩
        have h5 := TrO.setN (x := .slice av (L + 1) cv) HT4.out HN4.out 1
        rw [HTK.out, List.map_take, ← List.append_assoc]
        rw [← List.append_assoc] at h5
        exact h5
       case measure => simp [intOf]; omega
     · obtain rfl : k = m := by omega
       have HT2 : Hid (TrO wr w1.heap.size v1 (pairsTo s (a + 1))) := hid (by rw [HPS.out]; have := HT.out; rwa [List.take_of_length_le (by rw [HM.out]; omega)] at this)
       go_wp2_with fail
       go_roundw
       case rel => exact ⟨a + 1, v1, by omega, by go_num, HNB, HT2, HB, HC, HRB⟩
       case measure => simp [intOf]; omega
  · obtain rfl : a = n := by omega
    obtain ⟨va, vc, hvs, -⟩ := HT.out.form
    subst hvs
    have d0 := cell_of_heap HNB.out 0 rfl
    have d1 := cell_of_heap HNB.out 1 rfl
    have r0 := cell_of_heap HRB.out 0 rfl
    have r1 := cell_of_heap HRB.out 1 rfl
    have f0 := free_of_heap HRB.out 0
    have f1 := free_of_heap HRB.out 1
    go_wp2_with fail
    refine bodyPost_ret (v := .agg #[.int .i64 a, .slice va (pairsTo s a).length vc]) (results_cell_row (p := 2) (ty := 35) (by kernel_rfl) _ _ (w.heap.size + 1) 35 #[.int .i64 a, .slice va (pairsTo s a).length vc] (0, 0) _ rfl (set_heap (set_heap HRB.out 0 _) 1 _) Tryz.underlying35 rfl (by kernel_rfl)) rfl ?_
    have h7 := ((HT.out.setN (x := .int .i64 a) HRB.out 0).setN (x := .slice va (pairsTo s a).length vc) (set_heap HRB.out 0 _) 1).mono (base' := w.heap.size) (by omega)
    exact ⟨_, rfl, h7, (HB.out.setCell (by show w.heap.size ≤ w.heap.size + 1; omega) _).setCell (by show w.heap.size ≤ w.heap.size + 1; omega) _⟩
end Go.Proofs.YtfcbcpfnaadpeaaGreatDoor
