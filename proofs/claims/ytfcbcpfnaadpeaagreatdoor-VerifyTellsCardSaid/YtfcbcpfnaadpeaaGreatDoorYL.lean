/- Parts Vo, Vp of this claim, laid one behind the other: walks and the plain laws behind them; each contract states its own conditions. -/
import Derived.Test.YtfcbcpfnaadpeaaGreatDoorYK
namespace Go.Proofs.YtfcbcpfnaadpeaaGreatDoor
set_option maxRecDepth 100000
set_option maxHeartbeats 64000000
set_option linter.unusedSimpArgs false
set_option linter.unusedVariables false
open Go.RowKit Go.Sort
def chkC : Array Value := #[.func (.func 48) #[] #[], .func (.func 49) #[] #[], .func (.func 50) #[] #[], .func (.func 51) #[] #[], .func (.func 52) #[] #[]]
theorem chk_ix0 (w : World) : (Instr.index 85 (.agg #[.func (.func 48) #[] #[], .func (.func 49) #[] #[], .func (.func 50) #[] #[], .func (.func 51) #[] #[], .func (.func 52) #[] #[]]) (.int .i64 0)).run Tryz.prog w = .ok (.func (.func 48) #[] #[]) w := by kernel_rfl
theorem chk_ix1 (w : World) : (Instr.index 85 (.agg #[.func (.func 48) #[] #[], .func (.func 49) #[] #[], .func (.func 50) #[] #[], .func (.func 51) #[] #[], .func (.func 52) #[] #[]]) (.int .i64 1)).run Tryz.prog w = .ok (.func (.func 49) #[] #[]) w := by kernel_rfl
theorem chk_ix2 (w : World) : (Instr.index 85 (.agg #[.func (.func 48) #[] #[], .func (.func 49) #[] #[], .func (.func 50) #[] #[], .func (.func 51) #[] #[], .func (.func 52) #[] #[]]) (.int .i64 2)).run Tryz.prog w = .ok (.func (.func 50) #[] #[]) w := by kernel_rfl
theorem chk_ix3 (w : World) : (Instr.index 85 (.agg #[.func (.func 48) #[] #[], .func (.func 49) #[] #[], .func (.func 50) #[] #[], .func (.func 51) #[] #[], .func (.func 52) #[] #[]]) (.int .i64 3)).run Tryz.prog w = .ok (.func (.func 51) #[] #[]) w := by kernel_rfl
theorem chk_ix4 (w : World) : (Instr.index 85 (.agg #[.func (.func 48) #[] #[], .func (.func 49) #[] #[], .func (.func 50) #[] #[], .func (.func 51) #[] #[], .func (.func 52) #[] #[]]) (.int .i64 4)).run Tryz.prog w = .ok (.func (.func 52) #[] #[]) w := by kernel_rfl
def ChkPost (p : Int) (w : World) (e : Ending) (w' : World) : Prop := e = .returned (.tuple #[.int .i64 p, .int .i64 (Ve.errOf p)]) ∧ Below w.heap.size w w'
theorem Check_any (s : Si.Site) (c : Ve.Cert) (sl : List Nat) (kv ov zv av sv rv tv cv ke se : Value) (w : World) (h : SiV w kv ov zv av sv rv s) (hr : Si.Right s) (hk : Si.Ok s) (hc : CertV w tv cv ke se c) (hsl : Pt.Sips (Si.linked s) s.zones.length sl) :
 Calls Tryz.prog 13 #[siV s kv ov zv av sv rv, .agg (certA c tv cv ke se)] w (ChkPost (Ve.part s sl c) w) := by
 have HBG := hid (fun W (hW : Below w.heap.size w W) => begin_any s kv ov zv av sv rv W (h.keep hW) hr)
 have HCK := hid (fun W (hW : Below w.heap.size w W) => hc.keep hW)
 have HF := hid (fun B g W (hz : ZdV W B g s kv ov zv av sv rv) (hW : Below w.heap.size w W) => vform_any s c kv ov zv av sv rv tv cv ke se B g W hz (hc.keep hW))
 have HNE := hid (fun B g W (hz : ZdV W B g s kv ov zv av sv rv) (hW : Below w.heap.size w W) => vnet_any s c kv ov zv av sv rv tv cv ke se B g W hz hr hk (hc.keep hW))
 have HCA := hid (fun B g W (hz : ZdV W B g s kv ov zv av sv rv) (hW : Below w.heap.size w W) h1 h2 => vcaps_any s c kv ov zv av sv rv tv cv ke se B g W hz hr hk (hc.keep hW) h1 h2)
 have HSI := hid (fun B g W (hz : ZdV W B g s kv ov zv av sv rv) (hW : Below w.heap.size w W) => vsiphons_any s c sl kv ov zv av sv rv tv cv ke se B g W hz hr hk (hc.keep hW) hsl)
 have HSF := hid (fun x W (hW : Below w.heap.size w W) h1 h2 h3 => vsafe_any s c sl x tv cv ke se W hk (hc.keep hW) hsl h1 h2 h3)
 obtain ⟨a1, c1, a2, c2, a3, c3, a4, c4, a5, c5, a6, c6, rfl, rfl, rfl, rfl, rfl, rfl, m1, m2, m3, m4, m5, m6⟩ := h.open
 obtain ⟨ta, tc, rfl, htm⟩ := hc.tr.form
 obtain ⟨ca, cc, rfl, hcm⟩ := hc.ca.form
 obtain ⟨ka, kc, rfl, hkm⟩ := hc.ke.form
 obtain ⟨sa, sc, rfl, hsm⟩ := hc.si.form
 unfold siV certA at *
 obtain ⟨l1, e1⟩ : ∃ n, s.floor.kind.length = n := ⟨_, rfl⟩
 obtain ⟨l2, e2⟩ : ∃ n, s.floor.out.length = n := ⟨_, rfl⟩
 obtain ⟨l3, e3⟩ : ∃ n, s.zones.length = n := ⟨_, rfl⟩
 obtain ⟨l4, e4⟩ : ∃ n, s.aparts.length = n := ⟨_, rfl⟩
 obtain ⟨l5, e5⟩ : ∃ n, s.shelves.length = n := ⟨_, rfl⟩
 obtain ⟨l6, e6⟩ : ∃ n, s.robots.length = n := ⟨_, rfl⟩
 obtain ⟨FW, hFW⟩ : ∃ x, s.floor.w = x := ⟨_, rfl⟩
 obtain ⟨FH, hFH⟩ : ∃ x, s.floor.h = x := ⟨_, rfl⟩
 obtain ⟨FD, hFD⟩ : ∃ x, s.floor.d = x := ⟨_, rfl⟩
 obtain ⟨P0, hP⟩ : ∃ P, c.places = P := ⟨_, rfl⟩
 obtain ⟨R0, hR⟩ : ∃ P, c.robots = P := ⟨_, rfl⟩
 obtain ⟨n1, hn1⟩ : ∃ P, c.trans.length = P := ⟨_, rfl⟩
 obtain ⟨n2, hn2⟩ : ∃ P, c.caps.length = P := ⟨_, rfl⟩
 obtain ⟨n3, hn3⟩ : ∃ P, c.keeps.length = P := ⟨_, rfl⟩
 obtain ⟨n4, hn4⟩ : ∃ P, c.sips.length = P := ⟨_, rfl⟩
 rw [e1, e2, e3, e4, e5, e6, hFW, hFH, hFD] at HBG
 rw [hP, hR, hn1, hn2, hn3, hn4] at HF HNE HCA HSI HSF
 rw [e1, e2, e3, e4, e5, e6] at HF HNE HCA HSI
 rw [hP, hR, hn1, hn2, hn3, hn4, e1, e2, e3, e4, e5, e6, hFW, hFH, hFD]
 have HN2 := hid hn2
 have HN3 := hid hn3
 have HRR := hid hR
 have E3 := hid e3
 clear h hr hk hc hsl m1 m2 m3 m4 m5 m6 htm hcm hkm hsm
 obtain ⟨W, hW⟩ : ∃ W, W = (w.alloc (.cells #[.int .i64 FW, .int .i64 FH, .int .i64 FD, .slice a1 l1 c1, .slice a2 l2 c2, .slice a3 l3 c3, .slice a4 l4 c4, .slice a5 l5 c5, .slice a6 l6 c6] 30)).alloc (.cells #[.int .i64 P0, .slice ta n1 tc, .slice ca n2 cc, .slice ka n3 kc, .int .i64 R0, .slice sa n4 sc] 38) := ⟨_, rfl⟩
 have BW : Hid (Below w.heap.size w W) := hid (by rw [hW]; exact ((Below.refl _ _).alloc (Nat.le_refl _) _).alloc (by simp) _)
 have IS : Hid (W.heap[w.heap.size]? = some (.cells #[.int .i64 FW, .int .i64 FH, .int .i64 FD, .slice a1 l1 c1, .slice a2 l2 c2, .slice a3 l3 c3, .slice a4 l4 c4, .slice a5 l5 c5, .slice a6 l6 c6] 30 (0, 0))) := hid (by rw [hW]; exact heap_two0 _ _ _)
 have IC : Hid (W.heap[w.heap.size + 1]? = some (.cells #[.int .i64 P0, .slice ta n1 tc, .slice ca n2 cc, .slice ka n3 kc, .int .i64 R0, .slice sa n4 sc] 38 (0, 0))) := hid (by rw [hW]; exact heap_two3 _ _ _)
 have HW := hid hW
 have p0 : W.cell? ⟨w.heap.size, 0, none⟩ = some (.int .i64 FW) := cell_of_heap IS.out 0 rfl
 have p1 : W.cell? ⟨w.heap.size, 1, none⟩ = some (.int .i64 FH) := cell_of_heap IS.out 1 rfl
 have p2 : W.cell? ⟨w.heap.size, 2, none⟩ = some (.int .i64 FD) := cell_of_heap IS.out 2 rfl
 have p3 : W.cell? ⟨w.heap.size, 3, none⟩ = some (.slice a1 l1 c1) := cell_of_heap IS.out 3 rfl
 have p4 : W.cell? ⟨w.heap.size, 4, none⟩ = some (.slice a2 l2 c2) := cell_of_heap IS.out 4 rfl
 have p5 : W.cell? ⟨w.heap.size, 5, none⟩ = some (.slice a3 l3 c3) := cell_of_heap IS.out 5 rfl
 have p6 : W.cell? ⟨w.heap.size, 6, none⟩ = some (.slice a4 l4 c4) := cell_of_heap IS.out 6 rfl
 have p7 : W.cell? ⟨w.heap.size, 7, none⟩ = some (.slice a5 l5 c5) := cell_of_heap IS.out 7 rfl
 have p8 : W.cell? ⟨w.heap.size, 8, none⟩ = some (.slice a6 l6 c6) := cell_of_heap IS.out 8 rfl
 have hwW := BW.out.size
 clear hW
 go_enter Tryz.func13, Tryz.ntmps13
 go_upto_region 1 with fail
 rw [← HW.out]
 go_wp2_with fail
 go_at_call 47; refine (HBG.out W BW.out).mono ?_; rintro e w1 ⟨B, g, rfl, hz, b1⟩
 have HZ := hid hz
 have B1 := hid (BW.out.trans (b1.mono hwW))
 have IC1 := hid (keep_heap IC.out b1)
 clear hz b1 p0 p1 p2 p3 p4 p5 p6 p7 p8
 obtain ⟨W5, hW5⟩ : ∃ W, W = (w1.alloc (.cells #[.nilFunc, .nilFunc, .nilFunc, .nilFunc, .nilFunc] 85)).setRow w1.heap.size chkC := ⟨_, rfl⟩
 have B5 : Hid (Below w1.heap.size w1 W5) := hid (by rw [hW5]; exact ((Below.refl _ w1).alloc (Nat.le_refl _) _).trans ⟨rfl, rfl, rfl, by simp, fun k hk => setRow_other _ _ _ _ (by omega)⟩)
 have I5 : Hid (W5.heap[w1.heap.size]? = some (.cells chkC 85 (0, 0))) := hid (by rw [hW5]; exact setRow_heap _ _ _ _ _ _ (heap_alloc_new _ _))
 have HW5 := hid hW5
 have v0 : W5.cell? ⟨w1.heap.size, 0, none⟩ = some (.func (.func 48) #[] #[]) := cell_of_heap I5.out 0 rfl
 have v1 : W5.cell? ⟨w1.heap.size, 1, none⟩ = some (.func (.func 49) #[] #[]) := cell_of_heap I5.out 1 rfl
 have v2 : W5.cell? ⟨w1.heap.size, 2, none⟩ = some (.func (.func 50) #[] #[]) := cell_of_heap I5.out 2 rfl
 have v3 : W5.cell? ⟨w1.heap.size, 3, none⟩ = some (.func (.func 51) #[] #[]) := cell_of_heap I5.out 3 rfl
 have v4 : W5.cell? ⟨w1.heap.size, 4, none⟩ = some (.func (.func 52) #[] #[]) := cell_of_heap I5.out 4 rfl
 have hw1 := B1.out.size
 have HZ5 := hid (HZ.out.below B5.out)
 have BB5 := hid (B1.out.trans (B5.out.mono hw1))
 have IC5 := hid (keep_heap IC1.out B5.out)
 clear hW5
 go_upto_region 3 with (refine wpList_store_row rfl 85 (.tmp 7) (.tmp 12) rfl w1.heap.size chkC rfl rfl 85 _ (heap_alloc_new _ _) (by kernel_rfl) rfl (by kernel_rfl) ?_)
 rw [← HW5.out]
 go_wp2_with fail
 go_loopw [14] (fun iv wr => ∃ i : Int, 0 ≤ i ∧ i ≤ 5 ∧ iv = .int .i64 i ∧ Hid (1 ≤ i → Ve.formB s c = true) ∧ Hid (2 ≤ i → Ve.netB s c = true) ∧ Hid (3 ≤ i → Ve.capsB s c = true) ∧ Hid (4 ≤ i → Ve.sipsB sl c = true) ∧ Hid (5 ≤ i → Ve.safeB s sl = true) ∧ Hid (Below W5.heap.size W5 wr)) (fun iv _ => (5 - intOf iv).toNat)
 case atStart => exact ⟨0, by omega, by omega, rfl, hid (fun h => by omega), hid (fun h => by omega), hid (fun h => by omega), hid (fun h => by omega), hid (fun h => by omega), hid (Below.refl _ _)⟩
 case round =>
  clear v0 v1 v2 v3 v4
  obtain ⟨i, hi0, hi5, rfl, F1, F2, F3, F4, F5, HB⟩ := hrel
  have BR := hid (BB5.out.trans (HB.out.mono BB5.out.size))
  have HZR := hid (HZ5.out.below HB.out)
  have ICR := hid (keep_heap IC5.out HB.out)
  obtain ⟨q0, q1, q2, q3, q4, q5⟩ := cells6 ICR.out
  rcases (by omega : i = 0 ∨ i = 1 ∨ i = 2 ∨ i = 3 ∨ i = 4 ∨ i = 5) with rfl | rfl | rfl | rfl | rfl | rfl
  · have HPT := hid (fun h => Ve.part_form (s := s) (sl := sl) (c := c) h)
    obtain ⟨r, hr⟩ : ∃ r, Ve.formB s c = r := ⟨_, rfl⟩
    have HC := hid (HF.out B g wr HZR.out BR.out)
    rw [hr] at HC HPT
    have HR := hid hr
    clear hr
    have hix := chk_ix0 wr
    go_wp2_with fail
    go_at_call 48; refine HC.out.mono ?_; rintro e w2 ⟨rfl, b2⟩
    clear hix
    have B2 := hid (HB.out.trans (b2.mono HB.out.size))
    have BR2 := hid (BR.out.trans (b2.mono BR.out.size))
    clear b2
    cases r with
    | true =>
     go_wp2_with fail
     go_roundw
     case rel => exact ⟨1, by omega, by omega, by go_num, hid (fun _ => HR.out), hid (fun h => by omega), hid (fun h => by omega), hid (fun h => by omega), hid (fun h => by omega), B2⟩
     case measure => simp [intOf]
    | false =>
     have HP := hid (HPT.out rfl)
     go_wp2_with fail
     go_ret2
     exact ⟨by rw [HP.out]; rfl, BR2.out⟩
  · have HPT := hid (fun h => Ve.part_net (s := s) (sl := sl) (c := c) (F1.out (by omega)) h)
    obtain ⟨r, hr⟩ : ∃ r, Ve.netB s c = r := ⟨_, rfl⟩
    have HC := hid (HNE.out B g wr HZR.out BR.out)
    rw [hr] at HC HPT
    have HR := hid hr
    clear hr
    have hix := chk_ix1 wr
    go_wp2_with fail
    go_at_call 49; refine HC.out.mono ?_; rintro e w2 ⟨rfl, b2⟩
    clear hix
    have B2 := hid (HB.out.trans (b2.mono HB.out.size))
    have BR2 := hid (BR.out.trans (b2.mono BR.out.size))
    clear b2
    cases r with
    | true =>
     go_wp2_with fail
     go_roundw
     case rel => exact ⟨2, by omega, by omega, by go_num, hid (fun _ => F1.out (by omega)), hid (fun _ => HR.out), hid (fun h => by omega), hid (fun h => by omega), hid (fun h => by omega), B2⟩
     case measure => simp [intOf]
    | false =>
     have HP := hid (HPT.out rfl)
     go_wp2_with fail
     go_ret2
     exact ⟨by rw [HP.out]; rfl, BR2.out⟩
  · have HPT := hid (fun h => Ve.part_caps (s := s) (sl := sl) (c := c) (F1.out (by omega)) (F2.out (by omega)) h)
    obtain ⟨A1, A2⟩ : Hid (c.caps.length = s.zones.length) ∧ Hid (c.keeps.length = s.zones.length) := by
     have h9 := F1.out (by omega)
     unfold Ve.formB at h9
     rw [Bool.and_eq_true, Bool.and_eq_true, Bool.and_eq_true, decide_eq_true_eq, decide_eq_true_eq, decide_eq_true_eq, decide_eq_true_eq] at h9
     exact ⟨hid h9.2.1, hid h9.2.2.1⟩
    obtain ⟨r, hr⟩ : ∃ r, Ve.capsB s c = r := ⟨_, rfl⟩
    have HC := hid (HCA.out B g wr HZR.out BR.out ((HN2.out.symm.trans A1.out).trans E3.out) ((HN3.out.symm.trans A2.out).trans E3.out))
    rw [hr] at HC HPT
    have HR := hid hr
    clear hr
    have hix := chk_ix2 wr
    go_wp2_with fail
    go_at_call 50; refine HC.out.mono ?_; rintro e w2 ⟨rfl, b2⟩
    clear hix
    have B2 := hid (HB.out.trans (b2.mono HB.out.size))
    have BR2 := hid (BR.out.trans (b2.mono BR.out.size))
    clear b2
    cases r with
    | true =>
     go_wp2_with fail
     go_roundw
     case rel => exact ⟨3, by omega, by omega, by go_num, hid (fun _ => F1.out (by omega)), hid (fun _ => F2.out (by omega)), hid (fun _ => HR.out), hid (fun h => by omega), hid (fun h => by omega), B2⟩
     case measure => simp [intOf]
    | false =>
     have HP := hid (HPT.out rfl)
     go_wp2_with fail
     go_ret2
     exact ⟨by rw [HP.out]; rfl, BR2.out⟩
  · have HPT := hid (fun h => Ve.part_sips (s := s) (sl := sl) (c := c) (F1.out (by omega)) (F2.out (by omega)) (F3.out (by omega)) h)
    obtain ⟨r, hr⟩ : ∃ r, Ve.sipsB sl c = r := ⟨_, rfl⟩
    have HC := hid (HSI.out B g wr HZR.out BR.out)
    rw [hr] at HC HPT
    have HR := hid hr
    clear hr
    have hix := chk_ix3 wr
    go_wp2_with fail
    go_at_call 51; refine HC.out.mono ?_; rintro e w2 ⟨rfl, b2⟩
    clear hix
    have B2 := hid (HB.out.trans (b2.mono HB.out.size))
    have BR2 := hid (BR.out.trans (b2.mono BR.out.size))
    clear b2
    cases r with
    | true =>
     go_wp2_with fail
     go_roundw
     case rel => exact ⟨4, by omega, by omega, by go_num, hid (fun _ => F1.out (by omega)), hid (fun _ => F2.out (by omega)), hid (fun _ => F3.out (by omega)), hid (fun _ => HR.out), hid (fun h => by omega), B2⟩
     case measure => simp [intOf]
    | false =>
     have HP := hid (HPT.out rfl)
     go_wp2_with fail
     go_ret2
     exact ⟨by rw [HP.out]; rfl, BR2.out⟩
  · have HPT := hid (fun h => Ve.part_safe (s := s) (sl := sl) (c := c) (F1.out (by omega)) (F2.out (by omega)) (F3.out (by omega)) (F4.out (by omega)) h)
    obtain ⟨A1, A2, A3⟩ : Hid (c.caps = Si.capsL s) ∧ Hid (c.sips = Ve.sipL sl) ∧ Hid (c.robots = s.robots.length) := by
     have h7 := F1.out (by omega)
     have h8 := F3.out (by omega)
     have h9 := F4.out (by omega)
     unfold Ve.formB at h7
     unfold Ve.capsB at h8
     unfold Ve.sipsB at h9
     rw [Bool.and_eq_true, Bool.and_eq_true, Bool.and_eq_true, decide_eq_true_eq, decide_eq_true_eq, decide_eq_true_eq, decide_eq_true_eq] at h7
     rw [Bool.and_eq_true, decide_eq_true_eq, decide_eq_true_eq] at h8
     rw [decide_eq_true_eq] at h9
     exact ⟨hid h8.1, hid h9, hid h7.2.2.2⟩
    obtain ⟨r, hr⟩ : ∃ r, Ve.safeB s sl = r := ⟨_, rfl⟩
    have HC := hid (HSF.out (.pointer (some ⟨B, 0, none⟩)) wr BR.out A1.out A2.out (HRR.out.symm.trans A3.out))
    rw [hr] at HC HPT
    have HR := hid hr
    clear hr
    have hix := chk_ix4 wr
    go_wp2_with fail
    go_at_call 52; refine HC.out.mono ?_; rintro e w2 ⟨rfl, b2⟩
    clear hix
    have B2 := hid (HB.out.trans (b2.mono HB.out.size))
    have BR2 := hid (BR.out.trans (b2.mono BR.out.size))
    clear b2
    cases r with
    | true =>
     go_wp2_with fail
     go_roundw
     case rel => exact ⟨5, by omega, by omega, by go_num, hid (fun _ => F1.out (by omega)), hid (fun _ => F2.out (by omega)), hid (fun _ => F3.out (by omega)), hid (fun _ => F4.out (by omega)), hid (fun _ => HR.out), B2⟩
     case measure => simp [intOf]
    | false =>
     have HP := hid (HPT.out rfl)
     go_wp2_with fail
     go_ret2
     exact ⟨by rw [HP.out]; rfl, BR2.out⟩
  · have HP := hid (Ve.part_none (F1.out (by omega)) (F2.out (by omega)) (F3.out (by omega)) (F4.out (by omega)) (F5.out (by omega)))
    go_wp2_with fail
    go_ret2
    exact ⟨by rw [HP.out]; rfl, BR.out⟩
open Go.RowKit Go.Sort
def getsB (s : Si.Site) (a b : Int) : Bool := decide (0 ≤ a) && (decide (a < s.zones.length) && (decide (0 ≤ b) && (decide (b < s.zones.length) && (decide (a ≠ b) && Si.nextZ s a.toNat b.toNat))))
theorem getsB_nat (s : Si.Site) (a b : Nat) (ha : a < s.zones.length) (hb : b < s.zones.length) : getsB s a b = Si.linked s a b := by
 unfold getsB
 rw [decide_eq_true (show (0 : Int) ≤ (a : Int) by omega), decide_eq_true (show (a : Int) < (s.zones.length : Int) by omega), decide_eq_true (show (0 : Int) ≤ (b : Int) by omega), decide_eq_true (show (b : Int) < (s.zones.length : Int) by omega)]
 simp only [Bool.true_and]
 by_cases h : a = b
 · subst h; rw [Ve.linked_self]; simp
 · rw [Ve.linked_ne h, decide_eq_true (show (a : Int) ≠ (b : Int) by omega)]; simp
theorem Ends_any (s : Si.Site) (kv ov zv av sv rv : Value) (w : World) (h : SiV w kv ov zv av sv rv s) (hr : Si.Right s) (hk : Si.Ok s) :
 Calls Tryz.prog 14 #[siV s kv ov zv av sv rv] w (VePost (Si.linked s) s.zones.length w) := by
 have HBG := hid (fun W (hW : Below w.heap.size w W) => begin_any s kv ov zv av sv rv W (h.keep hW) hr)
 have HGE := hid (fun B g W (hz : ZdV W B g s kv ov zv av sv rv) => vends_any s kv ov zv av sv rv B g W hz hr hk)
 have HGX : Hid (s.zones.length = s.zones.length) := hid rfl
 obtain ⟨a1, c1, a2, c2, a3, c3, a4, c4, a5, c5, a6, c6, rfl, rfl, rfl, rfl, rfl, rfl, m1, m2, m3, m4, m5, m6⟩ := h.open
 unfold siV at *
 obtain ⟨l1, e1⟩ : ∃ n, s.floor.kind.length = n := ⟨_, rfl⟩
 obtain ⟨l2, e2⟩ : ∃ n, s.floor.out.length = n := ⟨_, rfl⟩
 obtain ⟨l3, e3⟩ : ∃ n, s.zones.length = n := ⟨_, rfl⟩
 obtain ⟨l4, e4⟩ : ∃ n, s.aparts.length = n := ⟨_, rfl⟩
 obtain ⟨l5, e5⟩ : ∃ n, s.shelves.length = n := ⟨_, rfl⟩
 obtain ⟨l6, e6⟩ : ∃ n, s.robots.length = n := ⟨_, rfl⟩
 obtain ⟨FW, hFW⟩ : ∃ x, s.floor.w = x := ⟨_, rfl⟩
 obtain ⟨FH, hFH⟩ : ∃ x, s.floor.h = x := ⟨_, rfl⟩
 obtain ⟨FD, hFD⟩ : ∃ x, s.floor.d = x := ⟨_, rfl⟩
 rw [e1, e2, e3, e4, e5, e6, hFW, hFH, hFD] at HBG
 rw [e1, e2, e3, e4, e5, e6] at HGE
 rw [e1, e2, e3, e4, e5, e6, hFW, hFH, hFD]
 rw [e3] at m3 HGX
 have E3 := hid e3
 clear h hr hk e1 e2 e3 e4 e5 e6 hFW hFH hFD
 obtain ⟨W, hW⟩ : ∃ W, W = w.alloc (.cells #[.int .i64 FW, .int .i64 FH, .int .i64 FD, .slice a1 l1 c1, .slice a2 l2 c2, .slice a3 l3 c3, .slice a4 l4 c4, .slice a5 l5 c5, .slice a6 l6 c6] 30) := ⟨_, rfl⟩
 have BW : Hid (Below w.heap.size w W) := hid (by rw [hW]; exact (Below.refl _ _).alloc (Nat.le_refl _) _)
 have IS : Hid (W.heap[w.heap.size]? = some (.cells #[.int .i64 FW, .int .i64 FH, .int .i64 FD, .slice a1 l1 c1, .slice a2 l2 c2, .slice a3 l3 c3, .slice a4 l4 c4, .slice a5 l5 c5, .slice a6 l6 c6] 30 (0, 0))) := hid (by rw [hW]; exact heap_alloc_new _ _)
 have HW := hid hW
 have p0 : W.cell? ⟨w.heap.size, 0, none⟩ = some (.int .i64 FW) := cell_of_heap IS.out 0 rfl
 have p1 : W.cell? ⟨w.heap.size, 1, none⟩ = some (.int .i64 FH) := cell_of_heap IS.out 1 rfl
 have p2 : W.cell? ⟨w.heap.size, 2, none⟩ = some (.int .i64 FD) := cell_of_heap IS.out 2 rfl
 have p3 : W.cell? ⟨w.heap.size, 3, none⟩ = some (.slice a1 l1 c1) := cell_of_heap IS.out 3 rfl
 have p4 : W.cell? ⟨w.heap.size, 4, none⟩ = some (.slice a2 l2 c2) := cell_of_heap IS.out 4 rfl
 have p5 : W.cell? ⟨w.heap.size, 5, none⟩ = some (.slice a3 l3 c3) := cell_of_heap IS.out 5 rfl
 have p6 : W.cell? ⟨w.heap.size, 6, none⟩ = some (.slice a4 l4 c4) := cell_of_heap IS.out 6 rfl
 have p7 : W.cell? ⟨w.heap.size, 7, none⟩ = some (.slice a5 l5 c5) := cell_of_heap IS.out 7 rfl
 have p8 : W.cell? ⟨w.heap.size, 8, none⟩ = some (.slice a6 l6 c6) := cell_of_heap IS.out 8 rfl
 have hwW := BW.out.size
 clear hW
 go_enter Tryz.func14, Tryz.ntmps14
 go_upto_region 1 with fail
 rw [← HW.out]
 go_wp2_with fail
 go_at_call 47; refine (HBG.out W BW.out).mono ?_; rintro e w1 ⟨B, g, rfl, hz, b1⟩
 have HZ := hid hz
 have B1 := hid (BW.out.trans (b1.mono hwW))
 clear hz b1 p0 p1 p2 p3 p4 p5 p6 p7 p8
 go_wp2_with fail
 go_at_call 53; refine (HGE.out B g w1 HZ.out).mono ?_; rintro e w2 ⟨b2, v, sl, rfl, hs, hl⟩
 have B2 := hid (B1.out.trans (b2.mono B1.out.size))
 have HS := hid hs
 have HL := hid hl
 clear b2 hs hl
 go_wp2_with fail
 go_ret
 exact ⟨B2.out, v, sl, rfl, HS.out, HL.out⟩
theorem Gets_any (s : Si.Site) (kv ov zv av sv rv : Value) (a b : Int) (w : World) (h : SiV w kv ov zv av sv rv s) (hr : Si.Right s) (hk : Si.Ok s) :
 Calls Tryz.prog 19 #[siV s kv ov zv av sv rv, .int .i64 a, .int .i64 b] w fun e w' => e = .returned (.bool (getsB s a b)) ∧ Below w.heap.size w w' := by
 have HBG := hid (fun W (hW : Below w.heap.size w W) => begin_any s kv ov zv av sv rv W (h.keep hW) hr)
 have HGE := hid (fun B g W (a b : Nat) (hz : ZdV W B g s kv ov zv av sv rv) ha hb => gets_any s kv ov zv av sv rv B g a b W hz hr hk ha hb)
 have HGX : Hid (getsB s a b = (decide (0 ≤ a) && (decide (a < s.zones.length) && (decide (0 ≤ b) && (decide (b < s.zones.length) && (decide (a ≠ b) && Si.nextZ s a.toNat b.toNat)))))) := hid rfl
 obtain ⟨G, hG⟩ : ∃ G, G = getsB s a b := ⟨_, rfl⟩
 rw [← hG] at HGX
 rw [← hG]
 clear hG
 obtain ⟨a1, c1, a2, c2, a3, c3, a4, c4, a5, c5, a6, c6, rfl, rfl, rfl, rfl, rfl, rfl, m1, m2, m3, m4, m5, m6⟩ := h.open
 unfold siV at *
 obtain ⟨l1, e1⟩ : ∃ n, s.floor.kind.length = n := ⟨_, rfl⟩
 obtain ⟨l2, e2⟩ : ∃ n, s.floor.out.length = n := ⟨_, rfl⟩
 obtain ⟨l3, e3⟩ : ∃ n, s.zones.length = n := ⟨_, rfl⟩
 obtain ⟨l4, e4⟩ : ∃ n, s.aparts.length = n := ⟨_, rfl⟩
 obtain ⟨l5, e5⟩ : ∃ n, s.shelves.length = n := ⟨_, rfl⟩
 obtain ⟨l6, e6⟩ : ∃ n, s.robots.length = n := ⟨_, rfl⟩
 obtain ⟨FW, hFW⟩ : ∃ x, s.floor.w = x := ⟨_, rfl⟩
 obtain ⟨FH, hFH⟩ : ∃ x, s.floor.h = x := ⟨_, rfl⟩
 obtain ⟨FD, hFD⟩ : ∃ x, s.floor.d = x := ⟨_, rfl⟩
 rw [e1, e2, e3, e4, e5, e6, hFW, hFH, hFD] at HBG
 rw [e1, e2, e3, e4, e5, e6] at HGE
 rw [e1, e2, e3, e4, e5, e6, hFW, hFH, hFD]
 rw [e3] at m3 HGX
 have E3 := hid e3
 clear h hr hk e1 e2 e3 e4 e5 e6 hFW hFH hFD
 obtain ⟨W, hW⟩ : ∃ W, W = w.alloc (.cells #[.int .i64 FW, .int .i64 FH, .int .i64 FD, .slice a1 l1 c1, .slice a2 l2 c2, .slice a3 l3 c3, .slice a4 l4 c4, .slice a5 l5 c5, .slice a6 l6 c6] 30) := ⟨_, rfl⟩
 have BW : Hid (Below w.heap.size w W) := hid (by rw [hW]; exact (Below.refl _ _).alloc (Nat.le_refl _) _)
 have IS : Hid (W.heap[w.heap.size]? = some (.cells #[.int .i64 FW, .int .i64 FH, .int .i64 FD, .slice a1 l1 c1, .slice a2 l2 c2, .slice a3 l3 c3, .slice a4 l4 c4, .slice a5 l5 c5, .slice a6 l6 c6] 30 (0, 0))) := hid (by rw [hW]; exact heap_alloc_new _ _)
 have HW := hid hW
 have p0 : W.cell? ⟨w.heap.size, 0, none⟩ = some (.int .i64 FW) := cell_of_heap IS.out 0 rfl
 have p1 : W.cell? ⟨w.heap.size, 1, none⟩ = some (.int .i64 FH) := cell_of_heap IS.out 1 rfl
 have p2 : W.cell? ⟨w.heap.size, 2, none⟩ = some (.int .i64 FD) := cell_of_heap IS.out 2 rfl
 have p3 : W.cell? ⟨w.heap.size, 3, none⟩ = some (.slice a1 l1 c1) := cell_of_heap IS.out 3 rfl
 have p4 : W.cell? ⟨w.heap.size, 4, none⟩ = some (.slice a2 l2 c2) := cell_of_heap IS.out 4 rfl
 have p5 : W.cell? ⟨w.heap.size, 5, none⟩ = some (.slice a3 l3 c3) := cell_of_heap IS.out 5 rfl
 have p6 : W.cell? ⟨w.heap.size, 6, none⟩ = some (.slice a4 l4 c4) := cell_of_heap IS.out 6 rfl
 have p7 : W.cell? ⟨w.heap.size, 7, none⟩ = some (.slice a5 l5 c5) := cell_of_heap IS.out 7 rfl
 have p8 : W.cell? ⟨w.heap.size, 8, none⟩ = some (.slice a6 l6 c6) := cell_of_heap IS.out 8 rfl
 have hwW := BW.out.size
 clear hW
 go_enter Tryz.func19, Tryz.ntmps19
 go_upto_region 1 with fail
 rw [← HW.out]
 by_cases h0 : 0 ≤ a
 · skip
   by_cases h1 : a < (l3 : Int)
   · skip
     by_cases h2 : 0 ≤ b
     · skip
       by_cases h3 : b < (l3 : Int)
       · skip
         by_cases h4 : a = b
         · have t4 : (a != b) = false := by simp [h4]
           have HF : Hid (G = false) := hid (by rw [HGX.out, decide_eq_false (p := a ≠ b) (by simpa using h4)]; simp)
           clear h4
           go_wp2_with fail
           go_ret
           exact ⟨by rw [HF.out]; rfl, BW.out⟩
         · have t4 : (a != b) = true := by simpa using h4
           obtain ⟨x, rfl⟩ : ∃ x : Nat, a = (x : Int) := ⟨a.toNat, by omega⟩
           obtain ⟨y, rfl⟩ : ∃ x : Nat, b = (x : Int) := ⟨b.toNat, by omega⟩
           have HF : Hid (G = Si.nextZ s x y) := hid (by rw [HGX.out, decide_eq_true h0, decide_eq_true h1, decide_eq_true h2, decide_eq_true h3, decide_eq_true h4]; simp)
           obtain ⟨R, hR⟩ : ∃ R, R = Si.nextZ s x y := ⟨_, rfl⟩
           have HXL : Hid (x < s.zones.length) := hid (by rw [E3.out]; omega)
           have HYL : Hid (y < s.zones.length) := hid (by rw [E3.out]; omega)
           have HRR := hid hR
           clear h4 hR
           go_wp2_with fail
           go_at_call 47; refine (HBG.out W BW.out).mono ?_; rintro e w1 ⟨B, g, rfl, hz, b1⟩
           have HGG := hid (HGE.out B g w1 x y hz (E3.out ▸ HXL.out) (E3.out ▸ HYL.out))
           have B1 := hid (BW.out.trans (b1.mono hwW))
           rw [← HRR.out] at HGG
           clear hz b1 p0 p1 p2 p3 p4 p5 p6 p7 p8
           go_wp2_with fail
           go_at_call 67; refine HGG.out.mono ?_; rintro e w2 ⟨rfl, b2⟩
           have B2 := hid (B1.out.trans (b2.mono B1.out.size))
           clear b2
           go_wp2_with fail
           go_ret
           exact ⟨by rw [HF.out, ← HRR.out]; rfl, B2.out⟩
       · have HF : Hid (G = false) := hid (by rw [HGX.out, decide_eq_false (p := b < (l3 : Int)) h3]; simp)
         go_wp2_with fail
         go_ret
         exact ⟨by rw [HF.out]; rfl, BW.out⟩
     · have HF : Hid (G = false) := hid (by rw [HGX.out, decide_eq_false (p := 0 ≤ b) h2]; simp)
       go_wp2_with fail
       go_ret
       exact ⟨by rw [HF.out]; rfl, BW.out⟩
   · have HF : Hid (G = false) := hid (by rw [HGX.out, decide_eq_false (p := a < (l3 : Int)) h1]; simp)
     go_wp2_with fail
     go_ret
     exact ⟨by rw [HF.out]; rfl, BW.out⟩
 · have HF : Hid (G = false) := hid (by rw [HGX.out, decide_eq_false (p := 0 ≤ a) h0]; simp)
   go_wp2_with fail
   go_ret
   exact ⟨by rw [HF.out]; rfl, BW.out⟩
end Go.Proofs.YtfcbcpfnaadpeaaGreatDoor
