/- Parts Fts of this claim, laid one behind the other: walks and the plain laws behind them; each contract states its own conditions. -/
import Derived.Test.YtcdfmgobokjcnaaGreatDoorZI
import Derived.Test.YtcdfmgobokjcnaaGreatDoorZK
import Derived.Test.YtcdfmgobokjcnaaGreatDoorZT
import Derived.Test.YtcdfmgobokjcnaaGreatDoorZU
/- Walks of package taquinlaw29: fits, light. -/
namespace Go.Proofs.YtcdfmgobokjcnaaGreatDoor
set_option linter.unusedSimpArgs false
set_option linter.unusedVariables false
open Go.RowKit

/-- What the laws of package fault ask of a site and a state. -/
structure FitsP (s : Si.Site) (st : Bd.State) (cells : List Int) : Prop where
  few : FewP s 40 20
  cl : cells.length ≤ 60
  few4 : Few4 st
  right : RtP s
  bright : Bd.rightB s.floor (s.shelves.length : Int) (s.robots.length : Int) st = true
theorem few_names {s : Si.Site} {c m : Int} (h : FewP s c m) : Names s :=
  ⟨fun z hz => by have := (h.zn z hz).2; omega, fun p hp => by have := h.ap p hp; omega, fun p hp => by have := h.sf p hp; omega⟩
set_option maxRecDepth 100000 in
set_option maxHeartbeats 16000000 in
theorem fits_any (s : Si.Site) (kv ov zv av sv rv : Value) (st : Bd.State) (shv rov pev dev skv cv : Value) (cells : List Int) (w : World) (h : SiV w kv ov zv av sv rv s) (ht : StV w shv rov pev dev skv st) (hn : ∀ r ∈ st.robots, RobN r) (hc : Is w cv cells) :
    Calls Tryz.prog 23 #[siV s kv ov zv av sv rv, stV st shv rov pev dev skv, cv] w fun e w' => TruePost (FitsP s st cells) e ∧ Below w.heap.size w w' := by
  obtain ⟨a1, c1, a2, c2, a3, c3, a4, c4, a5, c5, a6, c6, rfl, rfl, rfl, rfl, rfl, rfl, m1, m2, m3, m4, m5, m6⟩ := h.open
  obtain ⟨b1, d1, b2, d2, b3, d3, b4, d4, b5, d5, rfl, rfl, rfl, rfl, rfl, q1, q2, q3, q4, q5⟩ := ht.open
  obtain ⟨ca, cc, rfl, hcm⟩ := hc.form
  have HFW := Lib.hid (fun W hb => rFewS_any s (.slice a1 s.floor.kind.length c1) (.slice a2 s.floor.out.length c2) (.slice a3 s.zones.length c3) (.slice a4 s.aparts.length c4) (.slice a5 s.shelves.length c5) (.slice a6 s.robots.length c6) 40 20 W (h.keep hb) (by omega))
  have HRT := Lib.hid (fun W hb hn hz ha => sRight_any s (.slice a1 s.floor.kind.length c1) (.slice a2 s.floor.out.length c2) (.slice a3 s.zones.length c3) (.slice a4 s.aparts.length c4) (.slice a5 s.shelves.length c5) (.slice a6 s.robots.length c6) W (h.keep hb) hn hz ha)
  have HF4 := Lib.hid (fun W hb => rFew4_any st _ _ _ _ _ W (ht.keep hb))
  have HBR := Lib.hid (fun W hb hs => bRight_any s.floor (.slice a1 s.floor.kind.length c1) (.slice a2 s.floor.out.length c2) (.slice a3 s.zones.length c3) (.slice a4 s.aparts.length c4) a5 a6 s.shelves.length s.robots.length c5 c6 st _ _ _ _ _ W (h.fl.keep hb) (ht.keep hb) hs hn)
  obtain ⟨l1, e1⟩ : ∃ n, s.floor.kind.length = n := ⟨_, rfl⟩
  obtain ⟨l2, e2⟩ : ∃ n, s.floor.out.length = n := ⟨_, rfl⟩
  obtain ⟨l3, e3⟩ : ∃ n, s.zones.length = n := ⟨_, rfl⟩
  obtain ⟨l4, e4⟩ : ∃ n, s.aparts.length = n := ⟨_, rfl⟩
  obtain ⟨l5, e5⟩ : ∃ n, s.shelves.length = n := ⟨_, rfl⟩
  obtain ⟨l6, e6⟩ : ∃ n, s.robots.length = n := ⟨_, rfl⟩
  obtain ⟨n1, g1⟩ : ∃ n, st.shelves.length = n := ⟨_, rfl⟩
  obtain ⟨n2, g2⟩ : ∃ n, st.robots.length = n := ⟨_, rfl⟩
  obtain ⟨n3, g3⟩ : ∃ n, st.people.length = n := ⟨_, rfl⟩
  obtain ⟨n4, g4⟩ : ∃ n, st.dead.length = n := ⟨_, rfl⟩
  obtain ⟨n5, g5⟩ : ∃ n, st.stuck.length = n := ⟨_, rfl⟩
  obtain ⟨nc, gc⟩ : ∃ n, cells.length = n := ⟨_, rfl⟩
  obtain ⟨BB, hBB⟩ : ∃ b, Bd.rightB s.floor (s.shelves.length : Int) (s.robots.length : Int) st = b := ⟨_, rfl⟩
  rw [hBB] at HBR
  have HBB := Lib.hid hBB
  unfold siV at HFW HRT ⊢
  unfold siF at HBR
  unfold stV at HF4 HBR ⊢
  rw [e1, e2, e3, e4, e5, e6] at HFW HRT HBR
  rw [g1, g2, g3, g4, g5] at HF4 HBR
  rw [e1, e2, e3, e4, e5, e6, g1, g2, g3, g4, g5, gc]
  obtain ⟨w2, hw2⟩ : ∃ W, W = (w.alloc (.cells #[.int .i64 s.floor.w, .int .i64 s.floor.h, .int .i64 s.floor.d, .slice a1 l1 c1, .slice a2 l2 c2, .slice a3 l3 c3, .slice a4 l4 c4, .slice a5 l5 c5, .slice a6 l6 c6] 30)).alloc (.cells #[.int .i64 st.tick, .slice b1 n1 d1, .slice b2 n2 d2, .slice b3 n3 d3, .slice b4 n4 d4, .slice b5 n5 d5] 34) := ⟨_, rfl⟩
  have HA := al2 w (.cells #[.int .i64 s.floor.w, .int .i64 s.floor.h, .int .i64 s.floor.d, .slice a1 l1 c1, .slice a2 l2 c2, .slice a3 l3 c3, .slice a4 l4 c4, .slice a5 l5 c5, .slice a6 l6 c6] 30) (.cells #[.int .i64 st.tick, .slice b1 n1 d1, .slice b2 n2 d2, .slice b3 n3 d3, .slice b4 n4 d4, .slice b5 n5 d5] 34)
  rw [← hw2] at HA
  have IS := Lib.hid HA.1
  have IT := Lib.hid HA.2.1
  have B2 := Lib.hid HA.2.2.1
  have HW2 := Lib.hid hw2
  have E4 := Lib.hid e4
  have GC := Lib.hid gc
  have CS : Hid (∀ W, Below w2.heap.size w2 W → W.heap[w.heap.size]? = some (.cells #[.int .i64 s.floor.w, .int .i64 s.floor.h, .int .i64 s.floor.d, .slice a1 l1 c1, .slice a2 l2 c2, .slice a3 l3 c3, .slice a4 l4 c4, .slice a5 l5 c5, .slice a6 l6 c6] 30 (0, 0))) := Lib.hid (fun W hW => keep_heap IS.out hW)
  have CU : Hid (∀ W, Below w2.heap.size w2 W → W.heap[w.heap.size + 1]? = some (.cells #[.int .i64 st.tick, .slice b1 n1 d1, .slice b2 n2 d2, .slice b3 n3 d3, .slice b4 n4 d4, .slice b5 n5 d5] 34 (0, 0))) := Lib.hid (fun W hW => keep_heap IT.out hW)
  have U2 := Lib.hid (Below.refl w2.heap.size w2)
  clear h ht hn hc e1 e2 e3 e4 e5 e6 g1 g2 g3 g4 g5 gc hBB hw2 HA
  have x0 : w2.cell? ⟨w.heap.size, 0, none⟩ = some (.int .i64 s.floor.w) := cell_of_heap (CS.out _ U2.out) 0 rfl
  have x1 : w2.cell? ⟨w.heap.size, 1, none⟩ = some (.int .i64 s.floor.h) := cell_of_heap (CS.out _ U2.out) 1 rfl
  have x2 : w2.cell? ⟨w.heap.size, 2, none⟩ = some (.int .i64 s.floor.d) := cell_of_heap (CS.out _ U2.out) 2 rfl
  have x3 : w2.cell? ⟨w.heap.size, 3, none⟩ = some (.slice a1 l1 c1) := cell_of_heap (CS.out _ U2.out) 3 rfl
  have x4 : w2.cell? ⟨w.heap.size, 4, none⟩ = some (.slice a2 l2 c2) := cell_of_heap (CS.out _ U2.out) 4 rfl
  have x5 : w2.cell? ⟨w.heap.size, 5, none⟩ = some (.slice a3 l3 c3) := cell_of_heap (CS.out _ U2.out) 5 rfl
  have x6 : w2.cell? ⟨w.heap.size, 6, none⟩ = some (.slice a4 l4 c4) := cell_of_heap (CS.out _ U2.out) 6 rfl
  have x7 : w2.cell? ⟨w.heap.size, 7, none⟩ = some (.slice a5 l5 c5) := cell_of_heap (CS.out _ U2.out) 7 rfl
  have x8 : w2.cell? ⟨w.heap.size, 8, none⟩ = some (.slice a6 l6 c6) := cell_of_heap (CS.out _ U2.out) 8 rfl
  go_enter Tryz.func23, Tryz.ntmps23
  go_upto_region 1 with fail
  rw [← HW2.out]
  go_wp2_with fail
  go_at_call 43; refine (HFW.out _ B2.out).mono ?_; rintro e w3 ⟨⟨rb, rfl, hrb⟩, b3⟩
  have U3 := Lib.hid b3
  have B3 := Lib.hid (B2.out.trans (b3.mono B2.out.size))
  have HRB := Lib.hid hrb
  clear b3 hrb
  clear x0 x1 x2 x3 x4 x5 x6 x7 x8
  cases rb with
  | false =>
    go_wp2_with fail
    go_ret
    exact ⟨TruePost.no _, B3.out⟩
  | true =>
    have HF := Lib.hid (HRB.out rfl)
    clear HRB
    by_cases h60 : nc ≤ 60
    · have t60 : decide ((nc : Int) ≤ 60) = true := by simp; omega
      have t61 : (nc : Int) ≤ 60 := by omega
      have t0 : w3.cell? ⟨w.heap.size + 1, 0, none⟩ = some (.int .i64 st.tick) := cell_of_heap (CU.out _ U3.out) 0 rfl
      have t1 : w3.cell? ⟨w.heap.size + 1, 1, none⟩ = some (.slice b1 n1 d1) := cell_of_heap (CU.out _ U3.out) 1 rfl
      have t2 : w3.cell? ⟨w.heap.size + 1, 2, none⟩ = some (.slice b2 n2 d2) := cell_of_heap (CU.out _ U3.out) 2 rfl
      have t3 : w3.cell? ⟨w.heap.size + 1, 3, none⟩ = some (.slice b3 n3 d3) := cell_of_heap (CU.out _ U3.out) 3 rfl
      have t4 : w3.cell? ⟨w.heap.size + 1, 4, none⟩ = some (.slice b4 n4 d4) := cell_of_heap (CU.out _ U3.out) 4 rfl
      have t5 : w3.cell? ⟨w.heap.size + 1, 5, none⟩ = some (.slice b5 n5 d5) := cell_of_heap (CU.out _ U3.out) 5 rfl
      go_wp2_with fail
      go_at_call 44; refine (HF4.out _ B3.out).mono ?_; rintro e w4 ⟨⟨rb, rfl, hrb⟩, b4⟩
      have U4 := Lib.hid (U3.out.trans (b4.mono U3.out.size))
      have B4 := Lib.hid (B3.out.trans (b4.mono B3.out.size))
      have HRB := Lib.hid hrb
      clear b4 hrb
      clear t0 t1 t2 t3 t4 t5
      cases rb with
      | false =>
        go_wp2_with fail
        go_ret
        exact ⟨TruePost.no _, B4.out⟩
      | true =>
        have H4 := Lib.hid (HRB.out rfl)
        clear HRB
        have x0 : w4.cell? ⟨w.heap.size, 0, none⟩ = some (.int .i64 s.floor.w) := cell_of_heap (CS.out _ U4.out) 0 rfl
        have x1 : w4.cell? ⟨w.heap.size, 1, none⟩ = some (.int .i64 s.floor.h) := cell_of_heap (CS.out _ U4.out) 1 rfl
        have x2 : w4.cell? ⟨w.heap.size, 2, none⟩ = some (.int .i64 s.floor.d) := cell_of_heap (CS.out _ U4.out) 2 rfl
        have x3 : w4.cell? ⟨w.heap.size, 3, none⟩ = some (.slice a1 l1 c1) := cell_of_heap (CS.out _ U4.out) 3 rfl
        have x4 : w4.cell? ⟨w.heap.size, 4, none⟩ = some (.slice a2 l2 c2) := cell_of_heap (CS.out _ U4.out) 4 rfl
        have x5 : w4.cell? ⟨w.heap.size, 5, none⟩ = some (.slice a3 l3 c3) := cell_of_heap (CS.out _ U4.out) 5 rfl
        have x6 : w4.cell? ⟨w.heap.size, 6, none⟩ = some (.slice a4 l4 c4) := cell_of_heap (CS.out _ U4.out) 6 rfl
        have x7 : w4.cell? ⟨w.heap.size, 7, none⟩ = some (.slice a5 l5 c5) := cell_of_heap (CS.out _ U4.out) 7 rfl
        have x8 : w4.cell? ⟨w.heap.size, 8, none⟩ = some (.slice a6 l6 c6) := cell_of_heap (CS.out _ U4.out) 8 rfl
        go_wp2_with fail
        go_at_call 45; refine (HRT.out _ B4.out (few_names HF.out) (fun z hz => by have := (HF.out.zn z hz).1; omega) (by have h8 := HF.out.na; have h9 := E4.out; omega)).mono ?_; rintro e w5 ⟨⟨rb, rfl, hrb⟩, b5⟩
        have U5 := Lib.hid (U4.out.trans (b5.mono U4.out.size))
        have B5 := Lib.hid (B4.out.trans (b5.mono B4.out.size))
        have HRB := Lib.hid hrb
        clear b5 hrb
        clear x0 x1 x2 x3 x4 x5 x6 x7 x8
        cases rb with
        | false =>
          go_wp2_with fail
          go_ret
          exact ⟨TruePost.no _, B5.out⟩
        | true =>
          have H5 := Lib.hid (HRB.out rfl)
          clear HRB
          have x0 : w5.cell? ⟨w.heap.size, 0, none⟩ = some (.int .i64 s.floor.w) := cell_of_heap (CS.out _ U5.out) 0 rfl
          have x1 : w5.cell? ⟨w.heap.size, 1, none⟩ = some (.int .i64 s.floor.h) := cell_of_heap (CS.out _ U5.out) 1 rfl
          have x2 : w5.cell? ⟨w.heap.size, 2, none⟩ = some (.int .i64 s.floor.d) := cell_of_heap (CS.out _ U5.out) 2 rfl
          have x3 : w5.cell? ⟨w.heap.size, 3, none⟩ = some (.slice a1 l1 c1) := cell_of_heap (CS.out _ U5.out) 3 rfl
          have x4 : w5.cell? ⟨w.heap.size, 4, none⟩ = some (.slice a2 l2 c2) := cell_of_heap (CS.out _ U5.out) 4 rfl
          have x5 : w5.cell? ⟨w.heap.size, 5, none⟩ = some (.slice a3 l3 c3) := cell_of_heap (CS.out _ U5.out) 5 rfl
          have x6 : w5.cell? ⟨w.heap.size, 6, none⟩ = some (.slice a4 l4 c4) := cell_of_heap (CS.out _ U5.out) 6 rfl
          have x7 : w5.cell? ⟨w.heap.size, 7, none⟩ = some (.slice a5 l5 c5) := cell_of_heap (CS.out _ U5.out) 7 rfl
          have x8 : w5.cell? ⟨w.heap.size, 8, none⟩ = some (.slice a6 l6 c6) := cell_of_heap (CS.out _ U5.out) 8 rfl
          have t0 : w5.cell? ⟨w.heap.size + 1, 0, none⟩ = some (.int .i64 st.tick) := cell_of_heap (CU.out _ U5.out) 0 rfl
          have t1 : w5.cell? ⟨w.heap.size + 1, 1, none⟩ = some (.slice b1 n1 d1) := cell_of_heap (CU.out _ U5.out) 1 rfl
          have t2 : w5.cell? ⟨w.heap.size + 1, 2, none⟩ = some (.slice b2 n2 d2) := cell_of_heap (CU.out _ U5.out) 2 rfl
          have t3 : w5.cell? ⟨w.heap.size + 1, 3, none⟩ = some (.slice b3 n3 d3) := cell_of_heap (CU.out _ U5.out) 3 rfl
          have t4 : w5.cell? ⟨w.heap.size + 1, 4, none⟩ = some (.slice b4 n4 d4) := cell_of_heap (CU.out _ U5.out) 4 rfl
          have t5 : w5.cell? ⟨w.heap.size + 1, 5, none⟩ = some (.slice b5 n5 d5) := cell_of_heap (CU.out _ U5.out) 5 rfl
          go_wp2_with fail
          go_at_call 46; refine (HBR.out _ B5.out H4.out.sts).mono ?_; rintro e w6 ⟨rfl, b6⟩
          have B6 := Lib.hid (B5.out.trans (b6.mono B5.out.size))
          clear b6
          go_wp2_with fail
          go_ret
          exact ⟨⟨BB, rfl, fun hb => ⟨HF.out, by rw [GC.out]; exact h60, H4.out, H5.out, HBB.out.trans hb⟩⟩, B6.out⟩
    · have t60 : decide ((nc : Int) ≤ 60) = false := by simp; omega
      have t61 : ¬ (nc : Int) ≤ 60 := by omega
      go_wp2_with fail
      go_ret
      exact ⟨TruePost.no _, B3.out⟩
/-- What light says of a budget. -/
def lightB (b : Fa.Bud) : Bool := Fa.rightB b && (decide (b.muteMost ≤ 20) && decide (b.liftMost ≤ 20))
set_option maxRecDepth 100000 in
set_option maxHeartbeats 4000000 in
theorem light_any (b : Fa.Bud) (w : World) :
    Calls Tryz.prog 24 #[.agg (budA b)] w fun e w' => e = .returned (.bool (lightB b)) ∧ Below w.heap.size w w' := by
  have HR := Lib.hid (fun W => fRightB_any b W)
  have HL : Hid (lightB b = (Fa.rightB b && (decide (b.muteMost ≤ 20) && decide (b.liftMost ≤ 20)))) := Lib.hid rfl
  obtain ⟨R, hR⟩ : ∃ R, Fa.rightB b = R := ⟨_, rfl⟩
  rw [hR] at HR HL
  obtain ⟨Z, hZ⟩ : ∃ R, lightB b = R := ⟨_, rfl⟩
  rw [hZ] at HL
  rw [hZ]
  obtain ⟨w2, hw2⟩ : ∃ W, W = w.alloc (.cells #[.int .i64 b.stops, .int .i64 b.cells, .int .i64 b.mutes, .int .i64 b.muteMost, .int .i64 b.lifts, .int .i64 b.liftMost, .int .i64 b.steps] 36) := ⟨_, rfl⟩
  have HA := al1 w (.cells #[.int .i64 b.stops, .int .i64 b.cells, .int .i64 b.mutes, .int .i64 b.muteMost, .int .i64 b.lifts, .int .i64 b.liftMost, .int .i64 b.steps] 36)
  rw [← hw2] at HA
  have IB : Hid (BudAt w2 w.heap.size b 36) := Lib.hid HA.1
  have B2 := Lib.hid HA.2.1
  have HW2 := Lib.hid hw2
  clear hR hZ hw2 HA
  unfold budA at HR ⊢
  obtain ⟨p0, p1, p2, p3, p4, p5, p6⟩ := IB.out.cells
  go_enter Tryz.func24, Tryz.ntmps24
  go_upto_region 1 with fail
  rw [← HW2.out]
  go_wp2_with fail
  go_at_call 7; refine (HR.out _).mono ?_; rintro e w3 ⟨rfl, b3⟩
  have IB3 := Lib.hid (IB.out.keep b3)
  have B3 := Lib.hid (B2.out.trans (b3.mono B2.out.size))
  clear b3 p0 p1 p2 p3 p4 p5 p6
  cases R with
  | false =>
    have HZ2 : Hid (Z = false) := Lib.hid HL.out
    go_wp2_with fail
    go_ret
    exact ⟨by rw [HZ2.out]; rfl, B3.out⟩
  | true =>
    obtain ⟨p0, p1, p2, p3, p4, p5, p6⟩ := IB3.out.cells
    by_cases k1 : b.muteMost ≤ 20
    · have d1 : decide (b.muteMost ≤ 20) = true := decide_eq_true k1
      have HZ2 : Hid (Z = decide (b.liftMost ≤ 20)) := Lib.hid (by rw [HL.out, d1]; rfl)
      go_wp2_with fail
      go_ret
      exact ⟨by rw [HZ2.out]; rfl, B3.out⟩
    · have d1 : decide (b.muteMost ≤ 20) = false := decide_eq_false k1
      have HZ2 : Hid (Z = false) := Lib.hid (by rw [HL.out, d1]; rfl)
      go_wp2_with fail
      go_ret
      exact ⟨by rw [HZ2.out]; rfl, B3.out⟩
end Go.Proofs.YtcdfmgobokjcnaaGreatDoor
