/- Parts AcG of this claim, laid one behind the other: walks and the plain laws behind them; each contract states its own conditions. -/
import Derived.Test.YtfcbcpfnaadpeaaGreatDoorAB
import Derived.Test.YtfcbcpfnaadpeaaGreatDoorAD
namespace Go.Proofs.YtfcbcpfnaadpeaaGreatDoor
set_option maxRecDepth 100000
set_option maxHeartbeats 64000000
set_option linter.unusedSimpArgs false
set_option linter.unusedVariables false
open Go.RowKit
theorem legal_mv (s : Si.Site) (kv ov zv av sv rv : Value) (st : Bd.State) (shv rov pev dev skv : Value) (x : Nat) (d : Nat) (w : World) (h : SiV w kv ov zv av sv rv s) (ht : StV w shv rov pev dev skv st) (ho : ActOk s st) (hx : x < st.robots.length) (hd : d < 6) :
 Calls Tryz.prog 101 #[siV s kv ov zv av sv rv, stV st shv rov pev dev skv, .int .i64 (x : Int), .int .i64 ((d : Int) + 1)] w fun e w' => (∃ k : Int, e = .returned (.int .i64 k)) ∧ Below w.heap.size w w' := by
 have hrin := ho.ro _ (List.getElem_mem hx)
 have hrch := ho.rc _ (List.getElem_mem hx)
 obtain ⟨r, hr⟩ : ∃ r, st.robots[x] = r := ⟨_, rfl⟩
 rw [hr] at hrin hrch
 obtain ⟨⟨hc0, hc1⟩, hlo0, hlo1⟩ := hrin
 obtain ⟨c, hc⟩ := Int.eq_ofNat_of_zero_le hc0
 have hcl : c < s.floor.kind.length := by omega
 have HMV := hid (fun W (hb : Below w.heap.size w W) => move_any s kv ov zv av sv rv st shv rov pev dev skv r c d W (h.keep hb) (ht.keep hb) ho hc hcl hd)
 have HDI : Hid (∀ W, Calls Tryz.prog 105 #[.int .i64 ((d : Int) + 1)] W fun e w' => e = .returned (.tuple #[.int .i64 (d : Int), .bool true]) ∧ W = w') := hid (fun W => by
  have h1 := (direction_any ((d : Int) + 1) W (by omega)).mono (R' := fun e w' => e = .returned (.tuple #[.int .i64 ((d : Int) + 1 - 1), .bool (decide (1 ≤ (d : Int) + 1 ∧ (d : Int) + 1 ≤ 6))]) ∧ W = w') (fun _ _ h => ⟨h.1, h.2.symm⟩)
  rw [show (d : Int) + 1 - 1 = (d : Int) by omega, show decide (1 ≤ (d : Int) + 1 ∧ (d : Int) + 1 ≤ 6) = true by simp; omega] at h1
  exact h1)
 have HAF : Hid (∀ b W, ∃ cc ee, Calls Tryz.prog 103 #[.int .i64 st.tick, .int .i64 r.charge, .int .i64 ((d : Int) + 1), .bool b] W fun e w' => e = .returned (.tuple #[.int .i64 cc, .int .i64 ee]) ∧ W = w') := hid (fun b W => ⟨_, _, (After_any st.tick r.charge ((d : Int) + 1) b W ho.tk hrch (by unfold I64; omega)).mono (fun _ _ h => ⟨h.1, h.2⟩)⟩)
 have HRO := hid (fun W (hb : Below w.heap.size w W) => (ht.keep hb).ro)
 have HKI := hid (fun W (hb : Below w.heap.size w W) => (h.keep hb).fl.kind)
 obtain ⟨a1, c1, a2, c2, a3, c3, a4, c4, a5, c5, a6, c6, rfl, rfl, rfl, rfl, rfl, rfl, m1, m2, m3, m4, m5, m6⟩ := h.open
 unfold siV at *
 obtain ⟨l1, e1⟩ : ∃ n, s.floor.kind.length = n := ⟨_, rfl⟩
 obtain ⟨l2, e2⟩ : ∃ n, s.floor.out.length = n := ⟨_, rfl⟩
 obtain ⟨l3, e3⟩ : ∃ n, s.zones.length = n := ⟨_, rfl⟩
 obtain ⟨l4, e4⟩ : ∃ n, s.aparts.length = n := ⟨_, rfl⟩
 obtain ⟨l5, e5⟩ : ∃ n, s.shelves.length = n := ⟨_, rfl⟩
 obtain ⟨l6, e6⟩ : ∃ n, s.robots.length = n := ⟨_, rfl⟩
 try simp only [e1, e2, e3, e4, e5, e6] at HKI
 try simp only [e1, e2, e3, e4, e5, e6] at HMV
 rw [e1, e2, e3, e4, e5, e6]
 obtain ⟨b1, d1, b2, d2, b3, d3, b4, d4, b5, d5, rfl, rfl, rfl, rfl, rfl, k1, k2, k3, k4, k5⟩ := ht.open
 unfold stV at *
 obtain ⟨n1, g1⟩ : ∃ n, st.shelves.length = n := ⟨_, rfl⟩
 obtain ⟨n2, g2⟩ : ∃ n, st.robots.length = n := ⟨_, rfl⟩
 obtain ⟨n3, g3⟩ : ∃ n, st.people.length = n := ⟨_, rfl⟩
 obtain ⟨n4, g4⟩ : ∃ n, st.dead.length = n := ⟨_, rfl⟩
 obtain ⟨n5, g5⟩ : ∃ n, st.stuck.length = n := ⟨_, rfl⟩
 try simp only [g1, g2, g3, g4, g5] at HRO
 try simp only [g1, g2, g3, g4, g5] at HMV
 rw [g1, g2, g3, g4, g5]
 have hxn : x < n2 := by rw [← g2]; exact hx
 have hrb : st.robots[x]? = some r := by rw [List.getElem?_eq_getElem hx, hr]
 have hcl2 : c < l1 := by rw [← e1]; exact hcl
 have HL1 := hid e1
 simp only [robA, hc] at HMV
 obtain ⟨w1, hw1⟩ : ∃ W, W = (w.alloc (.cells #[.int .i64 s.floor.w, .int .i64 s.floor.h, .int .i64 s.floor.d, .slice a1 l1 c1, .slice a2 l2 c2, .slice a3 l3 c3, .slice a4 l4 c4, .slice a5 l5 c5, .slice a6 l6 c6] 30)).alloc (.cells #[.int .i64 st.tick, .slice b1 n1 d1, .slice b2 n2 d2, .slice b3 n3 d3, .slice b4 n4 d4, .slice b5 n5 d5] 58) := ⟨_, rfl⟩
 have B1 : Hid (Below w.heap.size w w1) := hid (by rw [hw1]; exact ((Below.refl _ _).alloc (Nat.le_refl _) _).alloc (by simp) _)
 have I1 : Hid (w1.heap[w.heap.size]? = some (.cells #[.int .i64 s.floor.w, .int .i64 s.floor.h, .int .i64 s.floor.d, .slice a1 l1 c1, .slice a2 l2 c2, .slice a3 l3 c3, .slice a4 l4 c4, .slice a5 l5 c5, .slice a6 l6 c6] 30 (0, 0))) := hid (by rw [hw1]; exact heap_two0 _ _ _)
 have I2 : Hid (w1.heap[w.heap.size + 1]? = some (.cells #[.int .i64 st.tick, .slice b1 n1 d1, .slice b2 n2 d2, .slice b3 n3 d3, .slice b4 n4 d4, .slice b5 n5 d5] 58 (0, 0))) := hid (by rw [hw1]; exact heap_two3 _ _ _)
 have HW1 := hid hw1
 have hs1 := heap_lt I2.out
 obtain ⟨rb, ro, er, hrbk, x0, x1, x2, x3, x4, x5⟩ := (HRO.out w1 B1.out).cell x hx
 subst er
 rw [hr, hc] at x0
 rw [hr] at x1 x2 x3 x4 x5
 have q2 : w1.cell? ⟨w.heap.size + 1, 2, none⟩ = some (.slice (some ⟨rb, ro, none⟩) n2 d2) := cell_of_heap I2.out 2 rfl
 have j0 : (0 : Int) ≤ (x : Int) := by omega
 have j1 : (x : Int) < (n2 : Int) := by omega
 have j2 : ¬ n2 ≤ x := by omega
 obtain ⟨w2, hw2⟩ : ∃ W, W = w1.alloc (.cells #[.int .i64 (c : Int), .int .i64 r.load, .int .i64 r.charge, .int .i64 r.rest, .int .i64 r.mute, .bool r.dead] 105) := ⟨_, rfl⟩
 have A2 := al1 w1 (.cells #[.int .i64 (c : Int), .int .i64 r.load, .int .i64 r.charge, .int .i64 r.rest, .int .i64 r.mute, .bool r.dead] 105)
 rw [← hw2] at A2
 have B2 := hid (B1.out.trans (A2.2.1.mono B1.out.size))
 have J1 := hid (keep_heap I1.out A2.2.1)
 have J2 := hid (keep_heap I2.out A2.2.1)
 have J3 := hid A2.1
 have hs2 := heap_lt J3.out
 have HW2 := hid hw2
 clear hw2 A2 h e1 e2 e3 e4 e5 e6 m1 m2 m3 m4 m5 m6 hw1 ht g1 g2 g3 g4 g5 k1 k2 k3 k4 k5 ho hc hcl hx hr hrb hrch hc0 hc1 hlo0 hlo1 hxn HRO
 have zz0 : ¬ (d : Int) + 1 < 0 := by omega
 have zz1 : ¬ (10 : Int) ≤ (d : Int) + 1 := by omega
 have zz2 : ((d : Int) + 1 == 0) = false := by rw [beq_eq_false_iff_ne]; omega
 have zz3 : ¬ (d : Int) + 1 ≥ 10 := by omega
 clear hd
 go_enter Tryz.func101, Tryz.ntmps101
 go_upto_region 1 with fail
 rw [← HW1.out]
 go_upto_region 8 with fail
 rw [← HW2.out]
 clear q2 x0 x1 x2 x3 x4 x5
 have r0 : w2.cell? ⟨w1.heap.size, 0, none⟩ = some (.int .i64 (c : Int)) := cell_of_heap J3.out 0 rfl
 have r1 : w2.cell? ⟨w1.heap.size, 1, none⟩ = some (.int .i64 r.load) := cell_of_heap J3.out 1 rfl
 have r2 : w2.cell? ⟨w1.heap.size, 2, none⟩ = some (.int .i64 r.charge) := cell_of_heap J3.out 2 rfl
 have r3 : w2.cell? ⟨w1.heap.size, 3, none⟩ = some (.int .i64 r.rest) := cell_of_heap J3.out 3 rfl
 have r4 : w2.cell? ⟨w1.heap.size, 4, none⟩ = some (.int .i64 r.mute) := cell_of_heap J3.out 4 rfl
 have r5 : w2.cell? ⟨w1.heap.size, 5, none⟩ = some (.bool r.dead) := cell_of_heap J3.out 5 rfl
 have q0 : w2.cell? ⟨w.heap.size + 1, 0, none⟩ = some (.int .i64 st.tick) := cell_of_heap J2.out 0 rfl
 go_wp2_with fail
 go_at_call 105; refine (HDI.out w2).mono ?_; rintro e w9 ⟨rfl, rfl⟩
 obtain ⟨D, hD⟩ : ∃ C, r.dead = C := ⟨_, rfl⟩
 cases D with
 | true =>
  rw [hD] at r5
  go_wp2_with fail
  go_ret
  exact ⟨⟨_, rfl⟩, B2.out⟩
 | false =>
  rw [hD] at r5
  by_cases fm : 0 < r.mute
  · go_wp2_with fail
    go_ret
    exact ⟨⟨_, rfl⟩, B2.out⟩
  by_cases ft : 0 < r.rest
  · go_wp2_with fail
    go_ret
    exact ⟨⟨_, rfl⟩, B2.out⟩
  obtain ⟨b, hb⟩ : ∃ b, decide (r.load ≥ 0) = b := ⟨_, rfl⟩
  obtain ⟨cc, ee, HC⟩ := HAF.out b w2
  have HC := hid HC
  go_wp2_with fail
  try rw [hb]
  go_at_call 103; refine HC.out.mono ?_; rintro e w9 ⟨rfl, rfl⟩
  clear HC HAF
  by_cases fe : ee = 16
  · subst fe
    go_wp2_with fail
    go_ret
    exact ⟨⟨_, rfl⟩, B2.out⟩
  have fe' : (ee == 16) = false := by simpa using fe
  clear fe
  obtain ⟨p0, p1, p2, p3, p4, p5, p6, p7, p8⟩ := cells9 J1.out
  have q1 : w2.cell? ⟨w.heap.size + 1, 1, none⟩ = some (.slice b1 n1 d1) := cell_of_heap J2.out 1 rfl
  have q2 : w2.cell? ⟨w.heap.size + 1, 2, none⟩ = some (.slice (some ⟨rb, ro, none⟩) n2 d2) := cell_of_heap J2.out 2 rfl
  have q3 : w2.cell? ⟨w.heap.size + 1, 3, none⟩ = some (.slice b3 n3 d3) := cell_of_heap J2.out 3 rfl
  have q4 : w2.cell? ⟨w.heap.size + 1, 4, none⟩ = some (.slice b4 n4 d4) := cell_of_heap J2.out 4 rfl
  have q5 : w2.cell? ⟨w.heap.size + 1, 5, none⟩ = some (.slice b5 n5 d5) := cell_of_heap J2.out 5 rfl
  simp only [hD] at HMV
  go_wp2_with fail
  go_at_call 180; with_reducible refine (HMV.out w2 B2.out).mono ?_; rintro e w3 ⟨⟨k, rfl⟩, b3⟩
  have B3 := hid (B2.out.trans (b3.mono B2.out.size))
  clear b3
  go_wp2_with fail
  go_ret
  exact ⟨⟨_, rfl⟩, B3.out⟩
theorem legal_lf (s : Si.Site) (kv ov zv av sv rv : Value) (st : Bd.State) (shv rov pev dev skv : Value) (x : Nat) (w : World) (h : SiV w kv ov zv av sv rv s) (ht : StV w shv rov pev dev skv st) (ho : ActOk s st) (hx : x < st.robots.length) :
 Calls Tryz.prog 101 #[siV s kv ov zv av sv rv, stV st shv rov pev dev skv, .int .i64 (x : Int), .int .i64 (7)] w fun e w' => (∃ k : Int, e = .returned (.int .i64 k)) ∧ Below w.heap.size w w' := by
 have hrin := ho.ro _ (List.getElem_mem hx)
 have hrch := ho.rc _ (List.getElem_mem hx)
 obtain ⟨r, hr⟩ : ∃ r, st.robots[x] = r := ⟨_, rfl⟩
 rw [hr] at hrin hrch
 obtain ⟨⟨hc0, hc1⟩, hlo0, hlo1⟩ := hrin
 obtain ⟨c, hc⟩ := Int.eq_ofNat_of_zero_le hc0
 have hcl : c < s.floor.kind.length := by omega
 have HLF := hid (fun W (hb : Below w.heap.size w W) => lift_any s kv ov zv av sv rv st shv rov pev dev skv r c W (h.keep hb) (ht.keep hb) ho hc hcl)
 have HDI : Hid (∀ W, Calls Tryz.prog 105 #[.int .i64 7] W fun e w' => e = .returned (.tuple #[.int .i64 (7 - 1), .bool false]) ∧ W = w') := hid (fun W => by
  have h1 := direction_any 7 W (by omega)
  rw [show decide (1 ≤ (7 : Int) ∧ (7 : Int) ≤ 6) = false by decide] at h1
  exact h1.mono (fun _ _ h => ⟨h.1, h.2.symm⟩))
 have HAF : Hid (∀ b W, ∃ cc ee, Calls Tryz.prog 103 #[.int .i64 st.tick, .int .i64 r.charge, .int .i64 (7), .bool b] W fun e w' => e = .returned (.tuple #[.int .i64 cc, .int .i64 ee]) ∧ W = w') := hid (fun b W => ⟨_, _, (After_any st.tick r.charge (7) b W ho.tk hrch (by unfold I64; omega)).mono (fun _ _ h => ⟨h.1, h.2⟩)⟩)
 have HRO := hid (fun W (hb : Below w.heap.size w W) => (ht.keep hb).ro)
 have HKI := hid (fun W (hb : Below w.heap.size w W) => (h.keep hb).fl.kind)
 obtain ⟨a1, c1, a2, c2, a3, c3, a4, c4, a5, c5, a6, c6, rfl, rfl, rfl, rfl, rfl, rfl, m1, m2, m3, m4, m5, m6⟩ := h.open
 unfold siV at *
 obtain ⟨l1, e1⟩ : ∃ n, s.floor.kind.length = n := ⟨_, rfl⟩
 obtain ⟨l2, e2⟩ : ∃ n, s.floor.out.length = n := ⟨_, rfl⟩
 obtain ⟨l3, e3⟩ : ∃ n, s.zones.length = n := ⟨_, rfl⟩
 obtain ⟨l4, e4⟩ : ∃ n, s.aparts.length = n := ⟨_, rfl⟩
 obtain ⟨l5, e5⟩ : ∃ n, s.shelves.length = n := ⟨_, rfl⟩
 obtain ⟨l6, e6⟩ : ∃ n, s.robots.length = n := ⟨_, rfl⟩
 try simp only [e1, e2, e3, e4, e5, e6] at HKI
 try simp only [e1, e2, e3, e4, e5, e6] at HLF
 rw [e1, e2, e3, e4, e5, e6]
 obtain ⟨b1, d1, b2, d2, b3, d3, b4, d4, b5, d5, rfl, rfl, rfl, rfl, rfl, k1, k2, k3, k4, k5⟩ := ht.open
 unfold stV at *
 obtain ⟨n1, g1⟩ : ∃ n, st.shelves.length = n := ⟨_, rfl⟩
 obtain ⟨n2, g2⟩ : ∃ n, st.robots.length = n := ⟨_, rfl⟩
 obtain ⟨n3, g3⟩ : ∃ n, st.people.length = n := ⟨_, rfl⟩
 obtain ⟨n4, g4⟩ : ∃ n, st.dead.length = n := ⟨_, rfl⟩
 obtain ⟨n5, g5⟩ : ∃ n, st.stuck.length = n := ⟨_, rfl⟩
 try simp only [g1, g2, g3, g4, g5] at HRO
 try simp only [g1, g2, g3, g4, g5] at HLF
 rw [g1, g2, g3, g4, g5]
 have hxn : x < n2 := by rw [← g2]; exact hx
 have hrb : st.robots[x]? = some r := by rw [List.getElem?_eq_getElem hx, hr]
 have hcl2 : c < l1 := by rw [← e1]; exact hcl
 have HL1 := hid e1
 simp only [robA, hc] at HLF
 obtain ⟨w1, hw1⟩ : ∃ W, W = (w.alloc (.cells #[.int .i64 s.floor.w, .int .i64 s.floor.h, .int .i64 s.floor.d, .slice a1 l1 c1, .slice a2 l2 c2, .slice a3 l3 c3, .slice a4 l4 c4, .slice a5 l5 c5, .slice a6 l6 c6] 30)).alloc (.cells #[.int .i64 st.tick, .slice b1 n1 d1, .slice b2 n2 d2, .slice b3 n3 d3, .slice b4 n4 d4, .slice b5 n5 d5] 58) := ⟨_, rfl⟩
 have B1 : Hid (Below w.heap.size w w1) := hid (by rw [hw1]; exact ((Below.refl _ _).alloc (Nat.le_refl _) _).alloc (by simp) _)
 have I1 : Hid (w1.heap[w.heap.size]? = some (.cells #[.int .i64 s.floor.w, .int .i64 s.floor.h, .int .i64 s.floor.d, .slice a1 l1 c1, .slice a2 l2 c2, .slice a3 l3 c3, .slice a4 l4 c4, .slice a5 l5 c5, .slice a6 l6 c6] 30 (0, 0))) := hid (by rw [hw1]; exact heap_two0 _ _ _)
 have I2 : Hid (w1.heap[w.heap.size + 1]? = some (.cells #[.int .i64 st.tick, .slice b1 n1 d1, .slice b2 n2 d2, .slice b3 n3 d3, .slice b4 n4 d4, .slice b5 n5 d5] 58 (0, 0))) := hid (by rw [hw1]; exact heap_two3 _ _ _)
 have HW1 := hid hw1
 have hs1 := heap_lt I2.out
 obtain ⟨rb, ro, er, hrbk, x0, x1, x2, x3, x4, x5⟩ := (HRO.out w1 B1.out).cell x hx
 subst er
 rw [hr, hc] at x0
 rw [hr] at x1 x2 x3 x4 x5
 have q2 : w1.cell? ⟨w.heap.size + 1, 2, none⟩ = some (.slice (some ⟨rb, ro, none⟩) n2 d2) := cell_of_heap I2.out 2 rfl
 have j0 : (0 : Int) ≤ (x : Int) := by omega
 have j1 : (x : Int) < (n2 : Int) := by omega
 have j2 : ¬ n2 ≤ x := by omega
 obtain ⟨w2, hw2⟩ : ∃ W, W = w1.alloc (.cells #[.int .i64 (c : Int), .int .i64 r.load, .int .i64 r.charge, .int .i64 r.rest, .int .i64 r.mute, .bool r.dead] 105) := ⟨_, rfl⟩
 have A2 := al1 w1 (.cells #[.int .i64 (c : Int), .int .i64 r.load, .int .i64 r.charge, .int .i64 r.rest, .int .i64 r.mute, .bool r.dead] 105)
 rw [← hw2] at A2
 have B2 := hid (B1.out.trans (A2.2.1.mono B1.out.size))
 have J1 := hid (keep_heap I1.out A2.2.1)
 have J2 := hid (keep_heap I2.out A2.2.1)
 have J3 := hid A2.1
 have hs2 := heap_lt J3.out
 have HW2 := hid hw2
 clear hw2 A2 h e1 e2 e3 e4 e5 e6 m1 m2 m3 m4 m5 m6 hw1 ht g1 g2 g3 g4 g5 k1 k2 k3 k4 k5 ho hc hcl hx hr hrb hrch hc0 hc1 hlo0 hlo1 hxn HRO
 go_enter Tryz.func101, Tryz.ntmps101
 go_upto_region 1 with fail
 rw [← HW1.out]
 go_upto_region 8 with fail
 rw [← HW2.out]
 clear q2 x0 x1 x2 x3 x4 x5
 have r0 : w2.cell? ⟨w1.heap.size, 0, none⟩ = some (.int .i64 (c : Int)) := cell_of_heap J3.out 0 rfl
 have r1 : w2.cell? ⟨w1.heap.size, 1, none⟩ = some (.int .i64 r.load) := cell_of_heap J3.out 1 rfl
 have r2 : w2.cell? ⟨w1.heap.size, 2, none⟩ = some (.int .i64 r.charge) := cell_of_heap J3.out 2 rfl
 have r3 : w2.cell? ⟨w1.heap.size, 3, none⟩ = some (.int .i64 r.rest) := cell_of_heap J3.out 3 rfl
 have r4 : w2.cell? ⟨w1.heap.size, 4, none⟩ = some (.int .i64 r.mute) := cell_of_heap J3.out 4 rfl
 have r5 : w2.cell? ⟨w1.heap.size, 5, none⟩ = some (.bool r.dead) := cell_of_heap J3.out 5 rfl
 have q0 : w2.cell? ⟨w.heap.size + 1, 0, none⟩ = some (.int .i64 st.tick) := cell_of_heap J2.out 0 rfl
 go_wp2_with fail
 go_at_call 105; refine (HDI.out w2).mono ?_; rintro e w9 ⟨rfl, rfl⟩
 obtain ⟨D, hD⟩ : ∃ C, r.dead = C := ⟨_, rfl⟩
 cases D with
 | true =>
  rw [hD] at r5
  go_wp2_with fail
  go_ret
  exact ⟨⟨_, rfl⟩, B2.out⟩
 | false =>
  rw [hD] at r5
  by_cases fm : 0 < r.mute
  · go_wp2_with fail
    go_ret
    exact ⟨⟨_, rfl⟩, B2.out⟩
  obtain ⟨b, hb⟩ : ∃ b, decide (r.load ≥ 0) = b := ⟨_, rfl⟩
  obtain ⟨cc, ee, HC⟩ := HAF.out b w2
  have HC := hid HC
  go_wp2_with fail
  try rw [hb]
  go_at_call 103; refine HC.out.mono ?_; rintro e w9 ⟨rfl, rfl⟩
  clear HC HAF
  by_cases fe : ee = 16
  · subst fe
    go_wp2_with fail
    go_ret
    exact ⟨⟨_, rfl⟩, B2.out⟩
  have fe' : (ee == 16) = false := by simpa using fe
  clear fe
  obtain ⟨p0, p1, p2, p3, p4, p5, p6, p7, p8⟩ := cells9 J1.out
  have q1 : w2.cell? ⟨w.heap.size + 1, 1, none⟩ = some (.slice b1 n1 d1) := cell_of_heap J2.out 1 rfl
  have q2 : w2.cell? ⟨w.heap.size + 1, 2, none⟩ = some (.slice (some ⟨rb, ro, none⟩) n2 d2) := cell_of_heap J2.out 2 rfl
  have q3 : w2.cell? ⟨w.heap.size + 1, 3, none⟩ = some (.slice b3 n3 d3) := cell_of_heap J2.out 3 rfl
  have q4 : w2.cell? ⟨w.heap.size + 1, 4, none⟩ = some (.slice b4 n4 d4) := cell_of_heap J2.out 4 rfl
  have q5 : w2.cell? ⟨w.heap.size + 1, 5, none⟩ = some (.slice b5 n5 d5) := cell_of_heap J2.out 5 rfl
  simp only [hD] at HLF
  go_wp2_with fail
  go_at_call 181; with_reducible refine (HLF.out w2 B2.out).mono ?_; rintro e w3 ⟨⟨k, rfl⟩, b3⟩
  have B3 := hid (B2.out.trans (b3.mono B2.out.size))
  clear b3
  go_wp2_with fail
  go_ret
  exact ⟨⟨_, rfl⟩, B3.out⟩
theorem legal_dr (s : Si.Site) (kv ov zv av sv rv : Value) (st : Bd.State) (shv rov pev dev skv : Value) (x : Nat) (w : World) (h : SiV w kv ov zv av sv rv s) (ht : StV w shv rov pev dev skv st) (ho : ActOk s st) (hx : x < st.robots.length) :
 Calls Tryz.prog 101 #[siV s kv ov zv av sv rv, stV st shv rov pev dev skv, .int .i64 (x : Int), .int .i64 (8)] w fun e w' => (∃ k : Int, e = .returned (.int .i64 k)) ∧ Below w.heap.size w w' := by
 have hrin := ho.ro _ (List.getElem_mem hx)
 have hrch := ho.rc _ (List.getElem_mem hx)
 obtain ⟨r, hr⟩ : ∃ r, st.robots[x] = r := ⟨_, rfl⟩
 rw [hr] at hrin hrch
 obtain ⟨⟨hc0, hc1⟩, hlo0, hlo1⟩ := hrin
 obtain ⟨c, hc⟩ := Int.eq_ofNat_of_zero_le hc0
 have hcl : c < s.floor.kind.length := by omega
 have HDR := hid (fun L W (hb : Below w.heap.size w W) => drop12_any s kv ov zv av sv rv st shv rov pev dev skv L c W (h.keep hb) (ht.keep hb) ho.ap ho.al ho.sf ho.fb)
 have HDI : Hid (∀ W, Calls Tryz.prog 105 #[.int .i64 8] W fun e w' => e = .returned (.tuple #[.int .i64 (8 - 1), .bool false]) ∧ W = w') := hid (fun W => by
  have h1 := direction_any 8 W (by omega)
  rw [show decide (1 ≤ (8 : Int) ∧ (8 : Int) ≤ 6) = false by decide] at h1
  exact h1.mono (fun _ _ h => ⟨h.1, h.2.symm⟩))
 have HAF : Hid (∀ b W, ∃ cc ee, Calls Tryz.prog 103 #[.int .i64 st.tick, .int .i64 r.charge, .int .i64 (8), .bool b] W fun e w' => e = .returned (.tuple #[.int .i64 cc, .int .i64 ee]) ∧ W = w') := hid (fun b W => ⟨_, _, (After_any st.tick r.charge (8) b W ho.tk hrch (by unfold I64; omega)).mono (fun _ _ h => ⟨h.1, h.2⟩)⟩)
 have HRO := hid (fun W (hb : Below w.heap.size w W) => (ht.keep hb).ro)
 have HKI := hid (fun W (hb : Below w.heap.size w W) => (h.keep hb).fl.kind)
 obtain ⟨a1, c1, a2, c2, a3, c3, a4, c4, a5, c5, a6, c6, rfl, rfl, rfl, rfl, rfl, rfl, m1, m2, m3, m4, m5, m6⟩ := h.open
 unfold siV at *
 obtain ⟨l1, e1⟩ : ∃ n, s.floor.kind.length = n := ⟨_, rfl⟩
 obtain ⟨l2, e2⟩ : ∃ n, s.floor.out.length = n := ⟨_, rfl⟩
 obtain ⟨l3, e3⟩ : ∃ n, s.zones.length = n := ⟨_, rfl⟩
 obtain ⟨l4, e4⟩ : ∃ n, s.aparts.length = n := ⟨_, rfl⟩
 obtain ⟨l5, e5⟩ : ∃ n, s.shelves.length = n := ⟨_, rfl⟩
 obtain ⟨l6, e6⟩ : ∃ n, s.robots.length = n := ⟨_, rfl⟩
 try simp only [e1, e2, e3, e4, e5, e6] at HKI
 try simp only [e1, e2, e3, e4, e5, e6] at HDR
 rw [e1, e2, e3, e4, e5, e6]
 obtain ⟨b1, d1, b2, d2, b3, d3, b4, d4, b5, d5, rfl, rfl, rfl, rfl, rfl, k1, k2, k3, k4, k5⟩ := ht.open
 unfold stV at *
 obtain ⟨n1, g1⟩ : ∃ n, st.shelves.length = n := ⟨_, rfl⟩
 obtain ⟨n2, g2⟩ : ∃ n, st.robots.length = n := ⟨_, rfl⟩
 obtain ⟨n3, g3⟩ : ∃ n, st.people.length = n := ⟨_, rfl⟩
 obtain ⟨n4, g4⟩ : ∃ n, st.dead.length = n := ⟨_, rfl⟩
 obtain ⟨n5, g5⟩ : ∃ n, st.stuck.length = n := ⟨_, rfl⟩
 try simp only [g1, g2, g3, g4, g5] at HRO
 try simp only [g1, g2, g3, g4, g5] at HDR
 rw [g1, g2, g3, g4, g5]
 have hxn : x < n2 := by rw [← g2]; exact hx
 have hrb : st.robots[x]? = some r := by rw [List.getElem?_eq_getElem hx, hr]
 have hcl2 : c < l1 := by rw [← e1]; exact hcl
 have HL1 := hid e1
 obtain ⟨w1, hw1⟩ : ∃ W, W = (w.alloc (.cells #[.int .i64 s.floor.w, .int .i64 s.floor.h, .int .i64 s.floor.d, .slice a1 l1 c1, .slice a2 l2 c2, .slice a3 l3 c3, .slice a4 l4 c4, .slice a5 l5 c5, .slice a6 l6 c6] 30)).alloc (.cells #[.int .i64 st.tick, .slice b1 n1 d1, .slice b2 n2 d2, .slice b3 n3 d3, .slice b4 n4 d4, .slice b5 n5 d5] 58) := ⟨_, rfl⟩
 have B1 : Hid (Below w.heap.size w w1) := hid (by rw [hw1]; exact ((Below.refl _ _).alloc (Nat.le_refl _) _).alloc (by simp) _)
 have I1 : Hid (w1.heap[w.heap.size]? = some (.cells #[.int .i64 s.floor.w, .int .i64 s.floor.h, .int .i64 s.floor.d, .slice a1 l1 c1, .slice a2 l2 c2, .slice a3 l3 c3, .slice a4 l4 c4, .slice a5 l5 c5, .slice a6 l6 c6] 30 (0, 0))) := hid (by rw [hw1]; exact heap_two0 _ _ _)
 have I2 : Hid (w1.heap[w.heap.size + 1]? = some (.cells #[.int .i64 st.tick, .slice b1 n1 d1, .slice b2 n2 d2, .slice b3 n3 d3, .slice b4 n4 d4, .slice b5 n5 d5] 58 (0, 0))) := hid (by rw [hw1]; exact heap_two3 _ _ _)
 have HW1 := hid hw1
 have hs1 := heap_lt I2.out
 obtain ⟨rb, ro, er, hrbk, x0, x1, x2, x3, x4, x5⟩ := (HRO.out w1 B1.out).cell x hx
 subst er
 rw [hr, hc] at x0
 rw [hr] at x1 x2 x3 x4 x5
 have q2 : w1.cell? ⟨w.heap.size + 1, 2, none⟩ = some (.slice (some ⟨rb, ro, none⟩) n2 d2) := cell_of_heap I2.out 2 rfl
 have j0 : (0 : Int) ≤ (x : Int) := by omega
 have j1 : (x : Int) < (n2 : Int) := by omega
 have j2 : ¬ n2 ≤ x := by omega
 obtain ⟨w2, hw2⟩ : ∃ W, W = w1.alloc (.cells #[.int .i64 (c : Int), .int .i64 r.load, .int .i64 r.charge, .int .i64 r.rest, .int .i64 r.mute, .bool r.dead] 105) := ⟨_, rfl⟩
 have A2 := al1 w1 (.cells #[.int .i64 (c : Int), .int .i64 r.load, .int .i64 r.charge, .int .i64 r.rest, .int .i64 r.mute, .bool r.dead] 105)
 rw [← hw2] at A2
 have B2 := hid (B1.out.trans (A2.2.1.mono B1.out.size))
 have J1 := hid (keep_heap I1.out A2.2.1)
 have J2 := hid (keep_heap I2.out A2.2.1)
 have J3 := hid A2.1
 have hs2 := heap_lt J3.out
 have HW2 := hid hw2
 clear hw2 A2 h e1 e2 e3 e4 e5 e6 m1 m2 m3 m4 m5 m6 hw1 ht g1 g2 g3 g4 g5 k1 k2 k3 k4 k5 ho hc hcl hx hr hrb hrch hc0 hc1 hlo0 hlo1 hxn HRO
 go_enter Tryz.func101, Tryz.ntmps101
 go_upto_region 1 with fail
 rw [← HW1.out]
 go_upto_region 8 with fail
 rw [← HW2.out]
 clear q2 x0 x1 x2 x3 x4 x5
 have r0 : w2.cell? ⟨w1.heap.size, 0, none⟩ = some (.int .i64 (c : Int)) := cell_of_heap J3.out 0 rfl
 have r1 : w2.cell? ⟨w1.heap.size, 1, none⟩ = some (.int .i64 r.load) := cell_of_heap J3.out 1 rfl
 have r2 : w2.cell? ⟨w1.heap.size, 2, none⟩ = some (.int .i64 r.charge) := cell_of_heap J3.out 2 rfl
 have r3 : w2.cell? ⟨w1.heap.size, 3, none⟩ = some (.int .i64 r.rest) := cell_of_heap J3.out 3 rfl
 have r4 : w2.cell? ⟨w1.heap.size, 4, none⟩ = some (.int .i64 r.mute) := cell_of_heap J3.out 4 rfl
 have r5 : w2.cell? ⟨w1.heap.size, 5, none⟩ = some (.bool r.dead) := cell_of_heap J3.out 5 rfl
 have q0 : w2.cell? ⟨w.heap.size + 1, 0, none⟩ = some (.int .i64 st.tick) := cell_of_heap J2.out 0 rfl
 go_wp2_with fail
 go_at_call 105; refine (HDI.out w2).mono ?_; rintro e w9 ⟨rfl, rfl⟩
 obtain ⟨D, hD⟩ : ∃ C, r.dead = C := ⟨_, rfl⟩
 cases D with
 | true =>
  rw [hD] at r5
  go_wp2_with fail
  go_ret
  exact ⟨⟨_, rfl⟩, B2.out⟩
 | false =>
  rw [hD] at r5
  by_cases fm : 0 < r.mute
  · go_wp2_with fail
    go_ret
    exact ⟨⟨_, rfl⟩, B2.out⟩
  obtain ⟨b, hb⟩ : ∃ b, decide (r.load ≥ 0) = b := ⟨_, rfl⟩
  obtain ⟨cc, ee, HC⟩ := HAF.out b w2
  have HC := hid HC
  go_wp2_with fail
  try rw [hb]
  go_at_call 103; refine HC.out.mono ?_; rintro e w9 ⟨rfl, rfl⟩
  clear HC HAF
  by_cases fe : ee = 16
  · subst fe
    go_wp2_with fail
    go_ret
    exact ⟨⟨_, rfl⟩, B2.out⟩
  have fe' : (ee == 16) = false := by simpa using fe
  clear fe
  obtain ⟨p0, p1, p2, p3, p4, p5, p6, p7, p8⟩ := cells9 J1.out
  have q1 : w2.cell? ⟨w.heap.size + 1, 1, none⟩ = some (.slice b1 n1 d1) := cell_of_heap J2.out 1 rfl
  have q2 : w2.cell? ⟨w.heap.size + 1, 2, none⟩ = some (.slice (some ⟨rb, ro, none⟩) n2 d2) := cell_of_heap J2.out 2 rfl
  have q3 : w2.cell? ⟨w.heap.size + 1, 3, none⟩ = some (.slice b3 n3 d3) := cell_of_heap J2.out 3 rfl
  have q4 : w2.cell? ⟨w.heap.size + 1, 4, none⟩ = some (.slice b4 n4 d4) := cell_of_heap J2.out 4 rfl
  have q5 : w2.cell? ⟨w.heap.size + 1, 5, none⟩ = some (.slice b5 n5 d5) := cell_of_heap J2.out 5 rfl
  by_cases fl : r.load < 0
  · go_wp2_with fail
    go_ret
    exact ⟨⟨_, rfl⟩, B2.out⟩
  · go_wp2_with fail
    go_at_call 182; refine (HDR.out _ w2 B2.out).mono ?_; rintro e w3 ⟨⟨k, rfl⟩, b3⟩
    have B3 := hid (B2.out.trans (b3.mono B2.out.size))
    clear b3
    go_wp2_with fail
    go_ret
    exact ⟨⟨_, rfl⟩, B3.out⟩
theorem legal_ch (s : Si.Site) (kv ov zv av sv rv : Value) (st : Bd.State) (shv rov pev dev skv : Value) (x : Nat) (w : World) (h : SiV w kv ov zv av sv rv s) (ht : StV w shv rov pev dev skv st) (ho : ActOk s st) (hx : x < st.robots.length) :
 Calls Tryz.prog 101 #[siV s kv ov zv av sv rv, stV st shv rov pev dev skv, .int .i64 (x : Int), .int .i64 (9)] w fun e w' => (∃ k : Int, e = .returned (.int .i64 k)) ∧ Below w.heap.size w w' := by
 have hrin := ho.ro _ (List.getElem_mem hx)
 have hrch := ho.rc _ (List.getElem_mem hx)
 obtain ⟨r, hr⟩ : ∃ r, st.robots[x] = r := ⟨_, rfl⟩
 rw [hr] at hrin hrch
 obtain ⟨⟨hc0, hc1⟩, hlo0, hlo1⟩ := hrin
 obtain ⟨c, hc⟩ := Int.eq_ofNat_of_zero_le hc0
 have hcl : c < s.floor.kind.length := by omega
 have HDI : Hid (∀ W, Calls Tryz.prog 105 #[.int .i64 9] W fun e w' => e = .returned (.tuple #[.int .i64 (9 - 1), .bool false]) ∧ W = w') := hid (fun W => by
  have h1 := direction_any 9 W (by omega)
  rw [show decide (1 ≤ (9 : Int) ∧ (9 : Int) ≤ 6) = false by decide] at h1
  exact h1.mono (fun _ _ h => ⟨h.1, h.2.symm⟩))
 have HAF : Hid (∀ b W, ∃ cc ee, Calls Tryz.prog 103 #[.int .i64 st.tick, .int .i64 r.charge, .int .i64 (9), .bool b] W fun e w' => e = .returned (.tuple #[.int .i64 cc, .int .i64 ee]) ∧ W = w') := hid (fun b W => ⟨_, _, (After_any st.tick r.charge (9) b W ho.tk hrch (by unfold I64; omega)).mono (fun _ _ h => ⟨h.1, h.2⟩)⟩)
 have HRO := hid (fun W (hb : Below w.heap.size w W) => (ht.keep hb).ro)
 have HKI := hid (fun W (hb : Below w.heap.size w W) => (h.keep hb).fl.kind)
 obtain ⟨a1, c1, a2, c2, a3, c3, a4, c4, a5, c5, a6, c6, rfl, rfl, rfl, rfl, rfl, rfl, m1, m2, m3, m4, m5, m6⟩ := h.open
 unfold siV at *
 obtain ⟨l1, e1⟩ : ∃ n, s.floor.kind.length = n := ⟨_, rfl⟩
 obtain ⟨l2, e2⟩ : ∃ n, s.floor.out.length = n := ⟨_, rfl⟩
 obtain ⟨l3, e3⟩ : ∃ n, s.zones.length = n := ⟨_, rfl⟩
 obtain ⟨l4, e4⟩ : ∃ n, s.aparts.length = n := ⟨_, rfl⟩
 obtain ⟨l5, e5⟩ : ∃ n, s.shelves.length = n := ⟨_, rfl⟩
 obtain ⟨l6, e6⟩ : ∃ n, s.robots.length = n := ⟨_, rfl⟩
 try simp only [e1, e2, e3, e4, e5, e6] at HKI
 rw [e1, e2, e3, e4, e5, e6]
 obtain ⟨b1, d1, b2, d2, b3, d3, b4, d4, b5, d5, rfl, rfl, rfl, rfl, rfl, k1, k2, k3, k4, k5⟩ := ht.open
 unfold stV at *
 obtain ⟨n1, g1⟩ : ∃ n, st.shelves.length = n := ⟨_, rfl⟩
 obtain ⟨n2, g2⟩ : ∃ n, st.robots.length = n := ⟨_, rfl⟩
 obtain ⟨n3, g3⟩ : ∃ n, st.people.length = n := ⟨_, rfl⟩
 obtain ⟨n4, g4⟩ : ∃ n, st.dead.length = n := ⟨_, rfl⟩
 obtain ⟨n5, g5⟩ : ∃ n, st.stuck.length = n := ⟨_, rfl⟩
 try simp only [g1, g2, g3, g4, g5] at HRO
 rw [g1, g2, g3, g4, g5]
 have hxn : x < n2 := by rw [← g2]; exact hx
 have hrb : st.robots[x]? = some r := by rw [List.getElem?_eq_getElem hx, hr]
 have hcl2 : c < l1 := by rw [← e1]; exact hcl
 have HL1 := hid e1
 obtain ⟨w1, hw1⟩ : ∃ W, W = (w.alloc (.cells #[.int .i64 s.floor.w, .int .i64 s.floor.h, .int .i64 s.floor.d, .slice a1 l1 c1, .slice a2 l2 c2, .slice a3 l3 c3, .slice a4 l4 c4, .slice a5 l5 c5, .slice a6 l6 c6] 30)).alloc (.cells #[.int .i64 st.tick, .slice b1 n1 d1, .slice b2 n2 d2, .slice b3 n3 d3, .slice b4 n4 d4, .slice b5 n5 d5] 58) := ⟨_, rfl⟩
 have B1 : Hid (Below w.heap.size w w1) := hid (by rw [hw1]; exact ((Below.refl _ _).alloc (Nat.le_refl _) _).alloc (by simp) _)
 have I1 : Hid (w1.heap[w.heap.size]? = some (.cells #[.int .i64 s.floor.w, .int .i64 s.floor.h, .int .i64 s.floor.d, .slice a1 l1 c1, .slice a2 l2 c2, .slice a3 l3 c3, .slice a4 l4 c4, .slice a5 l5 c5, .slice a6 l6 c6] 30 (0, 0))) := hid (by rw [hw1]; exact heap_two0 _ _ _)
 have I2 : Hid (w1.heap[w.heap.size + 1]? = some (.cells #[.int .i64 st.tick, .slice b1 n1 d1, .slice b2 n2 d2, .slice b3 n3 d3, .slice b4 n4 d4, .slice b5 n5 d5] 58 (0, 0))) := hid (by rw [hw1]; exact heap_two3 _ _ _)
 have HW1 := hid hw1
 have hs1 := heap_lt I2.out
 obtain ⟨rb, ro, er, hrbk, x0, x1, x2, x3, x4, x5⟩ := (HRO.out w1 B1.out).cell x hx
 subst er
 rw [hr, hc] at x0
 rw [hr] at x1 x2 x3 x4 x5
 have q2 : w1.cell? ⟨w.heap.size + 1, 2, none⟩ = some (.slice (some ⟨rb, ro, none⟩) n2 d2) := cell_of_heap I2.out 2 rfl
 have j0 : (0 : Int) ≤ (x : Int) := by omega
 have j1 : (x : Int) < (n2 : Int) := by omega
 have j2 : ¬ n2 ≤ x := by omega
 obtain ⟨w2, hw2⟩ : ∃ W, W = w1.alloc (.cells #[.int .i64 (c : Int), .int .i64 r.load, .int .i64 r.charge, .int .i64 r.rest, .int .i64 r.mute, .bool r.dead] 105) := ⟨_, rfl⟩
 have A2 := al1 w1 (.cells #[.int .i64 (c : Int), .int .i64 r.load, .int .i64 r.charge, .int .i64 r.rest, .int .i64 r.mute, .bool r.dead] 105)
 rw [← hw2] at A2
 have B2 := hid (B1.out.trans (A2.2.1.mono B1.out.size))
 have J1 := hid (keep_heap I1.out A2.2.1)
 have J2 := hid (keep_heap I2.out A2.2.1)
 have J3 := hid A2.1
 have hs2 := heap_lt J3.out
 have HW2 := hid hw2
 clear hw2 A2 h e1 e2 e3 e4 e5 e6 m1 m2 m3 m4 m5 m6 hw1 ht g1 g2 g3 g4 g5 k1 k2 k3 k4 k5 ho hc hcl hx hr hrb hrch hc0 hc1 hlo0 hlo1 hxn HRO
 go_enter Tryz.func101, Tryz.ntmps101
 go_upto_region 1 with fail
 rw [← HW1.out]
 go_upto_region 8 with fail
 rw [← HW2.out]
 clear q2 x0 x1 x2 x3 x4 x5
 have r0 : w2.cell? ⟨w1.heap.size, 0, none⟩ = some (.int .i64 (c : Int)) := cell_of_heap J3.out 0 rfl
 have r1 : w2.cell? ⟨w1.heap.size, 1, none⟩ = some (.int .i64 r.load) := cell_of_heap J3.out 1 rfl
 have r2 : w2.cell? ⟨w1.heap.size, 2, none⟩ = some (.int .i64 r.charge) := cell_of_heap J3.out 2 rfl
 have r3 : w2.cell? ⟨w1.heap.size, 3, none⟩ = some (.int .i64 r.rest) := cell_of_heap J3.out 3 rfl
 have r4 : w2.cell? ⟨w1.heap.size, 4, none⟩ = some (.int .i64 r.mute) := cell_of_heap J3.out 4 rfl
 have r5 : w2.cell? ⟨w1.heap.size, 5, none⟩ = some (.bool r.dead) := cell_of_heap J3.out 5 rfl
 have q0 : w2.cell? ⟨w.heap.size + 1, 0, none⟩ = some (.int .i64 st.tick) := cell_of_heap J2.out 0 rfl
 go_wp2_with fail
 go_at_call 105; refine (HDI.out w2).mono ?_; rintro e w9 ⟨rfl, rfl⟩
 obtain ⟨D, hD⟩ : ∃ C, r.dead = C := ⟨_, rfl⟩
 cases D with
 | true =>
  rw [hD] at r5
  go_wp2_with fail
  go_ret
  exact ⟨⟨_, rfl⟩, B2.out⟩
 | false =>
  rw [hD] at r5
  by_cases fm : 0 < r.mute
  · go_wp2_with fail
    go_ret
    exact ⟨⟨_, rfl⟩, B2.out⟩
  obtain ⟨b, hb⟩ : ∃ b, decide (r.load ≥ 0) = b := ⟨_, rfl⟩
  obtain ⟨cc, ee, HC⟩ := HAF.out b w2
  have HC := hid HC
  go_wp2_with fail
  try rw [hb]
  go_at_call 103; refine HC.out.mono ?_; rintro e w9 ⟨rfl, rfl⟩
  clear HC HAF
  by_cases fe : ee = 16
  · subst fe
    go_wp2_with fail
    go_ret
    exact ⟨⟨_, rfl⟩, B2.out⟩
  have fe' : (ee == 16) = false := by simpa using fe
  clear fe
  obtain ⟨kb, ko, ek, y0⟩ := (HKI.out w2 B2.out).cell c (by rw [HL1.out]; exact hcl2)
  subst ek
  have p3 : w2.cell? ⟨w.heap.size, 3, none⟩ = some (.slice (some ⟨kb, ko, none⟩) l1 c1) := cell_of_heap J1.out 3 rfl
  obtain ⟨K, hK⟩ : ∃ K, s.floor.kind[c]'(by rw [HL1.out]; exact hcl2) = K := ⟨_, rfl⟩
  rw [hK] at y0
  have i0 : (0 : Int) ≤ (c : Int) := by omega
  have i1 : (c : Int) < (l1 : Int) := by omega
  clear hK
  by_cases fk : K = 3
  · subst fk
    go_wp2_with fail
    go_ret
    exact ⟨⟨_, rfl⟩, B2.out⟩
  · have fk' : (K != 3) = true := by simpa using fk
    go_wp2_with fail
    go_ret
    exact ⟨⟨_, rfl⟩, B2.out⟩
end Go.Proofs.YtfcbcpfnaadpeaaGreatDoor
