/- Parts AcOc of this claim, laid one behind the other: walks and the plain laws behind them; each contract states its own conditions. -/
import Derived.Test.YtfcbcpfnaadpeaaGreatDoorAH
namespace Go.Proofs.YtfcbcpfnaadpeaaGreatDoor
set_option maxRecDepth 100000
set_option maxHeartbeats 64000000
set_option linter.unusedSimpArgs false
set_option linter.unusedVariables false
open Go.RowKit
theorem do_mv (s : Si.Site) (kv ov zv av sv rv : Value) (st : Bd.State) (shv rov pev dev skv : Value) (x : Nat) (d : Nat) (w : World) (h : SiV w kv ov zv av sv rv s) (ht : StV w shv rov pev dev skv st) (ho : ActOk s st) (hx : x < st.robots.length) (hd : d < 6) :
 Calls Tryz.prog 40 #[siV s kv ov zv av sv rv, stV st shv rov pev dev skv, .int .i64 (x : Int), .int .i64 ((d : Int) + 1)] w (DoPost s st w) := by
 have hrin := ho.ro _ (List.getElem_mem hx)
 have hrch := ho.rc _ (List.getElem_mem hx)
 obtain ⟨r, hr⟩ : ∃ r, st.robots[x] = r := ⟨_, rfl⟩
 rw [hr] at hrin hrch
 have HRI := hid hrin
 have HRC := hid hrch
 have HTK := hid ho.tk
 obtain ⟨⟨hc0, hc1⟩, hlo0, hlo1⟩ := hrin
 obtain ⟨c, hc⟩ := Int.eq_ofNat_of_zero_le hc0
 have hcl : c < s.floor.kind.length := by omega
 have hrb : st.robots[x]? = some r := by rw [List.getElem?_eq_getElem hx, hr]
 have HRB := hid hrb
 have hcH := hid hc
 have HOK := hid ho
 have HCL := hid (fun W (hW : Below w.heap.size w W) => Clone_any st shv rov pev dev skv W (ht.keep hW) (by have := ho.ss.ns; omega) (by have := ho.ss.nr; omega) (by have := ho.ss.np; omega) ho.de ho.sk)
 have HAF : Hid (∀ b W, Calls Tryz.prog 103 #[.int .i64 st.tick, .int .i64 r.charge, .int .i64 ((d : Int) + 1), .bool b] W fun e w' => (∃ cc ee : Int, e = .returned (.tuple #[.int .i64 cc, .int .i64 ee]) ∧ I64 cc) ∧ W = w') := hid (fun b W => (After_any st.tick r.charge ((d : Int) + 1) b W HTK.out HRC.out (by unfold I64; omega)).mono (fun _ _ h => ⟨⟨_, _, h.1, Bat.after_bd _ _ _ _ HRC.out⟩, h.2⟩))
 have HNX := hid (fun W (hb : Below w.heap.size w W) => Next_any s.floor kv ov c d W ho.fr (h.keep hb).fl hcl hd)
 have HSP := hid (fun (n : Nat) W (hb : Below w.heap.size w W) => speed12_any s kv ov zv av sv rv n W (h.keep hb) ho.zs)
 have HNL : Hid (∀ n : Nat, Fl.next s.floor c d = some n → n < s.floor.kind.length) := hid (fun n h => by
  rcases next_cases ho.fr c d with ⟨-, h2⟩ | ⟨m, hm, -, h2⟩
  · rw [h2] at h; cases h
  · rw [h2] at h
    split at h
    · injection h with h
      omega
    · cases h)
 obtain ⟨nx, hnx⟩ : ∃ x, Fl.next s.floor c d = x := ⟨_, rfl⟩
 rw [hnx] at HNX HNL
 unfold flV at HNX
 have HDI : Hid (∀ W, Calls Tryz.prog 105 #[.int .i64 ((d : Int) + 1)] W fun e w' => e = .returned (.tuple #[.int .i64 (d : Int), .bool true]) ∧ W = w') := hid (fun W => by
  have h1 := (direction_any ((d : Int) + 1) W (by omega)).mono (R' := fun e w' => e = .returned (.tuple #[.int .i64 ((d : Int) + 1 - 1), .bool (decide (1 ≤ (d : Int) + 1 ∧ (d : Int) + 1 ≤ 6))]) ∧ W = w') (fun _ _ h => ⟨h.1, h.2.symm⟩)
  rw [show (d : Int) + 1 - 1 = (d : Int) by omega, show decide (1 ≤ (d : Int) + 1 ∧ (d : Int) + 1 ≤ 6) = true by simp; omega] at h1
  exact h1)
 obtain ⟨a1, c1, a2, c2, a3, c3, a4, c4, a5, c5, a6, c6, rfl, rfl, rfl, rfl, rfl, rfl, m1, m2, m3, m4, m5, m6⟩ := h.open
 unfold siV at *
 obtain ⟨l1, e1⟩ : ∃ n, s.floor.kind.length = n := ⟨_, rfl⟩
 obtain ⟨l2, e2⟩ : ∃ n, s.floor.out.length = n := ⟨_, rfl⟩
 obtain ⟨l3, e3⟩ : ∃ n, s.zones.length = n := ⟨_, rfl⟩
 obtain ⟨l4, e4⟩ : ∃ n, s.aparts.length = n := ⟨_, rfl⟩
 obtain ⟨l5, e5⟩ : ∃ n, s.shelves.length = n := ⟨_, rfl⟩
 obtain ⟨l6, e6⟩ : ∃ n, s.robots.length = n := ⟨_, rfl⟩
 try simp only [e1, e2, e3, e4, e5, e6] at HNX
 try simp only [e1, e2, e3, e4, e5, e6] at HSP
 rw [e1, e2, e3, e4, e5, e6]
 obtain ⟨b1, d1, b2, d2, b3, d3, b4, d4, b5, d5, rfl, rfl, rfl, rfl, rfl, k1, k2, k3, k4, k5⟩ := ht.open
 unfold stV at *
 obtain ⟨n1, g1⟩ : ∃ n, st.shelves.length = n := ⟨_, rfl⟩
 obtain ⟨n2, g2⟩ : ∃ n, st.robots.length = n := ⟨_, rfl⟩
 obtain ⟨n3, g3⟩ : ∃ n, st.people.length = n := ⟨_, rfl⟩
 obtain ⟨n4, g4⟩ : ∃ n, st.dead.length = n := ⟨_, rfl⟩
 obtain ⟨n5, g5⟩ : ∃ n, st.stuck.length = n := ⟨_, rfl⟩
 try simp only [g1, g2, g3, g4, g5] at HCL
 rw [g1, g2, g3, g4, g5]
 have hxn : x < n2 := by rw [← g2]; exact hx
 have HG1 := hid g1
 have HG2 := hid g2
 try unfold stV at HCL
 obtain ⟨w1, hw1⟩ : ∃ W, W = ((w.alloc (.cells #[.int .i64 s.floor.w, .int .i64 s.floor.h, .int .i64 s.floor.d, .slice a1 l1 c1, .slice a2 l2 c2, .slice a3 l3 c3, .slice a4 l4 c4, .slice a5 l5 c5, .slice a6 l6 c6] 30)).alloc (.cells #[.int .i64 st.tick, .slice b1 n1 d1, .slice b2 n2 d2, .slice b3 n3 d3, .slice b4 n4 d4, .slice b5 n5 d5] 58)).alloc (.cells #[.int .i64 0, .slice none 0 0, .slice none 0 0, .slice none 0 0, .slice none 0 0, .slice none 0 0] 58) := ⟨_, rfl⟩
 have HA3 := al3 w (.cells #[.int .i64 s.floor.w, .int .i64 s.floor.h, .int .i64 s.floor.d, .slice a1 l1 c1, .slice a2 l2 c2, .slice a3 l3 c3, .slice a4 l4 c4, .slice a5 l5 c5, .slice a6 l6 c6] 30) (.cells #[.int .i64 st.tick, .slice b1 n1 d1, .slice b2 n2 d2, .slice b3 n3 d3, .slice b4 n4 d4, .slice b5 n5 d5] 58) (.cells #[.int .i64 0, .slice none 0 0, .slice none 0 0, .slice none 0 0, .slice none 0 0, .slice none 0 0] 58)
 rw [← hw1] at HA3
 have I1 := hid HA3.1
 have I2 := hid HA3.2.1
 have I3 := hid HA3.2.2.1
 have B1 := hid HA3.2.2.2.1
 have HW1 := hid hw1
 have hs1 := heap_lt I3.out
 clear HA3
 have zz2 : ((d : Int) + 1 == 7) = false := by rw [beq_eq_false_iff_ne]; omega
 have zz3 : ((d : Int) + 1 == 8) = false := by rw [beq_eq_false_iff_ne]; omega
 clear hd hnx
 clear h e1 e2 e3 e4 e5 e6 m1 m2 m3 m4 m5 m6 hw1 ht g1 g2 g3 g4 g5 k1 k2 k3 k4 k5 ho hc hcl hx hr hrb hrch hc0 hc1 hlo0 hlo1
 go_enter Tryz.func40, Tryz.ntmps40
 go_upto_region 1 with fail
 rw [← HW1.out]
 obtain ⟨q0, q1, q2, q3, q4, q5⟩ := cells6 I2.out
 go_wp2_with fail
 go_at_call 102; with_reducible refine (HCL.out w1 B1.out).mono ?_; rintro e w2 ⟨v1, v2, v3, v4, v5, rfl, hso, b2⟩
 have B2 := hid (B1.out.trans (b2.mono B1.out.size))
 have s2 := b2.size
 have hw1s : w.heap.size + 1 + 1 < w1.heap.size := hs1
 have J1 := hid (keep_heap I1.out b2)
 have J2 := hid (keep_heap I2.out b2)
 have J3 := hid (keep_heap I3.out b2)
 obtain ⟨g, cap, hv2, hBg, hgl⟩ := own_form1 hso.o2 (by rw [HG2.out]; omega)
 rw [HG2.out] at hv2
 subst hv2
 obtain ⟨av1, cap1, hv1⟩ := own_form hso.o1
 rw [HG1.out] at hv1
 subst hv1
 obtain ⟨w3, hw3⟩ : ∃ W, W = (w2.alloc (.cells #[.int .i64 0, .slice none 0 0, .slice none 0 0, .slice none 0 0, .slice none 0 0, .slice none 0 0] 58)).setRow w2.heap.size #[.int .i64 st.tick, .slice av1 n1 cap1, .slice (some ⟨g, 0, none⟩) n2 cap, v3, v4, v5] := ⟨_, rfl⟩
 have IZ : Hid ((w2.alloc (.cells #[.int .i64 0, .slice none 0 0, .slice none 0 0, .slice none 0 0, .slice none 0 0, .slice none 0 0] 58)).heap[w2.heap.size]? = some (.cells #[.int .i64 0, .slice none 0 0, .slice none 0 0, .slice none 0 0, .slice none 0 0, .slice none 0 0] 58 (0, 0))) := hid (heap_alloc_new _ _)
 have IN : Hid (w3.heap[w2.heap.size]? = some (.cells #[.int .i64 st.tick, .slice av1 n1 cap1, .slice (some ⟨g, 0, none⟩) n2 cap, v3, v4, v5] 58 (0, 0))) := hid (by rw [hw3]; exact setRow_heap _ _ _ _ _ _ IZ.out)
 have B6 : Hid (Below w2.heap.size w2 w3) := hid (by rw [hw3]; exact below_setRow _ ((Below.refl _ w2).alloc (Nat.le_refl _) _) (Nat.le_refl _))
 have B3 := hid (B2.out.trans (B6.out.mono B2.out.size))
 have SO := hid (hso.below B6.out)
 have K1 := hid (keep_heap J1.out B6.out)
 have K2 := hid (keep_heap J2.out B6.out)
 have K3 := hid (keep_heap J3.out B6.out)
 have hs3 : w2.heap.size < w3.heap.size := heap_lt IN.out
 have hBw3 : w1.heap.size ≤ w3.heap.size := by omega
 have HW3 := hid hw3
 clear b2 hso hw3 J1 J2 J3
 clear q0 q1 q2 q3 q4 q5
 have one1 : (#[.int .i64 st.tick, .slice av1 n1 cap1, .slice (some ⟨g, 0, none⟩) n2 cap, v3, v4, v5] : Array Value).all (·.oneCell') = true := by
  obtain ⟨g3, c3, rfl⟩ := own_form SO.out.o3
  obtain ⟨g4, c4, rfl⟩ := own_form SO.out.o4
  obtain ⟨g5, c5, rfl⟩ := own_form SO.out.o5
  simp [Value.oneCell']
 go_upto_region 2 with (refine wpList_store_row rfl 58 (.tmp 9) (.tmp 18) rfl w2.heap.size #[.int .i64 st.tick, .slice av1 n1 cap1, .slice (some ⟨g, 0, none⟩) n2 cap, v3, v4, v5] rfl rfl 58 _ IZ.out (by kernel_rfl) rfl one1 ?_)
 rw [← HW3.out]
 clear one1 IZ
 have o2 : w3.cell? ⟨w2.heap.size, 2, none⟩ = some (.slice (some ⟨g, 0, none⟩) n2 cap) := cell_of_heap IN.out 2 rfl
 have hR := StO.rcell SO.out x _ HRB.out
 have y0 : w3.cell? ⟨g, x * 6, none⟩ = some (.int .i64 (c : Int)) := by have h9 := hR.1; first | exact h9 | (simpa only [hcH.out] using h9)
 have y1 : w3.cell? ⟨g, x * 6 + 1, none⟩ = some (.int .i64 r.load) := by have h9 := hR.2.1; first | exact h9 | (simpa only [hcH.out] using h9)
 have y2 : w3.cell? ⟨g, x * 6 + 2, none⟩ = some (.int .i64 r.charge) := by have h9 := hR.2.2.1; first | exact h9 | (simpa only [hcH.out] using h9)
 have y3 : w3.cell? ⟨g, x * 6 + 3, none⟩ = some (.int .i64 r.rest) := by have h9 := hR.2.2.2.1; first | exact h9 | (simpa only [hcH.out] using h9)
 have y4 : w3.cell? ⟨g, x * 6 + 4, none⟩ = some (.int .i64 r.mute) := by have h9 := hR.2.2.2.2.1; first | exact h9 | (simpa only [hcH.out] using h9)
 have y5 : w3.cell? ⟨g, x * 6 + 5, none⟩ = some (.bool r.dead) := by have h9 := hR.2.2.2.2.2; first | exact h9 | (simpa only [hcH.out] using h9)
 clear hR
 have j0 : (0 : Int) ≤ (x : Int) := by omega
 have j1 : (x : Int) < (n2 : Int) := by omega
 have j2 : ¬ n2 ≤ x := by omega
 obtain ⟨D, hD⟩ : ∃ C, r.dead = C := ⟨_, rfl⟩
 cases D with
 | true =>
  rw [hD] at y5
  go_upto_region 3 with fail
  clear o2 y0 y1 y2 y3 y4 y5
  obtain ⟨q0, q1, q2, q3, q4, q5⟩ := cells6 IN.out
  have one9 : (#[.int .i64 st.tick, .slice av1 n1 cap1, .slice (some ⟨g, 0, none⟩) n2 cap, v3, v4, v5] : Array Value).all (·.oneCell') = true := by
   obtain ⟨g3, c3, h3⟩ := own_form SO.out.o3
   obtain ⟨g4, c4, h4⟩ := own_form SO.out.o4
   obtain ⟨g5, c5, h5⟩ := own_form SO.out.o5
   rw [h3, h4, h5]
   simp [Value.oneCell']
  have RR : Hid (w3.heap[w.heap.size + 1 + 1]? = some (.cells #[.int .i64 0, .slice none 0 0, .slice none 0 0, .slice none 0 0, .slice none 0 0, .slice none 0 0] 58 (0, 0))) := hid K3.out
  go_wp2_with (refine wpList_store_row rfl 58 (.tmp 8) (.tmp 36) rfl (w.heap.size + 1 + 1) #[.int .i64 st.tick, .slice av1 n1 cap1, .slice (some ⟨g, 0, none⟩) n2 cap, v3, v4, v5] rfl rfl 58 _ RR.out (by kernel_rfl) rfl one9 ?_)
  refine bodyPost_ret (v := .agg #[.int .i64 st.tick, .slice av1 n1 cap1, .slice (some ⟨g, 0, none⟩) n2 cap, v3, v4, v5]) (results_cell_row (p := 8) (ty := 58) (by kernel_rfl) _ _ (w.heap.size + 1 + 1) 58 #[.int .i64 st.tick, .slice av1 n1 cap1, .slice (some ⟨g, 0, none⟩) n2 cap, v3, v4, v5] (0, 0) _ rfl (setRow_heap _ _ _ _ _ _ RR.out) Tryz.underlying58 rfl (by kernel_rfl)) rfl ?_
  have hB9 : Below (w.heap.size + 1 + 1) w3 (w3.setRow (w.heap.size + 1 + 1) #[.int .i64 st.tick, .slice av1 n1 cap1, .slice (some ⟨g, 0, none⟩) n2 cap, v3, v4, v5]) := below_setRow _ (Below.refl _ w3) (Nat.le_refl _)
  have hS9 := StO.setRow #[.int .i64 st.tick, .slice av1 n1 cap1, .slice (some ⟨g, 0, none⟩) n2 cap, v3, v4, v5] SO.out (show w.heap.size + 1 + 1 < w1.heap.size by omega)
  have hA9 : ActOk s _ := HOK.out
  have hN9 : _ = st.robots.length := rfl
  have hT9 := (rfl : st.tick = st.tick)
  exact ⟨⟨_, .slice av1 n1 cap1, .slice (some ⟨g, 0, none⟩) n2 cap, v3, v4, v5, congrArg (fun t => Ending.returned (Value.agg #[.int .i64 t, .slice av1 n1 cap1, .slice (some ⟨g, 0, none⟩) n2 cap, v3, v4, v5])) hT9, hS9.lower (by omega), hA9, hN9⟩, (B3.out).trans (hB9.mono (by omega))⟩
 | false =>
  rw [hD] at y5
  have q0 : w3.cell? ⟨w.heap.size + 1, 0, none⟩ = some (.int .i64 st.tick) := cell_of_heap K2.out 0 rfl
  go_upto_region 5 with fail
  clear o2 y0 y3 y4 y5
  refine wp_region_held_drew (S := fun W' => W'.cell? ⟨w.heap.size + 1, 0, none⟩ = some (.int .i64 st.tick) ∧ W'.cell? ⟨g, x * 6 + 1, none⟩ = some (.int .i64 r.load) ∧ W'.cell? ⟨g, x * 6 + 2, none⟩ = some (.int .i64 r.charge)) (by kernel_rfl) ⟨q0, y1, y2⟩ (fun hHeld => ?_)
  obtain ⟨w5, hw5⟩ : ∃ W, W = w3.drew := ⟨_, rfl⟩
  rw [← hw5] at hHeld ⊢
  have bx : Below w3.heap.size w3 w5 := by subst hw5; exact ⟨rfl, rfl, rfl, Nat.le_refl _, fun _ _ => rfl⟩
  have B_w5 := hid (B3.out.trans (bx.mono B3.out.size))
  clear hw5
  have S5 := hid (SO.out.below bx)
  have IN5 := hid (keep_heap IN.out bx)
  have L1 := hid (keep_heap K1.out bx)
  have L2 := hid (keep_heap K2.out bx)
  have L3 := hid (keep_heap K3.out bx)
  have hB5 : w1.heap.size ≤ w5.heap.size := by have := bx.size; omega
  clear bx q0 y1 y2
  refine tk 0 ?_
  try simp only [Act.put, zA, zB, zC, zD, zE, zF]
  refine tk 1 ?_
  try simp only [Act.put, zA, zB, zC, zD, zE, zF]
  refine tk 2 ?_
  try simp only [Act.put, zA, zB, zC, zD, zE, zF]
  refine tk 3 ?_
  try simp only [Act.put, zA, zB, zC, zD, zE, zF]
  refine tk 4 ?_
  try simp only [Act.put, zA, zB, zC, zD, zE, zF]
  refine tk 5 ?_
  try simp only [Act.put, zA, zB, zC, zD, zE, zF]
  refine tk 6 ?_
  try simp only [Act.put, zA, zB, zC, zD, zE, zF]
  refine tk 7 ?_
  try simp only [Act.put, zA, zB, zC, zD, zE, zF]
  refine tk 8 ?_
  try simp only [Act.put, zA, zB, zC, zD, zE, zF]
  refine tk 9 ?_
  try simp only [Act.put, zA, zB, zC, zD, zE, zF]
  refine tk 10 ?_
  try simp only [Act.put, zA, zB, zC, zD, zE, zF]
  refine tk 11 ?_
  try simp only [Act.put, zA, zB, zC, zD, zE, zF]
  refine wpAnyH_ready (rs := [12]) (by kernel_rfl) (by simp) ?_
  refine AllReadyH.cons (o := _) rfl (fun K12 hK => ?_) AllReadyH.nil
  go_simp
  go_at_call 103; with_reducible refine (HAF.out _ w5).mono ?_; rintro e w6 ⟨⟨cc, ee, rfl, hcc⟩, rfl⟩
  have HCC := hid hcc
  clear hcc
  go_simp
  refine hK.out _ _ hHeld (fun hHeld => ?_)
  clear hK K12
  try simp only [Act.put, zA, zB, zC, zD, zE, zF]
  refine tk 13 ?_
  try simp only [Act.put, zA, zB, zC, zD, zE, zF]
  refine tk 14 ?_
  try simp only [Act.put, zA, zB, zC, zD, zE, zF]
  refine tk 15 ?_
  try simp only [Act.put, zA, zB, zC, zD, zE, zF]
  refine tk 16 ?_
  try simp only [Act.put, zA, zB, zC, zD, zE, zF]
  refine tk 17 ?_
  try simp only [Act.put, zA, zB, zC, zD, zE, zF]
  refine wpAnyH_done (by kernel_rfl) ?_ _
  have y2 : w5.cell? ⟨g, x * 6 + 2, none⟩ = some (.int .i64 r.charge) := hHeld.2.2
  clear hHeld HAF
  go_upto_if 58 with fail
  go_cut [11] (fun v wz => ∃ C : Int, v = .int .i64 C ∧ Hid (I64 C) ∧ w5 = wz)
  case first =>
   by_cases fe : ee = 0
   · subst fe
     go_wp2_with fail
     go_meet
     exact ⟨cc, rfl, HCC, rfl⟩
   · have fe' : (ee != 0) = true := by simpa using fe
     clear fe
     go_wp2_with fail
     go_meet
     exact ⟨0, rfl, hid (by unfold I64; omega), rfl⟩
  case rest =>
   obtain ⟨C, rfl, HCC, rfl⟩ := hcut
   obtain ⟨st1, hst, hP, hfz8⟩ := StO.put S5.out hB5 HOK.out HRB.out (fun r => { r with charge := C }) (show 2 < 6 by decide) (.int .i64 C) (fun r => rfl) HRI.out HCC.out
   obtain ⟨w8, hW2⟩ : ∃ W, W = w5.setCell ⟨g, x * 6 + 2, none⟩ (.int .i64 C) := ⟨_, rfl⟩
   rw [← hW2] at hst hP
   have S8 := hid hst
   have P8 := hid hP
   have I8 := hid (hP.keep _ _ IN5.out)
   have M81 := hid ((hP.bel.block (w.heap.size) (by omega)).trans L1.out)
   have M82 := hid ((hP.bel.block (w.heap.size + 1) (by omega)).trans L2.out)
   have M83 := hid ((hP.bel.block (w.heap.size + 1 + 1) (by omega)).trans L3.out)
   have B8 : Hid (Below w.heap.size w w8) := hid (B_w5.out.trans (hP.bel.mono (by omega)))
   have hB8 : w1.heap.size ≤ w8.heap.size := by have := hP.bel.size; omega
   have HW8 := hid hW2
   clear hst hP hW2
   go_upto_region 9 with fail
   rw [← HW8.out]
   clear hfz8 y2
   have R8 := hid P8.out.rob
   go_wp2_with fail
   go_at_call 105; with_reducible refine (HDI.out w8).mono ?_; rintro e w9 ⟨rfl, rfl⟩
   cases nx with
   | none =>
    simp only [nextV] at HNX
    obtain ⟨p0, p1, p2, p3, p4, -⟩ := cells9 M81.out
    have y0 : w8.cell? ⟨g, x * 6, none⟩ = some (.int .i64 (c : Int)) := by
     have h9 : w8.cell? ⟨g, x * 6, none⟩ = some (.int .i64 r.cell) := (StO.rcell S8.out x _ R8.out).1
     rw [hcH.out] at h9; exact h9
    go_upto_region 17 with fail
    refine wp_region_held_drew (S := fun W' => W'.cell? ⟨w.heap.size, 0, none⟩ = some (.int .i64 s.floor.w) ∧ W'.cell? ⟨w.heap.size, 1, none⟩ = some (.int .i64 s.floor.h) ∧ W'.cell? ⟨w.heap.size, 2, none⟩ = some (.int .i64 s.floor.d) ∧ W'.cell? ⟨w.heap.size, 3, none⟩ = some (.slice a1 l1 c1) ∧ W'.cell? ⟨w.heap.size, 4, none⟩ = some (.slice a2 l2 c2) ∧ W'.cell? ⟨g, x * 6, none⟩ = some (.int .i64 (c : Int))) (by kernel_rfl) ⟨p0, p1, p2, p3, p4, y0⟩ (fun hHeld => ?_)
    obtain ⟨wA, hwA⟩ : ∃ W, W = w8.drew := ⟨_, rfl⟩
    rw [← hwA] at hHeld ⊢
    have bx : Below w8.heap.size w8 wA := by subst hwA; exact ⟨rfl, rfl, rfl, Nat.le_refl _, fun _ _ => rfl⟩
    have B_wA := hid (B8.out.trans (bx.mono B8.out.size))
    clear hwA
    have S10 := hid (S8.out.below bx)
    have I10 := hid (keep_heap I8.out bx)
    have M101 := hid (keep_heap M81.out bx)
    have M102 := hid (keep_heap M82.out bx)
    have M103 := hid (keep_heap M83.out bx)
    have hB10 : w1.heap.size ≤ wA.heap.size := by have := bx.size; omega
    clear p0 p1 p2 p3 p4 y0 bx
    refine tk 0 ?_
    try simp only [Act.put, zA, zB, zC, zD, zE, zF]
    refine tk 1 ?_
    try simp only [Act.put, zA, zB, zC, zD, zE, zF]
    refine tk 2 ?_
    try simp only [Act.put, zA, zB, zC, zD, zE, zF]
    refine tk 3 ?_
    try simp only [Act.put, zA, zB, zC, zD, zE, zF]
    refine tk 4 ?_
    try simp only [Act.put, zA, zB, zC, zD, zE, zF]
    refine tk 5 ?_
    try simp only [Act.put, zA, zB, zC, zD, zE, zF]
    refine tk 6 ?_
    try simp only [Act.put, zA, zB, zC, zD, zE, zF]
    refine wpAnyH_ready (rs := [7]) (by kernel_rfl) (by simp) ?_
    refine AllReadyH.cons (o := _) rfl (fun K7 hK => ?_) AllReadyH.nil
    go_simp
    go_at_call 106; with_reducible refine (HNX.out wA B_wA.out).mono ?_; rintro e wC ⟨rfl, bel5⟩
    have S11 := hid (S10.out.below bel5)
    have I11 := hid (keep_heap I10.out bel5)
    have M111 := hid (keep_heap M101.out bel5)
    have M112 := hid (keep_heap M102.out bel5)
    have M113 := hid (keep_heap M103.out bel5)
    have hB11 : w1.heap.size ≤ wC.heap.size := by have := bel5.size; omega
    have B11 := hid (B_wA.out.trans (bel5.mono B_wA.out.size))
    have SH : wC.cell? ⟨w.heap.size, 0, none⟩ = some (.int .i64 s.floor.w) ∧ wC.cell? ⟨w.heap.size, 1, none⟩ = some (.int .i64 s.floor.h) ∧ wC.cell? ⟨w.heap.size, 2, none⟩ = some (.int .i64 s.floor.d) ∧ wC.cell? ⟨w.heap.size, 3, none⟩ = some (.slice a1 l1 c1) ∧ wC.cell? ⟨w.heap.size, 4, none⟩ = some (.slice a2 l2 c2) ∧ wC.cell? ⟨g, x * 6, none⟩ = some (.int .i64 (c : Int)) := by
     obtain ⟨k0, k1, k2, k3, k4, k5⟩ := hHeld
     exact ⟨(bel5.cell (p := ⟨w.heap.size, 0, none⟩) (cell_block_lt k0)).trans k0, (bel5.cell (p := ⟨w.heap.size, 1, none⟩) (cell_block_lt k1)).trans k1, (bel5.cell (p := ⟨w.heap.size, 2, none⟩) (cell_block_lt k2)).trans k2, (bel5.cell (p := ⟨w.heap.size, 3, none⟩) (cell_block_lt k3)).trans k3, (bel5.cell (p := ⟨w.heap.size, 4, none⟩) (cell_block_lt k4)).trans k4, (bel5.cell (p := ⟨g, x * 6, none⟩) (cell_block_lt k5)).trans k5⟩
    clear bel5 hHeld
    go_simp
    refine hK.out _ _ SH (fun hHeld => ?_)
    clear hK K7
    try simp only [Act.put, zA, zB, zC, zD, zE, zF]
    clear SH
    refine tk 8 ?_
    try simp only [Act.put, zA, zB, zC, zD, zE, zF]
    refine tk 9 ?_
    try simp only [Act.put, zA, zB, zC, zD, zE, zF]
    refine tk 10 ?_
    try simp only [Act.put, zA, zB, zC, zD, zE, zF]
    refine tk 11 ?_
    try simp only [Act.put, zA, zB, zC, zD, zE, zF]
    refine tk 12 ?_
    try simp only [Act.put, zA, zB, zC, zD, zE, zF]
    refine wpAnyH_done (by kernel_rfl) ?_ _
    clear hHeld HNX
    obtain ⟨q0, q1, q2, q3, q4, q5⟩ := cells6 I11.out
    have one9 : (#[.int .i64 st.tick, .slice av1 n1 cap1, .slice (some ⟨g, 0, none⟩) n2 cap, v3, v4, v5] : Array Value).all (·.oneCell') = true := by
     obtain ⟨g3, c3, h3⟩ := own_form S11.out.o3
     obtain ⟨g4, c4, h4⟩ := own_form S11.out.o4
     obtain ⟨g5, c5, h5⟩ := own_form S11.out.o5
     rw [h3, h4, h5]
     simp [Value.oneCell']
    have RR : Hid (wC.heap[w.heap.size + 1 + 1]? = some (.cells #[.int .i64 0, .slice none 0 0, .slice none 0 0, .slice none 0 0, .slice none 0 0, .slice none 0 0] 58 (0, 0))) := hid M113.out
    go_wp2_with (refine wpList_store_row rfl 58 (.tmp 8) (.tmp 125) rfl (w.heap.size + 1 + 1) #[.int .i64 st.tick, .slice av1 n1 cap1, .slice (some ⟨g, 0, none⟩) n2 cap, v3, v4, v5] rfl rfl 58 _ RR.out (by kernel_rfl) rfl one9 ?_)
    refine bodyPost_ret (v := .agg #[.int .i64 st.tick, .slice av1 n1 cap1, .slice (some ⟨g, 0, none⟩) n2 cap, v3, v4, v5]) (results_cell_row (p := 8) (ty := 58) (by kernel_rfl) _ _ (w.heap.size + 1 + 1) 58 #[.int .i64 st.tick, .slice av1 n1 cap1, .slice (some ⟨g, 0, none⟩) n2 cap, v3, v4, v5] (0, 0) _ rfl (setRow_heap _ _ _ _ _ _ RR.out) Tryz.underlying58 rfl (by kernel_rfl)) rfl ?_
    have hB9 : Below (w.heap.size + 1 + 1) wC (wC.setRow (w.heap.size + 1 + 1) #[.int .i64 st.tick, .slice av1 n1 cap1, .slice (some ⟨g, 0, none⟩) n2 cap, v3, v4, v5]) := below_setRow _ (Below.refl _ wC) (Nat.le_refl _)
    have hS9 := StO.setRow #[.int .i64 st.tick, .slice av1 n1 cap1, .slice (some ⟨g, 0, none⟩) n2 cap, v3, v4, v5] S11.out (show w.heap.size + 1 + 1 < w1.heap.size by omega)
    have hA9 : ActOk s _ := P8.out.ok
    have hN9 : _ = st.robots.length := P8.out.nr
    have hT9 := P8.out.tk.symm
    exact ⟨⟨_, .slice av1 n1 cap1, .slice (some ⟨g, 0, none⟩) n2 cap, v3, v4, v5, congrArg (fun t => Ending.returned (Value.agg #[.int .i64 t, .slice av1 n1 cap1, .slice (some ⟨g, 0, none⟩) n2 cap, v3, v4, v5])) hT9, hS9.lower (by omega), hA9, hN9⟩, (B11.out).trans (hB9.mono (by omega))⟩
   | some n =>
    simp only [nextV] at HNX
    obtain ⟨p0, p1, p2, p3, p4, -⟩ := cells9 M81.out
    have y0 : w8.cell? ⟨g, x * 6, none⟩ = some (.int .i64 (c : Int)) := by
     have h9 : w8.cell? ⟨g, x * 6, none⟩ = some (.int .i64 r.cell) := (StO.rcell S8.out x _ R8.out).1
     rw [hcH.out] at h9; exact h9
    go_upto_region 17 with fail
    refine wp_region_held_drew (S := fun W' => W'.cell? ⟨w.heap.size, 0, none⟩ = some (.int .i64 s.floor.w) ∧ W'.cell? ⟨w.heap.size, 1, none⟩ = some (.int .i64 s.floor.h) ∧ W'.cell? ⟨w.heap.size, 2, none⟩ = some (.int .i64 s.floor.d) ∧ W'.cell? ⟨w.heap.size, 3, none⟩ = some (.slice a1 l1 c1) ∧ W'.cell? ⟨w.heap.size, 4, none⟩ = some (.slice a2 l2 c2) ∧ W'.cell? ⟨g, x * 6, none⟩ = some (.int .i64 (c : Int))) (by kernel_rfl) ⟨p0, p1, p2, p3, p4, y0⟩ (fun hHeld => ?_)
    obtain ⟨wA, hwA⟩ : ∃ W, W = w8.drew := ⟨_, rfl⟩
    rw [← hwA] at hHeld ⊢
    have bx : Below w8.heap.size w8 wA := by subst hwA; exact ⟨rfl, rfl, rfl, Nat.le_refl _, fun _ _ => rfl⟩
    have B_wA := hid (B8.out.trans (bx.mono B8.out.size))
    clear hwA
    have S10 := hid (S8.out.below bx)
    have I10 := hid (keep_heap I8.out bx)
    have M101 := hid (keep_heap M81.out bx)
    have M102 := hid (keep_heap M82.out bx)
    have M103 := hid (keep_heap M83.out bx)
    have hB10 : w1.heap.size ≤ wA.heap.size := by have := bx.size; omega
    clear p0 p1 p2 p3 p4 y0 bx
    refine tk 0 ?_
    try simp only [Act.put, zA, zB, zC, zD, zE, zF]
    refine tk 1 ?_
    try simp only [Act.put, zA, zB, zC, zD, zE, zF]
    refine tk 2 ?_
    try simp only [Act.put, zA, zB, zC, zD, zE, zF]
    refine tk 3 ?_
    try simp only [Act.put, zA, zB, zC, zD, zE, zF]
    refine tk 4 ?_
    try simp only [Act.put, zA, zB, zC, zD, zE, zF]
    refine tk 5 ?_
    try simp only [Act.put, zA, zB, zC, zD, zE, zF]
    refine tk 6 ?_
    try simp only [Act.put, zA, zB, zC, zD, zE, zF]
    refine wpAnyH_ready (rs := [7]) (by kernel_rfl) (by simp) ?_
    refine AllReadyH.cons (o := _) rfl (fun K7 hK => ?_) AllReadyH.nil
    go_simp
    go_at_call 106; with_reducible refine (HNX.out wA B_wA.out).mono ?_; rintro e wC ⟨rfl, bel5⟩
    have S11 := hid (S10.out.below bel5)
    have I11 := hid (keep_heap I10.out bel5)
    have M111 := hid (keep_heap M101.out bel5)
    have M112 := hid (keep_heap M102.out bel5)
    have M113 := hid (keep_heap M103.out bel5)
    have hB11 : w1.heap.size ≤ wC.heap.size := by have := bel5.size; omega
    have B11 := hid (B_wA.out.trans (bel5.mono B_wA.out.size))
    have SH : wC.cell? ⟨w.heap.size, 0, none⟩ = some (.int .i64 s.floor.w) ∧ wC.cell? ⟨w.heap.size, 1, none⟩ = some (.int .i64 s.floor.h) ∧ wC.cell? ⟨w.heap.size, 2, none⟩ = some (.int .i64 s.floor.d) ∧ wC.cell? ⟨w.heap.size, 3, none⟩ = some (.slice a1 l1 c1) ∧ wC.cell? ⟨w.heap.size, 4, none⟩ = some (.slice a2 l2 c2) ∧ wC.cell? ⟨g, x * 6, none⟩ = some (.int .i64 (c : Int)) := by
     obtain ⟨k0, k1, k2, k3, k4, k5⟩ := hHeld
     exact ⟨(bel5.cell (p := ⟨w.heap.size, 0, none⟩) (cell_block_lt k0)).trans k0, (bel5.cell (p := ⟨w.heap.size, 1, none⟩) (cell_block_lt k1)).trans k1, (bel5.cell (p := ⟨w.heap.size, 2, none⟩) (cell_block_lt k2)).trans k2, (bel5.cell (p := ⟨w.heap.size, 3, none⟩) (cell_block_lt k3)).trans k3, (bel5.cell (p := ⟨w.heap.size, 4, none⟩) (cell_block_lt k4)).trans k4, (bel5.cell (p := ⟨g, x * 6, none⟩) (cell_block_lt k5)).trans k5⟩
    clear bel5 hHeld
    go_simp
    refine hK.out _ _ SH (fun hHeld => ?_)
    clear hK K7
    try simp only [Act.put, zA, zB, zC, zD, zE, zF]
    clear SH
    refine tk 8 ?_
    try simp only [Act.put, zA, zB, zC, zD, zE, zF]
    refine tk 9 ?_
    try simp only [Act.put, zA, zB, zC, zD, zE, zF]
    refine tk 10 ?_
    try simp only [Act.put, zA, zB, zC, zD, zE, zF]
    refine tk 11 ?_
    try simp only [Act.put, zA, zB, zC, zD, zE, zF]
    refine tk 12 ?_
    try simp only [Act.put, zA, zB, zC, zD, zE, zF]
    refine wpAnyH_done (by kernel_rfl) ?_ _
    clear hHeld HNX
    have HNn := hid (HNL.out n rfl)
    clear HNL
    obtain ⟨p0, p1, p2, p3, p4, p5, p6, p7, p8⟩ := cells9 M111.out
    go_wp2_with fail
    go_at_call 107; with_reducible refine (HSP.out n wC B11.out).mono ?_; rintro e wD ⟨⟨k, rfl⟩, bel6⟩
    have S12 := hid (S11.out.below bel6)
    have I12 := hid (keep_heap I11.out bel6)
    have M121 := hid (keep_heap M111.out bel6)
    have M122 := hid (keep_heap M112.out bel6)
    have M123 := hid (keep_heap M113.out bel6)
    have hB12 : w1.heap.size ≤ wD.heap.size := by have := bel6.size; omega
    have B12 := hid (B11.out.trans (bel6.mono B11.out.size))
    clear p0 p1 p2 p3 p4 p5 p6 p7 p8 bel6
    obtain ⟨K9, hK9⟩ : ∃ z, IntKind.i64.wrap (k - 1) = z := ⟨_, rfl⟩
    have z0 : wD.cell? ⟨g, x * 6, none⟩ = some (.int .i64 r.cell) := (StO.rcell S12.out x _ R8.out).1
    obtain ⟨st2, hst, hP, hfz13⟩ := StO.put S12.out hB12 P8.out.ok R8.out (fun r => { r with cell := (n : Int) }) (show 0 < 6 by decide) (.int .i64 (n : Int)) (fun r => rfl) (by have h9 := HRI.out; have h8 := HNn.out; have h7 := P8.out.ns; unfold RIn at h9 ⊢; exact ⟨by dsimp only; omega, by dsimp only; omega⟩) HCC.out
    rw [Nat.add_zero] at hst hP hfz13
    obtain ⟨wE, hW2⟩ : ∃ W, W = wD.setCell ⟨g, x * 6, none⟩ (.int .i64 (n : Int)) := ⟨_, rfl⟩
    rw [← hW2] at hst hP
    have S13 := hid hst
    have P13 := hid hP
    have I13 := hid (hP.keep _ _ I12.out)
    have M131 := hid ((hP.bel.block (w.heap.size) (by omega)).trans M121.out)
    have M132 := hid ((hP.bel.block (w.heap.size + 1) (by omega)).trans M122.out)
    have M133 := hid ((hP.bel.block (w.heap.size + 1 + 1) (by omega)).trans M123.out)
    have B13 : Hid (Below w.heap.size w wE) := hid (B12.out.trans (hP.bel.mono (by omega)))
    have hB13 : w1.heap.size ≤ wE.heap.size := by have := hP.bel.size; omega
    have HW13 := hid hW2
    clear hst hP hW2
    have R13 := hid P13.out.rob
    have z3 : wE.cell? ⟨g, x * 6 + 3, none⟩ = some (.int .i64 r.rest) := (StO.rcell S13.out x _ R13.out).2.2.2.1
    obtain ⟨st3, hst, hP, hfz14⟩ := StO.put S13.out hB13 P13.out.ok R13.out (fun r => { r with rest := K9 }) (show 3 < 6 by decide) (.int .i64 K9) (fun r => rfl) (by have h9 := HRI.out; have h8 := HNn.out; have h7 := P8.out.ns; have h6 := P13.out.ns; unfold RIn at h9 ⊢; exact ⟨by dsimp only; omega, by dsimp only; omega⟩) HCC.out
    obtain ⟨wF, hW2⟩ : ∃ W, W = wE.setCell ⟨g, x * 6 + 3, none⟩ (.int .i64 K9) := ⟨_, rfl⟩
    rw [← hW2] at hst hP
    have S14 := hid hst
    have P14 := hid hP
    have I14 := hid (hP.keep _ _ I13.out)
    have M141 := hid ((hP.bel.block (w.heap.size) (by omega)).trans M131.out)
    have M142 := hid ((hP.bel.block (w.heap.size + 1) (by omega)).trans M132.out)
    have M143 := hid ((hP.bel.block (w.heap.size + 1 + 1) (by omega)).trans M133.out)
    have B14 : Hid (Below w.heap.size w wF) := hid (B13.out.trans (hP.bel.mono (by omega)))
    have hB14 : w1.heap.size ≤ wF.heap.size := by have := hP.bel.size; omega
    have HW14 := hid hW2
    clear hst hP hW2
    rw [HW13.out] at z3 hfz14
    go_upto_region 20 with fail
    try rw [hK9]
    rw [← HW13.out, ← HW14.out]
    clear z0 z3 hfz13 hfz14
    have R14 := hid P14.out.rob
    have y1 : wF.cell? ⟨g, x * 6 + 1, none⟩ = some (.int .i64 r.load) := (StO.rcell S14.out x _ R14.out).2.1
    have HNS : Hid (st3.shelves.length = n1) := hid (by rw [P14.out.ns, P13.out.ns, P8.out.ns]; exact HG1.out)
    have HNR : Hid (st3.robots.length = st.robots.length) := hid (by rw [P14.out.nr, P13.out.nr]; exact P8.out.nr)
    have HT3 : Hid (st.tick = st3.tick) := hid (by rw [P14.out.tk, P13.out.tk]; exact P8.out.tk.symm)
    by_cases hl0 : 0 ≤ r.load
    · obtain ⟨L, hL⟩ := Int.eq_ofNat_of_zero_le hl0
      rw [hL] at y1
      have hLn : L < n1 := by have h9 := HRI.out.2.2; have h8 := HG1.out; omega
      obtain ⟨g1, cap2, hv9, hg9, hgs⟩ := own_form1 S14.out.o1 (by rw [HNS.out]; omega)
      rw [HNS.out] at hv9
      injection hv9 with hv9 hv8 hv7
      subst hv9
      clear hv8 hv7
      have i0 : (0 : Int) ≤ (L : Int) := by omega
      have i1 : (L : Int) < (n1 : Int) := by omega
      have o1 : wF.cell? ⟨w2.heap.size, 1, none⟩ = some (.slice (some ⟨g1, 0, none⟩) n1 cap1) := cell_of_heap I14.out 1 rfl
      go_upto_region 21 with fail
      refine wp_region_held_drew (S := fun W' => W'.cell? ⟨w2.heap.size, 1, none⟩ = some (.slice (some ⟨g1, 0, none⟩) n1 cap1) ∧ W'.cell? ⟨g, x * 6 + 1, none⟩ = some (.int .i64 (L : Int))) (by kernel_rfl) ⟨o1, y1⟩ (fun hHeld => ?_)
      obtain ⟨wG, hwG⟩ : ∃ W, W = wF.drew := ⟨_, rfl⟩
      rw [← hwG] at hHeld ⊢
      have bx : Below wF.heap.size wF wG := by subst hwG; exact ⟨rfl, rfl, rfl, Nat.le_refl _, fun _ _ => rfl⟩
      have B_wG := hid (B14.out.trans (bx.mono B14.out.size))
      clear hwG
      have S15 := hid (S14.out.below bx)
      have I15 := hid (keep_heap I14.out bx)
      have M151 := hid (keep_heap M141.out bx)
      have M152 := hid (keep_heap M142.out bx)
      have M153 := hid (keep_heap M143.out bx)
      have hB15 : w1.heap.size ≤ wG.heap.size := by have := bx.size; omega
      clear bx o1 y1
      refine tk 0 ?_
      try simp only [Act.put, zA, zB, zC, zD, zE, zF]
      refine tk 1 ?_
      try simp only [Act.put, zA, zB, zC, zD, zE, zF]
      refine tk 2 ?_
      try simp only [Act.put, zA, zB, zC, zD, zE, zF]
      refine tk 3 ?_
      try simp only [Act.put, zA, zB, zC, zD, zE, zF]
      refine tk 4 ?_
      try simp only [Act.put, zA, zB, zC, zD, zE, zF]
      refine tk 5 ?_
      try simp only [Act.put, zA, zB, zC, zD, zE, zF]
      refine tk 6 ?_
      try simp only [Act.put, zA, zB, zC, zD, zE, zF]
      refine tk 7 ?_
      try simp only [Act.put, zA, zB, zC, zD, zE, zF]
      obtain ⟨cX, hcX⟩ := StO.scell S15.out L (by rw [HNS.out]; exact hLn)
      obtain ⟨st4, hst, hP, hfz⟩ := StO.shelf (i := L) S15.out hB15 P14.out.ok R14.out (n : Int) (smc_cell P14.out.ok.kl (by have h8 := HNn.out; omega))
      obtain ⟨w9, hW9⟩ : ∃ W, W = wG.setCell ⟨g1, L, none⟩ (.int .i64 (n : Int)) := ⟨_, rfl⟩
      rw [← hW9] at hst hP
      have S16 := hid hst
      have P16 := hid hP
      have I16 := hid (hP.keep _ _ I15.out)
      have M163 := hid ((hP.bel.block (w.heap.size + 1 + 1) (by omega)).trans M153.out)
      have B16 : Hid (Below w.heap.size w w9) := hid (B_wG.out.trans (hP.bel.mono (by omega)))
      have hB16 : w1.heap.size ≤ w9.heap.size := by have := hP.bel.size; omega
      have HW9 := hid hW9
      clear hst hP hW9 hHeld
      have yz : w9.cell? ⟨g, x * 6 + 1, none⟩ = some (.int .i64 (L : Int)) := by
       have h9 : w9.cell? ⟨g, x * 6 + 1, none⟩ = some (.int .i64 r.load) := (StO.rcell S16.out x _ P16.out.rob).2.1
       rw [hL] at h9; exact h9
      refine wpAnyH_ready (rs := [8]) (by kernel_rfl) (by simp) ?_
      refine AllReadyH.cons (o := _) rfl (fun K8 hK => ?_) AllReadyH.nil
      go_simp
      rw [← HW9.out]
      have SH9 : w9.cell? ⟨w2.heap.size, 1, none⟩ = some (.slice (some ⟨g1, 0, none⟩) n1 cap1) ∧ w9.cell? ⟨g, x * 6 + 1, none⟩ = some (.int .i64 (L : Int)) := ⟨cell_of_heap I16.out 1 rfl, yz⟩
      refine hK.out _ _ SH9 (fun hHeld => ?_)
      clear hK K8
      try simp only [Act.put, zA, zB, zC, zD, zE, zF]
      refine wpAnyH_done (by kernel_rfl) ?_ _
      clear hHeld SH9 yz hfz hcX
      obtain ⟨q0, q1, q2, q3, q4, q5⟩ := cells6 I16.out
      have one9 : (#[.int .i64 st.tick, .slice (some ⟨g1, 0, none⟩) n1 cap1, .slice (some ⟨g, 0, none⟩) n2 cap, v3, v4, v5] : Array Value).all (·.oneCell') = true := by
       obtain ⟨g3, c3, h3⟩ := own_form S16.out.o3
       obtain ⟨g4, c4, h4⟩ := own_form S16.out.o4
       obtain ⟨g5, c5, h5⟩ := own_form S16.out.o5
       rw [h3, h4, h5]
       simp [Value.oneCell']
      have RR : Hid (w9.heap[w.heap.size + 1 + 1]? = some (.cells #[.int .i64 0, .slice none 0 0, .slice none 0 0, .slice none 0 0, .slice none 0 0, .slice none 0 0] 58 (0, 0))) := hid M163.out
      go_wp2_with (refine wpList_store_row rfl 58 (.tmp 8) (.tmp 125) rfl (w.heap.size + 1 + 1) #[.int .i64 st.tick, .slice (some ⟨g1, 0, none⟩) n1 cap1, .slice (some ⟨g, 0, none⟩) n2 cap, v3, v4, v5] rfl rfl 58 _ RR.out (by kernel_rfl) rfl one9 ?_)
      refine bodyPost_ret (v := .agg #[.int .i64 st.tick, .slice (some ⟨g1, 0, none⟩) n1 cap1, .slice (some ⟨g, 0, none⟩) n2 cap, v3, v4, v5]) (results_cell_row (p := 8) (ty := 58) (by kernel_rfl) _ _ (w.heap.size + 1 + 1) 58 #[.int .i64 st.tick, .slice (some ⟨g1, 0, none⟩) n1 cap1, .slice (some ⟨g, 0, none⟩) n2 cap, v3, v4, v5] (0, 0) _ rfl (setRow_heap _ _ _ _ _ _ RR.out) Tryz.underlying58 rfl (by kernel_rfl)) rfl ?_
      have hB9 : Below (w.heap.size + 1 + 1) w9 (w9.setRow (w.heap.size + 1 + 1) #[.int .i64 st.tick, .slice (some ⟨g1, 0, none⟩) n1 cap1, .slice (some ⟨g, 0, none⟩) n2 cap, v3, v4, v5]) := below_setRow _ (Below.refl _ w9) (Nat.le_refl _)
      have hS9 := StO.setRow #[.int .i64 st.tick, .slice (some ⟨g1, 0, none⟩) n1 cap1, .slice (some ⟨g, 0, none⟩) n2 cap, v3, v4, v5] S16.out (show w.heap.size + 1 + 1 < w1.heap.size by omega)
      have hA9 : ActOk s _ := P16.out.ok
      have hN9 : _ = st.robots.length := (P16.out.nr.trans HNR.out)
      have hT9 := (HT3.out.trans P16.out.tk.symm)
      exact ⟨⟨_, .slice (some ⟨g1, 0, none⟩) n1 cap1, .slice (some ⟨g, 0, none⟩) n2 cap, v3, v4, v5, congrArg (fun t => Ending.returned (Value.agg #[.int .i64 t, .slice (some ⟨g1, 0, none⟩) n1 cap1, .slice (some ⟨g, 0, none⟩) n2 cap, v3, v4, v5])) hT9, hS9.lower (by omega), hA9, hN9⟩, (B16.out).trans (hB9.mono (by omega))⟩
    ·
     obtain ⟨q0, q1, q2, q3, q4, q5⟩ := cells6 I14.out
     have one9 : (#[.int .i64 st.tick, .slice av1 n1 cap1, .slice (some ⟨g, 0, none⟩) n2 cap, v3, v4, v5] : Array Value).all (·.oneCell') = true := by
      obtain ⟨g3, c3, h3⟩ := own_form S14.out.o3
      obtain ⟨g4, c4, h4⟩ := own_form S14.out.o4
      obtain ⟨g5, c5, h5⟩ := own_form S14.out.o5
      rw [h3, h4, h5]
      simp [Value.oneCell']
     have RR : Hid (wF.heap[w.heap.size + 1 + 1]? = some (.cells #[.int .i64 0, .slice none 0 0, .slice none 0 0, .slice none 0 0, .slice none 0 0, .slice none 0 0] 58 (0, 0))) := hid M143.out
     go_wp2_with (refine wpList_store_row rfl 58 (.tmp 8) (.tmp 125) rfl (w.heap.size + 1 + 1) #[.int .i64 st.tick, .slice av1 n1 cap1, .slice (some ⟨g, 0, none⟩) n2 cap, v3, v4, v5] rfl rfl 58 _ RR.out (by kernel_rfl) rfl one9 ?_)
     refine bodyPost_ret (v := .agg #[.int .i64 st.tick, .slice av1 n1 cap1, .slice (some ⟨g, 0, none⟩) n2 cap, v3, v4, v5]) (results_cell_row (p := 8) (ty := 58) (by kernel_rfl) _ _ (w.heap.size + 1 + 1) 58 #[.int .i64 st.tick, .slice av1 n1 cap1, .slice (some ⟨g, 0, none⟩) n2 cap, v3, v4, v5] (0, 0) _ rfl (setRow_heap _ _ _ _ _ _ RR.out) Tryz.underlying58 rfl (by kernel_rfl)) rfl ?_
     have hB9 : Below (w.heap.size + 1 + 1) wF (wF.setRow (w.heap.size + 1 + 1) #[.int .i64 st.tick, .slice av1 n1 cap1, .slice (some ⟨g, 0, none⟩) n2 cap, v3, v4, v5]) := below_setRow _ (Below.refl _ wF) (Nat.le_refl _)
     have hS9 := StO.setRow #[.int .i64 st.tick, .slice av1 n1 cap1, .slice (some ⟨g, 0, none⟩) n2 cap, v3, v4, v5] S14.out (show w.heap.size + 1 + 1 < w1.heap.size by omega)
     have hA9 : ActOk s _ := P14.out.ok
     have hN9 : _ = st.robots.length := HNR.out
     have hT9 := HT3.out
     exact ⟨⟨_, .slice av1 n1 cap1, .slice (some ⟨g, 0, none⟩) n2 cap, v3, v4, v5, congrArg (fun t => Ending.returned (Value.agg #[.int .i64 t, .slice av1 n1 cap1, .slice (some ⟨g, 0, none⟩) n2 cap, v3, v4, v5])) hT9, hS9.lower (by omega), hA9, hN9⟩, (B14.out).trans (hB9.mono (by omega))⟩
end Go.Proofs.YtfcbcpfnaadpeaaGreatDoor
