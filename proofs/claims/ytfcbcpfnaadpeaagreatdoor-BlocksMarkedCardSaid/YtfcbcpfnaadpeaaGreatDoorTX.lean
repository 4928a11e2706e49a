/- Parts TeX of this claim, laid one behind the other: walks and the plain laws behind them; each contract states its own conditions. -/
import Derived.Test.YtfcbcpfnaadpeaaGreatDoorTA
namespace Go.Proofs.YtfcbcpfnaadpeaaGreatDoor
set_option maxRecDepth 100000
set_option maxHeartbeats 64000000
set_option linter.unusedSimpArgs false
set_option linter.unusedVariables false
open Go.RowKit
def RIn (n ns : Nat) (r : Bd.Robot) : Prop := (0 ≤ r.cell ∧ r.cell < (n : Int)) ∧ (-1 ≤ r.load ∧ r.load < (ns : Int))
def RobPostM (n ns : Nat) (c L : Int) (w : World) (e : Ending) (w' : World) : Prop := (∃ b : Bool, e = .returned (.bool b) ∧ (b = true → (0 ≤ c ∧ c < (n : Int)) ∧ (-1 ≤ L ∧ L < (ns : Int)))) ∧ Below w.heap.size w w'
theorem r14robM_any (s : Si.Site) (kv ov zv av sv rv : Value) (st : Bd.State) (shv rov pev dev skv : Value) (x : Nat) (w : World) (hs : SiV w kv ov zv av sv rv s) (h : StV w shv rov pev dev skv st) (hx : x < st.robots.length) :
 Calls Tryz.prog 74 #[siV s kv ov zv av sv rv, stV st shv rov pev dev skv, .int .i64 x] w (RobPostM s.floor.kind.length st.shelves.length st.robots[x].cell st.robots[x].load w) := by
 have HKI := hid (fun W (hW : Below w.heap.size w W) c => r14kind_any s.floor kv ov c W (hs.keep hW).fl.kind)
 have HCA := hid (fun W (hW : Below w.heap.size w W) c => r14carrier_any st shv rov pev dev skv c W (h.keep hW).ro)
 have HSH := hid (fun W (hW : Below w.heap.size w W) => (h.keep hW).sh)
 have HRO := hid (fun W (hW : Below w.heap.size w W) => (h.keep hW).ro)
 obtain ⟨sa, sc, rfl, hsm⟩ := h.sh.form
 obtain ⟨ra, rc, rfl, hrm⟩ := h.ro.form
 unfold flV KindPost at HKI
 unfold stV IntPost at HCA
 unfold siV stV
 obtain ⟨ns, e1⟩ : ∃ n, st.shelves.length = n := ⟨_, rfl⟩
 obtain ⟨nr, e2⟩ : ∃ n, st.robots.length = n := ⟨_, rfl⟩
 obtain ⟨n, e3⟩ : ∃ n, s.floor.kind.length = n := ⟨_, rfl⟩
 rw [e3] at HKI
 rw [e1, e2] at HCA ⊢
 rw [e3]
 rw [e1] at HSH hsm
 rw [e2] at HRO hrm
 have HN := hid e1
 obtain ⟨w1, hw1⟩ : ∃ w1, w1 = (w.alloc (.cells #[.int .i64 s.floor.w, .int .i64 s.floor.h, .int .i64 s.floor.d, kv, ov, zv, av, sv, rv] 30)).alloc (.cells #[.int .i64 st.tick, .slice sa ns sc, .slice ra nr rc, pev, dev, skv] 58) := ⟨_, rfl⟩
 have B1 : Hid (Below w.heap.size w w1) := hid (by rw [hw1]; exact ((Below.refl _ _).alloc (Nat.le_refl _) _).alloc (by simp) _)
 have I1 : Hid (w1.heap[w.heap.size]? = some (.cells #[.int .i64 s.floor.w, .int .i64 s.floor.h, .int .i64 s.floor.d, kv, ov, zv, av, sv, rv] 30 (0, 0))) := hid (by rw [hw1]; exact heap_two0 _ _ _)
 have I2 : Hid (w1.heap[w.heap.size + 1]? = some (.cells #[.int .i64 st.tick, .slice sa ns sc, .slice ra nr rc, pev, dev, skv] 58 (0, 0))) := hid (by rw [hw1]; exact heap_two3 _ _ _)
 have HW1 := hid hw1
 have hs1 : w.heap.size + 1 < w1.heap.size := heap_lt I2.out
 obtain ⟨b, o, er, hbk, t0, t1, t2, t3, t4, t5⟩ := (HRO.out w1 B1.out).cell x hx
 subst er
 obtain ⟨C, hC⟩ : ∃ C, st.robots[x].cell = C := ⟨_, rfl⟩
 obtain ⟨L, hL⟩ : ∃ C, st.robots[x].load = C := ⟨_, rfl⟩
 obtain ⟨G, hG⟩ : ∃ C, st.robots[x].charge = C := ⟨_, rfl⟩
 obtain ⟨T, hT⟩ : ∃ C, st.robots[x].rest = C := ⟨_, rfl⟩
 obtain ⟨M, hM⟩ : ∃ C, st.robots[x].mute = C := ⟨_, rfl⟩
 obtain ⟨D, hD⟩ : ∃ C, st.robots[x].dead = C := ⟨_, rfl⟩
 rw [hC] at t0
 rw [hL] at t1
 rw [hG] at t2
 rw [hT] at t3
 rw [hM] at t4
 rw [hD] at t5
 rw [hC, hL]
 have hxn : x < nr := by rw [← e2]; exact hx
 have x0 : (0 : Int) ≤ (x : Int) := by omega
 have x1 : (x : Int) < (nr : Int) := by omega
 have p2 : w1.cell? ⟨w.heap.size + 1, 2, none⟩ = some (.slice (some ⟨b, o, none⟩) nr rc) := cell_of_heap I2.out 2 rfl
 clear hs h hx e1 e2 e3 hw1 hC hL hG hT hM hD
 obtain ⟨w2, hw2⟩ : ∃ w2, w2 = w1.alloc (.cells #[.int .i64 C, .int .i64 L, .int .i64 G, .int .i64 T, .int .i64 M, .bool D] 105) := ⟨_, rfl⟩
 have B2' : Hid (Below w1.heap.size w1 w2) := hid (by rw [hw2]; exact (Below.refl _ w1).alloc (Nat.le_refl _) _)
 have B2 : Hid (Below w.heap.size w w2) := hid (B1.out.trans (B2'.out.mono B1.out.size))
 have J1 := hid (keep_heap I1.out B2'.out)
 have J2 := hid (keep_heap I2.out B2'.out)
 have J3 : Hid (w2.heap[w1.heap.size]? = some (.cells #[.int .i64 C, .int .i64 L, .int .i64 G, .int .i64 T, .int .i64 M, .bool D] 105 (0, 0))) := hid (by rw [hw2]; exact heap_alloc_new _ _)
 have HW2 := hid hw2
 have hs2 : w1.heap.size < w2.heap.size := heap_lt J3.out
 clear hw2
 go_enter Tryz.func74, Tryz.ntmps74
 go_upto_region 1 with fail
 rw [← HW1.out]
 go_upto_region 2 with fail
 rw [← HW2.out]
 clear p2 t0 t1 t2 t3 t4 t5
 obtain ⟨p0, p1, p2, p3, p4, -⟩ := cells9 J1.out
 have q0 : w2.cell? ⟨w1.heap.size, 0, none⟩ = some (.int .i64 C) := cell_of_heap J3.out 0 rfl
 have HC := hid (HKI.out w2 B2.out C)
 go_wp2_with fail
 go_at_call 75; refine HC.out.mono ?_; rintro e w3 ⟨⟨K, rfl, hK⟩, b3⟩
 have HK := hid hK
 have B3' := hid b3
 have B3 := hid (B2.out.trans (b3.mono B2.out.size))
 have K2 := hid (keep_heap J2.out b3)
 have K3 := hid (keep_heap J3.out b3)
 clear b3 hK HC q0 p0 p1 p2 p3 p4
 obtain ⟨p0, p1, p2, p3, p4, p5⟩ := cells6 K2.out
 have q0 : w3.cell? ⟨w1.heap.size, 0, none⟩ = some (.int .i64 C) := cell_of_heap K3.out 0 rfl
 have q1 : w3.cell? ⟨w1.heap.size, 1, none⟩ = some (.int .i64 L) := cell_of_heap K3.out 1 rfl
 have q2 : w3.cell? ⟨w1.heap.size, 2, none⟩ = some (.int .i64 G) := cell_of_heap K3.out 2 rfl
 have q3 : w3.cell? ⟨w1.heap.size, 3, none⟩ = some (.int .i64 T) := cell_of_heap K3.out 3 rfl
 have q4 : w3.cell? ⟨w1.heap.size, 4, none⟩ = some (.int .i64 M) := cell_of_heap K3.out 4 rfl
 by_cases f0 : K < 0
 case pos =>
  clear HK HKI HCA HSH HRO
  go_wp2_with fail
  go_ret
  exact ⟨⟨false, rfl, fun h => by cases h⟩, B3.out⟩
 by_cases f1 : K = 0
 case pos =>
  clear HK HKI HCA HSH HRO
  subst f1
  go_wp2_with fail
  go_ret
  exact ⟨⟨false, rfl, fun h => by cases h⟩, B3.out⟩
 by_cases f2 : L < -1
 case pos =>
  clear HK HKI HCA HSH HRO
  go_wp2_with fail
  go_ret
  exact ⟨⟨false, rfl, fun h => by cases h⟩, B3.out⟩
 by_cases f3 : (ns : Int) ≤ L
 case pos =>
  clear HK HKI HCA HSH HRO
  go_wp2_with fail
  go_ret
  exact ⟨⟨false, rfl, fun h => by cases h⟩, B3.out⟩
 by_cases f4 : G < 0
 case pos =>
  clear HK HKI HCA HSH HRO
  go_wp2_with fail
  go_ret
  exact ⟨⟨false, rfl, fun h => by cases h⟩, B3.out⟩
 by_cases f5 : 1000000 < G
 case pos =>
  clear HK HKI HCA HSH HRO
  go_wp2_with fail
  go_ret
  exact ⟨⟨false, rfl, fun h => by cases h⟩, B3.out⟩
 by_cases f6 : T < 0
 case pos =>
  clear HK HKI HCA HSH HRO
  go_wp2_with fail
  go_ret
  exact ⟨⟨false, rfl, fun h => by cases h⟩, B3.out⟩
 by_cases f7 : 20000 < T
 case pos =>
  clear HK HKI HCA HSH HRO
  go_wp2_with fail
  go_ret
  exact ⟨⟨false, rfl, fun h => by cases h⟩, B3.out⟩
 by_cases f8 : M < 0
 case pos =>
  clear HK HKI HCA HSH HRO
  go_wp2_with fail
  go_ret
  exact ⟨⟨false, rfl, fun h => by cases h⟩, B3.out⟩
 by_cases f9 : 20000 < M
 case pos =>
  clear HK HKI HCA HSH HRO
  go_wp2_with fail
  go_ret
  exact ⟨⟨false, rfl, fun h => by cases h⟩, B3.out⟩
 have HIN : Hid ((0 ≤ C ∧ C < (n : Int)) ∧ (-1 ≤ L ∧ L < (ns : Int))) := hid ⟨HK.out (by omega), by omega, by omega⟩
 clear HK HKI HRO
 by_cases fl : L < 0
 case pos =>
  go_wp2_with fail
  all_goals first | (go_ret; exact ⟨⟨true, rfl, fun _ => HIN.out⟩, B3.out⟩) | (exfalso; rename_i hh; simp only [Bool.or_eq_true, decide_eq_true_eq, beq_iff_eq] at hh; omega)
 obtain ⟨y, rfl⟩ := Int.eq_ofNat_of_zero_le (show 0 ≤ L by omega)
 obtain ⟨sb, so, es, r0⟩ := (HSH.out w3 B3.out).cell y (by rw [HN.out]; omega)
 subst es
 obtain ⟨Z, hZ⟩ : ∃ Z, Z = st.shelves[y]'(by rw [HN.out]; omega) := ⟨_, rfl⟩
 rw [← hZ] at r0
 have hCA := hid (HCA.out w3 B3.out (y : Int))
 have y0 : (0 : Int) ≤ (y : Int) := by omega
 have y1 : (y : Int) < (ns : Int) := by omega
 clear hZ HSH
 go_upto_region 6 with fail
 all_goals first | (exfalso; rename_i hh; simp only [Bool.or_eq_true, decide_eq_true_eq, beq_iff_eq] at hh; omega) | skip
 all_goals skip
 refine wp_region_held_drew (S := fun W' => W'.cell? ⟨w.heap.size + 1, 0, none⟩ = some (.int .i64 st.tick) ∧ W'.cell? ⟨w.heap.size + 1, 1, none⟩ = some (.slice (some ⟨sb, so, none⟩) ns sc) ∧ W'.cell? ⟨w.heap.size + 1, 2, none⟩ = some (.slice (some ⟨b, o, none⟩) nr rc) ∧ W'.cell? ⟨w.heap.size + 1, 3, none⟩ = some (pev) ∧ W'.cell? ⟨w.heap.size + 1, 4, none⟩ = some (dev) ∧ W'.cell? ⟨w.heap.size + 1, 5, none⟩ = some (skv) ∧ W'.cell? ⟨w1.heap.size, 0, none⟩ = some (.int .i64 C) ∧ W'.cell? ⟨w1.heap.size, 1, none⟩ = some (.int .i64 (y : Int)) ∧ W'.cell? ⟨sb, so + y, none⟩ = some (.int .i64 Z)) (by kernel_rfl) ⟨p0, p1, p2, p3, p4, p5, q0, q1, r0⟩ (fun hHeld => ?_)
 obtain ⟨wx, hwx⟩ : ∃ W, W = w3.drew := ⟨_, rfl⟩
 rw [← hwx] at hHeld ⊢
 have BX0 : Hid (Below w.heap.size w wx) := hid (B3.out.trans (by subst hwx; exact ⟨rfl, rfl, rfl, Nat.le_refl _, fun _ _ => rfl⟩))
 clear hwx
 refine tk 0 ?_
 try simp only [Act.put, zA, zB, zC, zD, zE, zF]
 refine tk 1 ?_
 try simp only [Act.put, zA, zB, zC, zD, zE, zF]
 refine tk 2 ?_
 try simp only [Act.put, zA, zB, zC, zD, zE, zF]
 refine tk 4 ?_
 try simp only [Act.put, zA, zB, zC, zD, zE, zF]
 refine wpAnyH_ready (rs := [3]) (by kernel_rfl) (by simp) ?_
 refine AllReadyH.cons (o := _) rfl (fun K9 hK => ?_) AllReadyH.nil
 go_simp
 go_at_call 76; with_reducible refine (HCA.out wx BX0.out (y : Int)).mono ?_; rintro e w5 ⟨⟨k, rfl⟩, b5⟩
 have B5 := hid (BX0.out.trans (b5.mono BX0.out.size))
 have S5 : w5.cell? ⟨w.heap.size + 1, 0, none⟩ = some (.int .i64 st.tick) ∧ w5.cell? ⟨w.heap.size + 1, 1, none⟩ = some (.slice (some ⟨sb, so, none⟩) ns sc) ∧ w5.cell? ⟨w.heap.size + 1, 2, none⟩ = some (.slice (some ⟨b, o, none⟩) nr rc) ∧ w5.cell? ⟨w.heap.size + 1, 3, none⟩ = some (pev) ∧ w5.cell? ⟨w.heap.size + 1, 4, none⟩ = some (dev) ∧ w5.cell? ⟨w.heap.size + 1, 5, none⟩ = some (skv) ∧ w5.cell? ⟨w1.heap.size, 0, none⟩ = some (.int .i64 C) ∧ w5.cell? ⟨w1.heap.size, 1, none⟩ = some (.int .i64 (y : Int)) ∧ w5.cell? ⟨sb, so + y, none⟩ = some (.int .i64 Z) := by
  obtain ⟨k0, k1, k2, k3, k4, k5, k6, k7, k8⟩ := hHeld
  exact ⟨(b5.cell (p := ⟨w.heap.size + 1, 0, none⟩) (cell_block_lt k0)).trans k0, (b5.cell (p := ⟨w.heap.size + 1, 1, none⟩) (cell_block_lt k1)).trans k1, (b5.cell (p := ⟨w.heap.size + 1, 2, none⟩) (cell_block_lt k2)).trans k2, (b5.cell (p := ⟨w.heap.size + 1, 3, none⟩) (cell_block_lt k3)).trans k3, (b5.cell (p := ⟨w.heap.size + 1, 4, none⟩) (cell_block_lt k4)).trans k4, (b5.cell (p := ⟨w.heap.size + 1, 5, none⟩) (cell_block_lt k5)).trans k5, (b5.cell (p := ⟨w1.heap.size, 0, none⟩) (cell_block_lt k6)).trans k6, (b5.cell (p := ⟨w1.heap.size, 1, none⟩) (cell_block_lt k7)).trans k7, (b5.cell (p := ⟨sb, so + y, none⟩) (cell_block_lt k8)).trans k8⟩
 clear b5 hHeld hCA
 by_cases hkx : k = (x : Int)
 · subst hkx
   go_wp2_with fail
   refine hK.out _ _ S5 (fun hHeld => ?_)
   clear hK K9
   try simp only [Act.put, zA, zB, zC, zD, zE, zF]
   refine tk 5 ?_
   try simp only [Act.put, zA, zB, zC, zD, zE, zF]
   refine tk 6 ?_
   try simp only [Act.put, zA, zB, zC, zD, zE, zF]
   refine tk 7 ?_
   try simp only [Act.put, zA, zB, zC, zD, zE, zF]
   refine tk 8 ?_
   try simp only [Act.put, zA, zB, zC, zD, zE, zF]
   refine tk 9 ?_
   try simp only [Act.put, zA, zB, zC, zD, zE, zF]
   refine tk 10 ?_
   try simp only [Act.put, zA, zB, zC, zD, zE, zF]
   refine tk 11 ?_
   try simp only [Act.put, zA, zB, zC, zD, zE, zF]
   refine tk 12 ?_
   try simp only [Act.put, zA, zB, zC, zD, zE, zF]
   refine tk 13 ?_
   try simp only [Act.put, zA, zB, zC, zD, zE, zF]
   refine tk 14 ?_
   try simp only [Act.put, zA, zB, zC, zD, zE, zF]
   refine tk 15 ?_
   try simp only [Act.put, zA, zB, zC, zD, zE, zF]
   refine tk 16 ?_
   try simp only [Act.put, zA, zB, zC, zD, zE, zF]
   refine tk 17 ?_
   try simp only [Act.put, zA, zB, zC, zD, zE, zF]
   refine wpAnyH_done (by kernel_rfl) ?_ _
   go_wp2_with fail
   go_ret
   exact ⟨⟨_, rfl, fun _ => HIN.out⟩, B5.out⟩
 · have hne : (k == (x : Int)) = false := by simpa using hkx
   go_wp2_with fail
   refine hK.out _ _ S5 (fun hHeld => ?_)
   clear hK K9
   try simp only [Act.put, zA, zB, zC, zD, zE, zF]
   refine tk 5 ?_
   try simp only [Act.put, zA, zB, zC, zD, zE, zF]
   refine tk 6 ?_
   try simp only [Act.put, zA, zB, zC, zD, zE, zF]
   try simp only [hne]
   refine tj 7 ?_
   try simp only [Act.put, zA, zB, zC, zD, zE, zF]
   refine tj 8 ?_
   try simp only [Act.put, zA, zB, zC, zD, zE, zF]
   refine tj 9 ?_
   try simp only [Act.put, zA, zB, zC, zD, zE, zF]
   refine tj 10 ?_
   try simp only [Act.put, zA, zB, zC, zD, zE, zF]
   refine tj 11 ?_
   try simp only [Act.put, zA, zB, zC, zD, zE, zF]
   refine tj 12 ?_
   try simp only [Act.put, zA, zB, zC, zD, zE, zF]
   refine tj 13 ?_
   try simp only [Act.put, zA, zB, zC, zD, zE, zF]
   refine tj 14 ?_
   try simp only [Act.put, zA, zB, zC, zD, zE, zF]
   refine tj 15 ?_
   try simp only [Act.put, zA, zB, zC, zD, zE, zF]
   refine tk 16 ?_
   try simp only [Act.put, zA, zB, zC, zD, zE, zF]
   refine tk 17 ?_
   try simp only [Act.put, zA, zB, zC, zD, zE, zF]
   refine wpAnyH_done (by kernel_rfl) ?_ _
   go_wp2_with fail
   go_ret
   exact ⟨⟨_, rfl, fun _ => HIN.out⟩, B5.out⟩
end Go.Proofs.YtfcbcpfnaadpeaaGreatDoor
