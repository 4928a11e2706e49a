/- Parts AcH of this claim, laid one behind the other: walks and the plain laws behind them; each contract states its own conditions. -/
import Derived.Test.YtfcbcpfnaadpeaaGreatDoorAE
namespace Go.Proofs.YtfcbcpfnaadpeaaGreatDoor
set_option maxRecDepth 100000
set_option maxHeartbeats 64000000
set_option linter.unusedSimpArgs false
set_option linter.unusedVariables false
open Go.RowKit
theorem legal_st (s : Si.Site) (kv ov zv av sv rv : Value) (st : Bd.State) (shv rov pev dev skv : Value) (x : Nat) (w : World) (h : SiV w kv ov zv av sv rv s) (ht : StV w shv rov pev dev skv st) (hx : x < st.robots.length) :
 Calls Tryz.prog 101 #[siV s kv ov zv av sv rv, stV st shv rov pev dev skv, .int .i64 (x : Int), .int .i64 0] w fun e w' => e = .returned (.int .i64 0) ∧ Below w.heap.size w w' := by
 obtain ⟨a1, c1, a2, c2, a3, c3, a4, c4, a5, c5, a6, c6, rfl, rfl, rfl, rfl, rfl, rfl, m1, m2, m3, m4, m5, m6⟩ := h.open
 unfold siV at *
 obtain ⟨l1, e1⟩ : ∃ n, s.floor.kind.length = n := ⟨_, rfl⟩
 obtain ⟨l2, e2⟩ : ∃ n, s.floor.out.length = n := ⟨_, rfl⟩
 obtain ⟨l3, e3⟩ : ∃ n, s.zones.length = n := ⟨_, rfl⟩
 obtain ⟨l4, e4⟩ : ∃ n, s.aparts.length = n := ⟨_, rfl⟩
 obtain ⟨l5, e5⟩ : ∃ n, s.shelves.length = n := ⟨_, rfl⟩
 obtain ⟨l6, e6⟩ : ∃ n, s.robots.length = n := ⟨_, rfl⟩
 rw [e1, e2, e3, e4, e5, e6]
 obtain ⟨b1, d1, b2, d2, b3, d3, b4, d4, b5, d5, rfl, rfl, rfl, rfl, rfl, k1, k2, k3, k4, k5⟩ := ht.open
 unfold stV at *
 obtain ⟨n1, g1⟩ : ∃ n, st.shelves.length = n := ⟨_, rfl⟩
 obtain ⟨n2, g2⟩ : ∃ n, st.robots.length = n := ⟨_, rfl⟩
 obtain ⟨n3, g3⟩ : ∃ n, st.people.length = n := ⟨_, rfl⟩
 obtain ⟨n4, g4⟩ : ∃ n, st.dead.length = n := ⟨_, rfl⟩
 obtain ⟨n5, g5⟩ : ∃ n, st.stuck.length = n := ⟨_, rfl⟩
 rw [g1, g2, g3, g4, g5]
 have hxn : x < n2 := by rw [← g2]; exact hx
 obtain ⟨w1, hw1⟩ : ∃ W, W = (w.alloc (.cells #[.int .i64 s.floor.w, .int .i64 s.floor.h, .int .i64 s.floor.d, .slice a1 l1 c1, .slice a2 l2 c2, .slice a3 l3 c3, .slice a4 l4 c4, .slice a5 l5 c5, .slice a6 l6 c6] 30)).alloc (.cells #[.int .i64 st.tick, .slice b1 n1 d1, .slice b2 n2 d2, .slice b3 n3 d3, .slice b4 n4 d4, .slice b5 n5 d5] 58) := ⟨_, rfl⟩
 have B1 : Hid (Below w.heap.size w w1) := hid (by rw [hw1]; exact ((Below.refl _ _).alloc (Nat.le_refl _) _).alloc (by simp) _)
 have I1 : Hid (w1.heap[w.heap.size]? = some (.cells #[.int .i64 s.floor.w, .int .i64 s.floor.h, .int .i64 s.floor.d, .slice a1 l1 c1, .slice a2 l2 c2, .slice a3 l3 c3, .slice a4 l4 c4, .slice a5 l5 c5, .slice a6 l6 c6] 30 (0, 0))) := hid (by rw [hw1]; exact heap_two0 _ _ _)
 have I2 : Hid (w1.heap[w.heap.size + 1]? = some (.cells #[.int .i64 st.tick, .slice b1 n1 d1, .slice b2 n2 d2, .slice b3 n3 d3, .slice b4 n4 d4, .slice b5 n5 d5] 58 (0, 0))) := hid (by rw [hw1]; exact heap_two3 _ _ _)
 have HW1 := hid hw1
 have hs1 := heap_lt I2.out
 have q2 : w1.cell? ⟨w.heap.size + 1, 2, none⟩ = some (.slice b2 n2 d2) := cell_of_heap I2.out 2 rfl
 have j0 : (0 : Int) ≤ (x : Int) := by omega
 have j1 : (x : Int) < (n2 : Int) := by omega
 have j2 : ¬ n2 ≤ x := by omega
 clear h e1 e2 e3 e4 e5 e6 m1 m2 m3 m4 m5 m6 hw1 ht g1 g2 g3 g4 g5 k1 k2 k3 k4 k5 hx
 go_enter Tryz.func101, Tryz.ntmps101
 go_upto_region 1 with fail
 rw [← HW1.out]
 go_wp2_with fail
 go_ret
 exact ⟨rfl, B1.out⟩
theorem own_belowA {w W : World} {base : Nat} {n : Nat} {v : Value} {l : List Int} (h : w.ownsRow base 3 1 v n (ints l)) (hb : Below w.heap.size w W) : W.ownsRow base 3 1 v n (ints l) := own_belowB h hb
theorem own_isA {w : World} {base n : Nat} {v : Value} {l : List Int} (h : w.ownsRow base 3 1 v n (ints l)) : Is w v l := Sl.of_own h (own_max h)
theorem legal_any (s : Si.Site) (kv ov zv av sv rv : Value) (st : Bd.State) (shv rov pev dev skv : Value) (x A : Nat) (w : World) (h : SiV w kv ov zv av sv rv s) (ht : StV w shv rov pev dev skv st) (ho : ActOk s st) (hx : x < st.robots.length) (hA : A < 10) :
 Calls Tryz.prog 101 #[siV s kv ov zv av sv rv, stV st shv rov pev dev skv, .int .i64 (x : Int), .int .i64 (A : Int)] w fun e w' => (∃ k : Int, e = .returned (.int .i64 k) ∧ (A = 0 → k = 0)) ∧ Below w.heap.size w w' := by
 have hcs : A = 0 ∨ (∃ d, d < 6 ∧ A = d + 1) ∨ A = 7 ∨ A = 8 ∨ A = 9 := by
  by_cases h1 : A = 0
  · exact .inl h1
  · by_cases h2 : A ≤ 6
    · exact .inr (.inl ⟨A - 1, by omega, by omega⟩)
    · omega
 rcases hcs with rfl | ⟨d, hd, rfl⟩ | rfl | rfl | rfl
 · exact (legal_st s kv ov zv av sv rv st shv rov pev dev skv x w h ht hx).mono (fun e w' h => ⟨⟨0, h.1, fun _ => rfl⟩, h.2⟩)
 · exact (legal_mv s kv ov zv av sv rv st shv rov pev dev skv x d w h ht ho hx hd).mono (fun e w' h => ⟨by obtain ⟨k, hk⟩ := h.1; exact ⟨k, hk, fun h => by omega⟩, h.2⟩)
 · exact (legal_lf s kv ov zv av sv rv st shv rov pev dev skv x w h ht ho hx).mono (fun e w' h => ⟨by obtain ⟨k, hk⟩ := h.1; exact ⟨k, hk, fun h => by omega⟩, h.2⟩)
 · exact (legal_dr s kv ov zv av sv rv st shv rov pev dev skv x w h ht ho hx).mono (fun e w' h => ⟨by obtain ⟨k, hk⟩ := h.1; exact ⟨k, hk, fun h => by omega⟩, h.2⟩)
 · exact (legal_ch s kv ov zv av sv rv st shv rov pev dev skv x w h ht ho hx).mono (fun e w' h => ⟨by obtain ⟨k, hk⟩ := h.1; exact ⟨k, hk, fun h => by omega⟩, h.2⟩)
theorem Acts_any (s : Si.Site) (kv ov zv av sv rv : Value) (st : Bd.State) (shv rov pev dev skv : Value) (x : Nat) (w : World) (h : SiV w kv ov zv av sv rv s) (ht : StV w shv rov pev dev skv st) (ho : ActOk s st) (hx : x < st.robots.length) :
 Calls Tryz.prog 39 #[siV s kv ov zv av sv rv, stV st shv rov pev dev skv, .int .i64 (x : Int)] w fun e w' => (∃ v l, e = .returned v ∧ Is w' v l ∧ 0 < l.length ∧ l.length ≤ 10 ∧ ∀ a ∈ l, 0 ≤ a ∧ a < 10) ∧ Below w.heap.size w w' := by
 have HLG := hid (fun A W (hb : Below w.heap.size w W) hA => legal_any s kv ov zv av sv rv st shv rov pev dev skv x A W (h.keep hb) (ht.keep hb) ho hx hA)
 obtain ⟨a1, c1, a2, c2, a3, c3, a4, c4, a5, c5, a6, c6, rfl, rfl, rfl, rfl, rfl, rfl, m1, m2, m3, m4, m5, m6⟩ := h.open
 unfold siV at *
 obtain ⟨l1, e1⟩ : ∃ n, s.floor.kind.length = n := ⟨_, rfl⟩
 obtain ⟨l2, e2⟩ : ∃ n, s.floor.out.length = n := ⟨_, rfl⟩
 obtain ⟨l3, e3⟩ : ∃ n, s.zones.length = n := ⟨_, rfl⟩
 obtain ⟨l4, e4⟩ : ∃ n, s.aparts.length = n := ⟨_, rfl⟩
 obtain ⟨l5, e5⟩ : ∃ n, s.shelves.length = n := ⟨_, rfl⟩
 obtain ⟨l6, e6⟩ : ∃ n, s.robots.length = n := ⟨_, rfl⟩
 try simp only [e1, e2, e3, e4, e5, e6] at HLG
 rw [e1, e2, e3, e4, e5, e6]
 obtain ⟨b1, d1, b2, d2, b3, d3, b4, d4, b5, d5, rfl, rfl, rfl, rfl, rfl, k1, k2, k3, k4, k5⟩ := ht.open
 unfold stV at *
 obtain ⟨n1, g1⟩ : ∃ n, st.shelves.length = n := ⟨_, rfl⟩
 obtain ⟨n2, g2⟩ : ∃ n, st.robots.length = n := ⟨_, rfl⟩
 obtain ⟨n3, g3⟩ : ∃ n, st.people.length = n := ⟨_, rfl⟩
 obtain ⟨n4, g4⟩ : ∃ n, st.dead.length = n := ⟨_, rfl⟩
 obtain ⟨n5, g5⟩ : ∃ n, st.stuck.length = n := ⟨_, rfl⟩
 try simp only [g1, g2, g3, g4, g5] at HLG
 rw [g1, g2, g3, g4, g5]
 obtain ⟨w1, hw1⟩ : ∃ W, W = (w.alloc (.cells #[.int .i64 s.floor.w, .int .i64 s.floor.h, .int .i64 s.floor.d, .slice a1 l1 c1, .slice a2 l2 c2, .slice a3 l3 c3, .slice a4 l4 c4, .slice a5 l5 c5, .slice a6 l6 c6] 30)).alloc (.cells #[.int .i64 st.tick, .slice b1 n1 d1, .slice b2 n2 d2, .slice b3 n3 d3, .slice b4 n4 d4, .slice b5 n5 d5] 58) := ⟨_, rfl⟩
 have B1 : Hid (Below w.heap.size w w1) := hid (by rw [hw1]; exact ((Below.refl _ _).alloc (Nat.le_refl _) _).alloc (by simp) _)
 have I1 : Hid (w1.heap[w.heap.size]? = some (.cells #[.int .i64 s.floor.w, .int .i64 s.floor.h, .int .i64 s.floor.d, .slice a1 l1 c1, .slice a2 l2 c2, .slice a3 l3 c3, .slice a4 l4 c4, .slice a5 l5 c5, .slice a6 l6 c6] 30 (0, 0))) := hid (by rw [hw1]; exact heap_two0 _ _ _)
 have I2 : Hid (w1.heap[w.heap.size + 1]? = some (.cells #[.int .i64 st.tick, .slice b1 n1 d1, .slice b2 n2 d2, .slice b3 n3 d3, .slice b4 n4 d4, .slice b5 n5 d5] 58 (0, 0))) := hid (by rw [hw1]; exact heap_two3 _ _ _)
 have HW1 := hid hw1
 have hs1 := heap_lt I2.out
 have BB : Hid (∀ W, Below w1.heap.size w1 W → Below w.heap.size w W) := hid (fun W hW => B1.out.trans (hW.mono B1.out.size))
 have O0 : Hid (w1.ownsRow w1.heap.size 3 1 (.slice none 0 0) 0 (ints [])) := hid (World.ownsRow_nil ..)
 have Z0 : Hid (Below w1.heap.size w1 w1) := hid (Below.refl _ _)
 clear h e1 e2 e3 e4 e5 e6 m1 m2 m3 m4 m5 m6 hw1 ht g1 g2 g3 g4 g5 k1 k2 k3 k4 k5 ho hx
 go_enter Tryz.func39, Tryz.ntmps39
 go_upto_region 1 with fail
 rw [← HW1.out]
 go_wp2_with fail
 go_loopw [7, 9] (fun ov iv wr => ∃ (L : List Int) (k j : Nat) (oa : Option Addr) (oc : Nat), iv = .int .i64 k ∧ ov = .slice oa j oc ∧ Hid (L.length = j ∧ ∀ a ∈ L, 0 ≤ a ∧ a < 10) ∧ k ≤ 10 ∧ j ≤ k ∧ (0 < k → 0 < j) ∧ Hid (wr.ownsRow w1.heap.size 3 1 (.slice oa j oc) j (ints L)) ∧ Hid (Below w1.heap.size w1 wr)) (fun _ iv _ => 10 - (intOf iv).toNat)
 case atStart => exact ⟨[], 0, 0, none, 0, rfl, rfl, hid ⟨rfl, by simp⟩, by omega, by omega, by omega, O0, Z0⟩
 case round =>
  clear O0 Z0
  obtain ⟨L, k, j, oa, oc, rfl, rfl, HL, q1, q2, q3, HO, HB⟩ := hrel
  obtain ⟨wA, hwA⟩ : ∃ W, W = wr := ⟨_, rfl⟩
  subst hwA
  by_cases hk : k < 10
  case neg =>
   obtain rfl : k = 10 := by omega
   go_wp2_with fail
   go_ret
   exact ⟨⟨_, L, rfl, own_isA HO.out, by have := HL.out.1; omega, by have := HL.out.1; omega, HL.out.2⟩, BB.out _ HB.out⟩
  case pos =>
  have J1 := hid (keep_heap I1.out HB.out)
  have J2 := hid (keep_heap I2.out HB.out)
  have HC := hid (HLG.out k wA (BB.out _ HB.out) hk)
  have k1 : (k : Int) < 10 := by omega
  obtain ⟨p0, p1, p2, p3, p4, p5, p6, p7, p8⟩ := cells9 J1.out
  obtain ⟨q0, q1, q2, q3, q4, q5⟩ := cells6 J2.out
  go_wp2_with fail
  go_at_call 101; refine HC.out.mono ?_; rintro e w3 ⟨⟨r, rfl, hr⟩, b3⟩
  have B3 := hid (HB.out.trans (b3.mono HB.out.size))
  have O3 : Hid (w3.ownsRow w1.heap.size 3 1 (.slice oa j oc) j (ints L)) := hid (own_belowA HO.out b3)
  have s3 := B3.out.size
  clear b3 HC p0 p1 p2 p3 p4 p5 p6 p7 p8 q0 q1 q2 q3 q4 q5
  by_cases hr0 : r = 0
  case neg =>
   have hr1 : (r == 0) = false := by simpa using hr0
   have hk0 : 0 < k := by
    rcases Nat.eq_zero_or_pos k with h | h
    · exact absurd (hr h) hr0
    · exact h
   clear hr hr0
   go_wp2_with fail
   go_roundw
   case rel => exact ⟨L, k + 1, j, oa, oc, by go_num, rfl, HL, by omega, by omega, by omega, O3, B3⟩
   case measure => simp [intOf]; omega
  case pos =>
   subst hr0
   clear hr
   go_wp2_with (at_builtin; refine wpList_app_int_up rfl (.tmp 18) (.tmp 20) rfl w1.heap.size (.slice oa j oc) j (ints L) rfl (World.ownsRow.alloc O3.out _) w3.heap.size 1 (k : Int) rfl (heap_alloc_new _ _) ?c1 ?c2 ?_)
   case c1 => omega
   case c2 => simp; omega
   intro av cv w4 ho4 hg4 hd4
   have hlt9 : ∀ k, (Value.slice oa j oc).ownBlock = some k → w1.heap.size ≤ k := fun k hk => (World.ownsRow.lt O3.out k hk).1
   have O4 : Hid (w4.ownsRow w1.heap.size 3 1 (.slice av (j + 1) cv) (j + 1) (ints (L ++ [(k : Int)]))) := hid (by
    rw [show ints (L ++ [(k : Int)]) = ints L ++ [.int .i64 (k : Int)] by simp [ints]]; exact ho4)
   have B4 := hid ((B3.out.alloc s3 _).grown hg4 (by simp; omega) (fun k e => hlt9 k e))
   have HL4 : Hid ((L ++ [(k : Int)]).length = j + 1 ∧ ∀ a ∈ L ++ [(k : Int)], 0 ≤ a ∧ a < 10) := hid ⟨by rw [List.length_append, HL.out.1]; rfl, fun a ha => by
    rcases List.mem_append.1 ha with h | h
    · exact HL.out.2 a h
    · rw [List.mem_singleton] at h; subst h; omega⟩
   clear ho4 hg4 hd4 hlt9
   go_wp2_with fail
   go_roundw
   case rel => exact ⟨_, k + 1, j + 1, av, cv, by go_num, rfl, HL4, by omega, by omega, by omega, O4, B4⟩
   case measure => simp [intOf]; omega
  end Go.Proofs.YtfcbcpfnaadpeaaGreatDoor
