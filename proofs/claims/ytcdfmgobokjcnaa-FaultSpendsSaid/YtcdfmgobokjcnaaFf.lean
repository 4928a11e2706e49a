/- Walks of package body: Low, High, at, Robot, Person. -/
import Derived.Test.YtcdfmgobokjcnaaBd
import Derived.Test.YtcdfmgobokjcnaaAl
namespace Go.Proofs.Ytcdfmgobokjcnaa
set_option linter.unusedSimpArgs false
set_option linter.unusedVariables false
open Go.RowKit

/-- A number so small that its slots are numbers of Go. -/
def SmC (c : Int) : Prop := -1152921504606846976 ≤ c ∧ c ≤ 1152921504606846976
theorem is_new2 {W : World} {N : Nat} {a b : Int} {t : TypeId} (h : W.heap[N]? = some (.cells #[.int .i64 a, .int .i64 b] t (0, 0))) : Is W (.slice (some ⟨N, 0, none⟩) 2 2) [a, b] := by
  refine ⟨some ⟨N, 0, none⟩, 2, rfl, by simp [ints, maxLen], (fun h => by cases h), fun i hi => ⟨N, 0, rfl, ?_⟩⟩
  have : i = 0 ∨ i = 1 := by simp [ints] at hi; omega
  rcases this with rfl | rfl
  · exact cell_of_heap h 0 rfl
  · exact cell_of_heap h 1 rfl
theorem is_new1 {W : World} {N : Nat} {a : Int} {t : TypeId} (h : W.heap[N]? = some (.cells #[.int .i64 a] t (0, 0))) : Is W (.slice (some ⟨N, 0, none⟩) 1 1) [a] := by
  refine ⟨some ⟨N, 0, none⟩, 1, rfl, by simp [ints, maxLen], (fun h => by cases h), fun i hi => ⟨N, 0, rfl, ?_⟩⟩
  have : i = 0 := by simp [ints] at hi; omega
  subst this
  exact cell_of_heap h 0 rfl
/-- The value of a robot. -/
def robA (r : Bd.Robot) : Array Value := #[.int .i64 r.cell, .int .i64 r.load, .int .i64 r.charge, .int .i64 r.rest, .int .i64 r.mute, .bool r.dead]
theorem getD_lt2 {α : Type} (l : List α) (i : Nat) (x : α) (h : i < l.length) : l.getD i x = l[i] := by simp [List.getD, h]
/-- A new list of numbers is handed back. -/
def LsPost (L : List Int) (w : World) (e : Ending) (w' : World) : Prop := ∃ v, e = .returned v ∧ Is w' v L ∧ Below w.heap.size w w'
set_option maxHeartbeats 1000000 in
theorem Low_any (c : Int) (w : World) (h : SmC c) : Calls Try.prog 49 #[.int .i64 c] w fun e w' => e = .returned (.int .i64 (2 * c)) ∧ w = w' := by
  obtain ⟨h1, h2⟩ := h
  go_enter Try.func49, Try.ntmps49
  go_wp2_with fail
  go_ret
  exact ⟨rfl, rfl⟩
set_option maxHeartbeats 1000000 in
theorem High_any (c : Int) (w : World) (h : SmC c) : Calls Try.prog 50 #[.int .i64 c] w fun e w' => e = .returned (.int .i64 (2 * c + 1)) ∧ w = w' := by
  obtain ⟨h1, h2⟩ := h
  go_enter Try.func50, Try.ntmps50
  go_wp2_with fail
  go_ret
  exact ⟨rfl, rfl⟩
set_option maxRecDepth 100000 in
set_option maxHeartbeats 4000000 in
theorem at_any (r : Bd.Robot) (c : Int) (w : World) (h : SmC c) : Calls Try.prog 92 #[.agg (robA r), .int .i64 c] w (LsPost (Bd.atL r.load c) w) := by
  have HLo := Lib.hid (fun W => Low_any c W h)
  have HHi := Lib.hid (fun W => High_any c W h)
  obtain ⟨L, hL⟩ : ∃ L, r.load = L := ⟨_, rfl⟩
  obtain ⟨C, hC⟩ : ∃ L, r.cell = L := ⟨_, rfl⟩
  unfold robA
  rw [hL, hC]
  unfold LsPost
  by_cases h0 : 0 ≤ L
  · have HA : Hid (Bd.atL L c = [2 * c, 2 * c + 1]) := Lib.hid (by unfold Bd.atL; rw [if_pos h0])
    have HB := Lib.hid (al2 w (.cells #[.int .i64 C, .int .i64 L, .int .i64 r.charge, .int .i64 r.rest, .int .i64 r.mute, .bool r.dead] 62) (.cells #[.int .i64 (2 * c), .int .i64 (2 * c + 1)] 3))
    clear hL hC h
    go_enter Try.func92, Try.ntmps92
    go_wp2_with (first | (go_at_call 49; refine (HLo.out _).mono ?_; rintro e w1 ⟨rfl, rfl⟩) | (go_at_call 50; refine (HHi.out _).mono ?_; rintro e w1 ⟨rfl, rfl⟩))
    go_ret
    exact ⟨_, rfl, by rw [HA.out]; exact is_new2 HB.out.2.1, HB.out.2.2.1⟩
  · have HA : Hid (Bd.atL L c = [2 * c]) := Lib.hid (by unfold Bd.atL; rw [if_neg h0])
    have HB := Lib.hid (al2 w (.cells #[.int .i64 C, .int .i64 L, .int .i64 r.charge, .int .i64 r.rest, .int .i64 r.mute, .bool r.dead] 62) (.cells #[.int .i64 (2 * c)] 3))
    clear hL hC h
    go_enter Try.func92, Try.ntmps92
    go_wp2_with (first | (go_at_call 49; refine (HLo.out _).mono ?_; rintro e w1 ⟨rfl, rfl⟩) | (go_at_call 50; refine (HHi.out _).mono ?_; rintro e w1 ⟨rfl, rfl⟩))
    go_ret
    exact ⟨_, rfl, by rw [HA.out]; exact is_new1 HB.out.2.1, HB.out.2.2.1⟩
set_option maxRecDepth 100000 in
set_option maxHeartbeats 8000000 in
theorem Robot_any (s : Bd.State) (sv rv pv dv kv : Value) (i : Nat) (w : World) (h : StV w sv rv pv dv kv s) (hi : i < s.robots.length) (hc : SmC s.robots[i].cell) :
    Calls Try.prog 83 #[stV s sv rv pv dv kv, .int .i64 (i : Int)] w (LsPost (Bd.robotL s.robots[i]) w) := by
  obtain ⟨a1, c1, a2, c2, a3, c3, a4, c4, a5, c5, rfl, rfl, rfl, rfl, rfl, m1, m2, m3, m4, m5⟩ := h.open
  obtain ⟨rb, ro, rfl, hrb, r0, r1, r2, r3, r4, r5⟩ := h.ro.cell i hi
  obtain ⟨X, hX⟩ : ∃ X, s.robots[i] = X := ⟨_, rfl⟩
  rw [hX] at r0 r1 r2 r3 r4 r5 hc ⊢
  have HAT := Lib.hid (fun W => at_any X X.cell W hc)
  unfold Bd.robotL
  obtain ⟨RL, hRL⟩ : ∃ R, Bd.atL X.load X.cell = R := ⟨_, rfl⟩
  rw [hRL] at HAT ⊢
  unfold robA at HAT
  unfold stV LsPost at *
  obtain ⟨n1, e1⟩ : ∃ n, s.shelves.length = n := ⟨_, rfl⟩
  obtain ⟨n2, e2⟩ : ∃ n, s.robots.length = n := ⟨_, rfl⟩
  obtain ⟨n3, e3⟩ : ∃ n, s.people.length = n := ⟨_, rfl⟩
  obtain ⟨n4, e4⟩ : ∃ n, s.dead.length = n := ⟨_, rfl⟩
  obtain ⟨n5, e5⟩ : ∃ n, s.stuck.length = n := ⟨_, rfl⟩
  rw [e2] at hi m2
  rw [e1, e2, e3, e4, e5]
  obtain ⟨w1, hw1⟩ : ∃ W, W = w.alloc (.cells #[.int .i64 s.tick, .slice a1 n1 c1, .slice (some ⟨rb, ro, none⟩) n2 c2, .slice a3 n3 c3, .slice a4 n4 c4, .slice a5 n5 c5] 47) := ⟨_, rfl⟩
  have HB := Lib.hid (al1 w (.cells #[.int .i64 s.tick, .slice a1 n1 c1, .slice (some ⟨rb, ro, none⟩) n2 c2, .slice a3 n3 c3, .slice a4 n4 c4, .slice a5 n5 c5] 47))
  rw [← hw1] at HB
  have HW := Lib.hid hw1
  have HBb := HB.out.2.1
  rw [← HBb.cell (p := ⟨rb, ro + i * 6, none⟩) hrb] at r0
  rw [← HBb.cell (p := ⟨rb, ro + i * 6 + 1, none⟩) hrb] at r1
  rw [← HBb.cell (p := ⟨rb, ro + i * 6 + 2, none⟩) hrb] at r2
  rw [← HBb.cell (p := ⟨rb, ro + i * 6 + 3, none⟩) hrb] at r3
  rw [← HBb.cell (p := ⟨rb, ro + i * 6 + 4, none⟩) hrb] at r4
  rw [← HBb.cell (p := ⟨rb, ro + i * 6 + 5, none⟩) hrb] at r5
  clear HBb e1 e2 e3 e4 e5 h hX hc hRL hw1
  have i0 : (0 : Int) ≤ (i : Int) := by omega
  have i1 : (i : Int) < (n2 : Int) := by omega
  go_enter Try.func83, Try.ntmps83
  go_upto_region 1 with fail
  rw [← HW.out]
  have HI := cell_of_heap HB.out.1 2 (v := .slice (some ⟨rb, ro, none⟩) n2 c2) rfl
  go_upto_region 3 with fail
  have BX : Below w1.heap.size w1 w1.drew := below_drewN _ _ 1
  have lw : w.heap.size < w1.heap.size := by have := HB.out.2.2; omega
  have lr : rb < w1.heap.size := by omega
  go_region_held3 (fun w' => w'.cell? ⟨w.heap.size, 2, none⟩ = some (.slice (some ⟨rb, ro, none⟩) n2 c2) ∧ w'.cell? ⟨rb, ro + i * 6, none⟩ = some (.int .i64 X.cell) ∧ w'.cell? ⟨rb, ro + i * 6 + 1, none⟩ = some (.int .i64 X.load) ∧ w'.cell? ⟨rb, ro + i * 6 + 2, none⟩ = some (.int .i64 X.charge) ∧ w'.cell? ⟨rb, ro + i * 6 + 3, none⟩ = some (.int .i64 X.rest) ∧ w'.cell? ⟨rb, ro + i * 6 + 4, none⟩ = some (.int .i64 X.mute) ∧ w'.cell? ⟨rb, ro + i * 6 + 5, none⟩ = some (.bool X.dead)) (go_keep)
    ((go_at_call 92; refine (HAT.out _).mono ?_; rintro e w5 ⟨v5, rfl, l5, b5⟩; have BX : Below w1.heap.size w1 w5 := BX.trans (b5.mono BX.size); have s0 := (BX.cell (p := ⟨w.heap.size, 2, none⟩) lw).trans HI; have s1 := (BX.cell (p := ⟨rb, ro + i * 6, none⟩) lr).trans r0; have s2 := (BX.cell (p := ⟨rb, ro + i * 6 + 1, none⟩) lr).trans r1; have s3 := (BX.cell (p := ⟨rb, ro + i * 6 + 2, none⟩) lr).trans r2; have s4 := (BX.cell (p := ⟨rb, ro + i * 6 + 3, none⟩) lr).trans r3; have s5 := (BX.cell (p := ⟨rb, ro + i * 6 + 4, none⟩) lr).trans r4; have s6 := (BX.cell (p := ⟨rb, ro + i * 6 + 5, none⟩) lr).trans r5; clear b5))
  all_goals go_wp2_with fail
  all_goals
    go_ret
    exact ⟨_, rfl, l5, HB.out.2.1.trans (BX.mono (by omega))⟩
end Go.Proofs.Ytcdfmgobokjcnaa
