/- Walks of package body: Shelf, all. -/
import Derived.Test.YtcdfmgobokjcnaaFg
namespace Go.Proofs.Ytcdfmgobokjcnaa
set_option linter.unusedSimpArgs false
set_option linter.unusedVariables false
open Go.RowKit

set_option maxRecDepth 100000 in
set_option maxHeartbeats 8000000 in
theorem Shelf_any (s : Bd.State) (sv rv pv dv kv : Value) (i : Nat) (w : World) (h : StV w sv rv pv dv kv s) (hi : i < s.shelves.length) (hc : SmC s.shelves[i]) :
    Calls Try.prog 84 #[stV s sv rv pv dv kv, .int .i64 (i : Int)] w (LsPost (Bd.shelfL s i) w) := by
  obtain ⟨a1, c1, a2, c2, a3, c3, a4, c4, a5, c5, rfl, rfl, rfl, rfl, rfl, m1, m2, m3, m4, m5⟩ := h.open
  obtain ⟨rb, ro, rfl, r0⟩ := h.sh.cell i hi
  have hrb := cell_block_lt r0
  dsimp only at hrb
  have HSL : Hid (Bd.shelfL s i = if Bd.carried s i = true then [] else [2 * s.shelves[i] + 1]) := Lib.hid (by unfold Bd.shelfL; rw [getD_lt2 _ _ _ hi])
  have HCA := Lib.hid (fun W (hW : Below w.heap.size w W) => Carrier_any s _ _ _ _ _ i W (h.keep hW))
  obtain ⟨X, hX⟩ : ∃ X, s.shelves[i] = X := ⟨_, rfl⟩
  rw [hX] at r0 hc HSL
  have HHi := Lib.hid (fun W => High_any X W hc)
  obtain ⟨RL, hRL⟩ : ∃ R, Bd.shelfL s i = R := ⟨_, rfl⟩
  obtain ⟨z, hz⟩ : ∃ R, Bd.carried s i = R := ⟨_, rfl⟩
  rw [hRL, hz] at HSL
  rw [hz] at HCA
  rw [hRL]
  unfold CarPost at HCA
  unfold stV LsPost at *
  obtain ⟨n1, e1⟩ : ∃ n, s.shelves.length = n := ⟨_, rfl⟩
  obtain ⟨n2, e2⟩ : ∃ n, s.robots.length = n := ⟨_, rfl⟩
  obtain ⟨n3, e3⟩ : ∃ n, s.people.length = n := ⟨_, rfl⟩
  obtain ⟨n4, e4⟩ : ∃ n, s.dead.length = n := ⟨_, rfl⟩
  obtain ⟨n5, e5⟩ : ∃ n, s.stuck.length = n := ⟨_, rfl⟩
  rw [e1] at hi m1
  rw [e1, e2, e3, e4, e5] at HCA
  rw [e1, e2, e3, e4, e5]
  have HB := Lib.hid (al1 w (.cells #[.int .i64 s.tick, .slice (some ⟨rb, ro, none⟩) n1 c1, .slice a2 n2 c2, .slice a3 n3 c3, .slice a4 n4 c4, .slice a5 n5 c5] 47))
  clear e1 e2 e3 e4 e5 h hX hc hRL hz
  have i0 : (0 : Int) ≤ (i : Int) := by omega
  have i1 : (i : Int) < (n1 : Int) := by omega
  go_enter Try.func84, Try.ntmps84
  go_wp2_with fail
  go_at_call 93; refine (HCA.out _ HB.out.2.1).mono ?_; rintro e w2 ⟨⟨r, rfl, hr1, hr2, hr3⟩, b2⟩
  have B2 := Lib.hid (HB.out.2.1.trans (b2.mono HB.out.2.1.size))
  have I2 := Lib.hid (keep_heap HB.out.1 b2)
  have rr : w2.cell? ⟨rb, ro + i, none⟩ = some (.int .i64 X) := (B2.out.cell (p := ⟨rb, ro + i, none⟩) hrb).trans r0
  have HI := cell_of_heap I2.out 1 (v := .slice (some ⟨rb, ro, none⟩) n1 c1) rfl
  clear b2 r0 hrb
  cases z with
  | true =>
    go_wp2_with fail
    go_ret
    exact ⟨_, rfl, by rw [HSL.out]; exact Sl.nil _, B2.out⟩
  | false =>
    have hr4 := of_decide_eq_false hr3
    go_wp2_with fail
    go_at_call 50; refine (HHi.out _).mono ?_; rintro e w6 ⟨rfl, rfl⟩
    go_wp2_with fail
    go_ret
    exact ⟨_, rfl, by rw [HSL.out]; exact is_new1 (al1 _ _).1, B2.out.trans ((al1 _ _).2.1.mono B2.out.size)⟩
end Go.Proofs.Ytcdfmgobokjcnaa
