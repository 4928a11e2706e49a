/- Walks of package body: Person, Carrier, Shelf. -/
import Derived.Test.YtcdfmgobokjcnaaFf
namespace Go.Proofs.Ytcdfmgobokjcnaa
set_option linter.unusedSimpArgs false
set_option linter.unusedVariables false
open Go.RowKit

set_option maxRecDepth 100000 in
set_option maxHeartbeats 8000000 in
theorem Person_any (s : Bd.State) (sv rv pv dv kv : Value) (i : Nat) (w : World) (h : StV w sv rv pv dv kv s) (hi : i < s.people.length) (hc : SmC s.people[i]) :
    Calls Try.prog 85 #[stV s sv rv pv dv kv, .int .i64 (i : Int)] w (LsPost (Bd.personL s.people[i]) w) := by
  obtain ⟨a1, c1, a2, c2, a3, c3, a4, c4, a5, c5, rfl, rfl, rfl, rfl, rfl, m1, m2, m3, m4, m5⟩ := h.open
  obtain ⟨rb, ro, rfl, r0⟩ := h.pe.cell i hi
  have hrb := cell_block_lt r0
  dsimp only at hrb
  obtain ⟨X, hX⟩ : ∃ X, s.people[i] = X := ⟨_, rfl⟩
  rw [hX] at r0 hc ⊢
  have HLo := Lib.hid (fun W => Low_any X W hc)
  have HHi := Lib.hid (fun W => High_any X W hc)
  unfold Bd.personL
  unfold stV LsPost at *
  obtain ⟨n1, e1⟩ : ∃ n, s.shelves.length = n := ⟨_, rfl⟩
  obtain ⟨n2, e2⟩ : ∃ n, s.robots.length = n := ⟨_, rfl⟩
  obtain ⟨n3, e3⟩ : ∃ n, s.people.length = n := ⟨_, rfl⟩
  obtain ⟨n4, e4⟩ : ∃ n, s.dead.length = n := ⟨_, rfl⟩
  obtain ⟨n5, e5⟩ : ∃ n, s.stuck.length = n := ⟨_, rfl⟩
  rw [e3] at hi m3
  rw [e1, e2, e3, e4, e5]
  obtain ⟨w1, hw1⟩ : ∃ W, W = w.alloc (.cells #[.int .i64 s.tick, .slice a1 n1 c1, .slice a2 n2 c2, .slice (some ⟨rb, ro, none⟩) n3 c3, .slice a4 n4 c4, .slice a5 n5 c5] 47) := ⟨_, rfl⟩
  have HB := Lib.hid (al1 w (.cells #[.int .i64 s.tick, .slice a1 n1 c1, .slice a2 n2 c2, .slice (some ⟨rb, ro, none⟩) n3 c3, .slice a4 n4 c4, .slice a5 n5 c5] 47))
  rw [← hw1] at HB
  have HW := Lib.hid hw1
  have HBb := HB.out.2.1
  rw [← HBb.cell (p := ⟨rb, ro + i, none⟩) hrb] at r0
  clear HBb e1 e2 e3 e4 e5 h hX hc hw1
  have i0 : (0 : Int) ≤ (i : Int) := by omega
  have i1 : (i : Int) < (n3 : Int) := by omega
  have lw : w.heap.size < w1.heap.size := by have := HB.out.2.2; omega
  have lr : rb < w1.heap.size := by omega
  go_enter Try.func85, Try.ntmps85
  go_upto_region 1 with fail
  rw [← HW.out]
  have HI := cell_of_heap HB.out.1 3 (v := .slice (some ⟨rb, ro, none⟩) n3 c3) rfl
  go_upto_region 3 with fail
  have BX : Below w1.heap.size w1 w1.drew := below_drewN _ _ 1
  go_region_held3 (fun w' => w'.cell? ⟨w.heap.size, 3, none⟩ = some (.slice (some ⟨rb, ro, none⟩) n3 c3) ∧ w'.cell? ⟨rb, ro + i, none⟩ = some (.int .i64 X)) (go_keep)
    (first | ((go_at_call 49; with_reducible refine (HLo.out _).mono ?_; rintro e w6 ⟨rfl, rfl⟩)) | ((go_at_call 50; with_reducible refine (HHi.out _).mono ?_; rintro e w6 ⟨rfl, rfl⟩)))
  all_goals go_wp2_with fail
  all_goals
    go_ret
    exact ⟨_, rfl, is_new2 (al1 _ _).1, HB.out.2.1.trans ((BX.trans ((al1 _ _).2.1.mono BX.size)).mono (by omega))⟩
/-! ### Who carries a shelf -/
set_option maxRecDepth 100000 in
set_option maxHeartbeats 8000000 in
theorem loads_any (r : Bd.Robot) (pb po : Nat) (c : Int) (w : World) (hp : w.cell? ⟨pb, po, none⟩ = some (.int .i64 c)) :
    Calls Try.prog 95 #[.agg (robA r), .pointer (some ⟨pb, po, none⟩)] w fun e w' => e = .returned (.bool (r.load == c)) ∧ Below w.heap.size w w' := by
  have hlt := cell_block_lt hp
  dsimp only at hlt
  obtain ⟨L, hL⟩ : ∃ L, r.load = L := ⟨_, rfl⟩
  unfold robA
  rw [hL]
  have HB := Lib.hid (al1 w (.cells #[.int .i64 r.cell, .int .i64 L, .int .i64 r.charge, .int .i64 r.rest, .int .i64 r.mute, .bool r.dead] 62))
  clear hL
  go_enter Try.func95, Try.ntmps95
  go_wp2_with fail
  go_ret
  exact ⟨rfl, HB.out.2.1⟩
theorem any_dropR {α : Type} {p : α → Bool} {l : List α} {k : Nat} (hk : k < l.length) : (l.drop k).any p = (p l[k] || (l.drop (k + 1)).any p) := by
  rw [List.drop_eq_getElem_cons hk, List.any_cons]
set_option maxRecDepth 100000 in
set_option maxHeartbeats 8000000 in
theorem indexR_any (v : Value) (l : List Bd.Robot) (pb po : Nat) (c : Int) (w : World) (h : RoV w v l) (hp : w.cell? ⟨pb, po, none⟩ = some (.int .i64 c)) :
    Calls Try.prog 94 #[v, .func (.func 95) #[] #[.pointer (some ⟨pb, po, none⟩)]] w fun e w' => (∃ r : Int, e = .returned (.int .i64 r) ∧ -1 ≤ r ∧ r < 9223372036854775807 ∧ decide (0 ≤ r) = l.any fun x => x.load == c) ∧ Below w.heap.size w w' := by
  obtain ⟨a, cap, rfl, hm⟩ := h.form
  have hpb : pb < w.heap.size := cell_block_lt hp
  have H := Lib.hid h
  have HP := Lib.hid hp
  obtain ⟨R, hR⟩ : ∃ R, (l.any fun x => x.load == c) = R := ⟨_, rfl⟩
  have HR : Hid (((l.drop 0).any fun x => x.load == c) = R) := Lib.hid hR
  rw [hR]
  obtain ⟨n, hn⟩ : ∃ n, l.length = n := ⟨_, rfl⟩
  rw [hn] at hm H ⊢
  have HN := Lib.hid hn
  clear h hp hR hn
  go_enter Try.func94, Try.ntmps94
  go_wp2_with fail
  go_loopw [8] (fun iv wr => ∃ (k : Nat), k ≤ n ∧ iv = .int .i64 k ∧ Hid (((l.drop k).any fun x => x.load == c) = R) ∧ Hid (Below w.heap.size w wr)) (fun iv _ => n - (intOf iv).toNat)
  case atStart => exact ⟨0, by omega, rfl, HR, Lib.hid (Below.refl _ w)⟩
  case round =>
    obtain ⟨k, hk, rfl, HK, HU⟩ := hrel
    by_cases hkn : k < n
    · have hkl : k < l.length := by rw [HN.out]; exact hkn
      obtain ⟨b, off, e1, hbl, c0, c1, c2, c3, c4, c5⟩ := H.out.cell k hkl
      subst e1
      have hd := any_dropR (p := fun x : Bd.Robot => x.load == c) hkl
      rw [HK.out] at hd
      obtain ⟨x, hx⟩ : ∃ x, l[k] = x := ⟨_, rfl⟩
      rw [hx] at c0 c1 c2 c3 c4 c5 hd
      have HU2 := HU.out
      rw [← HU2.cell (p := ⟨b, off + k * 6, none⟩) hbl] at c0
      rw [← HU2.cell (p := ⟨b, off + k * 6 + 1, none⟩) hbl] at c1
      rw [← HU2.cell (p := ⟨b, off + k * 6 + 2, none⟩) hbl] at c2
      rw [← HU2.cell (p := ⟨b, off + k * 6 + 3, none⟩) hbl] at c3
      rw [← HU2.cell (p := ⟨b, off + k * 6 + 4, none⟩) hbl] at c4
      rw [← HU2.cell (p := ⟨b, off + k * 6 + 5, none⟩) hbl] at c5
      have hpr : wr.cell? ⟨pb, po, none⟩ = some (.int .i64 c) := by rw [HU2.cell (p := ⟨pb, po, none⟩) hpb]; exact HP.out
      have HC := Lib.hid (loads_any x pb po c wr hpr)
      obtain ⟨z, hz⟩ : ∃ z, (x.load == c) = z := ⟨_, rfl⟩
      rw [hz] at HC hd
      have HD := Lib.hid hd
      have k1 : (k : Int) < (n : Int) := by omega
      have k0 : (0 : Int) ≤ (k : Int) := by omega
      clear hd hz hx hpr HU2
      unfold robA at HC
      cases z
      · go_wp2_with fail
        go_at_call 95; refine HC.out.mono ?_; rintro e w3 ⟨rfl, hu3⟩
        have HU3 := Lib.hid (HU.out.trans (hu3.mono HU.out.size))
        clear hu3
        go_wp2_with fail
        go_roundw
        case rel => exact ⟨k + 1, by omega, by go_num, Lib.hid (by have := HD.out; rw [Bool.false_or] at this; exact this.symm), HU3⟩
        case measure => simp [intOf]; omega
      · go_wp2_with fail
        go_at_call 95; refine HC.out.mono ?_; rintro e w3 ⟨rfl, hu3⟩
        have HU3 := Lib.hid (HU.out.trans (hu3.mono HU.out.size))
        clear hu3
        go_wp2_with fail
        go_ret
        exact ⟨⟨(k : Int), rfl, by omega, by omega, by rw [HD.out, Bool.true_or]; simp⟩, HU3.out⟩
    · have HF : Hid (false = R) := Lib.hid (by
        rw [← HK.out, List.drop_eq_nil_of_le (by rw [HN.out]; omega)]; rfl)
      go_wp2_with fail
      go_ret
      exact ⟨⟨-1, rfl, by omega, by omega, by rw [← HF.out]; rfl⟩, HU.out⟩
/-- A number that is not negative exactly if a shelf is carried. -/
def CarPost (z : Bool) (w : World) (e : Ending) (w' : World) : Prop := (∃ r : Int, e = .returned (.int .i64 r) ∧ -1 ≤ r ∧ r < 9223372036854775807 ∧ decide (0 ≤ r) = z) ∧ Below w.heap.size w w'
set_option maxRecDepth 100000 in
set_option maxHeartbeats 8000000 in
theorem Carrier_any (s : Bd.State) (sv rv pv dv kv : Value) (i : Nat) (w : World) (h : StV w sv rv pv dv kv s) :
    Calls Try.prog 93 #[stV s sv rv pv dv kv, .int .i64 (i : Int)] w (CarPost (Bd.carried s i) w) := by
  obtain ⟨a1, c1, a2, c2, a3, c3, a4, c4, a5, c5, rfl, rfl, rfl, rfl, rfl, m1, m2, m3, m4, m5⟩ := h.open
  have HR := Lib.hid h.ro
  unfold stV
  obtain ⟨n1, e1⟩ : ∃ n, s.shelves.length = n := ⟨_, rfl⟩
  obtain ⟨n2, e2⟩ : ∃ n, s.robots.length = n := ⟨_, rfl⟩
  obtain ⟨n3, e3⟩ : ∃ n, s.people.length = n := ⟨_, rfl⟩
  obtain ⟨n4, e4⟩ : ∃ n, s.dead.length = n := ⟨_, rfl⟩
  obtain ⟨n5, e5⟩ : ∃ n, s.stuck.length = n := ⟨_, rfl⟩
  rw [e1, e2, e3, e4, e5]
  rw [e2] at HR
  have HB := Lib.hid (al2 w (.cells #[.int .i64 s.tick, .slice a1 n1 c1, .slice a2 n2 c2, .slice a3 n3 c3, .slice a4 n4 c4, .slice a5 n5 c5] 47) (.cells #[.int .i64 (i : Int)] 3))
  have HI := Lib.hid (fun W (hw : Below w.heap.size w W) hp => indexR_any (.slice a2 n2 c2) s.robots (w.heap.size + 1) 0 (i : Int) W (HR.out.keep hw) hp)
  have HC : Hid (Bd.carried s i = s.robots.any fun x => x.load == (i : Int)) := Lib.hid rfl
  obtain ⟨R, hR⟩ : ∃ R, Bd.carried s i = R := ⟨_, rfl⟩
  rw [hR] at HC ⊢
  clear e1 e2 e3 e4 e5 h m1 m2 m3 m4 m5 hR
  unfold CarPost
  go_enter Try.func93, Try.ntmps93
  go_wp2_with fail
  go_at_call 94; refine (HI.out _ HB.out.2.2.1 (cell_of_heap HB.out.2.1 0 rfl)).mono ?_; rintro e w3 ⟨⟨r, rfl, hr1, hr2, hr3⟩, hu⟩
  have H3 := Lib.hid hr3
  have HB3 := Lib.hid (HB.out.2.2.1.trans (hu.mono HB.out.2.2.1.size))
  clear hr3 hu
  go_wp2_with fail
  go_ret
  exact ⟨⟨r, rfl, hr1, hr2, by rw [H3.out]; exact HC.out.symm⟩, HB3.out⟩
end Go.Proofs.Ytcdfmgobokjcnaa
