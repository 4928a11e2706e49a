/- Parts Fj, Fg, Fh, Fi of this claim, laid one behind the other: walks and the plain laws behind them; each contract states its own conditions. -/
import Derived.Test.YtcdfmgobokjcnaaGreatDoorZC
import Derived.Test.YtcdfmgobokjcnaaGreatDoorShelf
/- Walks of package arena: kind, live; slices.Contains. -/
namespace Go.Proofs.YtcdfmgobokjcnaaGreatDoor
set_option linter.unusedSimpArgs false
set_option linter.unusedVariables false
open Go.RowKit

theorem containsI_any (v : Value) (l : List Int) (x : Int) (w : World) (h : Is w v l) :
    Calls Tryz.prog 38 #[v, .int .i64 x] w fun e w' => e = .returned (.bool (l.contains x)) ∧ w' = w := by
  by_cases h0 : l.length = 0
  · obtain ⟨a, cap, rfl, hm⟩ := h.form
    obtain rfl := List.eq_nil_of_length_eq_zero h0
    exact Tryz.slices_Contains_int_empty a cap x w
  · obtain ⟨a, cap, rfl, hm⟩ := h.form
    obtain ⟨b, off, rfl, -⟩ := h.cell 0 (by omega)
    have := Tryz.slices_Contains_int b off l.length cap l x w (Nat.le_refl _) hm (fun j hj => by
      obtain ⟨b2, off2, e, hc⟩ := h.cell j hj
      injection e with e; injection e with e1 e2; subst e1 e2
      rw [hc]; simp [List.getD, hj])
    rwa [List.take_length] at this
set_option maxRecDepth 100000 in
set_option maxHeartbeats 4000000 in
theorem kindA_any (f : Fl.Floor) (kv ov : Value) (c : Int) (w : World) (h : FlV w kv ov f) :
    Calls Tryz.prog 94 #[flV f kv ov, .int .i64 c] w fun e w' => e = .returned (.int .i64 (Fa.kindF f c)) ∧ Below w.heap.size w w' := by
  obtain ⟨ka, kc, rfl, hkm⟩ := h.kind.form
  have H := Lib.hid h
  obtain ⟨L, hL⟩ : ∃ L, f.kind.length = L := ⟨_, rfl⟩
  have HK : Hid (Fa.kindF f c = if 0 ≤ c ∧ c < (L : Int) then f.kind.getD c.toNat 0 else 0) := Lib.hid (by unfold Fa.kindF; rw [hL])
  unfold flV
  rw [hL] at H hkm ⊢
  have HL := Lib.hid hL
  have B1 := Lib.hid ((Below.refl _ w).alloc (Nat.le_refl _) (.cells #[.int .i64 f.w, .int .i64 f.h, .int .i64 f.d, .slice ka L kc, ov] 24))
  clear h hL
  by_cases h0 : 0 ≤ c
  · by_cases h1 : c < (L : Int)
    · obtain ⟨n, rfl⟩ := Int.eq_ofNat_of_zero_le h0
      have hn : n < f.kind.length := by rw [HL.out]; omega
      obtain ⟨kb, ko, rfl, r0⟩ := H.out.kind.cell n hn
      have hkb := cell_block_lt r0
      dsimp only at hkb
      have HK2 : Hid (Fa.kindF f (n : Int) = f.kind[n]) := Lib.hid (by rw [HK.out, if_pos ⟨h0, h1⟩]; simp [List.getD, hn])
      obtain ⟨X, hX⟩ : ∃ X, f.kind[n] = X := ⟨_, rfl⟩
      rw [hX] at r0 HK2
      rw [← B1.out.cell (p := ⟨kb, ko + n, none⟩) hkb] at r0
      clear hX hn HK
      go_enter Tryz.func94, Tryz.ntmps94
      go_wp2_with fail
      go_ret
      exact ⟨by rw [HK2.out]; rfl, B1.out⟩
    · have HK2 : Hid (Fa.kindF f c = 0) := Lib.hid (by rw [HK.out, if_neg (by omega)])
      go_enter Tryz.func94, Tryz.ntmps94
      go_wp2_with fail
      go_ret
      exact ⟨by rw [HK2.out]; rfl, B1.out⟩
  · have HK2 : Hid (Fa.kindF f c = 0) := Lib.hid (by rw [HK.out, if_neg (by omega)])
    go_enter Tryz.func94, Tryz.ntmps94
    go_wp2_with fail
    go_ret
    exact ⟨by rw [HK2.out]; rfl, B1.out⟩
set_option maxRecDepth 100000 in
set_option maxHeartbeats 4000000 in
theorem live_any (s : Bd.State) (sv rv pv dv kv : Value) (i : Int) (w : World) (h : StV w sv rv pv dv kv s) :
    Calls Tryz.prog 93 #[stV s sv rv pv dv kv, .int .i64 i] w fun e w' => e = .returned (.bool (Fa.live s i)) ∧ Below w.heap.size w w' := by
  obtain ⟨ra, rc, rfl, hrm⟩ := h.ro.form
  have H := Lib.hid h
  obtain ⟨L, hL⟩ : ∃ L, s.robots.length = L := ⟨_, rfl⟩
  have HK : Hid (Fa.live s i = (decide (0 ≤ i) && (decide (i < (L : Int)) && !Fa.deadAt s i.toNat))) := Lib.hid (by unfold Fa.live; rw [hL])
  unfold stV
  rw [hL] at H hrm ⊢
  have HL := Lib.hid hL
  have B1 := Lib.hid ((Below.refl _ w).alloc (Nat.le_refl _) (.cells #[.int .i64 s.tick, sv, .slice ra L rc, pv, dv, kv] 34))
  clear h hL
  by_cases h0 : 0 ≤ i
  · by_cases h1 : i < (L : Int)
    · obtain ⟨n, rfl⟩ := Int.eq_ofNat_of_zero_le h0
      have hn : n < s.robots.length := by rw [HL.out]; omega
      obtain ⟨kb, ko, rfl, hkb, r0, r1, r2, r3, r4, r5⟩ := H.out.ro.cell n hn
      have HK2 : Hid (Fa.live s (n : Int) = !s.robots[n].dead) := Lib.hid (by
        rw [HK.out, decide_eq_true h0, decide_eq_true h1]
        unfold Fa.deadAt
        rw [Int.toNat_natCast, List.getElem?_eq_getElem hn]; rfl)
      obtain ⟨X, hX⟩ : ∃ X, s.robots[n].dead = X := ⟨_, rfl⟩
      rw [hX] at r5 HK2
      rw [← B1.out.cell (p := ⟨kb, ko + n * 6 + 5, none⟩) hkb] at r5
      clear hX hn HK r0 r1 r2 r3 r4
      go_enter Tryz.func93, Tryz.ntmps93
      go_wp2_with fail
      go_ret
      exact ⟨by rw [HK2.out]; rfl, B1.out⟩
    · have HK2 : Hid (Fa.live s i = false) := Lib.hid (by rw [HK.out, decide_eq_false h1]; simp)
      go_enter Tryz.func93, Tryz.ntmps93
      go_wp2_with fail
      go_ret
      exact ⟨by rw [HK2.out]; rfl, B1.out⟩
  · have HK2 : Hid (Fa.live s i = false) := Lib.hid (by rw [HK.out, decide_eq_false h0]; rfl)
    go_enter Tryz.func93, Tryz.ntmps93
    go_wp2_with fail
    go_ret
    exact ⟨by rw [HK2.out]; rfl, B1.out⟩
end Go.Proofs.YtcdfmgobokjcnaaGreatDoor
/- Walks of package body: Person, Carrier, Shelf. -/
namespace Go.Proofs.YtcdfmgobokjcnaaGreatDoor
set_option linter.unusedSimpArgs false
set_option linter.unusedVariables false
open Go.RowKit

set_option maxRecDepth 100000 in
set_option maxHeartbeats 8000000 in
theorem Person_any (s : Bd.State) (sv rv pv dv kv : Value) (i : Nat) (w : World) (h : StV w sv rv pv dv kv s) (hi : i < s.people.length) (hc : SmC s.people[i]) :
    Calls Tryz.prog 122 #[stV s sv rv pv dv kv, .int .i64 (i : Int)] w (LsPost (Bd.personL s.people[i]) w) := by
  obtain ⟨a1, c1, a2, c2, a3, c3, a4, c4, a5, c5, rfl, rfl, rfl, rfl, rfl, m1, m2, m3, m4, m5⟩ := h.open
  obtain ⟨rb, ro, rfl, r0⟩ := h.pe.cell i hi
  have hrb := cell_block_lt r0
  dsimp only at hrb
  obtain ⟨X, hX⟩ : ∃ X, s.people[i] = X := ⟨_, rfl⟩
  rw [hX] at r0 hc ⊢
  have HLo := Lib.hid (fun W => Low_any X W hc)
  have HHi := Lib.hid (fun W => High_any X W hc)
  unfold Bd.personL
  unfold stV LsPost at *
  obtain ⟨n1, e1⟩ : ∃ n, s.shelves.length = n := ⟨_, rfl⟩
  obtain ⟨n2, e2⟩ : ∃ n, s.robots.length = n := ⟨_, rfl⟩
  obtain ⟨n3, e3⟩ : ∃ n, s.people.length = n := ⟨_, rfl⟩
  obtain ⟨n4, e4⟩ : ∃ n, s.dead.length = n := ⟨_, rfl⟩
  obtain ⟨n5, e5⟩ : ∃ n, s.stuck.length = n := ⟨_, rfl⟩
  rw [e3] at hi m3
  rw [e1, e2, e3, e4, e5]
  obtain ⟨w1, hw1⟩ : ∃ W, W = w.alloc (.cells #[.int .i64 s.tick, .slice a1 n1 c1, .slice a2 n2 c2, .slice (some ⟨rb, ro, none⟩) n3 c3, .slice a4 n4 c4, .slice a5 n5 c5] 34) := ⟨_, rfl⟩
  have HB := Lib.hid (al1 w (.cells #[.int .i64 s.tick, .slice a1 n1 c1, .slice a2 n2 c2, .slice (some ⟨rb, ro, none⟩) n3 c3, .slice a4 n4 c4, .slice a5 n5 c5] 34))
  rw [← hw1] at HB
  have HW := Lib.hid hw1
  have HBb := HB.out.2.1
  rw [← HBb.cell (p := ⟨rb, ro + i, none⟩) hrb] at r0
  clear HBb e1 e2 e3 e4 e5 h hX hc hw1
  have i0 : (0 : Int) ≤ (i : Int) := by omega
  have i1 : (i : Int) < (n3 : Int) := by omega
  have lw : w.heap.size < w1.heap.size := by have := HB.out.2.2; omega
  have lr : rb < w1.heap.size := by omega
  go_enter Tryz.func122, Tryz.ntmps122
  go_upto_region 1 with fail
  rw [← HW.out]
  have HI := cell_of_heap HB.out.1 3 (v := .slice (some ⟨rb, ro, none⟩) n3 c3) rfl
  go_upto_region 3 with fail
  have BX : Below w1.heap.size w1 w1.drew := below_drewN _ _ 1
  go_region_held3 (fun w' => w'.cell? ⟨w.heap.size, 3, none⟩ = some (.slice (some ⟨rb, ro, none⟩) n3 c3) ∧ w'.cell? ⟨rb, ro + i, none⟩ = some (.int .i64 X)) (go_keep)
    (first | ((go_at_call 126; with_reducible refine (HLo.out _).mono ?_; rintro e w6 ⟨rfl, rfl⟩)) | ((go_at_call 127; with_reducible refine (HHi.out _).mono ?_; rintro e w6 ⟨rfl, rfl⟩)))
  all_goals go_wp2_with fail
  all_goals
    go_ret
    exact ⟨_, rfl, is_new2 (al1 _ _).1, HB.out.2.1.trans ((BX.trans ((al1 _ _).2.1.mono BX.size)).mono (by omega))⟩
/-! ### Who carries a shelf -/
set_option maxRecDepth 100000 in
set_option maxHeartbeats 8000000 in
theorem loads_any (r : Bd.Robot) (pb po : Nat) (c : Int) (w : World) (hp : w.cell? ⟨pb, po, none⟩ = some (.int .i64 c)) :
    Calls Tryz.prog 119 #[.agg (robA r), .pointer (some ⟨pb, po, none⟩)] w fun e w' => e = .returned (.bool (r.load == c)) ∧ Below w.heap.size w w' := by
  have hlt := cell_block_lt hp
  dsimp only at hlt
  obtain ⟨L, hL⟩ : ∃ L, r.load = L := ⟨_, rfl⟩
  unfold robA
  rw [hL]
  have HB := Lib.hid (al1 w (.cells #[.int .i64 r.cell, .int .i64 L, .int .i64 r.charge, .int .i64 r.rest, .int .i64 r.mute, .bool r.dead] 72))
  clear hL
  go_enter Tryz.func119, Tryz.ntmps119
  go_wp2_with fail
  go_ret
  exact ⟨rfl, HB.out.2.1⟩
theorem any_dropR {α : Type} {p : α → Bool} {l : List α} {k : Nat} (hk : k < l.length) : (l.drop k).any p = (p l[k] || (l.drop (k + 1)).any p) := by
  rw [List.drop_eq_getElem_cons hk, List.any_cons]
set_option maxRecDepth 100000 in
set_option maxHeartbeats 8000000 in
theorem indexR_any (v : Value) (l : List Bd.Robot) (pb po : Nat) (c : Int) (w : World) (h : RoV w v l) (hp : w.cell? ⟨pb, po, none⟩ = some (.int .i64 c)) :
    Calls Tryz.prog 118 #[v, .func (.func 119) #[] #[.pointer (some ⟨pb, po, none⟩)]] w fun e w' => (∃ r : Int, e = .returned (.int .i64 r) ∧ -1 ≤ r ∧ r < 9223372036854775807 ∧ decide (0 ≤ r) = l.any fun x => x.load == c) ∧ Below w.heap.size w w' := by
  obtain ⟨a, cap, rfl, hm⟩ := h.form
  have hpb : pb < w.heap.size := cell_block_lt hp
  have H := Lib.hid h
  have HP := Lib.hid hp
  obtain ⟨R, hR⟩ : ∃ R, (l.any fun x => x.load == c) = R := ⟨_, rfl⟩
  have HR : Hid (((l.drop 0).any fun x => x.load == c) = R) := Lib.hid hR
  rw [hR]
  obtain ⟨n, hn⟩ : ∃ n, l.length = n := ⟨_, rfl⟩
  rw [hn] at hm H ⊢
  have HN := Lib.hid hn
  clear h hp hR hn
  go_enter Tryz.func118, Tryz.ntmps118
  go_wp2_with fail
  go_loopw [8] (fun iv wr => ∃ (k : Nat), k ≤ n ∧ iv = .int .i64 k ∧ Hid (((l.drop k).any fun x => x.load == c) = R) ∧ Hid (Below w.heap.size w wr)) (fun iv _ => n - (intOf iv).toNat)
  case atStart => exact ⟨0, by omega, rfl, HR, Lib.hid (Below.refl _ w)⟩
  case round =>
    obtain ⟨k, hk, rfl, HK, HU⟩ := hrel
    by_cases hkn : k < n
    · have hkl : k < l.length := by rw [HN.out]; exact hkn
      obtain ⟨b, off, e1, hbl, c0, c1, c2, c3, c4, c5⟩ := H.out.cell k hkl
      subst e1
      have hd := any_dropR (p := fun x : Bd.Robot => x.load == c) hkl
      rw [HK.out] at hd
      obtain ⟨x, hx⟩ : ∃ x, l[k] = x := ⟨_, rfl⟩
      rw [hx] at c0 c1 c2 c3 c4 c5 hd
      have HU2 := HU.out
      rw [← HU2.cell (p := ⟨b, off + k * 6, none⟩) hbl] at c0
      rw [← HU2.cell (p := ⟨b, off + k * 6 + 1, none⟩) hbl] at c1
      rw [← HU2.cell (p := ⟨b, off + k * 6 + 2, none⟩) hbl] at c2
      rw [← HU2.cell (p := ⟨b, off + k * 6 + 3, none⟩) hbl] at c3
      rw [← HU2.cell (p := ⟨b, off + k * 6 + 4, none⟩) hbl] at c4
      rw [← HU2.cell (p := ⟨b, off + k * 6 + 5, none⟩) hbl] at c5
      have hpr : wr.cell? ⟨pb, po, none⟩ = some (.int .i64 c) := by rw [HU2.cell (p := ⟨pb, po, none⟩) hpb]; exact HP.out
      have HC := Lib.hid (loads_any x pb po c wr hpr)
      obtain ⟨z, hz⟩ : ∃ z, (x.load == c) = z := ⟨_, rfl⟩
      rw [hz] at HC hd
      have HD := Lib.hid hd
      have k1 : (k : Int) < (n : Int) := by omega
      have k0 : (0 : Int) ≤ (k : Int) := by omega
      clear hd hz hx hpr HU2
      unfold robA at HC
      cases z
      · go_wp2_with fail
        go_at_call 119; refine HC.out.mono ?_; rintro e w3 ⟨rfl, hu3⟩
        have HU3 := Lib.hid (HU.out.trans (hu3.mono HU.out.size))
        clear hu3
        go_wp2_with fail
        go_roundw
        case rel => exact ⟨k + 1, by omega, by go_num, Lib.hid (by have := HD.out; rw [Bool.false_or] at this; exact this.symm), HU3⟩
        case measure => simp [intOf]; omega
      · go_wp2_with fail
        go_at_call 119; refine HC.out.mono ?_; rintro e w3 ⟨rfl, hu3⟩
        have HU3 := Lib.hid (HU.out.trans (hu3.mono HU.out.size))
        clear hu3
        go_wp2_with fail
        go_ret
        exact ⟨⟨(k : Int), rfl, by omega, by omega, by rw [HD.out, Bool.true_or]; simp⟩, HU3.out⟩
    · have HF : Hid (false = R) := Lib.hid (by
        rw [← HK.out, List.drop_eq_nil_of_le (by rw [HN.out]; omega)]; rfl)
      go_wp2_with fail
      go_ret
      exact ⟨⟨-1, rfl, by omega, by omega, by rw [← HF.out]; rfl⟩, HU.out⟩
/-- A number that is not negative exactly if a shelf is carried. -/
def CarPost (z : Bool) (w : World) (e : Ending) (w' : World) : Prop := (∃ r : Int, e = .returned (.int .i64 r) ∧ -1 ≤ r ∧ r < 9223372036854775807 ∧ decide (0 ≤ r) = z) ∧ Below w.heap.size w w'
set_option maxRecDepth 100000 in
set_option maxHeartbeats 8000000 in
theorem Carrier_any (s : Bd.State) (sv rv pv dv kv : Value) (i : Nat) (w : World) (h : StV w sv rv pv dv kv s) :
    Calls Tryz.prog 85 #[stV s sv rv pv dv kv, .int .i64 (i : Int)] w (CarPost (Bd.carried s i) w) := by
  obtain ⟨a1, c1, a2, c2, a3, c3, a4, c4, a5, c5, rfl, rfl, rfl, rfl, rfl, m1, m2, m3, m4, m5⟩ := h.open
  have HR := Lib.hid h.ro
  unfold stV
  obtain ⟨n1, e1⟩ : ∃ n, s.shelves.length = n := ⟨_, rfl⟩
  obtain ⟨n2, e2⟩ : ∃ n, s.robots.length = n := ⟨_, rfl⟩
  obtain ⟨n3, e3⟩ : ∃ n, s.people.length = n := ⟨_, rfl⟩
  obtain ⟨n4, e4⟩ : ∃ n, s.dead.length = n := ⟨_, rfl⟩
  obtain ⟨n5, e5⟩ : ∃ n, s.stuck.length = n := ⟨_, rfl⟩
  rw [e1, e2, e3, e4, e5]
  rw [e2] at HR
  have HB := Lib.hid (al2 w (.cells #[.int .i64 s.tick, .slice a1 n1 c1, .slice a2 n2 c2, .slice a3 n3 c3, .slice a4 n4 c4, .slice a5 n5 c5] 34) (.cells #[.int .i64 (i : Int)] 3))
  have HI := Lib.hid (fun W (hw : Below w.heap.size w W) hp => indexR_any (.slice a2 n2 c2) s.robots (w.heap.size + 1) 0 (i : Int) W (HR.out.keep hw) hp)
  have HC : Hid (Bd.carried s i = s.robots.any fun x => x.load == (i : Int)) := Lib.hid rfl
  obtain ⟨R, hR⟩ : ∃ R, Bd.carried s i = R := ⟨_, rfl⟩
  rw [hR] at HC ⊢
  clear e1 e2 e3 e4 e5 h m1 m2 m3 m4 m5 hR
  unfold CarPost
  go_enter Tryz.func85, Tryz.ntmps85
  go_wp2_with fail
  go_at_call 118; refine (HI.out _ HB.out.2.2.1 (cell_of_heap HB.out.2.1 0 rfl)).mono ?_; rintro e w3 ⟨⟨r, rfl, hr1, hr2, hr3⟩, hu⟩
  have H3 := Lib.hid hr3
  have HB3 := Lib.hid (HB.out.2.2.1.trans (hu.mono HB.out.2.2.1.size))
  clear hr3 hu
  go_wp2_with fail
  go_ret
  exact ⟨⟨r, rfl, hr1, hr2, by rw [H3.out]; exact HC.out.symm⟩, HB3.out⟩
end Go.Proofs.YtcdfmgobokjcnaaGreatDoor
/- Walks of package body: Shelf, all. -/
namespace Go.Proofs.YtcdfmgobokjcnaaGreatDoor
set_option linter.unusedSimpArgs false
set_option linter.unusedVariables false
open Go.RowKit

set_option maxRecDepth 100000 in
set_option maxHeartbeats 8000000 in
theorem Shelf_any (s : Bd.State) (sv rv pv dv kv : Value) (i : Nat) (w : World) (h : StV w sv rv pv dv kv s) (hi : i < s.shelves.length) (hc : SmC s.shelves[i]) :
    Calls Tryz.prog 121 #[stV s sv rv pv dv kv, .int .i64 (i : Int)] w (LsPost (Bd.shelfL s i) w) := by
  obtain ⟨a1, c1, a2, c2, a3, c3, a4, c4, a5, c5, rfl, rfl, rfl, rfl, rfl, m1, m2, m3, m4, m5⟩ := h.open
  obtain ⟨rb, ro, rfl, r0⟩ := h.sh.cell i hi
  have hrb := cell_block_lt r0
  dsimp only at hrb
  have HSL : Hid (Bd.shelfL s i = if Bd.carried s i = true then [] else [2 * s.shelves[i] + 1]) := Lib.hid (by unfold Bd.shelfL; rw [getD_lt2 _ _ _ hi])
  have HCA := Lib.hid (fun W (hW : Below w.heap.size w W) => Carrier_any s _ _ _ _ _ i W (h.keep hW))
  obtain ⟨X, hX⟩ : ∃ X, s.shelves[i] = X := ⟨_, rfl⟩
  rw [hX] at r0 hc HSL
  have HHi := Lib.hid (fun W => High_any X W hc)
  obtain ⟨RL, hRL⟩ : ∃ R, Bd.shelfL s i = R := ⟨_, rfl⟩
  obtain ⟨z, hz⟩ : ∃ R, Bd.carried s i = R := ⟨_, rfl⟩
  rw [hRL, hz] at HSL
  rw [hz] at HCA
  rw [hRL]
  unfold CarPost at HCA
  unfold stV LsPost at *
  obtain ⟨n1, e1⟩ : ∃ n, s.shelves.length = n := ⟨_, rfl⟩
  obtain ⟨n2, e2⟩ : ∃ n, s.robots.length = n := ⟨_, rfl⟩
  obtain ⟨n3, e3⟩ : ∃ n, s.people.length = n := ⟨_, rfl⟩
  obtain ⟨n4, e4⟩ : ∃ n, s.dead.length = n := ⟨_, rfl⟩
  obtain ⟨n5, e5⟩ : ∃ n, s.stuck.length = n := ⟨_, rfl⟩
  rw [e1] at hi m1
  rw [e1, e2, e3, e4, e5] at HCA
  rw [e1, e2, e3, e4, e5]
  have HB := Lib.hid (al1 w (.cells #[.int .i64 s.tick, .slice (some ⟨rb, ro, none⟩) n1 c1, .slice a2 n2 c2, .slice a3 n3 c3, .slice a4 n4 c4, .slice a5 n5 c5] 34))
  clear e1 e2 e3 e4 e5 h hX hc hRL hz
  have i0 : (0 : Int) ≤ (i : Int) := by omega
  have i1 : (i : Int) < (n1 : Int) := by omega
  go_enter Tryz.func121, Tryz.ntmps121
  go_wp2_with fail
  go_at_call 85; refine (HCA.out _ HB.out.2.1).mono ?_; rintro e w2 ⟨⟨r, rfl, hr1, hr2, hr3⟩, b2⟩
  have B2 := Lib.hid (HB.out.2.1.trans (b2.mono HB.out.2.1.size))
  have I2 := Lib.hid (keep_heap HB.out.1 b2)
  have rr : w2.cell? ⟨rb, ro + i, none⟩ = some (.int .i64 X) := (B2.out.cell (p := ⟨rb, ro + i, none⟩) hrb).trans r0
  have HI := cell_of_heap I2.out 1 (v := .slice (some ⟨rb, ro, none⟩) n1 c1) rfl
  clear b2 r0 hrb
  cases z with
  | true =>
    go_wp2_with fail
    go_ret
    exact ⟨_, rfl, by rw [HSL.out]; exact Sl.nil _, B2.out⟩
  | false =>
    have hr4 := of_decide_eq_false hr3
    go_wp2_with fail
    go_at_call 127; refine (HHi.out _).mono ?_; rintro e w6 ⟨rfl, rfl⟩
    go_wp2_with fail
    go_ret
    exact ⟨_, rfl, by rw [HSL.out]; exact is_new1 (al1 _ _).1, B2.out.trans ((al1 _ _).2.1.mono B2.out.size)⟩
end Go.Proofs.YtcdfmgobokjcnaaGreatDoor
/- Walks of package body: all. -/
namespace Go.Proofs.YtcdfmgobokjcnaaGreatDoor
set_option linter.unusedSimpArgs false
set_option linter.unusedVariables false
open Go.RowKit

theorem intInfoB : (Tryz.prog.info? 3).map (fun i => (i.zero, i.size, i.bytes)) = some (some (.int .i64 0), 1, 8) := by kernel_rfl
theorem ints_one (l : List Int) : ∀ u ∈ ints l, u.oneCell' = true := by intro u hu; obtain ⟨x, -, rfl⟩ := List.mem_map.1 hu; rfl
theorem ints_app (l m : List Int) : ints (l ++ m) = ints l ++ ints m := by simp [ints]
theorem own_belowB {w W : World} {base : Nat} {e : TypeId} {sz : Nat} {v : Value} {n : Nat} {xs : List Value} (h : w.ownsRow base e sz v n xs) (hb : Below w.heap.size w W) : W.ownsRow base e sz v n xs := by
  rcases h.2 with ⟨rfl, h0⟩ | ⟨g, cap, cur, rfl, hbg, hg, hr⟩
  · exact ⟨h.1, .inl ⟨rfl, h0⟩⟩
  · exact ⟨h.1, .inr ⟨g, cap, cur, rfl, hbg, keep_heap hg hb, hr⟩⟩
/-- The numbers of a state's bodies are small; there are few of them. -/
structure StS (s : Bd.State) : Prop where
  ro : ∀ r ∈ s.robots, SmC r.cell
  sh : ∀ c ∈ s.shelves, SmC c
  pe : ∀ c ∈ s.people, SmC c
  nr : s.robots.length ≤ 1000
  ns : s.shelves.length ≤ 10000
  np : s.people.length ≤ 1000
theorem range_flat {α : Type} (f : Nat → List α) (k : Nat) : (List.range (k + 1)).flatMap f = (List.range k).flatMap f ++ f k := by
  rw [List.range_succ, List.flatMap_append]; simp
/-- A new row of numbers is handed back. -/
def RwPost (L : List Int) (w : World) (e : Ending) (w' : World) : Prop := ∃ v, e = .returned v ∧ w'.ownsRow w.heap.size 3 1 v L.length (ints L) ∧ Below w.heap.size w w'
set_option maxRecDepth 100000 in
set_option maxHeartbeats 16000000 in
theorem allB_any (s : Bd.State) (sv rv pv dv kv : Value) (w : World) (h : StV w sv rv pv dv kv s) (hs : StS s) :
    Calls Tryz.prog 88 #[stV s sv rv pv dv kv] w (RwPost (Bd.allL s) w) := by
  have HRO : Hid (∀ (i : Nat) x W, Below w.heap.size w W → s.robots[i]? = some x → Calls Tryz.prog 120 #[stV s sv rv pv dv kv, .int .i64 (i : Int)] W (LsPost (Bd.robotL x) W)) := Lib.hid (fun i x W hW hx => by
    obtain ⟨hi, rfl⟩ := List.getElem?_eq_some_iff.1 hx
    exact Robot_any s sv rv pv dv kv i W (h.keep hW) hi (hs.ro _ (List.getElem_mem hi)))
  have HSH : Hid (∀ (i : Nat) x W, Below w.heap.size w W → s.shelves[i]? = some x → Calls Tryz.prog 121 #[stV s sv rv pv dv kv, .int .i64 (i : Int)] W (LsPost (Bd.shelfL s i) W)) := Lib.hid (fun i x W hW hx => by
    obtain ⟨hi, rfl⟩ := List.getElem?_eq_some_iff.1 hx
    exact Shelf_any s sv rv pv dv kv i W (h.keep hW) hi (hs.sh _ (List.getElem_mem hi)))
  have HPE : Hid (∀ (i : Nat) x W, Below w.heap.size w W → s.people[i]? = some x → Calls Tryz.prog 122 #[stV s sv rv pv dv kv, .int .i64 (i : Int)] W (LsPost (Bd.personL x) W)) := Lib.hid (fun i x W hW hx => by
    obtain ⟨hi, rfl⟩ := List.getElem?_eq_some_iff.1 hx
    exact Person_any s sv rv pv dv kv i W (h.keep hW) hi (hs.pe _ (List.getElem_mem hi)))
  have q1 := Bd.robotsL_len s
  have q2 := Bd.shelvesL_len s
  have q3 := Bd.peopleL_len s
  have n1 := hs.nr
  have n2 := hs.ns
  have n3 := hs.np
  have HL : Hid (Bd.allL s = Bd.robotsL s ++ (Bd.shelvesL s ++ Bd.peopleL s)) := Lib.hid rfl
  obtain ⟨a1, c1, a2, c2, a3, c3, a4, c4, a5, c5, rfl, rfl, rfl, rfl, rfl, m1, m2, m3, m4, m5⟩ := h.open
  unfold stV LsPost at HRO HSH HPE
  unfold stV RwPost
  obtain ⟨l1, e1⟩ : ∃ n, s.shelves.length = n := ⟨_, rfl⟩
  obtain ⟨l2, e2⟩ : ∃ n, s.robots.length = n := ⟨_, rfl⟩
  obtain ⟨l3, e3⟩ : ∃ n, s.people.length = n := ⟨_, rfl⟩
  obtain ⟨l4, e4⟩ : ∃ n, s.dead.length = n := ⟨_, rfl⟩
  obtain ⟨l5, e5⟩ : ∃ n, s.stuck.length = n := ⟨_, rfl⟩
  rw [e1, e2, e3, e4, e5] at HRO HSH HPE
  rw [e1, e2, e3, e4, e5]
  have E1 := Lib.hid e1
  have E2 := Lib.hid e2
  have E3 := Lib.hid e3
  rw [e2] at m2 n1 q1
  rw [e1] at m1 n2 q2
  rw [e3] at m3 n3 q3
  obtain ⟨w1, hw1⟩ : ∃ W, W = w.alloc (.cells #[.int .i64 s.tick, .slice a1 l1 c1, .slice a2 l2 c2, .slice a3 l3 c3, .slice a4 l4 c4, .slice a5 l5 c5] 34) := ⟨_, rfl⟩
  have HB := Lib.hid (al1 w (.cells #[.int .i64 s.tick, .slice a1 l1 c1, .slice a2 l2 c2, .slice a3 l3 c3, .slice a4 l4 c4, .slice a5 l5 c5] 34))
  rw [← hw1] at HB
  have HW := Lib.hid hw1
  have Q1 := Lib.hid q1
  have Q2 := Lib.hid q2
  have Q3 := Lib.hid q3
  clear e1 e2 e3 e4 e5 h hs hw1 m4 m5 q1 q2 q3
  go_enter Tryz.func88, Tryz.ntmps88
  go_upto_region 1 with fail
  rw [← HW.out]
  have p2 := cell_of_heap HB.out.1 2 (v := .slice a2 l2 c2) rfl
  go_wp2_with fail
  go_loopw [3, 10] (fun v3 iv wr => ∃ (k : Nat) (v : Value), k ≤ l2 ∧ v = v3 ∧ iv = .int .i64 k ∧ (((s.robots.take k).flatMap Bd.robotL)).length ≤ k * 2 ∧ Hid (wr.ownsRow w1.heap.size 3 1 v ([] ++ ((s.robots.take k).flatMap Bd.robotL)).length (ints ([] ++ ((s.robots.take k).flatMap Bd.robotL)))) ∧ Hid (Below w1.heap.size w1 wr)) (fun _ iv _ => l2 - (intOf iv).toNat)
  case atStart => exact ⟨0, .slice none 0 0, by omega, rfl, rfl, by simp, Lib.hid ⟨rfl, .inl ⟨rfl, rfl⟩⟩, Lib.hid (Below.refl _ _)⟩
  case round =>
    obtain ⟨k, vv, hk, rfl, rfl, hln, HO, HBl⟩ := hrel
    have IR := Lib.hid (keep_heap HB.out.1 HBl.out)
    have BR := Lib.hid (HB.out.2.1.trans (HBl.out.mono HB.out.2.1.size))
    by_cases hkn : k < l2
    · have hkl : k < s.robots.length := by rw [E2.out]; exact hkn
      have HC := Lib.hid (HRO.out k _ wr BR.out (List.getElem?_eq_getElem hkl))
      have HST : Hid (((s.robots.take (k + 1)).flatMap Bd.robotL) = ((s.robots.take k).flatMap Bd.robotL) ++ Bd.robotL s.robots[k]) := Lib.hid (Bd.flat_take Bd.robotL s.robots k hkl)
      have hfl : (Bd.robotL s.robots[k]).length ≤ 2 := Bd.atL_len _ _
      obtain ⟨F, hF⟩ : ∃ F, Bd.robotL s.robots[k] = F := ⟨_, rfl⟩
      rw [hF] at HC HST hfl
      have hpl : ([] ++ ((s.robots.take k).flatMap Bd.robotL)).length ≤ 24000 := by
        have h1 := Q1.out
        have h2 := Q2.out
        simp only [List.length_append, List.length_nil]
        omega
      have hl9 : (((s.robots.take (k + 1)).flatMap Bd.robotL)).length ≤ (k + 1) * 2 := by rw [HST.out, List.length_append]; omega
      have hpq : [] ++ ((s.robots.take (k + 1)).flatMap Bd.robotL) = ([] ++ ((s.robots.take k).flatMap Bd.robotL)) ++ F := by rw [HST.out]; simp only [List.append_assoc]
      obtain ⟨PL, hPL⟩ : ∃ PL, [] ++ ((s.robots.take k).flatMap Bd.robotL) = PL := ⟨_, rfl⟩
      rw [hPL] at HO hpl hpq
      have HPQ := Lib.hid hpq
      have HL9 := Lib.hid hl9
      obtain ⟨m, hm⟩ : ∃ m, PL.length = m := ⟨_, rfl⟩
      obtain ⟨f, hf⟩ : ∃ m, F.length = m := ⟨_, rfl⟩
      rw [hm] at HO hpl
      rw [hf] at hfl
      have HM := Lib.hid hm
      have HFf := Lib.hid hf
      clear hpq hl9 hPL hm hf hln HST
      have s0 := cell_of_heap IR.out 0 (v := .int .i64 s.tick) rfl
      have s1 := cell_of_heap IR.out 1 (v := .slice a1 l1 c1) rfl
      have s2 := cell_of_heap IR.out 2 (v := .slice a2 l2 c2) rfl
      have s3 := cell_of_heap IR.out 3 (v := .slice a3 l3 c3) rfl
      have s4 := cell_of_heap IR.out 4 (v := .slice a4 l4 c4) rfl
      have s5 := cell_of_heap IR.out 5 (v := .slice a5 l5 c5) rfl
      have k1 : (k : Int) < (l2 : Int) := by omega
      have k0 : (0 : Int) ≤ (k : Int) := by omega
      clear hF hkl
      go_wp2_with fail
      go_at_call 120; refine HC.out.mono ?_; rintro e w2 ⟨v2, rfl, hl2, b2⟩
      have B2 := Lib.hid (HBl.out.trans (b2.mono HBl.out.size))
      have HO2 := Lib.hid (own_belowB HO.out b2)
      have HL2 := Lib.hid hl2
      have hb2 := B2.out.size
      have HLN : Hid ((ints F).length = f) := Lib.hid ((ints_len F).trans HFf.out)
      clear b2 hl2 s0 s1 s2 s3 s4 s5
      go_wp2_with (at_builtin; refine wpList_append_sl rfl (.tmp 13) (.tmp 16) 22 rfl w1.heap.size 3 (.int .i64 0) 8 Tryz.underlying22 intInfoB rfl vv _ _ rfl HO2.out v2 (ints F) rfl HL2.out (ints_one F) ?d1 ?d2 ?d3 ?_)
      case d1 => rw [HLN.out]; unfold maxLen; omega
      case d2 => rw [HLN.out]; omega
      case d3 => exact hb2
      intro v3 w3 ho3 hg3
      rw [HLN.out] at ho3
      have HO3 : Hid (w3.ownsRow w1.heap.size 3 1 v3 (PL ++ F).length (ints (PL ++ F))) := Lib.hid (by rw [List.length_append, HM.out, HFf.out, ints_app]; exact ho3)
      have HB3 := Lib.hid (B2.out.grown hg3 hb2 (fun k e => World.ownsRow.lt HO2.out k e |>.1))
      clear ho3 hg3
      go_wp2_with fail
      go_roundw
      case rel =>
        exact ⟨k + 1, v3, by omega, rfl, by go_num, HL9.out, Lib.hid (by rw [HPQ.out]; exact HO3.out), HB3⟩
      case measure => simp [intOf]; omega
    · have hke : k = l2 := by omega
      have HO : Hid (wr.ownsRow w1.heap.size 3 1 vv (Bd.robotsL s).length (ints (Bd.robotsL s))) := Lib.hid (by have := HO.out; rw [hke, ← E2.out, List.take_length] at this; exact this)
      have pn := cell_of_heap IR.out 1 (v := .slice a1 l1 c1) rfl
      clear hln hke
      go_wp2_with fail
      go_loopw [3, 22] (fun v3 iv wr => ∃ (k : Nat) (v : Value), k ≤ l1 ∧ v = v3 ∧ iv = .int .i64 k ∧ (((List.range k).flatMap (Bd.shelfL s))).length ≤ k * 2 ∧ Hid (wr.ownsRow w1.heap.size 3 1 v ((Bd.robotsL s) ++ ((List.range k).flatMap (Bd.shelfL s))).length (ints ((Bd.robotsL s) ++ ((List.range k).flatMap (Bd.shelfL s))))) ∧ Hid (Below w1.heap.size w1 wr)) (fun _ iv _ => l1 - (intOf iv).toNat)
      case atStart => exact ⟨0, vv, by omega, rfl, rfl, by simp, Lib.hid (by have := HO.out; simpa using this), HBl⟩
      case round =>
        obtain ⟨k, vv, hk, rfl, rfl, hln, HO, HBl⟩ := hrel
        have IR := Lib.hid (keep_heap HB.out.1 HBl.out)
        have BR := Lib.hid (HB.out.2.1.trans (HBl.out.mono HB.out.2.1.size))
        by_cases hkn : k < l1
        · have hkl : k < s.shelves.length := by rw [E1.out]; exact hkn
          have HC := Lib.hid (HSH.out k _ wr BR.out (List.getElem?_eq_getElem hkl))
          have HST : Hid (((List.range (k + 1)).flatMap (Bd.shelfL s)) = ((List.range k).flatMap (Bd.shelfL s)) ++ Bd.shelfL s k) := Lib.hid (range_flat (Bd.shelfL s) k)
          have hfl : (Bd.shelfL s k).length ≤ 2 := Bd.shelfL_len _ _
          obtain ⟨F, hF⟩ : ∃ F, Bd.shelfL s k = F := ⟨_, rfl⟩
          rw [hF] at HC HST hfl
          have hpl : ((Bd.robotsL s) ++ ((List.range k).flatMap (Bd.shelfL s))).length ≤ 24000 := by
            have h1 := Q1.out
            have h2 := Q2.out
            simp only [List.length_append, List.length_nil]
            omega
          have hl9 : (((List.range (k + 1)).flatMap (Bd.shelfL s))).length ≤ (k + 1) * 2 := by rw [HST.out, List.length_append]; omega
          have hpq : (Bd.robotsL s) ++ ((List.range (k + 1)).flatMap (Bd.shelfL s)) = ((Bd.robotsL s) ++ ((List.range k).flatMap (Bd.shelfL s))) ++ F := by rw [HST.out]; simp only [List.append_assoc]
          obtain ⟨PL, hPL⟩ : ∃ PL, (Bd.robotsL s) ++ ((List.range k).flatMap (Bd.shelfL s)) = PL := ⟨_, rfl⟩
          rw [hPL] at HO hpl hpq
          have HPQ := Lib.hid hpq
          have HL9 := Lib.hid hl9
          obtain ⟨m, hm⟩ : ∃ m, PL.length = m := ⟨_, rfl⟩
          obtain ⟨f, hf⟩ : ∃ m, F.length = m := ⟨_, rfl⟩
          rw [hm] at HO hpl
          rw [hf] at hfl
          have HM := Lib.hid hm
          have HFf := Lib.hid hf
          clear hpq hl9 hPL hm hf hln HST
          have s0 := cell_of_heap IR.out 0 (v := .int .i64 s.tick) rfl
          have s1 := cell_of_heap IR.out 1 (v := .slice a1 l1 c1) rfl
          have s2 := cell_of_heap IR.out 2 (v := .slice a2 l2 c2) rfl
          have s3 := cell_of_heap IR.out 3 (v := .slice a3 l3 c3) rfl
          have s4 := cell_of_heap IR.out 4 (v := .slice a4 l4 c4) rfl
          have s5 := cell_of_heap IR.out 5 (v := .slice a5 l5 c5) rfl
          have k1 : (k : Int) < (l1 : Int) := by omega
          have k0 : (0 : Int) ≤ (k : Int) := by omega
          clear hF hkl
          go_wp2_with fail
          go_at_call 121; refine HC.out.mono ?_; rintro e w2 ⟨v2, rfl, hl2, b2⟩
          have B2 := Lib.hid (HBl.out.trans (b2.mono HBl.out.size))
          have HO2 := Lib.hid (own_belowB HO.out b2)
          have HL2 := Lib.hid hl2
          have hb2 := B2.out.size
          have HLN : Hid ((ints F).length = f) := Lib.hid ((ints_len F).trans HFf.out)
          clear b2 hl2 s0 s1 s2 s3 s4 s5
          go_wp2_with (at_builtin; refine wpList_append_sl rfl (.tmp 25) (.tmp 28) 22 rfl w1.heap.size 3 (.int .i64 0) 8 Tryz.underlying22 intInfoB rfl vv _ _ rfl HO2.out v2 (ints F) rfl HL2.out (ints_one F) ?d1 ?d2 ?d3 ?_)
          case d1 => rw [HLN.out]; unfold maxLen; omega
          case d2 => rw [HLN.out]; omega
          case d3 => exact hb2
          intro v3 w3 ho3 hg3
          rw [HLN.out] at ho3
          have HO3 : Hid (w3.ownsRow w1.heap.size 3 1 v3 (PL ++ F).length (ints (PL ++ F))) := Lib.hid (by rw [List.length_append, HM.out, HFf.out, ints_app]; exact ho3)
          have HB3 := Lib.hid (B2.out.grown hg3 hb2 (fun k e => World.ownsRow.lt HO2.out k e |>.1))
          clear ho3 hg3
          go_wp2_with fail
          go_roundw
          case rel =>
            exact ⟨k + 1, v3, by omega, rfl, by go_num, HL9.out, Lib.hid (by rw [HPQ.out]; exact HO3.out), HB3⟩
          case measure => simp [intOf]; omega
        · have hke : k = l1 := by omega
          have HO : Hid (wr.ownsRow w1.heap.size 3 1 vv (Bd.robotsL s ++ Bd.shelvesL s).length (ints (Bd.robotsL s ++ Bd.shelvesL s))) := Lib.hid (by have := HO.out; rw [hke, ← E1.out] at this; exact this)
          have pn := cell_of_heap IR.out 3 (v := .slice a3 l3 c3) rfl
          clear hln hke
          go_wp2_with fail
          go_loopw [3, 34] (fun v3 iv wr => ∃ (k : Nat) (v : Value), k ≤ l3 ∧ v = v3 ∧ iv = .int .i64 k ∧ (((s.people.take k).flatMap Bd.personL)).length ≤ k * 2 ∧ Hid (wr.ownsRow w1.heap.size 3 1 v ((Bd.robotsL s ++ Bd.shelvesL s) ++ ((s.people.take k).flatMap Bd.personL)).length (ints ((Bd.robotsL s ++ Bd.shelvesL s) ++ ((s.people.take k).flatMap Bd.personL)))) ∧ Hid (Below w1.heap.size w1 wr)) (fun _ iv _ => l3 - (intOf iv).toNat)
          case atStart => exact ⟨0, vv, by omega, rfl, rfl, by simp, Lib.hid (by have := HO.out; simpa using this), HBl⟩
          case round =>
            obtain ⟨k, vv, hk, rfl, rfl, hln, HO, HBl⟩ := hrel
            have IR := Lib.hid (keep_heap HB.out.1 HBl.out)
            have BR := Lib.hid (HB.out.2.1.trans (HBl.out.mono HB.out.2.1.size))
            by_cases hkn : k < l3
            · have hkl : k < s.people.length := by rw [E3.out]; exact hkn
              have HC := Lib.hid (HPE.out k _ wr BR.out (List.getElem?_eq_getElem hkl))
              have HST : Hid (((s.people.take (k + 1)).flatMap Bd.personL) = ((s.people.take k).flatMap Bd.personL) ++ Bd.personL s.people[k]) := Lib.hid (Bd.flat_take Bd.personL s.people k hkl)
              have hfl : (Bd.personL s.people[k]).length ≤ 2 := by simp [Bd.personL]
              obtain ⟨F, hF⟩ : ∃ F, Bd.personL s.people[k] = F := ⟨_, rfl⟩
              rw [hF] at HC HST hfl
              have hpl : ((Bd.robotsL s ++ Bd.shelvesL s) ++ ((s.people.take k).flatMap Bd.personL)).length ≤ 24000 := by
                have h1 := Q1.out
                have h2 := Q2.out
                simp only [List.length_append, List.length_nil]
                omega
              have hl9 : (((s.people.take (k + 1)).flatMap Bd.personL)).length ≤ (k + 1) * 2 := by rw [HST.out, List.length_append]; omega
              have hpq : (Bd.robotsL s ++ Bd.shelvesL s) ++ ((s.people.take (k + 1)).flatMap Bd.personL) = ((Bd.robotsL s ++ Bd.shelvesL s) ++ ((s.people.take k).flatMap Bd.personL)) ++ F := by rw [HST.out]; simp only [List.append_assoc]
              obtain ⟨PL, hPL⟩ : ∃ PL, (Bd.robotsL s ++ Bd.shelvesL s) ++ ((s.people.take k).flatMap Bd.personL) = PL := ⟨_, rfl⟩
              rw [hPL] at HO hpl hpq
              have HPQ := Lib.hid hpq
              have HL9 := Lib.hid hl9
              obtain ⟨m, hm⟩ : ∃ m, PL.length = m := ⟨_, rfl⟩
              obtain ⟨f, hf⟩ : ∃ m, F.length = m := ⟨_, rfl⟩
              rw [hm] at HO hpl
              rw [hf] at hfl
              have HM := Lib.hid hm
              have HFf := Lib.hid hf
              clear hpq hl9 hPL hm hf hln HST
              have s0 := cell_of_heap IR.out 0 (v := .int .i64 s.tick) rfl
              have s1 := cell_of_heap IR.out 1 (v := .slice a1 l1 c1) rfl
              have s2 := cell_of_heap IR.out 2 (v := .slice a2 l2 c2) rfl
              have s3 := cell_of_heap IR.out 3 (v := .slice a3 l3 c3) rfl
              have s4 := cell_of_heap IR.out 4 (v := .slice a4 l4 c4) rfl
              have s5 := cell_of_heap IR.out 5 (v := .slice a5 l5 c5) rfl
              have k1 : (k : Int) < (l3 : Int) := by omega
              have k0 : (0 : Int) ≤ (k : Int) := by omega
              clear hF hkl
              go_wp2_with fail
              go_at_call 122; refine HC.out.mono ?_; rintro e w2 ⟨v2, rfl, hl2, b2⟩
              have B2 := Lib.hid (HBl.out.trans (b2.mono HBl.out.size))
              have HO2 := Lib.hid (own_belowB HO.out b2)
              have HL2 := Lib.hid hl2
              have hb2 := B2.out.size
              have HLN : Hid ((ints F).length = f) := Lib.hid ((ints_len F).trans HFf.out)
              clear b2 hl2 s0 s1 s2 s3 s4 s5
              go_wp2_with (at_builtin; refine wpList_append_sl rfl (.tmp 37) (.tmp 40) 22 rfl w1.heap.size 3 (.int .i64 0) 8 Tryz.underlying22 intInfoB rfl vv _ _ rfl HO2.out v2 (ints F) rfl HL2.out (ints_one F) ?d1 ?d2 ?d3 ?_)
              case d1 => rw [HLN.out]; unfold maxLen; omega
              case d2 => rw [HLN.out]; omega
              case d3 => exact hb2
              intro v3 w3 ho3 hg3
              rw [HLN.out] at ho3
              have HO3 : Hid (w3.ownsRow w1.heap.size 3 1 v3 (PL ++ F).length (ints (PL ++ F))) := Lib.hid (by rw [List.length_append, HM.out, HFf.out, ints_app]; exact ho3)
              have HB3 := Lib.hid (B2.out.grown hg3 hb2 (fun k e => World.ownsRow.lt HO2.out k e |>.1))
              clear ho3 hg3
              go_wp2_with fail
              go_roundw
              case rel =>
                exact ⟨k + 1, v3, by omega, rfl, by go_num, HL9.out, Lib.hid (by rw [HPQ.out]; exact HO3.out), HB3⟩
              case measure => simp [intOf]; omega
            · have hke : k = l3 := by omega
              have HO : Hid (wr.ownsRow w1.heap.size 3 1 vv (Bd.allL s).length (ints (Bd.allL s))) := Lib.hid (by
                have := HO.out
                rw [hke, ← E3.out, List.take_length, List.append_assoc] at this
                exact this)
              go_wp2_with fail
              go_ret
              exact ⟨_, rfl, own_mono HO.out HB.out.2.1.size, BR.out⟩
end Go.Proofs.YtcdfmgobokjcnaaGreatDoor
