/- Parts AcA, AcB of this claim, laid one behind the other: walks and the plain laws behind them; each contract states its own conditions. -/
import Derived.Test.YtfcbcpfnaadpeaaGreatDoorMH
import Derived.Test.YtfcbcpfnaadpeaaGreatDoorMR
namespace Go.Proofs.YtfcbcpfnaadpeaaGreatDoor
set_option maxRecDepth 100000
set_option maxHeartbeats 64000000
set_option linter.unusedSimpArgs false
set_option linter.unusedVariables false
open Go.RowKit
def BoolPost (p : Prop) (w : World) (e : Ending) (w' : World) : Prop := (∃ b : Bool, e = .returned (.bool b) ∧ (b = true → p)) ∧ Below w.heap.size w w'
theorem zoneOf_rng (zs : List Si.Zone) (c : Int) : Si.zoneOf zs c < (zs.length : Int) := by
 rw [← zoneFrom_zero]
 unfold zoneFrom
 cases h : Si.zoneIdx (zs.drop 0) c with
 | none => simp only; omega
 | some j =>
  simp only [Nat.zero_add]
  have : ∀ (l : List Si.Zone) (j : Nat), Si.zoneIdx l c = some j → j < l.length := by
   intro l
   induction l with
   | nil => intro j h; rw [Si.zoneIdx] at h; cases h
   | cons z l ih =>
    intro j h
    rw [Si.zoneIdx] at h
    split at h
    · injection h with h; subst h; simp
    · cases hq : Si.zoneIdx l c with
      | none => rw [hq] at h; cases h
      | some k =>
       rw [hq, Option.map_some] at h
       injection h with h
       have := ih k hq
       simp only [List.length_cons]; omega
  have := this _ j h
  rw [List.drop_zero] at this
  omega
def InC (s : Si.Site) (c : Int) : Prop := 0 ≤ c ∧ c < (s.floor.kind.length : Int)
theorem isCell12_any (s : Si.Site) (kv ov zv av sv rv : Value) (c : Int) (w : World) (h : SiV w kv ov zv av sv rv s) :
 Calls Tryz.prog 283 #[siV s kv ov zv av sv rv, .int .i64 c] w (BoolPost (InC s c) w) := by
 obtain ⟨a1, c1, a2, c2, a3, c3, a4, c4, a5, c5, a6, c6, rfl, rfl, rfl, rfl, rfl, rfl, m1, m2, m3, m4, m5, m6⟩ := h.open
 unfold siV at *
 obtain ⟨l1, e1⟩ : ∃ n, s.floor.kind.length = n := ⟨_, rfl⟩
 obtain ⟨l2, e2⟩ : ∃ n, s.floor.out.length = n := ⟨_, rfl⟩
 obtain ⟨l3, e3⟩ : ∃ n, s.zones.length = n := ⟨_, rfl⟩
 obtain ⟨l4, e4⟩ : ∃ n, s.aparts.length = n := ⟨_, rfl⟩
 obtain ⟨l5, e5⟩ : ∃ n, s.shelves.length = n := ⟨_, rfl⟩
 obtain ⟨l6, e6⟩ : ∃ n, s.robots.length = n := ⟨_, rfl⟩
 have HIN : Hid (0 ≤ c → c < (l1 : Int) → InC s c) := hid (fun a b => ⟨a, by rw [e1]; exact b⟩)
 rw [e1, e2, e3, e4, e5, e6]
 obtain ⟨w1, hw1⟩ : ∃ W, W = w.alloc (.cells #[.int .i64 s.floor.w, .int .i64 s.floor.h, .int .i64 s.floor.d, .slice a1 l1 c1, .slice a2 l2 c2, .slice a3 l3 c3, .slice a4 l4 c4, .slice a5 l5 c5, .slice a6 l6 c6] 30) := ⟨_, rfl⟩
 have B1 : Hid (Below w.heap.size w w1) := hid (by rw [hw1]; exact (Below.refl _ _).alloc (Nat.le_refl _) _)
 have I1 : Hid (w1.heap[w.heap.size]? = some (.cells #[.int .i64 s.floor.w, .int .i64 s.floor.h, .int .i64 s.floor.d, .slice a1 l1 c1, .slice a2 l2 c2, .slice a3 l3 c3, .slice a4 l4 c4, .slice a5 l5 c5, .slice a6 l6 c6] 30 (0, 0))) := hid (by rw [hw1]; exact heap_alloc_new _ _)
 have HW1 := hid hw1
 have hs1 := heap_lt I1.out
 have p3 : w1.cell? ⟨w.heap.size, 3, none⟩ = some (.slice a1 l1 c1) := cell_of_heap I1.out 3 rfl
 clear h e1 e2 e3 e4 e5 e6 m1 m2 m3 m4 m5 m6 hw1
 go_enter Tryz.func283, Tryz.ntmps283
 go_upto_region 1 with fail
 rw [← HW1.out]
 by_cases f0 : c < 0
 · have f0' : decide (c ≥ 0) = false := by simp; omega
   clear f0
   go_wp2_with fail
   go_ret
   exact ⟨⟨_, rfl, fun h => by cases h⟩, B1.out⟩
 · have f0' : decide (c ≥ 0) = true := by simp; omega
   by_cases f1 : c < (l1 : Int)
   · have f1' : decide (c < (l1 : Int)) = true := by simp; omega
     have HH := hid (HIN.out (by omega) f1)
     clear f0 f1
     go_wp2_with fail
     go_ret
     exact ⟨⟨_, rfl, fun _ => HH.out⟩, B1.out⟩
   · have f1' : decide (c < (l1 : Int)) = false := by simp; omega
     clear f0 f1
     go_wp2_with fail
     go_ret
     exact ⟨⟨_, rfl, fun h => by cases h⟩, B1.out⟩
theorem speed12_any (s : Si.Site) (kv ov zv av sv rv : Value) (c : Int) (w : World) (h : SiV w kv ov zv av sv rv s) (hs : ZnS s.zones) :
 Calls Tryz.prog 107 #[siV s kv ov zv av sv rv, .int .i64 c] w fun e w' => (∃ k : Int, e = .returned (.int .i64 k)) ∧ Below w.heap.size w w' := by
 have HZ := hid (fun W (hb : Below w.heap.size w W) => ZoneOf_any s kv ov zv av sv rv c W (h.keep hb) hs)
 have HZN := hid (fun W (hb : Below w.heap.size w W) => (h.keep hb).zn)
 have HRG := hid (zoneOf_rng s.zones c)
 obtain ⟨a1, c1, a2, c2, a3, c3, a4, c4, a5, c5, a6, c6, rfl, rfl, rfl, rfl, rfl, rfl, m1, m2, m3, m4, m5, m6⟩ := h.open
 unfold siV at *
 obtain ⟨l1, e1⟩ : ∃ n, s.floor.kind.length = n := ⟨_, rfl⟩
 obtain ⟨l2, e2⟩ : ∃ n, s.floor.out.length = n := ⟨_, rfl⟩
 obtain ⟨l3, e3⟩ : ∃ n, s.zones.length = n := ⟨_, rfl⟩
 obtain ⟨l4, e4⟩ : ∃ n, s.aparts.length = n := ⟨_, rfl⟩
 obtain ⟨l5, e5⟩ : ∃ n, s.shelves.length = n := ⟨_, rfl⟩
 obtain ⟨l6, e6⟩ : ∃ n, s.robots.length = n := ⟨_, rfl⟩
 rw [e1, e2, e3, e4, e5, e6] at HZ
 rw [e3] at HZN HRG
 have HL3 := hid e3
 obtain ⟨z, hz⟩ : ∃ z, Si.zoneOf s.zones c = z := ⟨_, rfl⟩
 rw [hz] at HZ HRG
 rw [e1, e2, e3, e4, e5, e6]
 obtain ⟨w1, hw1⟩ : ∃ W, W = w.alloc (.cells #[.int .i64 s.floor.w, .int .i64 s.floor.h, .int .i64 s.floor.d, .slice a1 l1 c1, .slice a2 l2 c2, .slice a3 l3 c3, .slice a4 l4 c4, .slice a5 l5 c5, .slice a6 l6 c6] 30) := ⟨_, rfl⟩
 have B1 : Hid (Below w.heap.size w w1) := hid (by rw [hw1]; exact (Below.refl _ _).alloc (Nat.le_refl _) _)
 have I1 : Hid (w1.heap[w.heap.size]? = some (.cells #[.int .i64 s.floor.w, .int .i64 s.floor.h, .int .i64 s.floor.d, .slice a1 l1 c1, .slice a2 l2 c2, .slice a3 l3 c3, .slice a4 l4 c4, .slice a5 l5 c5, .slice a6 l6 c6] 30 (0, 0))) := hid (by rw [hw1]; exact heap_alloc_new _ _)
 have HW1 := hid hw1
 have hs1 := heap_lt I1.out
 obtain ⟨p0, p1, p2, p3, p4, p5, p6, p7, p8⟩ := cells9 I1.out
 clear h e1 e2 e3 e4 e5 e6 m1 m2 m3 m4 m5 m6 hw1 hz hs
 go_enter Tryz.func107, Tryz.ntmps107
 go_upto_region 1 with fail
 rw [← HW1.out]
 go_wp2_with fail
 go_at_call 100; refine (HZ.out w1 B1.out).mono ?_; rintro e w2 ⟨rfl, b2⟩
 have B2 := hid (B1.out.trans (b2.mono B1.out.size))
 have I2 := hid (keep_heap I1.out b2)
 clear b2 p0 p1 p2 p3 p4 p5 p6 p7 p8
 by_cases f0 : z < 0
 · have f0' : decide (z ≥ 0) = false := by simp; omega
   clear f0
   go_wp2_with fail
   go_ret
   exact ⟨⟨_, rfl⟩, B2.out⟩
 · obtain ⟨z, rfl⟩ := Int.eq_ofNat_of_zero_le (show 0 ≤ z by omega)
   have hzl : z < l3 := by have := HRG.out; omega
   have f0' : decide ((z : Int) ≥ 0) = true := by simp
   have p5 : w2.cell? ⟨w.heap.size, 5, none⟩ = some (.slice a3 l3 c3) := cell_of_heap I2.out 5 rfl
   obtain ⟨zb, zo, u1, u2, ez, hzb, hu1, hu2, q0, q1, q2, q3, q4⟩ := (HZN.out w2 B2.out).cell z (by rw [HL3.out]; exact hzl)
   subst ez
   obtain ⟨SP, hSP⟩ : ∃ x, (s.zones[z]'(by rw [HL3.out]; exact hzl)).speed = x := ⟨_, rfl⟩
   rw [hSP] at q2
   have z0 : (0 : Int) ≤ (z : Int) := by omega
   have z1 : (z : Int) < (l3 : Int) := by omega
   clear f0 hu1 hu2 q0 q1 q3 q4 hSP
   go_wp2_with fail
   go_ret
   exact ⟨⟨_, rfl⟩, B2.out⟩
theorem open1_any (a b t : Int) (pb : Nat) (w : World) (hp : w.cell? ⟨pb, 0, none⟩ = some (.int .i64 t)) :
 Calls Tryz.prog 285 #[.agg #[.int .i64 a, .int .i64 b], .pointer (some ⟨pb, 0, none⟩)] w (BoolPost True w) := by
 have hlt := cell_block_lt hp
 dsimp only at hlt
 have HB := hid (al1 w (.cells #[.int .i64 a, .int .i64 b] 228))
 by_cases f0 : a ≤ t
 · by_cases f1 : t < b
   · go_enter Tryz.func285, Tryz.ntmps285
     go_wp2_with fail
     go_ret
     exact ⟨⟨_, rfl, fun _ => trivial⟩, HB.out.2.1⟩
   · go_enter Tryz.func285, Tryz.ntmps285
     go_wp2_with fail
     go_ret
     exact ⟨⟨_, rfl, fun _ => trivial⟩, HB.out.2.1⟩
 · go_enter Tryz.func285, Tryz.ntmps285
   go_wp2_with fail
   go_ret
   exact ⟨⟨_, rfl, fun _ => trivial⟩, HB.out.2.1⟩
theorem indexSp_any (v : Value) (l : List (Int × Int)) (pb : Nat) (t : Int) (w : World) (h : Rw w v 2 (l.map spanC)) (hp : w.cell? ⟨pb, 0, none⟩ = some (.int .i64 t)) :
 Calls Tryz.prog 307 #[v, .func (.func 285) #[] #[.pointer (some ⟨pb, 0, none⟩)]] w fun e w' => (∃ r : Int, e = .returned (.int .i64 r) ∧ -1 ≤ r ∧ r < 9223372036854775807) ∧ Below w.heap.size w w' := by
 obtain ⟨a, cap, rfl, hm⟩ := two_form h
 have H := hid h
 have HCL := hid (fun (x1 x2 : Int) W (hW : Below w.heap.size w W) => open1_any x1 x2 t pb W ((hW.cell (p := ⟨pb, 0, none⟩) (cell_block_lt hp)).trans hp))
 obtain ⟨n, hn⟩ : ∃ n, l.length = n := ⟨_, rfl⟩
 rw [hn] at hm H ⊢
 have HN := hid hn
 clear h hp hn
 go_enter Tryz.func307, Tryz.ntmps307
 go_wp2_with fail
 go_loopw [8] (fun iv wr => ∃ (k : Nat), k ≤ n ∧ iv = .int .i64 k ∧ Hid (Below w.heap.size w wr)) (fun iv _ => n - (intOf iv).toNat)
 case atStart => exact ⟨0, by omega, rfl, hid (Below.refl _ w)⟩
 case round =>
  obtain ⟨k, hk, rfl, HU⟩ := hrel
  by_cases hkn : k < n
  · have hkl : k < l.length := by rw [HN.out]; exact hkn
    obtain ⟨b, off, e1, hbl, c0, c1⟩ := two_cell (f := spanC) (g1 := fun p => .int .i64 p.1) (g2 := fun p => .int .i64 p.2) (fun _ => rfl) H.out k hkl
    subst e1
    obtain ⟨x, hx⟩ : ∃ x, l[k] = x := ⟨_, rfl⟩
    rw [hx] at c0 c1
    obtain ⟨x1, x2⟩ := x
    dsimp only at c0 c1
    rw [← HU.out.cell (p := ⟨b, off + k * 2, none⟩) hbl] at c0
    rw [← HU.out.cell (p := ⟨b, off + k * 2 + 1, none⟩) hbl] at c1
    have HC := hid (HCL.out x1 x2 wr HU.out)
    have k1 : (k : Int) < (n : Int) := by omega
    have k0 : (0 : Int) ≤ (k : Int) := by omega
    clear hx
    go_wp2_with fail
    go_at_call 285; refine HC.out.mono ?_; rintro e w3 ⟨⟨z, rfl, -⟩, hu3⟩
    have HU3 := hid (HU.out.trans (hu3.mono HU.out.size))
    clear hu3
    cases z with
    | false =>
     go_wp2_with fail
     go_roundw
     case rel => exact ⟨k + 1, by omega, by go_num, HU3⟩
     case measure => simp [intOf]; omega
    | true =>
     go_wp2_with fail
     go_ret
     exact ⟨⟨(k : Int), rfl, by omega, by omega⟩, HU3.out⟩
  · go_wp2_with fail
    go_ret
    exact ⟨⟨-1, rfl, by omega, by omega⟩, HU.out⟩
theorem containsSp_any (v : Value) (l : List (Int × Int)) (pb : Nat) (t : Int) (w : World) (h : Rw w v 2 (l.map spanC)) (hp : w.cell? ⟨pb, 0, none⟩ = some (.int .i64 t)) :
 Calls Tryz.prog 284 #[v, .func (.func 285) #[] #[.pointer (some ⟨pb, 0, none⟩)]] w fun e w' => (∃ b : Bool, e = .returned (.bool b)) ∧ Below w.heap.size w w' := by
 have HT := hid (indexSp_any v l pb t w h hp)
 obtain ⟨a, cap, rfl, hm⟩ := two_form h
 clear h hp
 go_enter Tryz.func284, Tryz.ntmps284
 go_wp2_with fail
 go_at_call 307; refine HT.out.mono ?_; rintro e w3 ⟨⟨r, rfl, hr1, hr2⟩, hu⟩
 have HU := hid hu
 clear hu
 go_wp2_with fail
 go_ret
 exact ⟨⟨_, rfl⟩, HU.out⟩
theorem open12_any (s : Si.Site) (kv ov zv av sv rv : Value) (c t : Int) (w : World) (h : SiV w kv ov zv av sv rv s) (hs : ZnS s.zones) :
 Calls Tryz.prog 239 #[siV s kv ov zv av sv rv, .int .i64 c, .int .i64 t] w (BoolPost True w) := by
 have HZ := hid (fun W (hb : Below w.heap.size w W) => ZoneOf_any s kv ov zv av sv rv c W (h.keep hb) hs)
 have HIC := hid (fun W (hb : Below w.heap.size w W) => isCell12_any s kv ov zv av sv rv c W (h.keep hb))
 have HZN := hid (fun W (hb : Below w.heap.size w W) => (h.keep hb).zn)
 have HRG := hid (zoneOf_rng s.zones c)
 obtain ⟨a1, c1, a2, c2, a3, c3, a4, c4, a5, c5, a6, c6, rfl, rfl, rfl, rfl, rfl, rfl, m1, m2, m3, m4, m5, m6⟩ := h.open
 unfold siV at *
 obtain ⟨l1, e1⟩ : ∃ n, s.floor.kind.length = n := ⟨_, rfl⟩
 obtain ⟨l2, e2⟩ : ∃ n, s.floor.out.length = n := ⟨_, rfl⟩
 obtain ⟨l3, e3⟩ : ∃ n, s.zones.length = n := ⟨_, rfl⟩
 obtain ⟨l4, e4⟩ : ∃ n, s.aparts.length = n := ⟨_, rfl⟩
 obtain ⟨l5, e5⟩ : ∃ n, s.shelves.length = n := ⟨_, rfl⟩
 obtain ⟨l6, e6⟩ : ∃ n, s.robots.length = n := ⟨_, rfl⟩
 try simp only [e1, e2, e3, e4, e5, e6] at HZ
 try simp only [e1, e2, e3, e4, e5, e6] at HIC
 try simp only [e1, e2, e3, e4, e5, e6] at HZN
 try simp only [e1, e2, e3, e4, e5, e6] at HRG
 have HL3 := hid e3
 obtain ⟨z, hz⟩ : ∃ z, Si.zoneOf s.zones c = z := ⟨_, rfl⟩
 rw [hz] at HZ HRG
 unfold BoolPost at HIC
 rw [e1, e2, e3, e4, e5, e6]
 obtain ⟨w1, hw1⟩ : ∃ W, W = (w.alloc (.cells #[.int .i64 s.floor.w, .int .i64 s.floor.h, .int .i64 s.floor.d, .slice a1 l1 c1, .slice a2 l2 c2, .slice a3 l3 c3, .slice a4 l4 c4, .slice a5 l5 c5, .slice a6 l6 c6] 30)).alloc (.cells #[.int .i64 t] 3) := ⟨_, rfl⟩
 have B1 : Hid (Below w.heap.size w w1) := hid (by rw [hw1]; exact ((Below.refl _ _).alloc (Nat.le_refl _) _).alloc (by simp) _)
 have I1 : Hid (w1.heap[w.heap.size]? = some (.cells #[.int .i64 s.floor.w, .int .i64 s.floor.h, .int .i64 s.floor.d, .slice a1 l1 c1, .slice a2 l2 c2, .slice a3 l3 c3, .slice a4 l4 c4, .slice a5 l5 c5, .slice a6 l6 c6] 30 (0, 0))) := hid (by rw [hw1]; exact heap_two0 _ _ _)
 have I2 : Hid (w1.heap[w.heap.size + 1]? = some (.cells #[.int .i64 t] 3 (0, 0))) := hid (by rw [hw1]; exact heap_two3 _ _ _)
 have HW1 := hid hw1
 have hs1 := heap_lt I2.out
 obtain ⟨p0, p1, p2, p3, p4, p5, p6, p7, p8⟩ := cells9 I1.out
 clear h e1 e2 e3 e4 e5 e6 m1 m2 m3 m4 m5 m6 hw1 hz hs
 go_enter Tryz.func239, Tryz.ntmps239
 go_upto_region 1 with fail
 rw [← HW1.out]
 go_wp2_with fail
 go_at_call 100; refine (HZ.out w1 B1.out).mono ?_; rintro e w2 ⟨rfl, b2⟩
 have B2 := hid (B1.out.trans (b2.mono B1.out.size))
 have J1 := hid (keep_heap I1.out b2)
 have J2 := hid (keep_heap I2.out b2)
 clear b2 p0 p1 p2 p3 p4 p5 p6 p7 p8
 obtain ⟨p0, p1, p2, p3, p4, p5, p6, p7, p8⟩ := cells9 J1.out
 go_wp2_with fail
 go_at_call 283; refine (HIC.out w2 B2.out).mono ?_; rintro e w3 ⟨⟨q, rfl, -⟩, b3⟩
 have B3 := hid (B2.out.trans (b3.mono B2.out.size))
 have K1 := hid (keep_heap J1.out b3)
 have K2 := hid (keep_heap J2.out b3)
 clear b3 p0 p1 p2 p3 p4 p5 p6 p7 p8
 obtain ⟨p0, p1, p2, p3, p4, p5, p6, p7, p8⟩ := cells9 K1.out
 cases q with
 | false =>
  go_wp2_with fail
  go_at_call 283; refine (HIC.out w3 B3.out).mono ?_; rintro e w4 ⟨⟨q, rfl, -⟩, b4⟩
  have B4 := hid (B3.out.trans (b4.mono B3.out.size))
  clear b4
  go_wp2_with fail
  go_ret
  exact ⟨⟨_, rfl, fun _ => trivial⟩, B4.out⟩
 | true =>
  by_cases f0 : z < 0
  · go_wp2_with fail
    go_at_call 283; refine (HIC.out w3 B3.out).mono ?_; rintro e w4 ⟨⟨q, rfl, -⟩, b4⟩
    have B4 := hid (B3.out.trans (b4.mono B3.out.size))
    clear b4
    go_wp2_with fail
    go_ret
    exact ⟨⟨_, rfl, fun _ => trivial⟩, B4.out⟩
  · obtain ⟨z, rfl⟩ := Int.eq_ofNat_of_zero_le (show 0 ≤ z by omega)
    have hzl : z < l3 := by have := HRG.out; omega
    have z0 : (0 : Int) ≤ (z : Int) := by omega
    have z1 : (z : Int) < (l3 : Int) := by omega
    obtain ⟨zb, zo, u1, u2, ez, hzb, hu1, hu2, q0, q1, q2, q3, q4⟩ := (HZN.out w3 B3.out).cell z (by rw [HL3.out]; exact hzl)
    subst ez
    obtain ⟨ua, uc, rfl, hum⟩ := two_form hu2
    obtain ⟨SH, hSH⟩ : ∃ x, (s.zones[z]'(by rw [HL3.out]; exact hzl)).shut = x := ⟨_, rfl⟩
    rw [hSH] at hu2 hum q4
    have HC := hid (containsSp_any _ SH (w.heap.size + 1) t w3 hu2 (cell_of_heap K2.out 0 rfl))
    clear q0 q1 q2 q3 hu1 hu2 hSH hzl f0
    go_wp2_with fail
    go_at_call 284; refine HC.out.mono ?_; rintro e w4 ⟨⟨q, rfl⟩, b4⟩
    have B4 := hid (B3.out.trans (b4.mono B3.out.size))
    clear b4
    go_wp2_with fail
    go_ret
    exact ⟨⟨_, rfl, fun _ => trivial⟩, B4.out⟩
theorem stands12_any (s : Si.Site) (kv ov zv av sv rv : Value) (c : Int) (w : World) (h : SiV w kv ov zv av sv rv s) :
 Calls Tryz.prog 243 #[siV s kv ov zv av sv rv, .int .i64 c] w (BoolPost True w) := by
 have HIC := hid (fun W (hb : Below w.heap.size w W) => isCell12_any s kv ov zv av sv rv c W (h.keep hb))
 have HK := hid (fun W (hb : Below w.heap.size w W) => (h.keep hb).fl.kind)
 obtain ⟨a1, c1, a2, c2, a3, c3, a4, c4, a5, c5, a6, c6, rfl, rfl, rfl, rfl, rfl, rfl, m1, m2, m3, m4, m5, m6⟩ := h.open
 unfold siV at *
 obtain ⟨l1, e1⟩ : ∃ n, s.floor.kind.length = n := ⟨_, rfl⟩
 obtain ⟨l2, e2⟩ : ∃ n, s.floor.out.length = n := ⟨_, rfl⟩
 obtain ⟨l3, e3⟩ : ∃ n, s.zones.length = n := ⟨_, rfl⟩
 obtain ⟨l4, e4⟩ : ∃ n, s.aparts.length = n := ⟨_, rfl⟩
 obtain ⟨l5, e5⟩ : ∃ n, s.shelves.length = n := ⟨_, rfl⟩
 obtain ⟨l6, e6⟩ : ∃ n, s.robots.length = n := ⟨_, rfl⟩
 try simp only [e1, e2, e3, e4, e5, e6] at HIC
 try simp only [e1, e2, e3, e4, e5, e6] at HK
 have HL1 := hid e1
 unfold BoolPost InC at HIC
 rw [e1] at HIC
 rw [e1, e2, e3, e4, e5, e6]
 obtain ⟨w1, hw1⟩ : ∃ W, W = w.alloc (.cells #[.int .i64 s.floor.w, .int .i64 s.floor.h, .int .i64 s.floor.d, .slice a1 l1 c1, .slice a2 l2 c2, .slice a3 l3 c3, .slice a4 l4 c4, .slice a5 l5 c5, .slice a6 l6 c6] 30) := ⟨_, rfl⟩
 have B1 : Hid (Below w.heap.size w w1) := hid (by rw [hw1]; exact (Below.refl _ _).alloc (Nat.le_refl _) _)
 have I1 : Hid (w1.heap[w.heap.size]? = some (.cells #[.int .i64 s.floor.w, .int .i64 s.floor.h, .int .i64 s.floor.d, .slice a1 l1 c1, .slice a2 l2 c2, .slice a3 l3 c3, .slice a4 l4 c4, .slice a5 l5 c5, .slice a6 l6 c6] 30 (0, 0))) := hid (by rw [hw1]; exact heap_alloc_new _ _)
 have HW1 := hid hw1
 have hs1 := heap_lt I1.out
 obtain ⟨p0, p1, p2, p3, p4, p5, p6, p7, p8⟩ := cells9 I1.out
 clear h e1 e2 e3 e4 e5 e6 m1 m2 m3 m4 m5 m6 hw1
 go_enter Tryz.func243, Tryz.ntmps243
 go_upto_region 1 with fail
 rw [← HW1.out]
 go_wp2_with fail
 go_at_call 283; refine (HIC.out w1 B1.out).mono ?_; rintro e w2 ⟨⟨q, rfl, hq⟩, b2⟩
 have B2 := hid (B1.out.trans (b2.mono B1.out.size))
 have J1 := hid (keep_heap I1.out b2)
 clear b2 p0 p1 p2 p3 p4 p5 p6 p7 p8
 have p3 : w2.cell? ⟨w.heap.size, 3, none⟩ = some (.slice a1 l1 c1) := cell_of_heap J1.out 3 rfl
 cases q with
 | false =>
  clear hq
  go_wp2_with fail
  go_ret
  exact ⟨⟨_, rfl, fun _ => trivial⟩, B2.out⟩
 | true =>
  obtain ⟨hc0, hc1⟩ := hq rfl
  obtain ⟨x, rfl⟩ := Int.eq_ofNat_of_zero_le hc0
  have hx : x < l1 := by omega
  obtain ⟨kb, ko, ek, k0⟩ := (HK.out w2 B2.out).cell x (by rw [HL1.out]; exact hx)
  subst ek
  obtain ⟨K, hK⟩ : ∃ K, s.floor.kind[x]'(by rw [HL1.out]; exact hx) = K := ⟨_, rfl⟩
  rw [hK] at k0
  clear hK hx hq
  by_cases f0 : K = 1
  · subst f0
    go_wp2_with fail
    go_ret
    exact ⟨⟨_, rfl, fun _ => trivial⟩, B2.out⟩
  · go_wp2_with fail
    go_ret
    exact ⟨⟨_, rfl, fun _ => trivial⟩, B2.out⟩
theorem class12_any (s : Si.Site) (kv ov zv av sv rv : Value) (c : Int) (w : World) (h : SiV w kv ov zv av sv rv s) :
 Calls Tryz.prog 247 #[siV s kv ov zv av sv rv, .int .i64 c] w fun e w' => (∃ b : List UInt8, e = .returned (.string ⟨b.toArray⟩) ∧ (b = [] ∨ ∃ x ∈ s.shelves, b = x.2)) ∧ Below w.heap.size w w' := by
 have HS := hid (fun W (hb : Below w.heap.size w W) => (h.keep hb).sf)
 obtain ⟨a1, c1, a2, c2, a3, c3, a4, c4, a5, c5, a6, c6, rfl, rfl, rfl, rfl, rfl, rfl, m1, m2, m3, m4, m5, m6⟩ := h.open
 unfold siV at *
 obtain ⟨l1, e1⟩ : ∃ n, s.floor.kind.length = n := ⟨_, rfl⟩
 obtain ⟨l2, e2⟩ : ∃ n, s.floor.out.length = n := ⟨_, rfl⟩
 obtain ⟨l3, e3⟩ : ∃ n, s.zones.length = n := ⟨_, rfl⟩
 obtain ⟨l4, e4⟩ : ∃ n, s.aparts.length = n := ⟨_, rfl⟩
 obtain ⟨l5, e5⟩ : ∃ n, s.shelves.length = n := ⟨_, rfl⟩
 obtain ⟨l6, e6⟩ : ∃ n, s.robots.length = n := ⟨_, rfl⟩
 try simp only [e1, e2, e3, e4, e5, e6] at HS
 have HL5 := hid e5
 rw [e1, e2, e3, e4, e5, e6]
 obtain ⟨w1, hw1⟩ : ∃ W, W = w.alloc (.cells #[.int .i64 s.floor.w, .int .i64 s.floor.h, .int .i64 s.floor.d, .slice a1 l1 c1, .slice a2 l2 c2, .slice a3 l3 c3, .slice a4 l4 c4, .slice a5 l5 c5, .slice a6 l6 c6] 30) := ⟨_, rfl⟩
 have B1 : Hid (Below w.heap.size w w1) := hid (by rw [hw1]; exact (Below.refl _ _).alloc (Nat.le_refl _) _)
 have I1 : Hid (w1.heap[w.heap.size]? = some (.cells #[.int .i64 s.floor.w, .int .i64 s.floor.h, .int .i64 s.floor.d, .slice a1 l1 c1, .slice a2 l2 c2, .slice a3 l3 c3, .slice a4 l4 c4, .slice a5 l5 c5, .slice a6 l6 c6] 30 (0, 0))) := hid (by rw [hw1]; exact heap_alloc_new _ _)
 have HW1 := hid hw1
 have hs1 := heap_lt I1.out
 obtain ⟨p0, p1, p2, p3, p4, p5, p6, p7, p8⟩ := cells9 I1.out
 clear h e1 e2 e3 e4 e5 e6 m1 m2 m3 m4 m5 m6 hw1
 go_enter Tryz.func247, Tryz.ntmps247
 go_upto_region 1 with fail
 rw [← HW1.out]
 by_cases f0 : c < 0
 · go_wp2_with fail
   go_ret
   exact ⟨⟨[], rfl, .inl rfl⟩, B1.out⟩
 obtain ⟨x, rfl⟩ := Int.eq_ofNat_of_zero_le (show 0 ≤ c by omega)
 have x0 : (0 : Int) ≤ (x : Int) := by omega
 clear f0
 by_cases f1 : x < l5
 case neg =>
  have f1' : l5 ≤ x := by omega
  clear f1
  go_wp2_with fail
  go_ret
  exact ⟨⟨[], rfl, .inl rfl⟩, B1.out⟩
 obtain ⟨zb, zo, ez, hzb, q0, q1⟩ := (HS.out w1 B1.out).cell x (by rw [HL5.out]; exact f1)
 subst ez
 obtain ⟨X, hX⟩ : ∃ x', s.shelves[x]'(by rw [HL5.out]; exact f1) = x' := ⟨_, rfl⟩
 rw [hX] at q0 q1
 have HX : Hid (X ∈ s.shelves) := hid (by rw [← hX]; exact List.getElem_mem _)
 have x1 : (x : Int) < (l5 : Int) := by omega
 have x2 : ¬ l5 ≤ x := by omega
 clear hX f1
 go_wp2_with fail
 go_ret
 exact ⟨⟨_, rfl, .inr ⟨X, HX.out, rfl⟩⟩, B1.out⟩
theorem direction_any (a : Int) (w : World) (ha : 0 ≤ a ∧ a ≤ 100) :
 Calls Tryz.prog 105 #[.int .i64 a] w fun e w' => e = .returned (.tuple #[.int .i64 (a - 1), .bool (decide (1 ≤ a ∧ a ≤ 6))]) ∧ w' = w := by
 obtain ⟨h0, h1⟩ := ha
 by_cases f0 : 1 ≤ a
 · by_cases f1 : a ≤ 6
   · have e : decide (1 ≤ a ∧ a ≤ 6) = decide (a - 1 < 6) := by apply decide_eq_decide.2; omega
     rw [e]
     clear e
     go_enter Tryz.func105, Tryz.ntmps105
     go_wp2_with fail
     go_ret2
     exact ⟨rfl, rfl⟩
   · have e : decide (1 ≤ a ∧ a ≤ 6) = decide (a - 1 < 6) := by apply decide_eq_decide.2; omega
     rw [e]
     clear e
     go_enter Tryz.func105, Tryz.ntmps105
     go_wp2_with fail
     go_ret2
     exact ⟨rfl, rfl⟩
 · have e : decide (1 ≤ a ∧ a ≤ 6) = false := by simp; omega
   rw [e]
   clear e
   go_enter Tryz.func105, Tryz.ntmps105
   go_wp2_with fail
   go_ret2
   exact ⟨rfl, rfl⟩
theorem loads12_any (r : Bd.Robot) (pb po : Nat) (c : Int) (w : World) (hp : w.cell? ⟨pb, po, none⟩ = some (.int .i64 c)) :
 Calls Tryz.prog 286 #[.agg (robA r), .pointer (some ⟨pb, po, none⟩)] w fun e w' => e = .returned (.bool (r.load == c)) ∧ Below w.heap.size w w' := by
 have hlt := cell_block_lt hp
 dsimp only at hlt
 obtain ⟨L, hL⟩ : ∃ L, r.load = L := ⟨_, rfl⟩
 unfold robA
 rw [hL]
 have HB := hid (al1 w (.cells #[.int .i64 r.cell, .int .i64 L, .int .i64 r.charge, .int .i64 r.rest, .int .i64 r.mute, .bool r.dead] 105))
 clear hL
 go_enter Tryz.func286, Tryz.ntmps286
 go_wp2_with fail
 go_ret
 exact ⟨rfl, HB.out.2.1⟩
theorem indexR12_any (v : Value) (l : List Bd.Robot) (pb po : Nat) (c : Int) (w : World) (h : RoV w v l) (hp : w.cell? ⟨pb, po, none⟩ = some (.int .i64 c)) :
 Calls Tryz.prog 190 #[v, .func (.func 286) #[] #[.pointer (some ⟨pb, po, none⟩)]] w fun e w' => (∃ r : Int, e = .returned (.int .i64 r) ∧ -1 ≤ r ∧ r < 9223372036854775807 ∧ decide (0 ≤ r) = l.any fun x => x.load == c) ∧ Below w.heap.size w w' := by
 obtain ⟨a, cap, rfl, hm⟩ := h.form
 have hpb : pb < w.heap.size := cell_block_lt hp
 have H := hid h
 have HP := hid hp
 obtain ⟨R, hR⟩ : ∃ R, (l.any fun x => x.load == c) = R := ⟨_, rfl⟩
 have HR : Hid (((l.drop 0).any fun x => x.load == c) = R) := hid hR
 rw [hR]
 obtain ⟨n, hn⟩ : ∃ n, l.length = n := ⟨_, rfl⟩
 rw [hn] at hm H ⊢
 have HN := hid hn
 clear h hp hR hn
 go_enter Tryz.func190, Tryz.ntmps190
 go_wp2_with fail
 go_loopw [8] (fun iv wr => ∃ (k : Nat), k ≤ n ∧ iv = .int .i64 k ∧ Hid (((l.drop k).any fun x => x.load == c) = R) ∧ Hid (Below w.heap.size w wr)) (fun iv _ => n - (intOf iv).toNat)
 case atStart => exact ⟨0, by omega, rfl, HR, hid (Below.refl _ w)⟩
 case round =>
  obtain ⟨k, hk, rfl, HK, HU⟩ := hrel
  by_cases hkn : k < n
  · have hkl : k < l.length := by rw [HN.out]; exact hkn
    obtain ⟨b, off, e1, hbl, c0, c1, c2, c3, c4, c5⟩ := H.out.cell k hkl
    subst e1
    have hd := any_dropR (p := fun x : Bd.Robot => x.load == c) hkl
    rw [HK.out] at hd
    obtain ⟨x, hx⟩ : ∃ x, l[k] = x := ⟨_, rfl⟩
    rw [hx] at c0 c1 c2 c3 c4 c5 hd
    have HU2 := HU.out
    rw [← HU2.cell (p := ⟨b, off + k * 6, none⟩) hbl] at c0
    rw [← HU2.cell (p := ⟨b, off + k * 6 + 1, none⟩) hbl] at c1
    rw [← HU2.cell (p := ⟨b, off + k * 6 + 2, none⟩) hbl] at c2
    rw [← HU2.cell (p := ⟨b, off + k * 6 + 3, none⟩) hbl] at c3
    rw [← HU2.cell (p := ⟨b, off + k * 6 + 4, none⟩) hbl] at c4
    rw [← HU2.cell (p := ⟨b, off + k * 6 + 5, none⟩) hbl] at c5
    have hpr : wr.cell? ⟨pb, po, none⟩ = some (.int .i64 c) := by rw [HU2.cell (p := ⟨pb, po, none⟩) hpb]; exact HP.out
    have HC := hid (loads12_any x pb po c wr hpr)
    obtain ⟨z, hz⟩ : ∃ z, (x.load == c) = z := ⟨_, rfl⟩
    rw [hz] at HC hd
    have HD := hid hd
    have k1 : (k : Int) < (n : Int) := by omega
    have k0 : (0 : Int) ≤ (k : Int) := by omega
    clear hd hz hx hpr HU2
    unfold robA at HC
    cases z
    · go_wp2_with fail
      go_at_call 286; refine HC.out.mono ?_; rintro e w3 ⟨rfl, hu3⟩
      have HU3 := hid (HU.out.trans (hu3.mono HU.out.size))
      clear hu3
      go_wp2_with fail
      go_roundw
      case rel => exact ⟨k + 1, by omega, by go_num, hid (by have := HD.out; rw [Bool.false_or] at this; exact this.symm), HU3⟩
      case measure => simp [intOf]; omega
    · go_wp2_with fail
      go_at_call 286; refine HC.out.mono ?_; rintro e w3 ⟨rfl, hu3⟩
      have HU3 := hid (HU.out.trans (hu3.mono HU.out.size))
      clear hu3
      go_wp2_with fail
      go_ret
      exact ⟨⟨(k : Int), rfl, by omega, by omega, by rw [HD.out, Bool.true_or]; simp⟩, HU3.out⟩
  · have HF : Hid (false = R) := hid (by
     rw [← HK.out, List.drop_eq_nil_of_le (by rw [HN.out]; omega)]; rfl)
    go_wp2_with fail
    go_ret
    exact ⟨⟨-1, rfl, by omega, by omega, by rw [← HF.out]; rfl⟩, HU.out⟩
theorem Carried_any (s : Bd.State) (sv rv pv dv kv : Value) (i : Nat) (w : World) (h : StV w sv rv pv dv kv s) :
 Calls Tryz.prog 245 #[stV s sv rv pv dv kv, .int .i64 (i : Int)] w (CarPost (Bd.carried s i) w) := by
 obtain ⟨a1, c1, a2, c2, a3, c3, a4, c4, a5, c5, rfl, rfl, rfl, rfl, rfl, m1, m2, m3, m4, m5⟩ := h.open
 have HR := hid h.ro
 unfold stV
 obtain ⟨n1, e1⟩ : ∃ n, s.shelves.length = n := ⟨_, rfl⟩
 obtain ⟨n2, e2⟩ : ∃ n, s.robots.length = n := ⟨_, rfl⟩
 obtain ⟨n3, e3⟩ : ∃ n, s.people.length = n := ⟨_, rfl⟩
 obtain ⟨n4, e4⟩ : ∃ n, s.dead.length = n := ⟨_, rfl⟩
 obtain ⟨n5, e5⟩ : ∃ n, s.stuck.length = n := ⟨_, rfl⟩
 rw [e1, e2, e3, e4, e5]
 rw [e2] at HR
 have HB := hid (al2 w (.cells #[.int .i64 s.tick, .slice a1 n1 c1, .slice a2 n2 c2, .slice a3 n3 c3, .slice a4 n4 c4, .slice a5 n5 c5] 58) (.cells #[.int .i64 (i : Int)] 3))
 have HI := hid (fun W (hw : Below w.heap.size w W) hp => indexR12_any (.slice a2 n2 c2) s.robots (w.heap.size + 1) 0 (i : Int) W (HR.out.keep hw) hp)
 have HC : Hid (Bd.carried s i = s.robots.any fun x => x.load == (i : Int)) := hid rfl
 obtain ⟨R, hR⟩ : ∃ R, Bd.carried s i = R := ⟨_, rfl⟩
 rw [hR] at HC ⊢
 clear e1 e2 e3 e4 e5 h m1 m2 m3 m4 m5 hR
 unfold CarPost
 go_enter Tryz.func245, Tryz.ntmps245
 go_wp2_with fail
 go_at_call 190; refine (HI.out _ HB.out.2.2.1 (cell_of_heap HB.out.2.1 0 rfl)).mono ?_; rintro e w3 ⟨⟨r, rfl, hr1, hr2, hr3⟩, hu⟩
 have H3 := hid hr3
 have HB3 := hid (HB.out.2.2.1.trans (hu.mono HB.out.2.2.1.size))
 clear hr3 hu
 go_wp2_with fail
 go_ret
 exact ⟨⟨r, rfl, hr1, hr2, by rw [H3.out]; exact HC.out.symm⟩, HB3.out⟩
end Go.Proofs.YtfcbcpfnaadpeaaGreatDoor
