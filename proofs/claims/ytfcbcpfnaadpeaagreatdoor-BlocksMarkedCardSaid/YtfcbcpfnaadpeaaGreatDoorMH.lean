/- Parts Zo, Bn, Bo, Bp of this claim, laid one behind the other: walks and the plain laws behind them; each contract states its own conditions. -/
import Derived.Test.YtfcbcpfnaadpeaaGreatDoorMG
import Derived.Test.YtfcbcpfnaadpeaaGreatDoorShelf
namespace Go.Proofs.YtfcbcpfnaadpeaaGreatDoor
set_option maxRecDepth 100000
set_option maxHeartbeats 64000000
set_option linter.unusedSimpArgs false
set_option linter.unusedVariables false
open Go.RowKit
def ZnS (zs : List Si.Zone) : Prop := ∀ z ∈ zs, z.cells.Pairwise (· < ·) ∧ z.cells.length ≤ 100000
theorem search_any (v : Value) (l : List Int) (c : Int) (w : World) (h : Is w v l) (hs : l.Pairwise (· < ·)) (hl : l.length ≤ 100000) :
 Calls Tryz.prog 179 #[v, .int .i64 c] w fun e w' => (∃ p : Nat, e = .returned (.tuple #[.int .i64 p, .bool (decide (c ∈ l))])) ∧ Below w.heap.size w w' := by
 obtain ⟨a, cap, rfl, hm⟩ := h.form
 by_cases h0 : l.length = 0
 · have e : l = [] := List.eq_nil_of_length_eq_zero h0
   subst e
   refine (Tryz.slices_BinarySearch_int_empty a cap c w).mono ?_
   rintro e w' ⟨rfl, rfl⟩
   exact ⟨⟨0, by simp⟩, Below.refl _ _⟩
 · obtain ⟨b, off, rfl, -⟩ := h.cell 0 (by omega)
   refine (Tryz.slices_BinarySearch_int b off l.length cap l c w (Nat.le_refl _) (by omega) (fun j hj => ?_) ?_).mono ?_
   · obtain ⟨b2, off2, e, hc⟩ := h.cell j hj
     cases e
     rw [hc]; simp [List.getD, hj]
   · rw [List.take_length]; exact hs.imp (fun h => Int.le_of_lt h)
   · rintro e w' ⟨rfl, q, rfl⟩
     refine ⟨⟨_, by rw [List.take_length, List.contains_eq_mem]⟩, below_drewN _ _ _⟩
theorem zone1_any (z : Si.Zone) (u1 u2 : Value) (B : Nat) (c : Int) (w : World) (hB : w.heap[B]? = some (.cells #[.int .i64 c] 3 (0, 0))) (h1 : Is w u1 z.cells) (h2 : ShV w u2 z.shut) (hs : z.cells.Pairwise (· < ·)) (hl : z.cells.length ≤ 100000) :
 Calls Tryz.prog 178 #[.agg #[.string ⟨z.name.toArray⟩, u1, .int .i64 z.speed, .int .i64 z.keep, u2], .pointer (some ⟨B, 0, none⟩)] w fun e w' => e = .returned (.bool (decide (c ∈ z.cells))) ∧ Below w.heap.size w w' := by
 obtain ⟨a, cap, rfl, hm⟩ := h1.form
 obtain ⟨a2, cap2, rfl, -⟩ := two_form h2
 have hBl := heap_lt hB
 have B1 := hid ((Below.refl _ w).alloc (Nat.le_refl _) (.cells #[.string ⟨z.name.toArray⟩, .slice a z.cells.length cap, .int .i64 z.speed, .int .i64 z.keep, .slice a2 z.shut.length cap2] 80))
 have HC := hid (search_any _ z.cells c _ (h1.keep B1.out) hs hl)
 obtain ⟨D, hD⟩ : ∃ D, decide (c ∈ z.cells) = D := ⟨_, rfl⟩
 rw [hD] at HC ⊢
 have c0 : w.cell? ⟨B, 0, none⟩ = some (.int .i64 c) := cell_of_heap hB 0 rfl
 obtain ⟨n, hn⟩ : ∃ n, z.cells.length = n := ⟨_, rfl⟩
 obtain ⟨m, hmm⟩ : ∃ n, z.shut.length = n := ⟨_, rfl⟩
 rw [hn, hmm] at HC B1 ⊢
 clear hB h1 h2 hs hl hD hm hn hmm
 go_enter Tryz.func178, Tryz.ntmps178
 go_wp2_with fail
 go_at_call 179; refine HC.out.mono ?_; rintro e w1 ⟨⟨p, rfl⟩, b1⟩
 have B2 := hid (B1.out.trans (b1.mono B1.out.size))
 clear b1
 go_wp2_with fail
 go_ret
 exact ⟨rfl, B2.out⟩
theorem drop_zone (zs : List Si.Zone) (c : Int) (k : Nat) (h : k < zs.length) : Si.zoneIdx (zs.drop k) c = if c ∈ zs[k].cells then some 0 else (Si.zoneIdx (zs.drop (k + 1)) c).map (· + 1) := by
 rw [List.drop_eq_getElem_cons h, Si.zoneIdx]
def zoneFrom (zs : List Si.Zone) (c : Int) (k : Nat) : Int := match Si.zoneIdx (zs.drop k) c with
 | some j => (k + j : Nat)
 | none => -1
theorem zoneFrom_zero (zs : List Si.Zone) (c : Int) : zoneFrom zs c 0 = Si.zoneOf zs c := by
 unfold zoneFrom Si.zoneOf
 rw [List.drop_zero]
 cases Si.zoneIdx zs c with
 | none => rfl
 | some j => simp
theorem zoneFrom_hit (zs : List Si.Zone) (c : Int) (k : Nat) (h : k < zs.length) (hc : c ∈ zs[k].cells) : zoneFrom zs c k = (k : Int) := by
 unfold zoneFrom; rw [drop_zone zs c k h, if_pos hc]; rfl
theorem zoneFrom_miss (zs : List Si.Zone) (c : Int) (k : Nat) (h : k < zs.length) (hc : c ∉ zs[k].cells) : zoneFrom zs c k = zoneFrom zs c (k + 1) := by
 unfold zoneFrom; rw [drop_zone zs c k h, if_neg hc]
 cases Si.zoneIdx (zs.drop (k + 1)) c with
 | none => rfl
 | some j => simp only [Option.map_some]; congr 1; omega
theorem zoneFrom_end (zs : List Si.Zone) (c : Int) : zoneFrom zs c zs.length = -1 := by
 unfold zoneFrom; rw [List.drop_length]; rfl
theorem zoneIdx_any (v : Value) (zs : List Si.Zone) (B : Nat) (c : Int) (w : World) (hB : w.heap[B]? = some (.cells #[.int .i64 c] 3 (0, 0))) (hz : ZnV w v zs) (hs : ZnS zs) :
 Calls Tryz.prog 177 #[v, .func (.func 178) #[] #[.pointer (some ⟨B, 0, none⟩)]] w fun e w' => e = .returned (.int .i64 (Si.zoneOf zs c)) ∧ Below w.heap.size w w' := by
 obtain ⟨a, cap, rfl, hm⟩ := hz.form
 obtain ⟨G, hG⟩ : ∃ G, G = Si.zoneOf zs c := ⟨_, rfl⟩
 have HG0 : Hid (G = zoneFrom zs c 0) := hid (by rw [zoneFrom_zero]; exact hG)
 rw [← hG]
 obtain ⟨n, hn⟩ : ∃ n, zs.length = n := ⟨_, rfl⟩
 rw [hn] at hz hm ⊢
 have HN := hid hn
 have HZ := hid hz
 have HS := hid hs
 have HB := hid hB
 clear hG hn hz hs hB
 go_enter Tryz.func177, Tryz.ntmps177
 go_wp2_with fail
 go_loopw [8] (fun iv wr => ∃ k : Nat, k ≤ n ∧ iv = .int .i64 k ∧ Hid (G = zoneFrom zs c k) ∧ Hid (Below w.heap.size w wr)) (fun iv _ => n - (intOf iv).toNat)
 case atStart => exact ⟨0, by omega, rfl, HG0, hid (Below.refl _ _)⟩
 case round =>
  obtain ⟨k, hk, rfl, HR, HBW⟩ := hrel
  by_cases hkn : k < n
  · have hku : k < zs.length := by rw [HN.out]; exact hkn
    obtain ⟨b, off, u1, u2, e1, hb, hu1, hu2, p0, p1, p2, p3, p4⟩ := (HZ.out.keep HBW.out).cell k hku
    subst e1
    obtain ⟨hsr, hlr⟩ := HS.out _ (List.getElem_mem hku)
    have kI0 : (0 : Int) ≤ (k : Int) := by omega
    have kI1 : (k : Int) < (n : Int) := by omega
    have HC := hid (zone1_any zs[k] u1 u2 B c wr (keep_heap HB.out HBW.out) hu1 hu2 hsr hlr)
    have HH := hid (fun h => zoneFrom_hit zs c k hku h)
    have HMM := hid (fun h => zoneFrom_miss zs c k hku h)
    obtain ⟨a1, c1, rfl, -⟩ := hu1.form
    obtain ⟨a2, c2, rfl, -⟩ := two_form hu2
    obtain ⟨z, hzk⟩ : ∃ z, zs[k] = z := ⟨_, rfl⟩
    rw [hzk] at p0 p1 p2 p3 p4 HC HH HMM
    obtain ⟨l1, hl1⟩ : ∃ n, z.cells.length = n := ⟨_, rfl⟩
    obtain ⟨l2, hl2⟩ : ∃ n, z.shut.length = n := ⟨_, rfl⟩
    rw [hl1] at p1 HC
    rw [hl2] at p4 HC
    clear hu1 hu2 hzk hl1 hl2 hsr hlr
    by_cases hc : c ∈ z.cells
    · have HS2 : Hid (G = (k : Int)) := hid (by rw [HR.out]; exact HH.out hc)
      have HD : Hid (decide (c ∈ z.cells) = true) := hid (decide_eq_true hc)
      clear hc
      go_wp2_with fail
      go_at_call 178; refine HC.out.mono ?_; rintro e w2 ⟨rfl, b2⟩; rw [HD.out]
      have HB2 := hid (HBW.out.trans (b2.mono HBW.out.size))
      clear b2
      go_wp2_with fail
      go_ret
      exact ⟨by rw [HS2.out]; rfl, HB2.out⟩
    · have HS2 : Hid (G = zoneFrom zs c (k + 1)) := hid (by rw [HR.out]; exact HMM.out hc)
      have HD : Hid (decide (c ∈ z.cells) = false) := hid (decide_eq_false hc)
      clear hc
      go_wp2_with fail
      go_at_call 178; refine HC.out.mono ?_; rintro e w2 ⟨rfl, b2⟩; rw [HD.out]
      have HB2 := hid (HBW.out.trans (b2.mono HBW.out.size))
      clear b2
      go_wp2_with fail
      go_roundw
      case rel => exact ⟨k + 1, by omega, by go_num, HS2, HB2⟩
      case measure => simp [intOf]; omega
  · obtain rfl : k = n := by omega
    have HS2 : Hid (G = -1) := hid (by rw [HR.out, ← HN.out]; exact zoneFrom_end zs c)
    go_wp2_with fail
    go_ret
    exact ⟨by rw [HS2.out]; rfl, HBW.out⟩
theorem ZoneOf_any (s : Si.Site) (kv ov zv av sv rv : Value) (c : Int) (w : World) (h : SiV w kv ov zv av sv rv s) (hs : ZnS s.zones) :
 Calls Tryz.prog 100 #[siV s kv ov zv av sv rv, .int .i64 c] w fun e w' => e = .returned (.int .i64 (Si.zoneOf s.zones c)) ∧ Below w.heap.size w w' := by
 obtain ⟨a1, c1, rfl, m1⟩ := h.fl.kind.form
 obtain ⟨a2, c2, rfl, m2⟩ := h.fl.out.form
 obtain ⟨a3, c3, rfl, m3⟩ := h.zn.form
 obtain ⟨a4, c4, rfl, m4⟩ := two_form h.ap
 obtain ⟨a5, c5, rfl, m5⟩ := two_form h.sf
 obtain ⟨a6, c6, rfl, m6⟩ := two_form h.rb
 unfold siV
 have hz := h.zn
 obtain ⟨l1, e1⟩ : ∃ n, s.floor.kind.length = n := ⟨_, rfl⟩
 obtain ⟨l2, e2⟩ : ∃ n, s.floor.out.length = n := ⟨_, rfl⟩
 obtain ⟨l3, e3⟩ : ∃ n, s.zones.length = n := ⟨_, rfl⟩
 obtain ⟨l4, e4⟩ : ∃ n, s.aparts.length = n := ⟨_, rfl⟩
 obtain ⟨l5, e5⟩ : ∃ n, s.shelves.length = n := ⟨_, rfl⟩
 obtain ⟨l6, e6⟩ : ∃ n, s.robots.length = n := ⟨_, rfl⟩
 rw [e3] at hz
 rw [e1, e2, e3, e4, e5, e6]
 have B1 := hid (((Below.refl _ w).alloc (Nat.le_refl _) (.cells #[.int .i64 s.floor.w, .int .i64 s.floor.h, .int .i64 s.floor.d, .slice a1 l1 c1, .slice a2 l2 c2, .slice a3 l3 c3, .slice a4 l4 c4, .slice a5 l5 c5, .slice a6 l6 c6] 30)).alloc (by simp) (.cells #[.int .i64 c] 3))
 have HC := hid (zoneIdx_any _ s.zones (w.heap.size + 1) c _ (heap_two3 w _ _) (hz.keep B1.out) hs)
 obtain ⟨G, hG⟩ : ∃ G, Si.zoneOf s.zones c = G := ⟨_, rfl⟩
 rw [hG] at HC ⊢
 clear h hz hs e1 e2 e3 e4 e5 e6 hG
 go_enter Tryz.func100, Tryz.ntmps100
 go_wp2_with fail
 go_at_call 177; refine HC.out.mono ?_; rintro e w1 ⟨rfl, b1⟩
 have B2 := hid (B1.out.trans (b1.mono B1.out.size))
 clear b1
 go_wp2_with fail
 go_ret
 exact ⟨rfl, B2.out⟩
theorem next1_any (c : Nat) (l : List Int) (g B n : Nat) (w : World) (hB : w.heap[B]? = some (.cells #[.slice (some ⟨g, 0, none⟩) n n] 22 (0, 0))) (hg : w.heap[g]? = some (.cells (ints l).toArray 3 (0, 0))) (hn : n = l.length) (hc : c < l.length) :
 Calls Tryz.prog 150 #[.int .i64 c, .pointer (some ⟨B, 0, none⟩)] w fun e w' => e = .returned (.bool (decide (0 ≤ l.getD c (-1)))) ∧ w = w' := by
 have c0 : w.cell? ⟨B, 0, none⟩ = some (.slice (some ⟨g, 0, none⟩) n n) := cell_of_heap hB 0 rfl
 have c1 : w.cell? ⟨g, c, none⟩ = some (.int .i64 l[c]) := cell_of_heap hg c (by simp [ints, hc])
 have hv : l.getD c (-1) = l[c] := getD_lt _ _ _ hc
 rw [hv]
 obtain ⟨v, hv2⟩ : ∃ v, v = l[c] := ⟨_, rfl⟩
 rw [← hv2] at c1 ⊢
 have n0 : (0 : Int) ≤ (c : Int) := by omega
 have n1 : (c : Int) < (n : Int) := by omega
 clear hB hg hn hv hv2 hc
 go_enter Tryz.func150, Tryz.ntmps150
 go_wp2_with fail
 go_ret
 exact ⟨rfl, rfl⟩
theorem nextAny (v : Value) (cs : List Int) (l : List Int) (g B n : Nat) (w : World) (hB : w.heap[B]? = some (.cells #[.slice (some ⟨g, 0, none⟩) n n] 22 (0, 0))) (hg : w.heap[g]? = some (.cells (ints l).toArray 3 (0, 0))) (hn : n = l.length) (hv : Is w v cs)
 (hc : ∀ c ∈ cs, 0 ≤ c ∧ c.toNat < l.length) :
 Calls Tryz.prog 137 #[v, .func (.func 150) #[] #[.pointer (some ⟨B, 0, none⟩)]] w fun e w' => e = .returned (.bool (cs.any fun c => decide (0 ≤ l.getD c.toNat (-1)))) ∧ Below w.heap.size w w' := by
 obtain ⟨a, cap, rfl, hm⟩ := hv.form
 cases cs with
 | nil =>
  refine (Tryz.slices_ContainsFunc_empty_f137 (α := Int) a cap _ w).mono ?_
  rintro e w' ⟨rfl, rfl⟩
  exact ⟨rfl, Below.refl _ _⟩
 | cons c0 cs0 =>
  obtain ⟨cs, hcs⟩ : ∃ cs, cs = c0 :: cs0 := ⟨_, rfl⟩
  rw [← hcs] at hv hm hc ⊢
  have h0 : 0 < cs.length := by rw [hcs]; simp
  have hL : 0 < l.length := by have := (hc c0 (by rw [hcs]; exact List.mem_cons_self ..)).2; omega
  obtain ⟨b, off, rfl, -⟩ := hv.cell 0 h0
  have eg : ∀ args w, (callFunc 150 args).run Tryz.prog w = .ok (.enter 150 args) w := enters_of Tryz.func150 (by kernel_rfl) rfl
  haveI : Inhabited (Fin l.length) := ⟨⟨0, hL⟩⟩
  have hcell : ∀ j, j < cs.length → ∃ hj : j < cs.length, 0 ≤ cs[j] ∧ cs[j].toNat < l.length := fun j hj => ⟨hj, hc _ (List.getElem_mem hj)⟩
  obtain ⟨zs, hzl, hz⟩ : ∃ zs : List (Fin l.length), zs.length = cs.length ∧ ∀ j (h : j < zs.length) (h' : j < cs.length), ((zs[j].1 : Nat) : Int) = cs[j] := by
   refine ⟨cs.map fun c => if h : c.toNat < l.length then ⟨c.toNat, h⟩ else ⟨0, hL⟩, by simp, fun j h h' => ?_⟩
   obtain ⟨_, h1, h2⟩ := hcell j h'
   rw [List.getElem_map, dif_pos h2]
   show ((cs[j].toNat : Nat) : Int) = cs[j]
   omega
  refine (Tryz.slices_ContainsFunc_f137 (α := Fin l.length) (fun i => .int .i64 (i.1 : Nat)) (fun i => decide (0 ≤ l.getD i.1 (-1))) 150 #[.pointer (some ⟨B, 0, none⟩)] eg b off cs.length cap zs w
   (fun W x hb => (next1_any x.1 l g B n W (keep_heap hB hb) (keep_heap hg hb) hn x.2).mono fun e w' ⟨h1, h2⟩ => ⟨h1, 0, by rw [← h2]; rfl⟩) (by omega) hm (fun j hj => ?_)).mono ?_
  · obtain ⟨b2, off2, e, hce⟩ := hv.cell j (by omega)
    cases e
    rw [hce, getElem!_pos zs j hj, ← hz j hj (by omega)]
  · rintro e w' ⟨rfl, q, rfl⟩
    refine ⟨?_, below_drewN _ _ _⟩
    congr 2
    rw [List.take_of_length_le (by omega), Bool.eq_iff_iff, List.any_eq_true, List.any_eq_true]
    constructor
    · rintro ⟨x, hx, hp⟩
      obtain ⟨j, hj, rfl⟩ := List.getElem_of_mem hx
      refine ⟨cs[j]'(by omega), List.getElem_mem _, ?_⟩
      rw [← hz j hj (by omega)]; simpa using hp
    · rintro ⟨c, hc, hp⟩
      obtain ⟨j, hj, rfl⟩ := List.getElem_of_mem hc
      refine ⟨zs[j]'(by omega), List.getElem_mem _, ?_⟩
      rw [← hz j (by omega) hj] at hp; simpa using hp
theorem ints_append (l m : List Int) : ints (l ++ m) = ints l ++ ints m := by simp [ints]
theorem next_any (s : Si.Site) (kv ov zv av sv rv : Value) (a b : Nat) (w : World) (h : SiV w kv ov zv av sv rv s) (hk : Si.Ok s) (ha : a < s.zones.length) (hb : b < s.zones.length) :
 Calls Tryz.prog 68 #[siV s kv ov zv av sv rv, .int .i64 a, .int .i64 b] w fun e w' => e = .returned (.bool (Si.nextZ s a b)) ∧ Below w.heap.size w w' := by
 obtain ⟨a1, c1, a2, c2, a3, c3, a4, c4, a5, c5, a6, c6, rfl, rfl, rfl, rfl, rfl, rfl, m1, m2, m3, m4, m5, m6⟩ := h.open
 obtain ⟨l1, e1⟩ : ∃ n, s.floor.kind.length = n := ⟨_, rfl⟩
 obtain ⟨l3, e3⟩ : ∃ n, s.zones.length = n := ⟨_, rfl⟩
 obtain ⟨l4, e4⟩ : ∃ n, s.aparts.length = n := ⟨_, rfl⟩
 obtain ⟨l5, e5⟩ : ∃ n, s.shelves.length = n := ⟨_, rfl⟩
 obtain ⟨l6, e6⟩ : ∃ n, s.robots.length = n := ⟨_, rfl⟩
 have hzn := hk.zn
 obtain ⟨R, hR⟩ : ∃ R, Si.nextZ s a b = R := ⟨_, rfl⟩
 rw [hR]
 have HRR := hid hR
 clear hR
 unfold siV
 rw [hk.fl.ol, e1, e3, e4, e5, e6] at h ⊢
 rw [e3] at ha hb m3 hzn
 have HV := hid h
 have HK := hid hk
 have E3 := hid e3
 have E1 := hid e1
 obtain ⟨w1, hw1⟩ : ∃ w1, w1 = w.alloc (.cells #[.int .i64 s.floor.w, .int .i64 s.floor.h, .int .i64 s.floor.d, .slice a1 l1 c1, .slice a2 l1 c2, .slice a3 l3 c3, .slice a4 l4 c4, .slice a5 l5 c5, .slice a6 l6 c6] 30) := ⟨_, rfl⟩
 have B1 : Hid (Below w.heap.size w w1) := hid (by rw [hw1]; exact (Below.refl _ w).alloc (Nat.le_refl _) _)
 have I1 : Hid (w1.heap[w.heap.size]? = some (.cells #[.int .i64 s.floor.w, .int .i64 s.floor.h, .int .i64 s.floor.d, .slice a1 l1 c1, .slice a2 l1 c2, .slice a3 l3 c3, .slice a4 l4 c4, .slice a5 l5 c5, .slice a6 l6 c6] 30 (0, 0))) := hid (by rw [hw1]; exact heap_alloc_new _ _)
 have HW1 := hid hw1
 have s1 : w.heap.size < w1.heap.size := heap_lt I1.out
 have p5 : w1.cell? ⟨w.heap.size, 5, none⟩ = some (.slice a3 l3 c3) := cell_of_heap I1.out 5 rfl
 have H0 : Hid (w1.ownsRow w1.heap.size 3 1 (.slice none 0 0) (Si.others a b 0 (s.zones.take 0)).length (ints (Si.others a b 0 (s.zones.take 0)))) := hid (by
  rw [List.take_zero]; exact World.ownsRow_nil w1 w1.heap.size 3 1)
 have a0 : (0 : Int) ≤ (a : Int) := by omega
 have a9 : (a : Int) < (l3 : Int) := by omega
 have b0 : (0 : Int) ≤ (b : Int) := by omega
 have b9 : (b : Int) < (l3 : Int) := by omega
 clear h hk e1 e3 e4 e5 e6 hw1
 go_enter Tryz.func68, Tryz.ntmps68
 go_wp2_with fail
 rw [← HW1.out]
 go_loopw [14, 7] (fun iv vv wr => ∃ k : Nat, k ≤ l3 ∧ iv = .int .i64 k ∧ Hid (wr.ownsRow w1.heap.size 3 1 vv (Si.others a b 0 (s.zones.take k)).length (ints (Si.others a b 0 (s.zones.take k)))) ∧ Hid (Below w1.heap.size w1 wr)) (fun iv _ _ => l3 - (intOf iv).toNat)
 case atStart => exact ⟨0, by omega, rfl, H0, hid (Below.refl _ _)⟩
 case round =>
  obtain ⟨k, hkl, rfl, HO, HB⟩ := hrel
  by_cases hkn : k < l3
  · have hku : k < s.zones.length := by rw [E3.out]; exact hkn
    have BT := hid (B1.out.trans (HB.out.mono B1.out.size))
    obtain ⟨zb, zo, u1, u2, e1, hzb, hu1, hu2, q0, q1, q2, q3, q4⟩ := (HV.out.zn.keep BT.out).cell k hku
    subst e1
    have hlr := (HK.out.zs _ (List.getElem_mem hku)).2
    have kI0 : (0 : Int) ≤ (k : Int) := by omega
    have kI1 : (k : Int) < (l3 : Int) := by omega
    obtain ⟨z1, d1, rfl, -⟩ := hu1.form
    obtain ⟨z2, d2, rfl, -⟩ := two_form hu2
    obtain ⟨Z, hZ⟩ : ∃ Z, s.zones[k] = Z := ⟨_, rfl⟩
    rw [hZ] at q0 q1 q2 q3 q4 hu1 hlr
    obtain ⟨y1, hy1⟩ : ∃ n, Z.cells.length = n := ⟨_, rfl⟩
    obtain ⟨y2, hy2⟩ : ∃ n, Z.shut.length = n := ⟨_, rfl⟩
    rw [hy1] at q1 hu1 hlr
    rw [hy2] at q4
    have HZ := hid hZ
    have HU := hid hu1
    have HY := hid hy1
    clear hZ hu1 hu2 hy1 hy2
    by_cases hka : k = a
    · have t1 : ((k : Int) != (a : Int)) = false := by simp [hka]
      have HST : Hid (Si.others a b 0 (s.zones.take (k + 1)) = Si.others a b 0 (s.zones.take k)) := hid (by rw [Si.others_step a b s.zones 0 k hku, if_neg (by omega), List.append_nil])
      clear hka
      go_wp2_with fail
      go_roundw
      case rel => exact ⟨k + 1, by omega, by go_num, hid (by rw [HST.out]; exact World.ownsRow.alloc HO.out _), hid (HB.out.alloc HB.out.size _)⟩
      case measure => simp [intOf]; omega
    by_cases hkb : k = b
    · have t1 : ((k : Int) != (a : Int)) = true := by simp; omega
      have t2 : ((k : Int) != (b : Int)) = false := by simp [hkb]
      have HST : Hid (Si.others a b 0 (s.zones.take (k + 1)) = Si.others a b 0 (s.zones.take k)) := hid (by rw [Si.others_step a b s.zones 0 k hku, if_neg (by omega), List.append_nil])
      clear hka hkb
      go_wp2_with fail
      go_roundw
      case rel => exact ⟨k + 1, by omega, by go_num, hid (by rw [HST.out]; exact World.ownsRow.alloc HO.out _), hid (HB.out.alloc HB.out.size _)⟩
      case measure => simp [intOf]; omega
    have t1 : ((k : Int) != (a : Int)) = true := by simp; omega
    have t2 : ((k : Int) != (b : Int)) = true := by simp; omega
    have HST : Hid (Si.others a b 0 (s.zones.take (k + 1)) = Si.others a b 0 (s.zones.take k) ++ Z.cells) := hid (by rw [Si.others_step a b s.zones 0 k hku, if_pos (by omega), HZ.out])
    have hol := Si.others_len a b 100000 (s.zones.take k) 0 (fun z hz => (HK.out.zs z (List.mem_of_mem_take hz)).2)
    rw [List.length_take] at hol
    obtain ⟨y3, hy3⟩ : ∃ n, (Si.others a b 0 (s.zones.take k)).length = n := ⟨_, rfl⟩
    have hy4 : y3 ≤ 6400000 := by rw [← hy3]; have := Nat.min_le_left k s.zones.length; have := Nat.mul_le_mul_right 100000 this; omega
    rw [hy3] at HO
    have HY3 := hid hy3
    clear hy3 hol
    have hwz := HB.out.size
    go_wp2_with (at_builtin; refine wpList_append_sl rfl (.tmp 27) (.tmp 29) 22 rfl w1.heap.size 3 (.int .i64 0) 8 Tryz.underlying22 Tryz.intInfo rfl u7 y3 (ints (Si.others a b 0 (s.zones.take k))) rfl (World.ownsRow.alloc HO.out _) (.slice z1 y1 d1) (ints Z.cells) rfl (HU.out.keep ((Below.refl _ _).alloc (Nat.le_refl _) _)) ?c1 ?c2 ?c3 ?c4 ?_)
    case c1 => intro u hu; obtain ⟨x, -, rfl⟩ := List.mem_map.1 hu; rfl
    case c2 => rw [ints_len, HY.out]; unfold maxLen; omega
    case c3 => rw [ints_len, HY.out]; omega
    case c4 => simp; omega
    intro v' w' ho' hg'
    have HO2 := hid ho'
    have HG2 := hid hg'
    clear ho' hg'
    go_wp2_with fail
    go_roundw
    case rel =>
     refine ⟨k + 1, by omega, by go_num, hid ?_, hid ((HB.out.alloc hwz _).trans (below_own (World.ownsRow.alloc HO.out _) HG2.out (Nat.le_refl _) (by simp; omega)))⟩
     rw [HST.out, ints_append, List.length_append, HY3.out]
     have := HO2.out
     rw [ints_len] at this
     exact this
    case measure => simp [intOf]; omega
  · obtain rfl : k = l3 := by omega
    have BT := hid (B1.out.trans (HB.out.mono B1.out.size))
    have haz : a < s.zones.length := by rw [E3.out]; exact ha
    have hbz : b < s.zones.length := by rw [E3.out]; exact hb
    obtain ⟨zb, zo, u1, u2, e1, hzb, hu1, hu2, q0, q1, q2, q3, q4⟩ := (HV.out.zn.keep BT.out).cell a haz
    obtain ⟨xb, xo, x1, x2, e2, hxb, hx1, hx2, r0, r1, r2, r3, r4⟩ := (HV.out.zn.keep BT.out).cell b hbz
    subst e1
    injection e2 with e2
    injection e2 with e2 e4
    subst e2 e4
    obtain ⟨oa, oc, rfl, hon⟩ := own_slice HO.out
    have HAV : Hid (Is wr (.slice oa (Si.others a b 0 (s.zones.take k)).length oc) (Si.others a b 0 s.zones)) := hid (by
     have := Sl.of_own HO.out (own_max HO.out)
     rw [List.take_of_length_le (by rw [E3.out]; omega)] at this ⊢
     exact this)
    have HFL := hid (HV.out.fl.keep BT.out)
    have HU := hid hu1
    have HX := hid hx1
    have HCA : Hid (Si.cellsOf s a = s.zones[a].cells) := hid (Si.cellsOf_eq haz)
    have HFAR : Hid (Si.far s a b = Fl.dist s.floor s.zones[a].cells (Si.others a b 0 s.zones)) := hid (by unfold Si.far; rw [HCA.out])
    have HCB : Hid (Si.cellsOf s b = s.zones[b].cells) := hid (Si.cellsOf_eq hbz)
    obtain ⟨z1, d1, rfl, -⟩ := hu1.form
    obtain ⟨z2, d2, rfl, -⟩ := hx1.form
    have i1 := keep_heap I1.out HB.out
    obtain ⟨p0, p1, p2, p3, p4, p5, -⟩ := cells9 i1
    have lw : w.heap.size < wr.heap.size := heap_lt i1
    obtain ⟨y1, hy1⟩ : ∃ n, s.zones[a].cells.length = n := ⟨_, rfl⟩
    obtain ⟨y2, hy2⟩ : ∃ n, s.zones[b].cells.length = n := ⟨_, rfl⟩
    obtain ⟨y3, hy3⟩ : ∃ n, (Si.others a b 0 (s.zones.take k)).length = n := ⟨_, rfl⟩
    rw [hy1] at q1 HU
    rw [hy2] at r1 HX
    rw [hy3] at HAV HO
    rw [hy3]
    have BD : Hid (Below wr.heap.size wr wr.drew) := hid ((Below.refl _ wr).drew)
    have BE : Hid (Below wr.heap.size wr (wr.alloc (.cells #[.slice none 0 0] 22)).drew) := hid (((Below.refl _ wr).alloc (Nat.le_refl _) _).drew)
    have ZA : Hid ((wr.alloc (.cells #[.slice none 0 0] 22)).drew.heap[wr.heap.size]? = some (.cells #[.slice none 0 0] 22 (0, 0))) := hid (heap_alloc_new wr _)
    have HFR := hid HK.out.fl
    obtain ⟨wo, rfl⟩ : ∃ wo : World, wo = wr := ⟨_, rfl⟩
    have ne1 : wo.heap.size ≠ w.heap.size := by omega
    have ne2 : w.heap.size ≠ wo.heap.size := by omega
    have ne3 : wo.heap.size ≠ zb := by omega
    have ne4 : zb ≠ wo.heap.size := by omega
    clear hu1 hu2 hx1 hx2 i1 q0 q2 q3 q4 r0 r2 r3 r4 hy1 hy2 hy3 hon
    go_upto_region 8 with fail
    go_cut [10] (fun v wx => ∃ bb g n, v = .pointer (some ⟨bb, 0, none⟩) ∧ Hid (wx.heap[bb]? = some (.cells #[.slice (some ⟨g, 0, none⟩) n n] 22 (0, 0))) ∧ Hid (wx.heap[g]? = some (.cells (ints (Si.far s a b)).toArray 3 (0, 0))) ∧ Hid (n = (Si.far s a b).length) ∧ Hid (Below wo.heap.size wo wx))
    case first =>
     go_region_held3 (fun w' => w'.cell? ⟨w.heap.size, 0, none⟩ = some (.int .i64 s.floor.w) ∧ w'.cell? ⟨w.heap.size, 1, none⟩ = some (.int .i64 s.floor.h) ∧ w'.cell? ⟨w.heap.size, 2, none⟩ = some (.int .i64 s.floor.d) ∧ w'.cell? ⟨w.heap.size, 3, none⟩ = some (.slice a1 l1 c1) ∧ w'.cell? ⟨w.heap.size, 4, none⟩ = some (.slice a2 l1 c2) ∧ w'.cell? ⟨w.heap.size, 5, none⟩ = some (.slice (some ⟨zb, zo, none⟩) k c3) ∧ w'.cell? ⟨zb, zo + a * 5 + 1, none⟩ = some (.slice z1 y1 d1)) (go_keep)
      ((go_at_call 148; refine (Dist_any s.floor (.slice a1 l1 c1) (.slice a2 l1 c2) (.slice z1 y1 d1) (.slice oa y3 oc) s.zones[a].cells (Si.others a b 0 s.zones) _ HFR.out (by first | exact HFL.out.keep BD.out | exact HFL.out.keep BE.out) (by first | exact HU.out.keep BD.out | exact HU.out.keep BE.out) (by first | exact HAV.out.keep BD.out | exact HAV.out.keep BE.out)).mono ?_; rintro e w2 ⟨g, n, rfl, hn, hg, hh, hb⟩; have BX : Below wo.heap.size wo w2 := (by first | exact BD.out.trans (hb.mono (by simp)) | exact BE.out.trans (hb.mono (by simp))); have m0 := (BX.cell (p := ⟨w.heap.size, 0, none⟩) lw).trans p0; have m1 := (BX.cell (p := ⟨w.heap.size, 1, none⟩) lw).trans p1; have m2 := (BX.cell (p := ⟨w.heap.size, 2, none⟩) lw).trans p2; have m3 := (BX.cell (p := ⟨w.heap.size, 3, none⟩) lw).trans p3; have m4 := (BX.cell (p := ⟨w.heap.size, 4, none⟩) lw).trans p4; have m5 := (BX.cell (p := ⟨w.heap.size, 5, none⟩) lw).trans p5; have m6 := (BX.cell (p := ⟨zb, zo + a * 5 + 1, none⟩) hzb).trans q1; have HH := hid hh; have HNN := hid hn; have lg := heap_lt hh; first | (have hz := keep_heap ZA.out hb; have z0 := cell_of_heap hz 0 rfl; have z1' := free_of_heap hz 0; have HZ := hid hz; have hgne : g ≠ wo.heap.size := (by simp at hg; omega); clear hz hn hh) | clear hn hh))
     all_goals go_wp2_with fail
     all_goals
      go_meet
      first
       | exact ⟨_, g, n, rfl, hid (heap_alloc_new _ _), hid ((heap_alloc_old _ _ lg).trans (by rw [HFAR.out]; exact HH.out)), hid (by rw [HFAR.out]; exact HNN.out), hid (BX.alloc BX.size _)⟩
       | exact ⟨_, g, n, rfl, hid (set_heap HZ.out 0 _), hid ((heap_setCell_other _ _ g _ hgne).trans (by rw [HFAR.out]; exact HH.out)), hid (by rw [HFAR.out]; exact HNN.out), hid (BX.setCell (Nat.le_refl _) _)⟩
    case rest =>
     obtain ⟨bb, g, n, rfl, HB1, HG1, HN1, HBX⟩ := hcut
     have HC := hid (nextAny (.slice z2 y2 d2) s.zones[b].cells (Si.far s a b) g bb n wc HB1.out HG1.out HN1.out (HX.out.keep HBX.out) (fun c hc => by
      rw [Si.far_len]; exact Si.cell_nat HK.out (List.getElem_mem hbz) hc))
     have HR : Hid ((s.zones[b].cells.any fun c => decide (0 ≤ (Si.far s a b).getD c.toNat (-1))) = Si.nextZ s a b) := hid (by unfold Si.nextZ; rw [HCB.out])
     rw [HR.out, HRR.out] at HC
     have BY := hid (BT.out.trans (HBX.out.mono BT.out.size))
     have k5 : wc.cell? ⟨w.heap.size, 5, none⟩ = some (.slice (some ⟨zb, zo, none⟩) k c3) := (HBX.out.cell (p := ⟨w.heap.size, 5, none⟩) lw).trans p5
     have k6 : wc.cell? ⟨zb, zo + b * 5 + 1, none⟩ = some (.slice z2 y2 d2) := (HBX.out.cell (p := ⟨zb, zo + b * 5 + 1, none⟩) hzb).trans r1
     clear p0 p1 p2 p3 p4 p5 q1 r1
     go_wp2_with fail
     go_at_call 137; refine HC.out.mono ?_; rintro e w3 ⟨rfl, b3⟩
     have B3 := hid (BY.out.trans (b3.mono BY.out.size))
     clear b3
     go_wp2_with fail
     go_ret
     exact ⟨rfl, B3.out⟩
theorem Tryz.intsInfo : (Tryz.prog.info? 22).map (fun i => (i.zero, i.size, i.bytes)) = some (some (.slice none 0 0), 1, 24) := by kernel_rfl
theorem make_lists (n : Nat) (c : Int) (hc : c = (n : Int)) (hn : n ≤ 100000) (w : World) : (Instr.makeSlice 36 (.int .i64 c) (.int .i64 c)).run Tryz.prog w = .ok (.slice (some ⟨w.heap.size, 0, none⟩) n n) (w.alloc (.cells (madeCells #[.slice none 0 0] n) 22)) := by
 subst hc
 obtain ⟨i, hi, hz, hsize, hby⟩ := info_parts Tryz.intsInfo
 have := run_make (P := Tryz.prog) w 36 22 i _ Tryz.underlying36 hi hz .i64 .i64 n n (by omega) (Int.le_refl _) (by rw [hby]; omega) (by omega)
 rw [hsize, Int.toNat_natCast, Nat.mul_one] at this
 exact this
theorem made_lists (n : Nat) : madeCells #[.slice none 0 0] n = (List.replicate n (Value.slice none 0 0)).toArray := by
 apply Array.ext_getElem?
 intro k
 by_cases hk : k < n
 · simp [madeCells, hk, Nat.mod_one]
 · simp [madeCells, hk]
structure LkO (w : World) (g : Nat) (us : List Value) (k : Nat) (p : Nat → List Int) : Prop where
 hg : w.heap[g]? = some (.cells us.toArray 22 (0, 0))
 old : ∀ i, (h : i < us.length) → i < k → w.ownsRow (g + 1) 3 1 us[i] (p i).length (ints (p i))
 new : ∀ i, (h : i < us.length) → k ≤ i → us[i] = .slice none 0 0
structure LkI (w : World) (g c : Nat) (us : List Value) (a : Nat) (p : Nat → List Int) (cur : List Int) : Prop where
 hg : w.heap[g]? = some (.cells us.toArray 22 (0, 0))
 gc : g < c
 cw : c ≤ w.heap.size
 ha : a < us.length
 old : ∀ i, (h : i < us.length) → i < a → w.ownsRow (g + 1) 3 1 us[i] (p i).length (ints (p i)) ∧ ∀ b, us[i].ownBlock = some b → b < c
 new : ∀ i, (h : i < us.length) → a < i → us[i] = .slice none 0 0
 cur : ∃ v, us[a]? = some v ∧ w.ownsRow c 3 1 v cur.length (ints cur)
theorem LkO.start {w : World} {g : Nat} {us : List Value} {k : Nat} {p : Nat → List Int} (h : LkO w g us k p) (hk : k < us.length) : LkI w g w.heap.size us k p [] := by
 refine ⟨h.hg, heap_lt h.hg, Nat.le_refl _, hk, fun i hi hik => ⟨h.old i hi hik, fun b hb => (World.ownsRow.lt (h.old i hi hik) b hb).2⟩, fun i hi hik => h.new i hi (by omega), ⟨.slice none 0 0, ?_, World.ownsRow_nil ..⟩⟩
 rw [List.getElem?_eq_getElem hk, h.new k hk (Nat.le_refl _)]
theorem LkI.done {w : World} {g c : Nat} {us : List Value} {a : Nat} {p : Nat → List Int} {cur : List Int} (h : LkI w g c us a p cur) (hp : p a = cur) : LkO w g us (a + 1) p := by
 have hgc := h.gc
 refine ⟨h.hg, fun i hi hik => ?_, fun i hi hik => h.new i hi (by omega)⟩
 by_cases e : i = a
 · subst e
   obtain ⟨v, h1, h2⟩ := h.cur
   rw [List.getElem?_eq_getElem hi] at h1
   injection h1 with h1
   rw [h1, hp]; exact own_mono h2 (by omega)
 · exact (h.old i hi (by omega)).1
theorem own_below {w W : World} {base : Nat} {e : TypeId} {sz : Nat} {v : Value} {n : Nat} {xs : List Value} (h : w.ownsRow base e sz v n xs) (hb : Below w.heap.size w W) : W.ownsRow base e sz v n xs :=
 World.ownsRow.kept (row := none) h ⟨hb.os, hb.tape, hb.output, hb.size, fun k hk _ => hb.block k hk⟩ (by cases hv : v.ownBlock with | none => exact .inl rfl | some g => exact .inr (by simp))
theorem LkO.keep {w W : World} {g : Nat} {us : List Value} {k : Nat} {p : Nat → List Int} (h : LkO w g us k p) (hb : Below w.heap.size w W) : LkO W g us k p :=
 ⟨keep_heap h.hg hb, fun i hi hik => own_below (h.old i hi hik) hb, h.new⟩
theorem LkI.keep {w W : World} {g c : Nat} {us : List Value} {a : Nat} {p : Nat → List Int} {cur : List Int} (h : LkI w g c us a p cur) (hb : Below w.heap.size w W) : LkI W g c us a p cur := by
 obtain ⟨v, h1, h2⟩ := h.cur
 exact ⟨keep_heap h.hg hb, h.gc, Nat.le_trans h.cw hb.size, h.ha, fun i hi hik => ⟨own_below (h.old i hi hik).1 hb, (h.old i hi hik).2⟩, h.new, ⟨v, h1, own_below h2 hb⟩⟩
theorem LkI.app {w w1 w2 : World} {g c : Nat} {us : List Value} {a : Nat} {p : Nat → List Int} {cur : List Int} (h : LkI w g c us a p cur) (hb : Below w.heap.size w w1) (v v' : Value) (x : Int) (hv : us[a]? = some v) (hg : w1.grownBy w2 v.ownBlock)
 (ho : w2.ownsRow c 3 1 v' (cur.length + 1) (ints cur ++ [.int .i64 x])) : LkI (w2.setCell ⟨g, a, none⟩ v') g c (us.set a v') a p (cur ++ [x]) := by
 have h1 := h.keep hb
 have hgc := h.gc
 have hla := h.ha
 obtain ⟨v0, e1, hv0⟩ := h1.cur
 rw [hv] at e1
 injection e1 with e1
 subst e1
 have hne : ∀ k, k < c → some k ≠ v.ownBlock := fun k hk e => by have := (World.ownsRow.lt hv0 k e.symm).1; omega
 have hg2 : w2.heap[g]? = _ := (hg.block g (heap_lt h1.hg) (hne g hgc)).trans h1.hg
 have hs := set_heap hg2 a v'
 have hrow : ∀ {base : Nat} {u : Value} {n : Nat} {xs : List Value}, g < base → w2.ownsRow base 3 1 u n xs → (w2.setCell ⟨g, a, none⟩ v').ownsRow base 3 1 u n xs := by
  intro base u n xs hlt hrow
  have hg3 : w2.grownBy (w2.setCell ⟨g, a, none⟩ v') (some g) := ⟨rfl, rfl, rfl, by simp, fun k _ hk => heap_setCell_other _ _ _ _ (fun e => hk (by simp [e]))⟩
  refine World.ownsRow.kept hrow hg3 ?_
  cases hv : u.ownBlock with
  | none => exact .inl rfl
  | some b => exact .inr (fun e => by injection e with e; have := (World.ownsRow.lt hrow b hv).1; omega)
 refine ⟨?_, hgc, ?_, by simpa using hla, fun i hi hik => ?_, fun i hi hik => ?_, ⟨v', ?_, ?_⟩⟩
 · rw [hs]; simp
 · have := hg.size; have := h1.cw; simp; omega
 · have hi2 : i < us.length := by simpa using hi
   obtain ⟨k1, k2⟩ := h1.old i hi2 hik
   rw [List.getElem_set_ne (by omega)]
   refine ⟨hrow (by omega) (World.ownsRow.kept k1 hg ?_), k2⟩
   cases hv : us[i].ownBlock with
   | none => exact .inl rfl
   | some b => exact .inr (hne b (k2 b hv))
 · rw [List.getElem_set_ne (by omega)]; exact h1.new i (by simpa using hi) hik
 · rw [List.getElem?_set_self hla]
 · rw [List.length_append, ints_append]; exact hrow hgc ho
theorem LkO.ll {w : World} {g n : Nat} {us : List Value} {p : Nat → List Int} (h : LkO w g us n p) (hl : us.length = n) (hn : n ≤ maxLen) : Ll w (.slice (some ⟨g, 0, none⟩) n n) ((List.range n).map p) := by
 refine ⟨(List.range n).zip us |>.map fun x => (p x.1, x.2), ?_, ?_, ?_⟩
 · apply List.ext_getElem?
   intro i
   by_cases hi : i < n
   · simp [hi, hl]
   · simp [hi, hl]
 · have e : ((List.range n).zip us |>.map fun x => (p x.1, x.2)).map (·.2) = us := by
    apply List.ext_getElem?
    intro i
    by_cases hi : i < n
    · simp [hi, hl]
    · simp [hi, hl]
   rw [e]
   refine ⟨some ⟨g, 0, none⟩, n, by rw [hl], by rw [hl]; exact hn, (fun h => by cases h), fun i hi => ⟨g, 0, rfl, ?_⟩⟩
   rw [Nat.zero_add]
   exact cell_of_heap h.hg i (by simp [hi])
 · intro x hx
   obtain ⟨y, hy, rfl⟩ := List.mem_map.1 hx
   obtain ⟨i, hi, rfl⟩ := List.getElem_of_mem hy
   have hi2 : i < n ∧ i < us.length := by simp at hi; omega
   have := h.old i hi2.2 hi2.1
   rw [List.getElem_zip]
   simp only [List.getElem_range]
   exact Sl.of_own this (own_max this)
theorem range_filter_succ (p : Nat → Bool) (b : Nat) : (List.range (b + 1)).filter p = (List.range b).filter p ++ if p b = true then [b] else [] := by
 rw [List.range_succ, List.filter_append]
 congr 1
 by_cases h : p b = true <;> simp [h]
theorem nn_append (l m : List Nat) : Si.nn (l ++ m) = Si.nn l ++ Si.nn m := by simp [Si.nn]
theorem nn_len (l : List Nat) : (Si.nn l).length = l.length := by simp [Si.nn]
theorem Links_any (s : Si.Site) (kv ov zv av sv rv : Value) (w : World) (h : SiV w kv ov zv av sv rv s) (hk : Si.Ok s) :
 Calls Tryz.prog 21 #[siV s kv ov zv av sv rv] w fun e w' => ∃ g n, e = .returned (.slice (some ⟨g, 0, none⟩) n n) ∧ n = s.zones.length ∧ Ll w' (.slice (some ⟨g, 0, none⟩) n n) (Si.linksL s) ∧ Below w.heap.size w w' := by
 obtain ⟨a1, c1, a2, c2, a3, c3, a4, c4, a5, c5, a6, c6, rfl, rfl, rfl, rfl, rfl, rfl, m1, m2, m3, m4, m5, m6⟩ := h.open
 have hzn := hk.zn
 obtain ⟨w1, hw1⟩ : ∃ w1, w1 = w.alloc (.cells #[.int .i64 s.floor.w, .int .i64 s.floor.h, .int .i64 s.floor.d, .slice a1 s.floor.kind.length c1, .slice a2 s.floor.out.length c2, .slice a3 s.zones.length c3, .slice a4 s.aparts.length c4, .slice a5 s.shelves.length c5, .slice a6 s.robots.length c6] 30) := ⟨_, rfl⟩
 have B1 : Hid (Below w.heap.size w w1) := hid (by rw [hw1]; exact (Below.refl _ w).alloc (Nat.le_refl _) _)
 have I1 : Hid (w1.heap[w.heap.size]? = some (.cells #[.int .i64 s.floor.w, .int .i64 s.floor.h, .int .i64 s.floor.d, .slice a1 s.floor.kind.length c1, .slice a2 s.floor.out.length c2, .slice a3 s.zones.length c3, .slice a4 s.aparts.length c4, .slice a5 s.shelves.length c5, .slice a6 s.robots.length c6] 30 (0, 0))) := hid (by rw [hw1]; exact heap_alloc_new _ _)
 have HX := hid (fun W a b hV ha hb => next_any s (.slice a1 s.floor.kind.length c1) (.slice a2 s.floor.out.length c2) (.slice a3 s.zones.length c3) (.slice a4 s.aparts.length c4) (.slice a5 s.shelves.length c5) (.slice a6 s.robots.length c6) a b W hV hk ha hb)
 unfold siV at HX ⊢
 obtain ⟨l1, e1⟩ : ∃ n, s.floor.kind.length = n := ⟨_, rfl⟩
 obtain ⟨l2, e2⟩ : ∃ n, s.floor.out.length = n := ⟨_, rfl⟩
 obtain ⟨l3, e3⟩ : ∃ n, s.zones.length = n := ⟨_, rfl⟩
 obtain ⟨l4, e4⟩ : ∃ n, s.aparts.length = n := ⟨_, rfl⟩
 obtain ⟨l5, e5⟩ : ∃ n, s.shelves.length = n := ⟨_, rfl⟩
 obtain ⟨l6, e6⟩ : ∃ n, s.robots.length = n := ⟨_, rfl⟩
 rw [e1, e2, e3, e4, e5, e6] at h hw1 I1 HX ⊢
 rw [e3] at m3 hzn
 have HV := hid h
 have E3 := hid e3
 have HW1 := hid hw1
 have s1 : w.heap.size < w1.heap.size := heap_lt I1.out
 have p5 : w1.cell? ⟨w.heap.size, 5, none⟩ = some (.slice a3 l3 c3) := cell_of_heap I1.out 5 rfl
 have hmk := make_lists l3 (l3 : Int) rfl (by omega)
 have HLL : Hid (Si.linksL s = (List.range l3).map fun a => Si.nn (Si.linksZ s a)) := hid (by unfold Si.linksL; rw [e3])
 have HLZ : Hid (∀ a, Si.linksZ s a = (List.range l3).filter (Si.linked s a)) := hid (fun a => by unfold Si.linksZ; rw [e3])
 have hs1 : w1.heap.size = w.heap.size + 1 := by rw [hw1]; simp
 have H0 : Hid (LkO (w1.alloc (.cells (madeCells #[.slice none 0 0] l3) 22)) (w.heap.size + 1) (List.replicate l3 (.slice none 0 0)) 0 (fun a => Si.nn (Si.linksZ s a))) := hid
  ⟨by rw [made_lists, ← hs1]; exact heap_alloc_new _ _, fun i hi h0 => by omega, fun i hi _ => by simp⟩
 have HS1 := hid hs1
 have ls1 : w1.heap.size ≤ w.heap.size + 1 := by omega
 have ls2 : w.heap.size + 1 ≤ w1.heap.size := by omega
 clear h hk e1 e2 e3 e4 e5 e6 hw1 hs1
 go_enter Tryz.func21, Tryz.ntmps21
 go_wp2_with fail
 rw [← HW1.out]
 go_loopw [13] (fun iv wr => ∃ (k : Nat) (us : List Value), k ≤ l3 ∧ iv = .int .i64 k ∧ us.length = l3 ∧ Hid (LkO wr (w.heap.size + 1) us k (fun a => Si.nn (Si.linksZ s a))) ∧ Hid (Below w1.heap.size w1 wr)) (fun iv _ => l3 - (intOf iv).toNat)
 case atStart => exact ⟨0, _, by omega, rfl, by simp, H0, hid ((Below.refl _ _).alloc (Nat.le_refl _) _)⟩
 case round =>
  obtain ⟨a, us, ha, rfl, hul, HO, HB⟩ := hrel
  by_cases han : a < l3
  · obtain ⟨wo, rfl⟩ : ∃ wo : World, wo = wr := ⟨_, rfl⟩
    have HI0 := hid (HO.out.start (by rw [hul]; exact han))
    have hwz := HB.out.size
    have q5 : wo.cell? ⟨w.heap.size, 5, none⟩ = some (.slice a3 l3 c3) := (HB.out.cell (p := ⟨w.heap.size, 5, none⟩) s1).trans p5
    have HI1 : Hid (LkI wo (w.heap.size + 1) wo.heap.size us a (fun a => Si.nn (Si.linksZ s a)) (Si.nn ((List.range 0).filter (Si.linked s a)))) := hid (by exact HI0.out)
    have a0 : (0 : Int) ≤ (a : Int) := by omega
    have a9 : (a : Int) < (l3 : Int) := by omega
    have HUL := hid hul
    clear HI0 hul
    go_wp2_with fail
    go_loopw [19] (fun iv wr => ∃ (b : Nat) (us : List Value), b ≤ l3 ∧ iv = .int .i64 b ∧ Hid (us.length = l3) ∧ Hid (LkI wr (w.heap.size + 1) wo.heap.size us a (fun a => Si.nn (Si.linksZ s a)) (Si.nn ((List.range b).filter (Si.linked s a)))) ∧ Hid (Below w1.heap.size w1 wr)) (fun iv _ => l3 - (intOf iv).toNat)
    case atStart => exact ⟨0, us, by omega, rfl, HUL, HI1, HB⟩
    case round =>
     clear HI1 HO HB HUL
     obtain ⟨b, us, hb, rfl, HUL, HI, HB⟩ := hrel
     have hwz := HB.out.size
     by_cases hbn : b < l3
     · have b0 : (0 : Int) ≤ (b : Int) := by omega
       have b9 : (b : Int) < (l3 : Int) := by omega
       by_cases hab : a = b
       · have t1 : ((a : Int) != (b : Int)) = false := by simp [hab]
         have HST : Hid ((List.range (b + 1)).filter (Si.linked s a) = (List.range b).filter (Si.linked s a)) := hid (by rw [range_filter_succ, if_neg (by unfold Si.linked; simp [hab]), List.append_nil])
         clear hab
         go_wp2_with fail
         go_roundw
         case rel => exact ⟨b + 1, us, by omega, by go_num, HUL, hid (by rw [HST.out]; exact HI.out), HB⟩
         case measure => simp [intOf]; omega
       · have t1 : ((a : Int) != (b : Int)) = true := by simp; omega
         have i1 := keep_heap I1.out HB.out
         obtain ⟨r0, r1, r2, r3, r4, r5, r6, r7, r8⟩ := cells9 i1
         have BT := hid (B1.out.trans (HB.out.mono B1.out.size))
         have HLK : Hid (Si.linked s a b = Si.nextZ s a b) := hid (by unfold Si.linked; rw [decide_eq_true hab, Bool.true_and])
         clear i1 hab
         cases hnx : Si.nextZ s a b with
         | false =>
          have HNX := hid hnx
          have HST : Hid ((List.range (b + 1)).filter (Si.linked s a) = (List.range b).filter (Si.linked s a)) := hid (by rw [range_filter_succ, if_neg (by rw [HLK.out, hnx]; simp), List.append_nil])
          clear hnx
          go_wp2_with fail
          go_at_call 68; refine (HX.out _ a b (HV.out.keep BT.out) han hbn).mono ?_; rintro e w3 ⟨rfl, b3⟩
          rw [HNX.out]
          have HI3 := hid (HI.out.keep b3)
          have HB3 := hid (HB.out.trans (b3.mono hwz))
          clear b3
          go_wp2_with fail
          go_roundw
          case rel => exact ⟨b + 1, us, by omega, by go_num, HUL, hid (by rw [HST.out]; exact HI3.out), HB3⟩
          case measure => simp [intOf]; omega
         | true =>
          have HNX := hid hnx
          have HST : Hid (Si.nn ((List.range (b + 1)).filter (Si.linked s a)) = Si.nn ((List.range b).filter (Si.linked s a)) ++ [(b : Int)]) := hid (by rw [range_filter_succ, if_pos (by rw [HLK.out, hnx]), nn_append]; rfl)
          have hcl : (Si.nn ((List.range b).filter (Si.linked s a))).length ≤ b := by
           rw [nn_len]; have := List.length_filter_le (Si.linked s a) (List.range b); rwa [List.length_range] at this
          obtain ⟨cur, hcur⟩ : ∃ cur, Si.nn ((List.range b).filter (Si.linked s a)) = cur := ⟨_, rfl⟩
          rw [hcur] at HST HI hcl
          clear hnx hcur
          go_wp2_with fail
          go_at_call 68; refine (HX.out _ a b (HV.out.keep BT.out) han hbn).mono ?_; rintro e w3 ⟨rfl, b3⟩
          rw [HNX.out]
          have HI3 := hid (HI.out.keep b3)
          have HB3 := hid (HB.out.trans (b3.mono hwz))
          have hwz3 := HB3.out.size
          clear b3 r0 r1 r2 r3 r4 r5 r6 r7 r8
          obtain ⟨cv, hcv, hco⟩ := HI3.out.cur
          have HCV := hid hcv
          have HCO := hid hco
          obtain ⟨ca, cc, hcs, -⟩ := own_slice hco
          obtain ⟨cn, hcn⟩ : ∃ n, cur.length = n := ⟨_, rfl⟩
          rw [hcn] at hcs HCO hcl
          subst hcs
          have g0 : w3.cell? ⟨w.heap.size + 1, a, none⟩ = some (.slice ca cn cc) := cell_of_heap HI3.out.hg a (by have := HCV.out; simpa using this)
          have HCN := hid hcn
          have hcw := HI3.out.cw
          have hgc := HI3.out.gc
          clear hcv hco hcn
          go_wp2_with (at_builtin; refine wpList_append_own _ rfl (.tmp 36) (.tmp 38) 22 rfl wo.heap.size 3 _ (.int .i64 0) 1 8 Tryz.underlying22 (info_parts Tryz.intInfo).choose_spec.1 (info_parts Tryz.intInfo).choose_spec.2.1 (info_parts Tryz.intInfo).choose_spec.2.2.1 (info_parts Tryz.intInfo).choose_spec.2.2.2 rfl (by decide) _ _ _ rfl (World.ownsRow.alloc HCO.out _) ⟨w3.heap.size, 0, none⟩ 1 1 [.int .i64 b] rfl rfl ?c1 ?c2 ?c3 ?c4 ?c5 ?_)
          case c1 =>
           intro j u hj
           have h0 : j = 0 := by have := (List.getElem?_eq_some_iff.1 hj).1; simpa using this
           subst h0
           simp at hj; subst hj
           rw [Addr.add_lit]; exact cell_of_heap (heap_alloc_new _ _) 0 rfl
          case c2 => intro u hu; obtain rfl := List.mem_singleton.1 hu; rfl
          case c3 => unfold maxLen; omega
          case c4 => omega
          case c5 => simp; omega
          intro v' w4 ho4 hg4 _
          obtain ⟨va, vc, hvs, -⟩ := own_slice ho4
          subst hvs
          have hgb : w4.heap[w.heap.size + 1]? = _ := (hg4.block (w.heap.size + 1) (by simp; omega) (fun e => by have := (World.ownsRow.lt HCO.out _ e.symm).1; omega)).trans ((heap_alloc_old _ _ (by omega)).trans HI3.out.hg)
          have z0 : w4.cell? ⟨w.heap.size + 1, a, none⟩ = some (.slice ca cn cc) := cell_of_heap hgb a (by have := HCV.out; simpa using this)
          have z1 : w4.frozen? ⟨w.heap.size + 1, a, none⟩ = false := free_of_heap hgb a
          have HO4 := hid ho4
          have HG4 := hid hg4
          clear ho4 hg4 hgb g0
          go_wp2_with fail
          go_roundw
          case rel =>
           refine ⟨b + 1, us.set a (.slice va (cn + 1) vc), by omega, by go_num, hid (by rw [List.length_set]; exact HUL.out), hid ?_, hid ?_⟩
           · rw [HST.out]
             exact HI3.out.app ((Below.refl _ w3).alloc (Nat.le_refl _) _) _ _ (b : Int) HCV.out HG4.out (by rw [HCN.out]; exact HO4.out)
           · exact ((HB3.out.alloc hwz3 _).trans (below_own (World.ownsRow.alloc HCO.out _) HG4.out (by omega) (by simp; omega))).setCell (by show w1.heap.size ≤ w.heap.size + 1; exact ls1) _
          case measure => simp [intOf]; omega
     · obtain rfl : b = l3 := by omega
       have HO2 := hid (HI.out.done (by show Si.nn (Si.linksZ s a) = _; rw [HLZ.out]))
       go_wp2_with fail
       go_roundw
       case rel => exact ⟨a + 1, us, by omega, by go_num, HUL.out, HO2, HB⟩
       case measure => simp [intOf]; omega
  · obtain rfl : a = l3 := by omega
    go_wp2_with fail
    go_ret
    refine ⟨w.heap.size + 1, a, rfl, rfl, ?_, B1.out.trans (HB.out.mono B1.out.size)⟩
    rw [HLL.out]
    exact HO.out.ll hul (by unfold maxLen; omega)
end Go.Proofs.YtfcbcpfnaadpeaaGreatDoor
