/- Parts By of this claim, laid one behind the other: walks and the plain laws behind them; each contract states its own conditions. -/
import Derived.Test.YtfcbcpfnaadpeaaDoorZP
/- The statement BlocksSiphons: the walk. -/
namespace Go.Proofs.YtfcbcpfnaadpeaaDoor
set_option linter.unusedSimpArgs false
set_option linter.unusedVariables false
open Go.RowKit

theorem nn_has (l : List Nat) (j : Nat) : ((Si.nn l).any fun y => decide (y = (j : Int))) = decide (j ∈ l) := by
  rw [Bool.eq_iff_iff, List.any_eq_true, decide_eq_true_eq]
  constructor
  · rintro ⟨y, hy, h⟩
    obtain ⟨x, hx, rfl⟩ := List.mem_map.1 hy
    have e : x = j := by have : (x : Int) = (j : Int) := by simpa using h
                         omega
    subst e; exact hx
  · intro h
    exact ⟨(j : Int), List.mem_map.2 ⟨j, h, rfl⟩, by simp⟩
theorem ins_small {lk : Nat → Nat → Bool} {n : Nat} {sl : List Nat} (h : Pt.Sips lk n sl) (j z : Nat) : (sl.take j).countP (fun w => w.testBit z) ≤ 1 :=
  Nat.le_trans (List.Sublist.countP_le (List.take_sublist ..)) (Pt.inside_le h z)
theorem ins_now {sl : List Nat} {n j : Nat} {cur : List Nat} {z : Nat} (hz : z < n) (h : z ∉ cur) : (Pt.insL sl n j cur)[z]? = some ((((sl.take j).countP (fun w => w.testBit z)) : Nat) : Int) := by
  rw [Pt.insL_get _ _ _ _ _ hz, if_neg h, Nat.add_zero]
theorem ins_end {sl : List Nat} {n z : Nat} (hz : z < n) : (Pt.insL sl n sl.length [])[z]? = some (((sl.countP (fun w => w.testBit z)) : Nat) : Int) := by
  rw [Pt.insL_get _ _ _ _ _ hz, List.take_length]; simp
theorem ints_get2 {l : List Int} {i : Nat} {n : Int} (h : l[i]? = some n) : (ints l).toArray[i]? = some (.int .i64 n) := by simp [ints, h]
theorem nodup_take_not {l : List Nat} (h : l.Nodup) {k : Nat} (hk : k < l.length) : l[k] ∉ l.take k := by
  intro hm
  obtain ⟨i, hi, e⟩ := List.getElem_of_mem hm
  rw [List.length_take] at hi
  rw [List.getElem_take] at e
  have := (List.nodup_iff_pairwise_ne.1 h)
  rw [List.pairwise_iff_getElem] at this
  exact this i k (by omega) hk (by omega) e
/-- A bool that tells whether one gets back from the first places. -/
def BackI (lk : Nat → Nat → Bool) (n z i : Nat) (C : Bool) : Prop := C = true ↔ Pt.backK lk n z i
theorem BackI.iff {lk : Nat → Nat → Bool} {n z i : Nat} {C : Bool} (h : BackI lk n z i C) : C = true ↔ Pt.backK lk n z i := h
theorem BackI.mk {lk : Nat → Nat → Bool} {n z i : Nat} {C : Bool} (h : C = true ↔ Pt.backK lk n z i) : BackI lk n z i C := h
/-- What is known of a certificate. -/
def CertP (s : Si.Site) (sl : List Nat) : Prop := Pt.Sips (Si.linked s) s.zones.length sl ∧ ∀ x ∈ sl, ¬ Si.sumCaps s x ≤ s.robots.length
theorem build_says {s : Si.Site} {w w' : World} {e : Ending} (h : BuildPost s w e w') (hz : s.zones.length ≤ 10) : Below w.heap.size w w' ∧ (e = .returned (.tuple #[.agg #[.int .i64 0, .slice none 0 0, .slice none 0 0, .slice none 0 0, .int .i64 0, .slice none 0 0], .int .i64 19]) ∨
    ∃ ta tn tc ca cc ka kn kc sa sc sl, CertP s sl ∧ sl.length ≤ 1024 ∧ e = .returned (.tuple #[.agg #[.int .i64 s.zones.length, .slice ta tn tc, .slice ca s.zones.length cc, .slice ka kn kc, .int .i64 s.robots.length, .slice sa sl.length sc], .int .i64 0]) ∧
      Is w' (.slice ca s.zones.length cc) (Si.capsL s) ∧ Ll w' (.slice sa sl.length sc) (sl.map fun x => Si.nn (Pt.listW x))) := by
  obtain ⟨hb, ws, hp, ho, h⟩ := h
  refine ⟨hb, ?_⟩
  rcases h with ⟨-, rfl⟩ | ⟨h1, tv, cv, kv, sv, rfl, ht, hc, hk, hs⟩
  · exact .inl rfl
  · obtain ⟨ta, tc, rfl, -⟩ := ht.form
    obtain ⟨ca, cc, rfl, -⟩ := hc.form
    obtain ⟨ka, kc, rfl, -⟩ := hk.form
    obtain ⟨sa, sc, rfl, -⟩ := hs.form
    have hsp := sips_pick (lk := Si.linked s) (n := s.zones.length) (by omega) hp ho
    obtain ⟨sl, hsl⟩ : ∃ sl, Pt.pick (Pt.edgesL (Si.linked s) s.zones.length) [] ws = sl := ⟨_, rfl⟩
    rw [hsl] at hsp h1 hs ⊢
    rw [Si.capsL_len] at hc ⊢
    simp only [List.length_map] at hs ⊢
    refine .inr ⟨ta, _, tc, ca, cc, ka, _, kc, sa, sc, sl, ⟨hsp, h1⟩, ?_, rfl, hc, hs⟩
    · have h2 := hsp.nd.length_le_of_subset (l₂ := List.range (2 ^ s.zones.length)) (fun x hx => List.mem_range.2 ((hsp.mem x).1 hx).1)
      rw [List.length_range] at h2
      have h3 : 2 ^ s.zones.length ≤ 2 ^ 10 := Nat.pow_le_pow_right (by omega) hz
      omega
set_option maxRecDepth 100000 in
set_option maxHeartbeats 64000000 in
theorem BlocksSiphons_any (s : Si.Site) (kv ov zv av sv rv : Value) (w : World) (hE : Env w) (h : SiV w kv ov zv av sv rv s) (hcp : SiCap zv av sv rv) :
    Calls Tryd.prog 3 #[siV s kv ov zv av sv rv] w fun e w' => e = .returned (.bool true) ∧ Below w.heap.size w w' := by
  obtain ⟨a1, c1, a2, c2, a3, c3, a4, c4, a5, c5, a6, c6, rfl, rfl, rfl, rfl, rfl, rfl, m1, m2, m3, m4, m5, m6⟩ := h.open
  have HV := Lib.hid h
  have HE := Lib.hid hE
  have HFA := Lib.hid (fun W hb => fair_any s (.slice a1 s.floor.kind.length c1) (.slice a2 s.floor.out.length c2) (.slice a3 s.zones.length c3) (.slice a4 s.aparts.length c4) (.slice a5 s.shelves.length c5) (.slice a6 s.robots.length c6) W (h.keep hb) hcp)
  have HLK := Lib.hid (fun (hk : Si.Ok s) W hb => Links_any s (.slice a1 s.floor.kind.length c1) (.slice a2 s.floor.out.length c2) (.slice a3 s.zones.length c3) (.slice a4 s.aparts.length c4) (.slice a5 s.shelves.length c5) (.slice a6 s.robots.length c6) W (h.keep hb) hk)
  have HBU := Lib.hid (fun (hk : Si.Ok s) (hz : s.zones.length ≤ 10) W hb => Build_any s (.slice a1 s.floor.kind.length c1) (.slice a2 s.floor.out.length c2) (.slice a3 s.zones.length c3) (.slice a4 s.aparts.length c4) (.slice a5 s.shelves.length c5) (.slice a6 s.robots.length c6) W (h.keep hb) hk (by omega) (hE.below hb))
  have HSY := Lib.hid (fun (hz : s.zones.length ≤ 10) (w w' : World) (e : Ending) (h : BuildPost s w e w') => build_says h hz)
  have HRC := Lib.hid (fun (v : Value) (a : Nat) (w : World) (h : Ll w v (Si.linksL s)) (ha : a < s.zones.length) (hz : s.zones.length ≤ 64) => reachL_any s v a w h ha hz)
  obtain ⟨l1, e1⟩ : ∃ n, s.floor.kind.length = n := ⟨_, rfl⟩
  obtain ⟨l2, e2⟩ : ∃ n, s.floor.out.length = n := ⟨_, rfl⟩
  obtain ⟨l3, e3⟩ : ∃ n, s.zones.length = n := ⟨_, rfl⟩
  obtain ⟨l4, e4⟩ : ∃ n, s.aparts.length = n := ⟨_, rfl⟩
  obtain ⟨l5, e5⟩ : ∃ n, s.shelves.length = n := ⟨_, rfl⟩
  obtain ⟨l6, e6⟩ : ∃ n, s.robots.length = n := ⟨_, rfl⟩
  unfold siV at HFA HLK HBU ⊢
  rw [e1, e2, e3, e4, e5, e6] at HFA HLK HBU HV
  rw [e3, e6] at HSY
  rw [e3] at HRC
  rw [e1, e2, e3, e4, e5, e6]
  rw [e3] at m3
  have E3 := Lib.hid e3
  have E6 := Lib.hid e6
  have B1 := Lib.hid ((Below.refl _ w).alloc (Nat.le_refl _) (.cells #[.int .i64 s.floor.w, .int .i64 s.floor.h, .int .i64 s.floor.d, .slice a1 l1 c1, .slice a2 l2 c2, .slice a3 l3 c3, .slice a4 l4 c4, .slice a5 l5 c5, .slice a6 l6 c6] 30))
  have I0 := Lib.hid (heap_alloc_new w (.cells #[.int .i64 s.floor.w, .int .i64 s.floor.h, .int .i64 s.floor.d, .slice a1 l1 c1, .slice a2 l2 c2, .slice a3 l3 c3, .slice a4 l4 c4, .slice a5 l5 c5, .slice a6 l6 c6] 30))
  clear h hE hcp e1 e2 e3 e4 e5 e6
  go_enter Tryd.func3, Tryd.ntmps3
  go_wp2_with fail
  go_at_call 5; refine (small19_any _ (HE.out.below B1.out)).mono ?_; rintro e w1 ⟨rfl, b1⟩
  have B2 := Lib.hid (B1.out.trans (b1.mono B1.out.size))
  have i1 := keep_heap I0.out b1
  have I1 := Lib.hid i1
  have p0 : w1.cell? ⟨w.heap.size, 0, none⟩ = some (.int .i64 s.floor.w) := cell_of_heap i1 0 rfl
  have p1 : w1.cell? ⟨w.heap.size, 1, none⟩ = some (.int .i64 s.floor.h) := cell_of_heap i1 1 rfl
  have p2 : w1.cell? ⟨w.heap.size, 2, none⟩ = some (.int .i64 s.floor.d) := cell_of_heap i1 2 rfl
  have p3 : w1.cell? ⟨w.heap.size, 3, none⟩ = some (.slice a1 l1 c1) := cell_of_heap i1 3 rfl
  have p4 : w1.cell? ⟨w.heap.size, 4, none⟩ = some (.slice a2 l2 c2) := cell_of_heap i1 4 rfl
  have p5 : w1.cell? ⟨w.heap.size, 5, none⟩ = some (.slice a3 l3 c3) := cell_of_heap i1 5 rfl
  have p6 : w1.cell? ⟨w.heap.size, 6, none⟩ = some (.slice a4 l4 c4) := cell_of_heap i1 6 rfl
  have p7 : w1.cell? ⟨w.heap.size, 7, none⟩ = some (.slice a5 l5 c5) := cell_of_heap i1 7 rfl
  have p8 : w1.cell? ⟨w.heap.size, 8, none⟩ = some (.slice a6 l6 c6) := cell_of_heap i1 8 rfl
  clear b1 i1
  go_wp2_with fail
  go_at_call 6; refine (HFA.out _ B2.out).mono ?_; rintro e w2 ⟨⟨rb, rfl, hrb⟩, b2⟩
  have HRB := Lib.hid hrb
  have B3 := Lib.hid (B2.out.trans (b2.mono B2.out.size))
  have i2 := keep_heap I1.out b2
  have I2 := Lib.hid i2
  have lw : w.heap.size < w2.heap.size := heap_lt i2
  clear b2 hrb p0 p1 p2 p3 p4 p5 p6 p7 p8 B1 B2 I0 I1
  have p0 : w2.cell? ⟨w.heap.size, 0, none⟩ = some (.int .i64 s.floor.w) := cell_of_heap i2 0 rfl
  have p1 : w2.cell? ⟨w.heap.size, 1, none⟩ = some (.int .i64 s.floor.h) := cell_of_heap i2 1 rfl
  have p2 : w2.cell? ⟨w.heap.size, 2, none⟩ = some (.int .i64 s.floor.d) := cell_of_heap i2 2 rfl
  have p3 : w2.cell? ⟨w.heap.size, 3, none⟩ = some (.slice a1 l1 c1) := cell_of_heap i2 3 rfl
  have p4 : w2.cell? ⟨w.heap.size, 4, none⟩ = some (.slice a2 l2 c2) := cell_of_heap i2 4 rfl
  have p5 : w2.cell? ⟨w.heap.size, 5, none⟩ = some (.slice a3 l3 c3) := cell_of_heap i2 5 rfl
  have p6 : w2.cell? ⟨w.heap.size, 6, none⟩ = some (.slice a4 l4 c4) := cell_of_heap i2 6 rfl
  have p7 : w2.cell? ⟨w.heap.size, 7, none⟩ = some (.slice a5 l5 c5) := cell_of_heap i2 7 rfl
  have p8 : w2.cell? ⟨w.heap.size, 8, none⟩ = some (.slice a6 l6 c6) := cell_of_heap i2 8 rfl
  clear i2
  cases rb with
  | false =>
    go_wp2_with fail
    go_ret
    exact ⟨rfl, B3.out⟩
  | true =>
    have HP := Lib.hid (HRB.out rfl)
    have HK := Lib.hid HP.out.ok
    clear HRB HFA HE
    by_cases q1 : (l3 : Int) > 10
    · go_wp2_with fail
      go_ret
      exact ⟨rfl, B3.out⟩
    have hz : l3 ≤ 10 := by omega
    have HZ : Hid (s.zones.length ≤ 10) := Lib.hid (by rw [E3.out]; exact hz)
    go_wp2_with fail
    go_at_call 7; refine (HBU.out HK.out hz _ B3.out).mono ?_; intro e w4 hbp
    obtain ⟨b4, hbp⟩ := HSY.out hz _ _ _ hbp
    have B4 := Lib.hid (B3.out.trans (b4.mono B3.out.size))
    have i4 := keep_heap I2.out b4
    have I4 := Lib.hid i4
    have lw4 : w.heap.size < w4.heap.size := heap_lt i4
    clear b4 p0 p1 p2 p3 p4 p5 p6 p7 p8 B3 I2 lw HBU HSY
    rcases hbp with rfl | ⟨ta, tn, tc, ca, cc, ka, kn, kc, sa, sc, sl, hct, hsl, rfl, hcv, hsv⟩
    · go_wp2_with fail
      go_ret
      exact ⟨rfl, B4.out.alloc B4.out.size _⟩
    obtain ⟨SL, hSL⟩ : ∃ n, sl.length = n := ⟨_, rfl⟩
    rw [hSL] at hsl hsv ⊢
    have HSLn := Lib.hid hSL
    have HCT := Lib.hid hct
    have HCV := Lib.hid hcv
    have HSV := Lib.hid hsv
    clear hct hcv hsv hSL
    have p0 : w4.cell? ⟨w.heap.size, 0, none⟩ = some (.int .i64 s.floor.w) := cell_of_heap i4 0 rfl
    have p1 : w4.cell? ⟨w.heap.size, 1, none⟩ = some (.int .i64 s.floor.h) := cell_of_heap i4 1 rfl
    have p2 : w4.cell? ⟨w.heap.size, 2, none⟩ = some (.int .i64 s.floor.d) := cell_of_heap i4 2 rfl
    have p3 : w4.cell? ⟨w.heap.size, 3, none⟩ = some (.slice a1 l1 c1) := cell_of_heap i4 3 rfl
    have p4 : w4.cell? ⟨w.heap.size, 4, none⟩ = some (.slice a2 l2 c2) := cell_of_heap i4 4 rfl
    have p5 : w4.cell? ⟨w.heap.size, 5, none⟩ = some (.slice a3 l3 c3) := cell_of_heap i4 5 rfl
    have p6 : w4.cell? ⟨w.heap.size, 6, none⟩ = some (.slice a4 l4 c4) := cell_of_heap i4 6 rfl
    have p7 : w4.cell? ⟨w.heap.size, 7, none⟩ = some (.slice a5 l5 c5) := cell_of_heap i4 7 rfl
    have p8 : w4.cell? ⟨w.heap.size, 8, none⟩ = some (.slice a6 l6 c6) := cell_of_heap i4 8 rfl
    clear i4
    obtain ⟨W5, hW5⟩ : ∃ W, W = w4.alloc (.cells #[.int .i64 l3, .slice ta tn tc, .slice ca l3 cc, .slice ka kn kc, .int .i64 l6, .slice sa SL sc] 38) := ⟨_, rfl⟩
    have BA : Hid (Below w4.heap.size w4 W5) := Lib.hid (by rw [hW5]; exact (Below.refl _ _).alloc (Nat.le_refl _) _)
    have CA : Hid (W5.heap[w4.heap.size]? = some (.cells #[.int .i64 l3, .slice ta tn tc, .slice ca l3 cc, .slice ka kn kc, .int .i64 l6, .slice sa SL sc] 38 (0, 0))) := Lib.hid (by rw [hW5]; exact heap_alloc_new _ _)
    have B5 := Lib.hid (B4.out.trans (BA.out.mono B4.out.size))
    have I5 := Lib.hid (keep_heap I4.out BA.out)
    have CV5 := Lib.hid (HCV.out.keep BA.out)
    have SV5 := Lib.hid (HSV.out.keep BA.out)
    have HW5 := Lib.hid hW5
    clear hW5
    go_wp2_with fail
    rw [← HW5.out]
    go_at_call 8; refine (HLK.out HK.out _ B5.out).mono ?_; rintro e w6 ⟨g, n, rfl, hn, hl, b6⟩
    obtain rfl : l3 = n := hn.symm
    have HL6 := Lib.hid hl
    have B6 := Lib.hid (B5.out.trans (b6.mono B5.out.size))
    have i6 := keep_heap I5.out b6
    have k6 := keep_heap CA.out b6
    have I6 := Lib.hid i6
    have K6 := Lib.hid k6
    have CV6 := Lib.hid (CV5.out.keep b6)
    have SV6 := Lib.hid (SV5.out.keep b6)
    have lw6 : w.heap.size < w6.heap.size := heap_lt i6
    have lk6 : w4.heap.size < w6.heap.size := heap_lt k6
    clear hl hn b6 p0 p1 p2 p3 p4 p5 p6 p7 p8 I4 I5 CV5 SV5 BA CA B5 B4 HCV HSV lw4 HW5
    have p5 : w6.cell? ⟨w.heap.size, 5, none⟩ = some (.slice a3 l3 c3) := cell_of_heap i6 5 rfl
    have p8 : w6.cell? ⟨w.heap.size, 8, none⟩ = some (.slice a6 l6 c6) := cell_of_heap i6 8 rfl
    have x2 : w6.cell? ⟨w4.heap.size, 2, none⟩ = some (.slice ca l3 cc) := cell_of_heap k6 2 rfl
    have x4 : w6.cell? ⟨w4.heap.size, 4, none⟩ = some (.int .i64 l6) := cell_of_heap k6 4 rfl
    clear i6 k6
    have hmk := make_ints l3 (l3 : Int) rfl (by omega)
    have Q0 : Hid ((w6.alloc (.cells (madeCells #[.int .i64 0] l3) 3)).heap[w6.heap.size]? = some (.cells (ints (Pt.insL sl l3 0 [])).toArray 3 (0, 0))) := Lib.hid (by
      rw [made_intsN, Pt.insL_zero]
      exact heap_alloc_new _ _)
    have R0 : Hid (Below w6.heap.size w6 (w6.alloc (.cells (madeCells #[.int .i64 0] l3) 3))) := Lib.hid ((Below.refl _ _).alloc (Nat.le_refl _) _)
    go_wp2_with fail
    go_loopw [8] (fun iv wr => ∃ j : Nat, j ≤ SL ∧ iv = .int .i64 j ∧ Hid (wr.heap[w6.heap.size]? = some (.cells (ints (Pt.insL sl l3 j [])).toArray 3 (0, 0))) ∧ Hid (Below w6.heap.size w6 wr)) (fun iv _ => SL - (intOf iv).toNat)
    case atStart => exact ⟨0, by omega, rfl, Q0, R0⟩
    case round =>
      clear Q0 R0 p5 p8 x2 x4
      obtain ⟨j, hj, rfl, HQ, HB⟩ := hrel
      obtain ⟨wo, rfl⟩ : ∃ wo : World, wo = wr := ⟨_, rfl⟩
      have k6 := keep_heap K6.out HB.out
      have lko : w4.heap.size < wo.heap.size := heap_lt k6
      have x5 : wo.cell? ⟨w4.heap.size, 5, none⟩ = some (.slice sa SL sc) := cell_of_heap k6 5 rfl
      by_cases hjl : j < SL
      · have hjs : j < sl.length := by rw [HSLn.out]; exact hjl
        obtain ⟨sb, so, u, e4, hcu, hiu⟩ := SV6.out.cell j (by rw [List.length_map]; exact hjs)
        subst e4
        rw [List.getElem_map] at hiu
        have HXM : Hid (sl[j] ∈ sl) := Lib.hid (List.getElem_mem hjs)
        have HIN : Hid (sl[j] < 2 ^ 64 → Pt.insL sl l3 j (Pt.listW sl[j]) = Pt.insL sl l3 (j + 1) []) := Lib.hid (fun h => Pt.insL_next sl l3 j hjs h)
        obtain ⟨x, hx⟩ : ∃ x, sl[j] = x := ⟨_, rfl⟩
        rw [hx] at hiu HXM HIN
        have hx64 : x < 2 ^ 64 := Nat.lt_of_lt_of_le ((HCT.out.1.mem x).1 HXM.out).1 (Nat.pow_le_pow_right (by omega) (by rw [E3.out]; omega))
        have HI2 := Lib.hid (HIN.out hx64)
        have hl64 := listW_len x
        have hsum := sumTo_all s x
        have hsb := sumTo_le HK.out (Pt.listW x)
        have HNS : Hid (¬ Si.sumCaps s x ≤ s.robots.length) := Lib.hid (HCT.out.2 x HXM.out)
        have HLT : Hid (∀ i ∈ Pt.listW x, i < l3) := Lib.hid (fun i hi => by have := Pt.sip_lt (by rw [E3.out]; omega) HCT.out.1 HXM.out hi; rw [E3.out] at this; exact this)
        have HNE : Hid (Pt.listW x ≠ []) := Lib.hid (Pt.sip_some (by rw [E3.out]; omega) HCT.out.1 HXM.out)
        have HND : Hid ((Pt.listW x).Nodup) := Lib.hid (Pt.listW_nodup x)
        have HSE : Hid (∀ z ∈ Pt.listW x, ∀ l : List Bool, Pt.Seen (Si.linked s) s.zones.length z l → ∀ i, l.getD i false = decide (i ∈ Pt.listW x)) := Lib.hid (fun z hz l hs i => Pt.seen_sip (by rw [E3.out]; omega) HCT.out.1 HXM.out hz hs i)
        obtain ⟨LW, hLW⟩ : ∃ l, Pt.listW x = l := ⟨_, rfl⟩
        rw [hLW] at hiu hl64 hsum hsb HLT HNE HND HSE HI2
        obtain ⟨m, hm⟩ : ∃ m, LW.length = m := ⟨_, rfl⟩
        rw [hm] at hl64 hsum hsb
        obtain ⟨ua, uc, hus, -⟩ := hiu.form
        subst hus
        rw [nn_len, hm] at hcu hiu
        have HCU := Lib.hid hcu
        have HIU := Lib.hid hiu
        have HM := Lib.hid hm
        have HSB := Lib.hid hsb
        have HSUM := Lib.hid hsum
        have HHA : Hid (∀ (i : Nat) (W : World) (hb : Below w6.heap.size w6 W), Calls Tryd.prog 10 #[.slice ua m uc, .int .i64 i] W fun e w' => e = .returned (.bool (decide (i ∈ LW))) ∧ W = w') := Lib.hid (fun i W hb => by
          have h9 := Has_any (.slice ua m uc) (Si.nn LW) (i : Int) W (hiu.keep hb)
          rw [nn_has] at h9
          exact h9)
        have hm0 : 0 < m := by
          rcases Nat.eq_zero_or_pos m with h | h
          · exact absurd (List.eq_nil_of_length_eq_zero (by rw [hm]; exact h)) HNE.out
          · exact h
        have j0 : (0 : Int) ≤ (j : Int) := by omega
        have j1 : (j : Int) < (SL : Int) := by omega
        have S0 : Hid ((0 : Int) = sumTo s LW 0) := Lib.hid (by simp [sumTo])
        have Q0 : Hid (wo.heap[w6.heap.size]? = some (.cells (ints (Pt.insL sl l3 j (LW.take 0))).toArray 3 (0, 0))) := Lib.hid (by rw [List.take_zero]; exact HQ.out)
        have hcu2 : wo.cell? ⟨sb, so + j, none⟩ = some (.slice ua m uc) := (HB.out.cell (p := ⟨sb, so + j, none⟩) (cell_block_lt hcu)).trans hcu
        clear hiu hcu hm hsb hx hsum hLW hx64 HIN HQ HNE
        go_wp2_with fail
        go_loopw [9, 10] (fun sv kv wr => ∃ (k : Nat) (S : Int), k ≤ m ∧ kv = .int .i64 k ∧ sv = .int .i64 S ∧ Hid (S = sumTo s LW k) ∧ Hid (wr.heap[w6.heap.size]? = some (.cells (ints (Pt.insL sl l3 j (LW.take k))).toArray 3 (0, 0))) ∧ Hid (Below w6.heap.size w6 wr)) (fun _ kv _ => m - (intOf kv).toNat)
        case atStart => exact ⟨0, 0, by omega, rfl, rfl, S0, Q0, HB⟩
        case round =>
          clear S0 Q0 HB hcu2 x5 k6 lko
          obtain ⟨k, S, hk, rfl, rfl, HS, HQ, HB⟩ := hrel
          have k6 := keep_heap K6.out HB.out
          have lkr : w4.heap.size < wr.heap.size := heap_lt k6
          have x5 : wr.cell? ⟨w4.heap.size, 5, none⟩ = some (.slice (some ⟨sb, so, none⟩) SL sc) := cell_of_heap k6 5 rfl
          have x4 : wr.cell? ⟨w4.heap.size, 4, none⟩ = some (.int .i64 l6) := cell_of_heap k6 4 rfl
          have hcu2 : wr.cell? ⟨sb, so + j, none⟩ = some (.slice ua m uc) := (HB.out.cell (p := ⟨sb, so + j, none⟩) (cell_block_lt HCU.out)).trans HCU.out
          by_cases hkm : k < m
          · have hkl : k < LW.length := by rw [HM.out]; exact hkm
            obtain ⟨ub, uo, e5, hcp⟩ := HIU.out.cell k (by rw [nn_len]; exact hkl)
            subst e5
            have hpa := HLT.out _ (List.getElem_mem hkl)
            have hsu := sumTo_succ s LW k hkl
            have hb1 := HSB.out k (by omega)
            rw [← HS.out] at hsu hb1
            have HNT := Lib.hid (nodup_take_not HND.out hkl)
            have HTK : Hid (LW.take (k + 1) = LW.take k ++ [LW[k]]) := Lib.hid (List.take_succ_eq_append_getElem hkl)
            have HSK := Lib.hid (HSE.out _ (List.getElem_mem hkl))
            obtain ⟨p, hp⟩ : ∃ p, LW[k] = p := ⟨_, rfl⟩
            rw [show (Si.nn LW)[k]'(by rw [nn_len]; exact hkl) = (p : Int) by simp [Si.nn, hp]] at hcp
            rw [hp] at hpa hsu HNT HTK HSK
            have hcpr : wr.cell? ⟨ub, uo + k, none⟩ = some (.int .i64 p) := (HB.out.cell (p := ⟨ub, uo + k, none⟩) (cell_block_lt hcp)).trans hcp
            have hcb := capOf_le HK.out p
            obtain ⟨cb, co, e6, hcc⟩ := CV6.out.cell p (by rw [Si.capsL_len, E3.out]; exact hpa)
            rw [show (Si.capsL s)[p]'(by rw [Si.capsL_len, E3.out]; exact hpa) = Si.capOf s p by simp [Si.capsL]] at hcc
            subst e6
            obtain ⟨C, hC⟩ : ∃ C, Si.capOf s p = C := ⟨_, rfl⟩
            rw [hC] at hcc hsu hcb
            have HSU := Lib.hid hsu
            have HCC := Lib.hid hcc
            have HCP := Lib.hid hcp
            have hwr1 : IntKind.i64.wrap (S + C) = S + C := IntWalk.i64_in _ (by omega)
            have k0 : (0 : Int) ≤ (k : Int) := by omega
            have k1 : (k : Int) < (m : Int) := by omega
            have p0 : (0 : Int) ≤ (p : Int) := by omega
            have p1 : (p : Int) < (l3 : Int) := by omega
            have HRP := Lib.hid (HRC.out (.slice (some ⟨g, 0, none⟩) l3 l3) p wr (HL6.out.keep HB.out) hpa (by omega))
            clear hsu hC hp hcc hcp
            go_wp2_with fail
            go_at_call 9; refine HRP.out.mono ?_; rintro e w7 ⟨b7, g2, bl, rfl, hg2, hsn⟩
            have HBL : Hid (∀ i, bl.getD i false = decide (i ∈ LW)) := Lib.hid (HSK.out bl (by rw [E3.out]; exact hsn))
            have HLN : Hid (bl.length = l3) := Lib.hid hsn.ln
            have HG2 := Lib.hid hg2
            have HB7 := Lib.hid (HB.out.trans (b7.mono HB.out.size))
            have HQ7 := Lib.hid (keep_heap HQ.out b7)
            have k7 := keep_heap k6 b7
            have lk7 : w4.heap.size < w7.heap.size := heap_lt k7
            have hz5 : w7.cell? ⟨w4.heap.size, 5, none⟩ = some (.slice (some ⟨sb, so, none⟩) SL sc) := cell_of_heap k7 5 rfl
            have hz2 : w7.cell? ⟨w4.heap.size, 2, none⟩ = some (.slice (some ⟨cb, co, none⟩) l3 cc) := cell_of_heap k7 2 rfl
            have hcu7 : w7.cell? ⟨sb, so + j, none⟩ = some (.slice (some ⟨ub, uo, none⟩) m uc) := (b7.cell (p := ⟨sb, so + j, none⟩) (cell_block_lt hcu2)).trans hcu2
            have hcc7 : w7.cell? ⟨cb, co + p, none⟩ = some (.int .i64 C) := (HB7.out.cell (p := ⟨cb, co + p, none⟩) (cell_block_lt HCC.out)).trans HCC.out
            have K7 := Lib.hid k7
            clear hg2 hsn b7 x4 x5 hcu2 hcpr k6 k7 lkr
            go_wp2_with fail
            go_loopw [13] (fun jv wr => ∃ i : Nat, i ≤ l3 ∧ jv = .int .i64 i ∧ Hid (Below w7.heap.size w7 wr)) (fun jv _ => l3 - (intOf jv).toNat)
            case atStart => exact ⟨0, by omega, rfl, Lib.hid (Below.refl _ _)⟩
            case round =>
              clear hz5 hz2 hcu7 hcc7 lk7
              obtain ⟨i, hi, rfl, HB8⟩ := hrel
              have hg8 := keep_heap HG2.out HB8.out
              have k8 := keep_heap K7.out HB8.out
              have lk8 : w4.heap.size < wr.heap.size := heap_lt k8
              have B8 := Lib.hid (HB7.out.trans (HB8.out.mono HB7.out.size))
              by_cases hil : i < l3
              · have hz5 : wr.cell? ⟨w4.heap.size, 5, none⟩ = some (.slice (some ⟨sb, so, none⟩) SL sc) := cell_of_heap k8 5 rfl
                have hcu8 : wr.cell? ⟨sb, so + j, none⟩ = some (.slice (some ⟨ub, uo, none⟩) m uc) := (B8.out.cell (p := ⟨sb, so + j, none⟩) (cell_block_lt HCU.out)).trans HCU.out
                have hib : i < bl.length := by rw [HLN.out]; exact hil
                have hbi := HBL.out i
                rw [List.getD_eq_getElem?_getD, List.getElem?_eq_getElem hib, Option.getD_some] at hbi
                have hgi : wr.cell? ⟨g2, i, none⟩ = some (.bool (decide (i ∈ LW))) := cell_of_heap hg8 i (by simp [bools, hib, hbi])
                have HHI := Lib.hid (fun W hb => HHA.out i W hb)
                obtain ⟨T, hT⟩ : ∃ T, decide (i ∈ LW) = T := ⟨_, rfl⟩
                rw [hT] at hgi HHI
                have i0 : (0 : Int) ≤ (i : Int) := by omega
                have i1 : (i : Int) < (l3 : Int) := by omega
                have lsb : sb < wr.heap.size := cell_block_lt hcu8
                have lg2 : g2 < wr.heap.size := cell_block_lt hgi
                have BQ : Hid (∀ q, Below w6.heap.size w6 (wr.drewN q)) := Lib.hid (fun q => B8.out.trans (below_drewN _ _ _))
                have BR : Hid (∀ q, Below w7.heap.size w7 (wr.drewN q)) := Lib.hid (fun q => HB8.out.trans (below_drewN _ _ _))
                clear hbi hT hg8 k8
                cases T
                all_goals
                  go_wp2_with fail
                  go_quiet (first | (go_at_call 10; exact qsame (HHI.out _ (BQ.out _))))
                  go_wp2_with fail
                  go_roundw
                  case rel => exact ⟨i + 1, by omega, by go_num, Lib.hid (BR.out _)⟩
                  case measure => simp [intOf]; omega
              · obtain rfl : l3 = i := by omega
                have hz2 : wr.cell? ⟨w4.heap.size, 2, none⟩ = some (.slice (some ⟨cb, co, none⟩) l3 cc) := cell_of_heap k8 2 rfl
                have hcc8 : wr.cell? ⟨cb, co + p, none⟩ = some (.int .i64 C) := (B8.out.cell (p := ⟨cb, co + p, none⟩) (cell_block_lt HCC.out)).trans HCC.out
                have hq8 := keep_heap HQ7.out HB8.out
                have hnw := ins_now (sl := sl) (n := l3) (j := j) (cur := LW.take k) hpa HNT.out
                have hst := Pt.insL_step sl l3 j (LW.take k) p HNT.out
                have hsm := ins_small HCT.out.1 j p
                rw [← HTK.out] at hst
                obtain ⟨CC, hCC⟩ : ∃ c, (sl.take j).countP (fun w => w.testBit p) = c := ⟨_, rfl⟩
                rw [hCC] at hnw hst hsm
                have n0 : wr.cell? ⟨w6.heap.size, p, none⟩ = some (.int .i64 CC) := cell_of_heap hq8 p (ints_get2 hnw)
                have n1 : wr.frozen? ⟨w6.heap.size, p, none⟩ = false := free_of_heap hq8 p
                have HST := Lib.hid hst
                have HQ8 := Lib.hid hq8
                have lq : w6.heap.size < wr.heap.size := heap_lt hq8
                have hne : cb ≠ w6.heap.size := by have h9 : cb < w6.heap.size := cell_block_lt HCC.out; omega
                have hne4 : w4.heap.size ≠ w6.heap.size := by omega
                clear hnw hst hCC hq8 hg8 k8
                go_wp2_with fail
                go_roundw
                case rel =>
                  refine ⟨k + 1, S + C, by omega, by go_num, rfl, Lib.hid HSU.out.symm, Lib.hid ?_, Lib.hid (B8.out.setCell (Nat.le_refl _) _)⟩
                  rw [HST.out]
                  have := set_heap HQ8.out p (.int .i64 ((CC : Int) + 1))
                  rw [ints_set] at this
                  exact this
                case measure => simp [intOf]; omega
          · obtain rfl : m = k := by omega
            have HSF : Hid (S = Si.sumCaps s x) := Lib.hid (by rw [HS.out, HSUM.out])
            have hle : ¬ S ≤ (l6 : Int) := by rw [HSF.out]; have h9 := HNS.out; have h8 := E6.out; omega
            have HQ2 : Hid (wr.heap[w6.heap.size]? = some (.cells (ints (Pt.insL sl l3 (j + 1) [])).toArray 3 (0, 0))) := Lib.hid (by
              have h9 := HQ.out
              rw [List.take_of_length_le (by rw [HM.out]; omega), HI2.out] at h9
              exact h9)
            have mz : ((m : Int) == 0) = false := by simp; omega
            go_wp2_with fail
            go_roundw
            case rel => exact ⟨j + 1, by omega, by go_num, HQ2, HB⟩
            case measure => simp [intOf]; omega
      · obtain rfl : SL = j := by omega
        have HQE : Hid (wo.heap[w6.heap.size]? = some (.cells (ints (Pt.insL sl l3 sl.length [])).toArray 3 (0, 0))) := Lib.hid (by rw [HSLn.out]; exact HQ.out)
        clear HQ k6
        go_wp2_with fail
        go_loopw [14] (fun zv wr => ∃ z : Nat, z ≤ l3 ∧ zv = .int .i64 z ∧ Hid (Below wo.heap.size wo wr)) (fun zv _ => l3 - (intOf zv).toNat)
        case atStart => exact ⟨0, by omega, rfl, Lib.hid (Below.refl _ _)⟩
        case round =>
          obtain ⟨z, hzl, rfl, HBR⟩ := hrel
          have BR := Lib.hid (HB.out.trans (HBR.out.mono HB.out.size))
          by_cases hzn : z < l3
          · have z0 : (0 : Int) ≤ (z : Int) := by omega
            have z1 : (z : Int) < (l3 : Int) := by omega
            have hiz := ins_end (sl := sl) (n := l3) hzn
            have hsay := Pt.inside_says HCT.out.1 (z := z) (by rw [E3.out]; exact hzn)
            rw [E3.out] at hsay
            obtain ⟨CC, hCC⟩ : ∃ c, sl.countP (fun w => w.testBit z) = c := ⟨_, rfl⟩
            rw [hCC] at hiz hsay
            have HIZ := Lib.hid hiz
            have HSA := Lib.hid hsay.1
            have hc1 : CC ≤ 1 := hsay.2
            have HRP := Lib.hid (HRC.out (.slice (some ⟨g, 0, none⟩) l3 l3) z wr (HL6.out.keep BR.out) hzn (by omega))
            have HLR := Lib.hid (HL6.out.keep BR.out)
            clear hiz hsay hCC
            go_wp2_with fail
            go_at_call 9; refine HRP.out.mono ?_; rintro e w7 ⟨b7, g2, bl, rfl, hg2, hsn⟩
            have HSN := Lib.hid hsn
            have HG2 := Lib.hid hg2
            have B7 := Lib.hid (HBR.out.trans (b7.mono HBR.out.size))
            have HL7 := Lib.hid (HLR.out.keep b7)
            have HN0 : Hid (BackI (Si.linked s) l3 z 0 true) := Lib.hid (.mk ⟨fun _ i hi => by omega, fun _ => rfl⟩)
            clear hg2 hsn b7 BR
            go_wp2_with fail
            go_loopw [16, 17] (fun cv jv wr => ∃ (i : Nat) (C : Bool), i ≤ l3 ∧ jv = .int .i64 i ∧ cv = .bool C ∧ Hid (BackI (Si.linked s) l3 z i C) ∧ Hid (Below w7.heap.size w7 wr)) (fun _ jv _ => l3 - (intOf jv).toNat)
            case atStart => exact ⟨0, true, by omega, rfl, rfl, HN0, Lib.hid (Below.refl _ _)⟩
            case round =>
              clear HN0
              obtain ⟨i, C, hi, rfl, rfl, HC, HB8⟩ := hrel
              by_cases hil : i < l3
              · have hib : i < bl.length := by rw [HSN.out.ln]; exact hil
                have hbi := HSN.out.iff i
                rw [List.getD_eq_getElem?_getD, List.getElem?_eq_getElem hib, Option.getD_some] at hbi
                have hg8 := keep_heap HG2.out HB8.out
                have i0 : (0 : Int) ≤ (i : Int) := by omega
                have i1 : (i : Int) < (l3 : Int) := by omega
                have HBK := Lib.hid (Pt.backK_succ (lk := Si.linked s) (n := l3) (z := z) (k := i))
                cases hbv : bl[i] with
                | false =>
                  have hgi : wr.cell? ⟨g2, i, none⟩ = some (.bool false) := cell_of_heap hg8 i (by simp [bools, hib, hbv])
                  have HNX : Hid (BackI (Si.linked s) l3 z (i + 1) C) := Lib.hid (.mk (by
                    rw [HBK.out, HC.out.iff]
                    constructor
                    · intro h; exact ⟨h, fun h2 => by have := hbi.2 h2; rw [hbv] at this; cases this⟩
                    · exact fun h => h.1))
                  clear hbi hbv hg8
                  go_wp2_with fail
                  go_roundw
                  case rel => exact ⟨i + 1, C, by omega, by go_num, rfl, HNX, HB8⟩
                  case measure => simp [intOf]; omega
                | true =>
                  have hgi : wr.cell? ⟨g2, i, none⟩ = some (.bool true) := cell_of_heap hg8 i (by simp [bools, hib, hbv])
                  have HST : Hid (Pt.Star (Si.linked s) l3 z i) := Lib.hid (hbi.1 hbv)
                  clear hbi hbv hg8
                  cases C with
                  | false =>
                    have HNX : Hid (BackI (Si.linked s) l3 z (i + 1) false) := Lib.hid (.mk (by
                      rw [HBK.out, ← HC.out.iff]; simp))
                    go_wp2_with fail
                    go_roundw
                    case rel => exact ⟨i + 1, false, by omega, by go_num, rfl, HNX, HB8⟩
                    case measure => simp [intOf]; omega
                  | true =>
                    have HRI := Lib.hid (HRC.out (.slice (some ⟨g, 0, none⟩) l3 l3) i wr (HL7.out.keep HB8.out) hil (by omega))
                    go_wp2_with fail
                    go_at_call 9; refine HRI.out.mono ?_; rintro e w9 ⟨b9, g3, bm, rfl, hg3, hsm⟩
                    have hzb : z < bm.length := by rw [hsm.ln]; exact hzn
                    have hbz := hsm.iff z
                    rw [List.getD_eq_getElem?_getD, List.getElem?_eq_getElem hzb, Option.getD_some] at hbz
                    obtain ⟨T, hT⟩ : ∃ T, bm[z] = T := ⟨_, rfl⟩
                    rw [hT] at hbz
                    have hgz : w9.cell? ⟨g3, z, none⟩ = some (.bool T) := cell_of_heap hg3 z (by simp [bools, hzb, hT])
                    have HNX : Hid (BackI (Si.linked s) l3 z (i + 1) T) := Lib.hid (.mk (by
                      rw [HBK.out, ← HC.out.iff, hbz]
                      constructor
                      · intro h; exact ⟨by trivial, fun _ => h⟩
                      · intro h; exact h.2 HST.out))
                    have HB9 := Lib.hid (HB8.out.trans (b9.mono HB8.out.size))
                    clear hT hbz hsm hg3 b9 hzb
                    go_wp2_with fail
                    go_roundw
                    case rel => exact ⟨i + 1, T, by omega, by go_num, rfl, HNX, HB9⟩
                    case measure => simp [intOf]; omega
              · obtain rfl : l3 = i := by omega
                have B8 := Lib.hid (B7.out.trans (HB8.out.mono B7.out.size))
                have hq8 := keep_heap HQE.out B8.out
                have n0 : wr.cell? ⟨w6.heap.size, z, none⟩ = some (.int .i64 CC) := cell_of_heap hq8 z (ints_get2 HIZ.out)
                have hcv : (C = true ∧ CC = 1) ∨ (C = false ∧ CC = 0) := by
                  have h1 := HC.out.iff
                  have h2 := HSA.out
                  cases C with
                  | true => exact .inl ⟨rfl, h2.1 (h1.1 rfl)⟩
                  | false =>
                    refine .inr ⟨rfl, ?_⟩
                    rcases Nat.eq_zero_or_pos CC with h | h
                    · exact h
                    · have h3 : CC = 1 := by omega
                      exact absurd (h1.2 (h2.2 h3)) (by simp)
                clear hq8 hc1 HC HSA HIZ
                rcases hcv with ⟨rfl, rfl⟩ | ⟨rfl, rfl⟩
                all_goals
                  go_wp2_with fail
                  go_roundw
                  case rel => exact ⟨z + 1, by omega, by go_num, B8⟩
                  case measure => simp [intOf]; omega
          · obtain rfl : l3 = z := by omega
            go_wp2_with fail
            go_ret
            exact ⟨rfl, B6.out.trans (BR.out.mono B6.out.size)⟩
end Go.Proofs.YtfcbcpfnaadpeaaDoor
