/- Parts Mg, Mj, Ml of this claim, laid one behind the other: walks and the plain laws behind them; each contract states its own conditions. -/
import Derived.Test.YtfcbcpfnaadpeaaGreatDoorZC
import Derived.Test.YtfcbcpfnaadpeaaGreatDoorZE
import Derived.Test.YtfcbcpfnaadpeaaGreatDoorYD
namespace Go.Proofs.YtfcbcpfnaadpeaaGreatDoor
set_option maxRecDepth 100000
set_option maxHeartbeats 64000000
set_option linter.unusedSimpArgs false
set_option linter.unusedVariables false
open Go.RowKit
theorem fRight_any (f : Fl.Floor) (kv ov : Value) (w : World) (h : FlV w kv ov f) :
 Calls Tryz.prog 42 #[flV f kv ov] w fun e w' => TruePost (Fl.Right f) e ∧ Below w.heap.size w w' := by
 obtain ⟨a1, c1, rfl, m1⟩ := h.kind.form
 obtain ⟨a2, c2, rfl, m2⟩ := h.out.form
 have HSZ := hid (fun W hb => size_any f (.slice a1 f.kind.length c1) (.slice a2 f.out.length c2) W hb)
 have HGO := hid (fun hb hs h1 h2 ho => right_of (f := f) hb hs h1 h2 ho)
 have HO0 : Hid (okTo f 0) := hid (fun i hi => absurd hi (by omega))
 have HFL := hid h
 obtain ⟨n, hn⟩ : ∃ n, f.kind.length = n := ⟨_, rfl⟩
 obtain ⟨n2, hn2⟩ : ∃ n, f.out.length = n := ⟨_, rfl⟩
 unfold flV at HSZ ⊢
 rw [hn] at m1 HFL HGO HSZ ⊢
 rw [hn2] at m2 HFL HGO HSZ ⊢
 have HN := hid hn
 have HN2 := hid hn2
 obtain ⟨w1, hw1⟩ : ∃ x, x = w.alloc (.cells #[.int .i64 f.w, .int .i64 f.h, .int .i64 f.d, .slice a1 n c1, .slice a2 n2 c2] 24) := ⟨_, rfl⟩
 have B1 : Hid (Below w.heap.size w w1) := hid (by rw [hw1]; exact (Below.refl _ w).alloc (Nat.le_refl _) _)
 have I1 : Hid (w1.heap[w.heap.size]? = some (.cells #[.int .i64 f.w, .int .i64 f.h, .int .i64 f.d, .slice a1 n c1, .slice a2 n2 c2] 24 (0, 0))) := hid (by rw [hw1]; exact heap_alloc_new _ _)
 have HW1 := hid hw1
 obtain ⟨FW, hFW⟩ : ∃ x, f.w = x := ⟨_, rfl⟩
 obtain ⟨FH, hFH⟩ : ∃ x, f.h = x := ⟨_, rfl⟩
 obtain ⟨FD, hFD⟩ : ∃ x, f.d = x := ⟨_, rfl⟩
 have HFB : Hid (1 ≤ FW → 1 ≤ FH → 1 ≤ FD → FW ≤ 4096 → FH ≤ 4096 → FD ≤ 4 → FB f) := hid (fun h1 h2 h3 h4 h5 h6 => by subst hFW hFH hFD; exact ⟨h1, h2, h3, h4, h5, h6⟩)
 obtain ⟨S, hS⟩ : ∃ x, f.size = x := ⟨_, rfl⟩
 rw [hS] at HSZ HGO
 rw [hFW, hFH, hFD] at HSZ I1 HW1 ⊢
 have p0 : w1.cell? ⟨w.heap.size, 0, none⟩ = some (.int .i64 FW) := cell_of_heap I1.out 0 rfl
 have p1 : w1.cell? ⟨w.heap.size, 1, none⟩ = some (.int .i64 FH) := cell_of_heap I1.out 1 rfl
 have p2 : w1.cell? ⟨w.heap.size, 2, none⟩ = some (.int .i64 FD) := cell_of_heap I1.out 2 rfl
 have p3 : w1.cell? ⟨w.heap.size, 3, none⟩ = some (.slice a1 n c1) := cell_of_heap I1.out 3 rfl
 have p4 : w1.cell? ⟨w.heap.size, 4, none⟩ = some (.slice a2 n2 c2) := cell_of_heap I1.out 4 rfl
 have lw : w.heap.size < w1.heap.size := heap_lt I1.out
 clear h hn hn2 hw1 hFW hFH hFD hS
 go_enter Tryz.func42, Tryz.ntmps42
 go_upto_region 1 with fail
 rw [← HW1.out]
 go_cut [26] (fun v wx => ∃ b : Bool, v = .bool b ∧ Hid (b = false → FB f) ∧ wx = w1)
 case first =>
  go_wp2_with fail
  all_goals
   go_meet
   exact ⟨_, rfl, hid (fun hq => by first | (cases hq; done) | (simp at hq; exact HFB.out (by omega) (by omega) (by omega) (by omega) (by omega) (by omega))), rfl⟩
 case rest =>
  obtain ⟨b, rfl, HB0, hwc⟩ := hcut
  obtain rfl : w1 = wc := hwc.symm
  cases b with
  | true =>
   go_wp2_with fail
   go_ret
   exact ⟨TruePost.no _, B1.out⟩
  | false =>
   have HB := hid (HB0.out (by trivial))
   clear HB0
   go_wp2_with fail
   go_at_call 115; refine (HSZ.out _ HB.out).mono ?_; rintro e w2 ⟨rfl, b2⟩
   have B2 := hid (B1.out.trans (b2.mono B1.out.size))
   have I2 := hid (keep_heap I1.out b2)
   clear b2 p0 p1 p2 p3 p4 lw
   have p3 : w2.cell? ⟨w.heap.size, 3, none⟩ = some (.slice a1 n c1) := cell_of_heap I2.out 3 rfl
   have p4 : w2.cell? ⟨w.heap.size, 4, none⟩ = some (.slice a2 n2 c2) := cell_of_heap I2.out 4 rfl
   have lw : w.heap.size < w2.heap.size := heap_lt I2.out
   go_upto_region 4 with fail
   go_cut [44] (fun v wx => ∃ b : Bool, v = .bool b ∧ Hid (b = false → S ≤ 4096 ∧ (n : Int) = S ∧ (n2 : Int) = S) ∧ wx = w2)
   case first =>
    go_wp2_with fail
    all_goals
     go_meet
     exact ⟨_, rfl, hid (fun hq => by first | (cases hq; done) | (simp_all; omega) | (simp at hq; simp_all <;> omega)), rfl⟩
   case rest =>
    obtain ⟨b, rfl, HB1, hwc⟩ := hcut
    obtain rfl : w2 = wc := hwc.symm
    cases b with
    | true =>
     go_wp2_with fail
     go_ret
     exact ⟨TruePost.no _, B2.out⟩
    | false =>
     obtain ⟨hs1, hs2, hs3⟩ := HB1.out (by trivial)
     obtain rfl : n2 = n := by omega
     have HS := hid (HGO.out HB.out hs1 hs2 hs3)
     have hn4 : (n2 : Int) ≤ 4096 := by omega
     clear HB1 hs1 hs2 hs3
     go_wp2_with fail
     go_loop [48] (fun iv => ∃ k : Nat, k ≤ n2 ∧ iv = .int .i64 k ∧ Hid (okTo f k)) (fun iv => n2 - (intOf iv).toNat)
     case atStart => exact ⟨0, by omega, rfl, HO0⟩
     case round =>
      obtain ⟨k, hk, rfl, HO⟩ := hrel
      by_cases hkn : k < n2
      · have hk1 : k < f.kind.length := by rw [HN.out]; exact hkn
        have hk2 : k < f.out.length := by rw [HN2.out]; exact hkn
        obtain ⟨x1, y1, q1, t1⟩ := (HFL.out.keep B2.out).kind.cell k hk1
        obtain ⟨x2, y2, q2, t2⟩ := (HFL.out.keep B2.out).out.cell k hk2
        subst q1 q2
        obtain ⟨K, hK⟩ : ∃ K, f.kind[k] = K := ⟨_, rfl⟩
        obtain ⟨O, hO⟩ : ∃ O, f.out[k] = O := ⟨_, rfl⟩
        rw [hK] at t1
        rw [hO] at t2
        have HNX : Hid (0 ≤ K → K < 7 → 0 ≤ O → O ≤ 63 → okTo f (k + 1)) := hid (by
         intro r1 r2 r3 r4 i hi
         by_cases hik : i < k
         · exact HO.out i hik
         · obtain rfl : i = k := by omega
           exact ⟨fun _ => by rw [hK]; exact ⟨r1, r2⟩, fun _ => by rw [hO]; exact ⟨r3, r4⟩⟩)
        have k0 : (0 : Int) ≤ (k : Int) := by omega
        have k1 : (k : Int) < (n2 : Int) := by omega
        clear hK hO
        go_wp2_with fail
        all_goals first
         | (go_ret; exact ⟨TruePost.no _, B2.out⟩)
         | (go_round
            case rel => exact ⟨k + 1, by omega, by go_num, hid (HNX.out (by omega) (by omega) (by omega) (by omega))⟩
            case measure => simp [intOf]; omega)
      · obtain rfl : k = n2 := by omega
        go_wp2_with fail
        go_ret
        exact ⟨⟨true, rfl, fun _ => HS.out HO.out⟩, B2.out⟩
open Go.RowKit Go.Maps
structure ZK (s : Si.Site) (k : Nat) : Prop where
 a : ∀ z ∈ s.zones.take k, z.cells ≠ [] ∧ z.cells.Pairwise (· < ·) ∧ 0 ≤ z.keep ∧ 1 ≤ z.speed ∧ z.speed ≤ 100
 b : ∀ z ∈ s.zones.take k, ∀ c ∈ z.cells, ZnC s.floor c
 d : (s.zones.take k).Pairwise (fun y z => ∀ c ∈ y.cells, c ∉ z.cells)
 n : k ≤ 64
def czK (s : Si.Site) (k : Nat) : List Int := (s.zones.take k).flatMap (·.cells)
theorem czK_succ {s : Si.Site} {k : Nat} (h : k < s.zones.length) : czK s (k + 1) = czK s k ++ s.zones[k].cells := by unfold czK; rw [List.take_succ_eq_append_getElem h, List.flatMap_append]; simp
theorem czK_len {s : Si.Site} (h : ∀ z ∈ s.zones, z.cells.length ≤ 1000000) : ∀ k, (czK s k).length ≤ k * 1000000
 | 0 => by simp [czK]
 | k + 1 => by
  by_cases hk : k < s.zones.length
  · rw [czK_succ hk, List.length_append]
    rw [Nat.succ_mul]
    exact Nat.add_le_add (czK_len h k) (h _ (List.getElem_mem hk))
  · have e : czK s (k + 1) = czK s k := by unfold czK; rw [List.take_of_length_le (by omega), List.take_of_length_le (by omega)]
    rw [e]; exact Nat.le_trans (czK_len h k) (Nat.mul_le_mul_right _ (Nat.le_succ k))
theorem no_take {α : Type} {l : List α} {x : α} {p : Prop} (h : x ∈ l.take 0) : p := by rw [List.take_zero] at h; cases h
theorem ZK.zero (s : Si.Site) : ZK s 0 := ⟨fun z h => no_take h, fun z h => no_take h, by rw [List.take_zero]; exact List.Pairwise.nil, Nat.zero_le _⟩
theorem ZK.step {s : Si.Site} {k : Nat} (h : ZK s k) (hk : k < s.zones.length) (h1 : s.zones[k].cells ≠ []) (h2 : s.zones[k].cells.Pairwise (· < ·)) (h3 : 0 ≤ s.zones[k].keep) (h4 : 1 ≤ s.zones[k].speed ∧ s.zones[k].speed ≤ 100) (h5 : ∀ c ∈ s.zones[k].cells, ZnC s.floor c ∧ c ∉ czK s k) (h6 : k < 64) : ZK s (k + 1) where
 a := all_take h.a hk ⟨h1, h2, h3, h4.1, h4.2⟩
 b := all_take h.b hk (fun c hc => (h5 c hc).1)
 d := by
  rw [List.take_succ_eq_append_getElem hk, List.pairwise_append]
  refine ⟨h.d, by simp, fun y hy z hz => ?_⟩
  rw [List.mem_singleton] at hz
  subst hz
  intro c hc hc2
  exact (h5 c hc2).2 (List.mem_flatMap.2 ⟨y, hy, hc⟩)
 n := by omega
structure SK (s : Si.Site) (k : Nat) : Prop where
 a : ∀ x ∈ s.shelves.take k, inK s.floor x.1 = true ∧ (kOf s.floor x.1 = 1 ∨ kOf s.floor x.1 = 2)
 d : ((s.shelves.take k).map (·.1)).Nodup
 n : k ≤ 3000
structure RK (s : Si.Site) (k : Nat) : Prop where
 a : ∀ x ∈ s.robots.take k, inK s.floor x.1 = true ∧ kOf s.floor x.1 ≠ 0 ∧ 0 ≤ x.2 ∧ x.2 ≤ 1000000
 d : ((s.robots.take k).map (·.1)).Nodup
 n : k ≤ 200
theorem nodup_snoc {α : Type} {l : List (Int × α)} {k : Nat} (h : ((l.take k).map (·.1)).Nodup) (hk : k < l.length) (hn : l[k].1 ∉ (l.take k).map (·.1)) : ((l.take (k + 1)).map (·.1)).Nodup := by
 rw [List.take_succ_eq_append_getElem hk, List.map_append, List.nodup_append]
 refine ⟨h, by simp, fun x hx y hy => ?_⟩
 rw [List.map_singleton, List.mem_singleton] at hy
 subst hy
 intro e; subst e; exact hn hx
theorem SK.zero (s : Si.Site) : SK s 0 := ⟨fun z h => no_take h, by rw [List.take_zero]; exact List.Pairwise.nil, Nat.zero_le _⟩
theorem RK.zero (s : Si.Site) : RK s 0 := ⟨fun z h => no_take h, by rw [List.take_zero]; exact List.Pairwise.nil, Nat.zero_le _⟩
theorem SK.step {s : Si.Site} {k : Nat} (h : SK s k) (hk : k < s.shelves.length) (h1 : ShC s k s.shelves[k].1) (h6 : k < 3000) : SK s (k + 1) :=
 ⟨all_take h.a hk ⟨h1.1, h1.2.1⟩, nodup_snoc h.d hk h1.2.2, by omega⟩
theorem RK.step {s : Si.Site} {k : Nat} (h : RK s k) (hk : k < s.robots.length) (h1 : RbC s k s.robots[k]) (h6 : k < 200) : RK s (k + 1) :=
 ⟨all_take h.a hk ⟨h1.1, h1.2.1, h1.2.2.1, h1.2.2.2.1⟩, nodup_snoc h.d hk h1.2.2.2.2, by omega⟩
theorem inK_isC {f : Fl.Floor} (hf : Fl.Right f) {c : Int} (h : inK f c = true) : Fl.isC f c = true ∧ kOf f c = Si.kindAt f c := by
 refine ⟨?_, by unfold kOf; rw [if_pos h]⟩
 unfold inK at h
 unfold Fl.isC
 have := hf.kl
 simp at h ⊢
 omega
theorem right_end {s : Si.Site} (hf : Fl.Right s.floor) (hz : ZK s s.zones.length) (hs : SK s s.shelves.length) (hr : RK s s.robots.length) (hk : ∀ z ∈ s.zones, z.keep ≤ z.cells.length) : RtP s := by
 have ez := List.take_length (l := s.zones)
 have es := List.take_length (l := s.shelves)
 have er := List.take_length (l := s.robots)
 obtain ⟨z1, z2, z3, z4⟩ := hz
 obtain ⟨s1, s2, s3⟩ := hs
 obtain ⟨r1, r2, r3⟩ := hr
 rw [ez] at z1 z2 z3
 rw [es] at s1 s2
 rw [er] at r1 r2
 refine ⟨⟨hf, z4, z1, fun z h c hc => ?_, z3, s3, fun x h => ?_, s2, r3, fun x h => ?_, r2⟩, hk⟩
 · obtain ⟨k1, k2, k3, k4⟩ := z2 z h c hc
   obtain ⟨i1, i2⟩ := inK_isC hf k1
   rw [i2] at k2 k3 k4
   exact ⟨i1, k2, k3, k4⟩
 · obtain ⟨k1, k2⟩ := s1 x h
   obtain ⟨i1, i2⟩ := inK_isC hf k1
   rw [i2] at k2
   exact ⟨i1, k2⟩
 · obtain ⟨k1, k2, k3⟩ := r1 x h
   obtain ⟨i1, i2⟩ := inK_isC hf k1
   rw [i2] at k2
   exact ⟨i1, k2, k3⟩
theorem znZ_cell {w : World} {a : Option Addr} {n cap : Nat} {zl : List (Si.Zone × Value × Value)} (h : Rw w (.slice a n cap) 5 (zl.map fun x => zoneC x.1 x.2.1 x.2.2)) (i : Nat) (hi : i < zl.length) : ∃ b off, a = some ⟨b, off, none⟩ ∧ b < w.heap.size ∧
 w.cell? ⟨b, off + i * 5, none⟩ = some (.string ⟨zl[i].1.name.toArray⟩) ∧ w.cell? ⟨b, off + i * 5 + 1, none⟩ = some zl[i].2.1 ∧ w.cell? ⟨b, off + i * 5 + 2, none⟩ = some (.int .i64 zl[i].1.speed) ∧ w.cell? ⟨b, off + i * 5 + 3, none⟩ = some (.int .i64 zl[i].1.keep) ∧ w.cell? ⟨b, off + i * 5 + 4, none⟩ = some zl[i].2.2 := by
 obtain ⟨b, off, rfl, hlt, hc⟩ := h.cell i (by simpa using hi)
 rw [List.getElem_map] at hc
 exact ⟨b, off, rfl, hlt, hc 0 (by omega), hc 1 (by omega), hc 2 (by omega), hc 3 (by omega), hc 4 (by omega)⟩
theorem MkV.znV {w : World} {base B : Nat} {s : Si.Site} {zl : List (Si.Zone × Value × Value)} {ka ks kr nn : Nat} {cz : List Int} {kv ov zv av sv rv : Value} {b1 b2 b3 b4 b5 : Nat} (h : MkV w base B s zl zl.length ka ks kr nn cz kv ov zv av sv rv b1 b2 b3 b4 b5) (hm : zl.map (·.1) = s.zones) (hi : ∀ x ∈ zl, Is w x.2.1 x.1.cells ∧ ShV w x.2.2 x.1.shut) : ZnV w zv s.zones := by
 refine ⟨zl, hm, ?_, hi⟩
 have h9 := h.hz
 unfold zRows at h9
 rw [List.take_length] at h9
 exact Rw.of_own (rows := zl.map fun x => zoneC x.1 x.2.1 x.2.2) h9 (by simp) (fun r hr => by obtain ⟨x, -, rfl⟩ := List.mem_map.1 hr; rfl) (by omega)
open Go.RowKit Go.Maps
theorem newMaker_ex (s : Si.Site) (zl : List (Si.Zone × Value × Value)) (kv ov : Value) (w : World) :
 Calls Tryz.prog 117 #[flV s.floor kv ov] w fun e w' => ∃ B b1 b2 b3 b4 b5, e = .returned (.pointer (some ⟨B, 0, none⟩)) ∧ Below w.heap.size w w' ∧
  MkV w' w.heap.size B s zl 0 0 0 0 0 [] kv ov (.slice none 0 0) (.slice none 0 0) (.slice none 0 0) (.slice none 0 0) b1 b2 b3 b4 b5 :=
 (newMaker_any s zl kv ov w).mono fun e w' ⟨h1, h2, h3⟩ => ⟨_, _, _, _, _, _, h1, h2, h3⟩
theorem sRight_any (s : Si.Site) (kv ov zv av sv rv : Value) (w : World) (h : SiV w kv ov zv av sv rv s) (hnm : Names s) (hzc : ∀ z ∈ s.zones, z.cells.length ≤ 1000000) (hal : s.aparts.length ≤ 1000000) :
 Calls Tryz.prog 45 #[siV s kv ov zv av sv rv] w fun e w' => TruePost (RtP s) e ∧ Below w.heap.size w w' := by
 obtain ⟨a1, c1, a2, c2, a3, c3, a4, c4, a5, c5, a6, c6, rfl, rfl, rfl, rfl, rfl, rfl, m1, m2, m3, m4, m5, m6⟩ := h.open
 have HV := hid h
 have HNM := hid hnm
 have HZC := hid hzc
 have HFL := hid (fun W hb => fRight_any s.floor (.slice a1 s.floor.kind.length c1) (.slice a2 s.floor.out.length c2) W (h.fl.keep hb))
 obtain ⟨zl, hzm, hzr, hzi⟩ := h.zn
 have HNEW := hid (fun W => newMaker_ex s zl (.slice a1 s.floor.kind.length c1) (.slice a2 s.floor.out.length c2) W)
 have hzl : zl.length = s.zones.length := by rw [← hzm, List.length_map]
 have HZM := hid hzm
 have HZR := hid hzr
 have HZI := hid hzi
 have HFI : Hid (Is w (.slice a1 s.floor.kind.length c1) s.floor.kind ∧ Is w (.slice a2 s.floor.out.length c2) s.floor.out) := hid ⟨h.fl.kind, h.fl.out⟩
 have HAP := hid h.ap
 have HSF := hid h.sf
 have HRB := hid h.rb
 obtain ⟨l1, e1⟩ : ∃ n, s.floor.kind.length = n := ⟨_, rfl⟩
 obtain ⟨l2, e2⟩ : ∃ n, s.floor.out.length = n := ⟨_, rfl⟩
 obtain ⟨l3, e3⟩ : ∃ n, s.zones.length = n := ⟨_, rfl⟩
 obtain ⟨l4, e4⟩ : ∃ n, s.aparts.length = n := ⟨_, rfl⟩
 obtain ⟨l5, e5⟩ : ∃ n, s.shelves.length = n := ⟨_, rfl⟩
 obtain ⟨l6, e6⟩ : ∃ n, s.robots.length = n := ⟨_, rfl⟩
 unfold siV
 unfold flV at HFL HNEW
 rw [e1, e2] at HFL HNEW HFI
 rw [e3] at m3 hzl HZR
 rw [e4] at m4 hal HAP
 rw [e5] at m5 HSF
 rw [e6] at m6 HRB
 rw [e1, e2, e3, e4, e5, e6]
 have E3 := hid e3
 have E4 := hid e4
 have E5 := hid e5
 have E6 := hid e6
 have HZL := hid hzl
 have B1 := hid ((Below.refl _ w).alloc (Nat.le_refl _) (.cells #[.int .i64 s.floor.w, .int .i64 s.floor.h, .int .i64 s.floor.d, .slice a1 l1 c1, .slice a2 l2 c2, .slice a3 l3 c3, .slice a4 l4 c4, .slice a5 l5 c5, .slice a6 l6 c6] 30))
 have I0 := hid (heap_alloc_new w (.cells #[.int .i64 s.floor.w, .int .i64 s.floor.h, .int .i64 s.floor.d, .slice a1 l1 c1, .slice a2 l2 c2, .slice a3 l3 c3, .slice a4 l4 c4, .slice a5 l5 c5, .slice a6 l6 c6] 30))
 clear h hnm hzc hzm hzr hzi hzl e1 e2 e3 e4 e5 e6
 go_enter Tryz.func45, Tryz.ntmps45
 go_wp2_with fail
 go_at_call 42; refine (HFL.out _ B1.out).mono ?_; rintro e w0 ⟨⟨rb, rfl, hrb⟩, b1⟩
 have HFR := hid hrb
 have B2 := hid (B1.out.trans (b1.mono B1.out.size))
 have I2 := hid (keep_heap I0.out b1)
 clear b1 hrb B1 I0
 cases rb with
 | false =>
  go_wp2_with fail
  go_ret
  exact ⟨TruePost.no _, B2.out⟩
 | true =>
  have HF := hid (HFR.out (by trivial))
  clear HFR
  obtain ⟨p0, p1, p2, p3, p4, -⟩ := cells9 I2.out
  go_wp2_with fail
  go_at_call 117; refine (HNEW.out w0).mono ?_; rintro e w3 ⟨B, b1, b2, b3, b4, b5, rfl, bn, hmn⟩
  have BN := hid bn
  have M0 : Hid (MkV w3 w0.heap.size B s zl 0 0 0 0 0 (czK s 0) (.slice a1 l1 c1) (.slice a2 l2 c2) (.slice none 0 0) (.slice none 0 0) (.slice none 0 0) (.slice none 0 0) b1 b2 b3 b4 b5) := hid hmn
  have HKV : Hid (Is w0 (.slice a1 l1 c1) s.floor.kind) := hid (HFI.out.1.keep B2.out)
  have HOV : Hid (Is w0 (.slice a2 l2 c2) s.floor.out) := hid (HFI.out.2.keep B2.out)
  have Z0 := hid (ZK.zero s)
  have I3 := keep_heap I2.out bn
  have q5 : w3.cell? ⟨w.heap.size, 5, none⟩ = some (.slice a3 l3 c3) := cell_of_heap I3 5 rfl
  have lw3 : w.heap.size < w3.heap.size := heap_lt I3
  clear bn hmn p0 p1 p2 p3 p4 I3
  go_wp2_with fail
  go_loopw [22] (fun iv wr => ∃ (k : Nat) (zv : Value), k ≤ l3 ∧ iv = .int .i64 k ∧ Hid (MkV wr w0.heap.size B s zl k 0 0 0 k (czK s k) (.slice a1 l1 c1) (.slice a2 l2 c2) zv (.slice none 0 0) (.slice none 0 0) (.slice none 0 0) b1 b2 b3 b4 b5) ∧ Hid (ZK s k) ∧ Hid (Below w0.heap.size w0 wr)) (fun iv _ => l3 - (intOf iv).toNat)
  case atStart => exact ⟨0, _, by omega, rfl, M0, Z0, BN⟩
  case round =>
   clear q5 lw3 M0 Z0 BN
   obtain ⟨k, zv, hk, rfl, HM, HZK, HB⟩ := hrel
   have BW := hid (B2.out.trans (HB.out.mono B2.out.size))
   by_cases hkn : k < l3
   · as_aux_lemma =>
      have hkl : k < zl.length := by rw [HZL.out]; exact hkn
      have hks : k < s.zones.length := by rw [E3.out]; exact hkn
      have hz1 : zl[k].1 = s.zones[k] := by simp [← HZM.out]
      obtain ⟨zb, zo, t1, hzb, r0, r1, r2, r3, r4⟩ := znZ_cell (Rw.keep HZR.out BW.out) k hkl
      subst t1
      have hzi := HZI.out _ (List.getElem_mem hkl)
      obtain ⟨x, hx⟩ : ∃ x, zl[k] = x := ⟨_, rfl⟩
      have hx2 : zl[k]? = some x := by rw [List.getElem?_eq_getElem hkl, hx]
      rw [hx] at r0 r1 r2 r3 r4 hzi hz1
      obtain ⟨z, u1, u2⟩ := x
      dsimp only at r0 r1 r2 r3 r4 hzi hz1
      obtain ⟨hu1, hu2⟩ := hzi
      obtain ⟨y1, d1, rfl, -⟩ := hu1.form
      obtain ⟨y2, d2, rfl, -⟩ := two_form hu2
      have hnl : z.name.length ≤ 1000000 := by rw [hz1]; exact HNM.out.z _ (List.getElem_mem hks)
      have hcl : z.cells.length ≤ 1000000 := by rw [hz1]; exact HZC.out _ (List.getElem_mem hks)
      have hk64 := HZK.out.n
      have hczl := czK_len HZC.out k
      have HSTEP := hid (fun g1 g2 g3 g4 g5 g6 => HZK.out.step hks g1 g2 g3 g4 g5 g6)
      have HCZ := hid (czK_succ hks)
      rw [← hz1] at HSTEP HCZ
      have HAZ := hid (fun W (hb : Below w0.heap.size w0 W) (hM : MkV W w0.heap.size B s zl k 0 0 0 k (czK s k) (.slice a1 l1 c1) (.slice a2 l2 c2) zv (.slice none 0 0) (.slice none 0 0) (.slice none 0 0) b1 b2 b3 b4 b5) => addZone_any w0 W hb B s zl k 0 0 0 (czK s k) (.slice a1 l1 c1) (.slice a2 l2 c2) zv (.slice none 0 0) (.slice none 0 0) (.slice none 0 0) b1 b2 b3 b4 b5 hM HKV.out z (.slice y1 z.cells.length d1) (.slice y2 z.shut.length d2) hx2 (hu1.keep B2.out) (Rw.keep hu2 B2.out) (by omega) (by omega))
      have HCE := hid (fun W (hb : Below w0.heap.size w0 W) (hM : MkV W w0.heap.size B s zl k 0 0 0 k (czK s k) (.slice a1 l1 c1) (.slice a2 l2 c2) zv (.slice none 0 0) (.slice none 0 0) (.slice none 0 0) b1 b2 b3 b4 b5) => cellsM_any s.floor B _ (.slice a1 l1 c1) (.slice y1 z.cells.length d1) z.cells W hM.hB rfl (HKV.out.keep hb) ((hu1.keep B2.out).keep hb))
      have HSH := hid (fun W hb => shut_any (.slice y2 z.shut.length d2) z.shut W (Rw.keep hu2 hb))
      obtain ⟨NM, hNM⟩ : ∃ N : ByteArray, ⟨z.name.toArray⟩ = N := ⟨_, rfl⟩
      have HN := hid (fun W => SName_any NM W (by rw [← hNM]; show z.name.toArray.size ≤ _; simp; omega))
      rw [hNM] at r0 HAZ
      obtain ⟨SP, hSP⟩ : ∃ x, z.speed = x := ⟨_, rfl⟩
      obtain ⟨KP, hKP⟩ : ∃ x, z.keep = x := ⟨_, rfl⟩
      rw [hSP] at r2 HAZ HSTEP
      rw [hKP] at r3 HAZ HSTEP
      obtain ⟨n1, hn1⟩ : ∃ n, z.cells.length = n := ⟨_, rfl⟩
      obtain ⟨n2, hn2⟩ : ∃ n, z.shut.length = n := ⟨_, rfl⟩
      rw [hn1] at r1 HAZ HCE
      rw [hn2] at r4 HAZ HSH
      have k0 : (0 : Int) ≤ (k : Int) := by omega
      have k1 : (k : Int) < (l3 : Int) := by omega
      obtain ⟨T, hT⟩ : ∃ T, (decide (1 ≤ SP) && decide (SP ≤ 100)) = T := ⟨_, rfl⟩
      have HWI := hid (fun W => within_any SP 1 100 W)
      rw [hT] at HWI
      have HT : Hid (T = true → 1 ≤ SP ∧ SP ≤ 100) := hid (fun h => by rw [h] at hT; simpa using hT)
      obtain ⟨w1, hw1⟩ : ∃ x, x = wr.alloc (.cells #[.string NM, .slice y1 n1 d1, .int .i64 SP, .int .i64 KP, .slice y2 n2 d2] 80) := ⟨_, rfl⟩
      have BA : Hid (Below wr.heap.size wr w1) := hid (by rw [hw1]; exact (Below.refl _ _).alloc (Nat.le_refl _) _)
      have IA : Hid (w1.heap[wr.heap.size]? = some (.cells #[.string NM, .slice y1 n1 d1, .int .i64 SP, .int .i64 KP, .slice y2 n2 d2] 80 (0, 0))) := hid (by rw [hw1]; exact heap_alloc_new _ _)
      have HW1 := hid hw1
      have HM1 := hid (HM.out.below BA.out)
      have B01 := hid (HB.out.trans (BA.out.mono HB.out.size))
      have BB1 := hid (B2.out.trans (B01.out.mono B2.out.size))
      have lr1 : wr.heap.size < w1.heap.size := heap_lt IA.out
      have x0 : w1.cell? ⟨wr.heap.size, 0, none⟩ = some (.string NM) := cell_of_heap IA.out 0 rfl
      have x1 : w1.cell? ⟨wr.heap.size, 1, none⟩ = some (.slice y1 n1 d1) := cell_of_heap IA.out 1 rfl
      have x2 : w1.cell? ⟨wr.heap.size, 2, none⟩ = some (.int .i64 SP) := cell_of_heap IA.out 2 rfl
      have x3 : w1.cell? ⟨wr.heap.size, 3, none⟩ = some (.int .i64 KP) := cell_of_heap IA.out 3 rfl
      have x4 : w1.cell? ⟨wr.heap.size, 4, none⟩ = some (.slice y2 n2 d2) := cell_of_heap IA.out 4 rfl
      clear hx hx2 hu1 hu2 hz1 hNM hSP hKP hn1 hn2 hT hw1 hnl hcl hk64 hczl
      go_upto_region 7 with fail
      rw [← HW1.out]
      clear r0 r1 r2 r3 r4
      go_wp2_with fail
      go_at_call 118; refine (HN.out _).mono ?_; rintro e w5 ⟨⟨q, rfl⟩, rfl⟩
      cases q with
      | false =>
       go_wp2_with fail
       go_ret
       exact ⟨TruePost.no _, BB1.out⟩
      | true =>
       cases T with
       | false =>
        go_wp2_with fail
        go_at_call 119; refine (HWI.out _).mono ?_; rintro e w5 ⟨rfl, rfl⟩
        go_wp2_with fail
        go_ret
        exact ⟨TruePost.no _, BB1.out⟩
       | true =>
        by_cases hkp : KP < 0
        · go_wp2_with fail
          go_at_call 119; refine (HWI.out _).mono ?_; rintro e w5 ⟨rfl, rfl⟩
          go_wp2_with fail
          go_ret
          exact ⟨TruePost.no _, BB1.out⟩
        · go_wp2_with fail
          go_at_call 119; refine (HWI.out _).mono ?_; rintro e w5 ⟨rfl, rfl⟩
          go_wp2_with fail
          go_at_call 120; refine (HSH.out _ BB1.out).mono ?_; rintro e w6 ⟨⟨q, rfl⟩, b6⟩
          have B06 := hid (B01.out.trans (b6.mono B01.out.size))
          have BB6 := hid (BB1.out.trans (b6.mono BB1.out.size))
          have HM6 := hid (HM1.out.below b6)
          have I6 := hid (keep_heap IA.out b6)
          clear b6 x0 x1 x2 x3 x4 lr1
          cases q with
          | false =>
           go_wp2_with fail
           go_ret
           exact ⟨TruePost.no _, BB6.out⟩
          | true =>
           have lr6 : wr.heap.size < w6.heap.size := heap_lt I6.out
           have x0 : w6.cell? ⟨wr.heap.size, 0, none⟩ = some (.string NM) := cell_of_heap I6.out 0 rfl
           have x1 : w6.cell? ⟨wr.heap.size, 1, none⟩ = some (.slice y1 n1 d1) := cell_of_heap I6.out 1 rfl
           have x2 : w6.cell? ⟨wr.heap.size, 2, none⟩ = some (.int .i64 SP) := cell_of_heap I6.out 2 rfl
           have x3 : w6.cell? ⟨wr.heap.size, 3, none⟩ = some (.int .i64 KP) := cell_of_heap I6.out 3 rfl
           have x4 : w6.cell? ⟨wr.heap.size, 4, none⟩ = some (.slice y2 n2 d2) := cell_of_heap I6.out 4 rfl
           go_wp2_with fail
           go_at_call 121; refine (HCE.out _ B06.out HM6.out).mono ?_; rintro e w7 ⟨⟨q, rfl, hq⟩, rfl⟩
           have HQ := hid hq
           clear hq
           cases q with
           | false =>
            go_wp2_with fail
            go_ret
            exact ⟨TruePost.no _, BB6.out⟩
           | true =>
            have HAS := hid (HQ.out (by trivial))
            go_wp2_with fail
            go_at_call 122; refine (HAZ.out _ B06.out HM6.out).mono ?_; rintro e w8 ⟨E, rfl, b8, hE⟩
            have B08 := hid (B06.out.trans b8)
            have BB8 := hid (B2.out.trans (B08.out.mono B2.out.size))
            have HEE := hid hE
            clear b8 hE x0 x1 x2 x3 x4 lr6
            by_cases hE0 : E = 0
            · obtain ⟨g1, g2, zv', g3⟩ := HEE.out hE0
              have HM8 : Hid (MkV w8 w0.heap.size B s zl (k + 1) 0 0 0 (k + 1) (czK s (k + 1)) (.slice a1 l1 c1) (.slice a2 l2 c2) zv' (.slice none 0 0) (.slice none 0 0) (.slice none 0 0) b1 b2 b3 b4 b5) := hid (by rw [HCZ.out]; exact g3)
              have HZ8 := hid (HSTEP.out HAS.out.2 HAS.out.1.asc (by omega) (HT.out (by trivial)) g2 g1)
              have tE : (E != 0) = false := by simp [hE0]
              clear g1 g2 g3 hE0
              go_wp2_with fail
              go_roundw
              case rel => exact ⟨k + 1, zv', by omega, by go_num, HM8, HZ8, B08⟩
              case measure => simp [intOf]; omega
            · have tE : (E != 0) = true := by simp [hE0]
              clear hE0
              go_wp2_with fail
              go_ret
              exact ⟨TruePost.no _, BB8.out⟩
   · obtain rfl : l3 = k := by omega
     have I4 := keep_heap I2.out HB.out
     have q6 : wr.cell? ⟨w.heap.size, 6, none⟩ = some (.slice a4 l4 c4) := cell_of_heap I4 6 rfl
     have lw4 : w.heap.size < wr.heap.size := heap_lt I4
     clear I4
     go_wp2_with fail
     go_loopw [64] (fun iv wr => ∃ (k : Nat) (av : Value), k ≤ l4 ∧ iv = .int .i64 k ∧ Hid (MkV wr w0.heap.size B s zl l3 k 0 0 l3 (czK s l3) (.slice a1 l1 c1) (.slice a2 l2 c2) zv av (.slice none 0 0) (.slice none 0 0) b1 b2 b3 b4 b5) ∧ Hid (Below w0.heap.size w0 wr)) (fun iv _ => l4 - (intOf iv).toNat)
     case atStart => exact ⟨0, _, by omega, rfl, HM, HB⟩
     case round =>
      clear q6 lw4 HM HB BW
      obtain ⟨k, av, hk, rfl, HM, HB⟩ := hrel
      have BW := hid (B2.out.trans (HB.out.mono B2.out.size))
      by_cases hkn : k < l4
      · as_aux_lemma =>
         have hks : k < s.aparts.length := by rw [E4.out]; exact hkn
         obtain ⟨zb, zo, t1, hzb, r0, r1⟩ := ApV.cell (Rw.keep HAP.out BW.out) k hks
         subst t1
         have hnl := HNM.out.a _ (List.getElem_mem hks)
         obtain ⟨x, hx⟩ : ∃ x, s.aparts[k] = x := ⟨_, rfl⟩
         have hx2 : s.aparts[k]? = some x := by rw [List.getElem?_eq_getElem hks, hx]
         rw [hx] at r0 r1 hnl
         have HAA := hid (fun W (hM : MkV W w0.heap.size B s zl l3 k 0 0 l3 (czK s l3) (.slice a1 l1 c1) (.slice a2 l2 c2) zv av (.slice none 0 0) (.slice none 0 0) b1 b2 b3 b4 b5) => addApart_any w0.heap.size W B s zl l3 k 0 0 l3 (czK s l3) (.slice a1 l1 c1) (.slice a2 l2 c2) zv av (.slice none 0 0) (.slice none 0 0) b1 b2 b3 b4 b5 hM x hx2 (by omega) (by omega))
         obtain ⟨NA, hNA⟩ : ∃ N : ByteArray, ⟨x.1.toArray⟩ = N := ⟨_, rfl⟩
         obtain ⟨NB, hNB⟩ : ∃ N : ByteArray, ⟨x.2.toArray⟩ = N := ⟨_, rfl⟩
         rw [hNA] at r0 HAA
         rw [hNB] at r1 HAA
         have k0 : (0 : Int) ≤ (k : Int) := by omega
         have k1 : (k : Int) < (l4 : Int) := by omega
         have BA : Hid (Below wr.heap.size wr (wr.alloc (.cells #[.string NA, .string NB] 161))) := hid ((Below.refl _ _).alloc (Nat.le_refl _) _)
         have HM1 := hid (HM.out.below BA.out)
         have B01 := hid (HB.out.trans (BA.out.mono HB.out.size))
         clear hx hx2 hnl hNA hNB
         go_wp2_with fail
         go_at_call 123; refine (HAA.out _ HM1.out).mono ?_; rintro e w8 ⟨E, rfl, b8, hE⟩
         have B08 := hid (B01.out.trans b8)
         have BB8 := hid (B2.out.trans (B08.out.mono B2.out.size))
         have HEE := hid hE
         clear b8 hE
         by_cases hE0 : E = 0
         · obtain ⟨av', g3⟩ := HEE.out hE0
           have HM8 := hid g3
           have tE : (E != 0) = false := by simp [hE0]
           clear g3 hE0
           go_wp2_with fail
           go_roundw
           case rel => exact ⟨k + 1, av', by omega, by go_num, HM8, B08⟩
           case measure => simp [intOf]; omega
         · have tE : (E != 0) = true := by simp [hE0]
           clear hE0
           go_wp2_with fail
           go_ret
           exact ⟨TruePost.no _, BB8.out⟩
      · obtain rfl : l4 = k := by omega
        have S0 := hid (SK.zero s)
        have I4 := keep_heap I2.out HB.out
        have q7 : wr.cell? ⟨w.heap.size, 7, none⟩ = some (.slice a5 l5 c5) := cell_of_heap I4 7 rfl
        have lw4 : w.heap.size < wr.heap.size := heap_lt I4
        clear I4
        go_wp2_with fail
        go_loopw [76] (fun iv wr => ∃ (k : Nat) (sv : Value), k ≤ l5 ∧ iv = .int .i64 k ∧ Hid (MkV wr w0.heap.size B s zl l3 l4 k 0 l3 (czK s l3) (.slice a1 l1 c1) (.slice a2 l2 c2) zv av sv (.slice none 0 0) b1 b2 b3 b4 b5) ∧ Hid (SK s k) ∧ Hid (Below w0.heap.size w0 wr)) (fun iv _ => l5 - (intOf iv).toNat)
        case atStart => exact ⟨0, _, by omega, rfl, HM, S0, HB⟩
        case round =>
         clear q7 lw4 HM HB BW S0
         obtain ⟨k, sv, hk, rfl, HM, HSK, HB⟩ := hrel
         have BW := hid (B2.out.trans (HB.out.mono B2.out.size))
         by_cases hkn : k < l5
         · as_aux_lemma =>
            have hks : k < s.shelves.length := by rw [E5.out]; exact hkn
            obtain ⟨zb, zo, t1, hzb, r0, r1⟩ := SfV.cell (Rw.keep HSF.out BW.out) k hks
            subst t1
            have hnl := HNM.out.s _ (List.getElem_mem hks)
            have HSTEP := hid (fun g1 g2 => HSK.out.step hks g1 g2)
            obtain ⟨x, hx⟩ : ∃ x, s.shelves[k] = x := ⟨_, rfl⟩
            have hx2 : s.shelves[k]? = some x := by rw [List.getElem?_eq_getElem hks, hx]
            rw [hx] at r0 r1 hnl HSTEP
            have HAA := hid (fun W (hb : Below w0.heap.size w0 W) (hM : MkV W w0.heap.size B s zl l3 l4 k 0 l3 (czK s l3) (.slice a1 l1 c1) (.slice a2 l2 c2) zv av sv (.slice none 0 0) b1 b2 b3 b4 b5) => addShelf_any w0 W hb B s zl l3 l4 k 0 l3 (czK s l3) (.slice a1 l1 c1) (.slice a2 l2 c2) zv av sv (.slice none 0 0) b1 b2 b3 b4 b5 hM HKV.out x hx2 (by omega))
            obtain ⟨C, hC⟩ : ∃ C, x.1 = C := ⟨_, rfl⟩
            obtain ⟨NB, hNB⟩ : ∃ N : ByteArray, ⟨x.2.toArray⟩ = N := ⟨_, rfl⟩
            rw [hC] at r0 HAA HSTEP
            rw [hNB] at r1 HAA
            have k0 : (0 : Int) ≤ (k : Int) := by omega
            have k1 : (k : Int) < (l5 : Int) := by omega
            have BA : Hid (Below wr.heap.size wr (wr.alloc (.cells #[.int .i64 C, .string NB] 163))) := hid ((Below.refl _ _).alloc (Nat.le_refl _) _)
            have HM1 := hid (HM.out.below BA.out)
            have B01 := hid (HB.out.trans (BA.out.mono HB.out.size))
            clear hx hx2 hnl hC hNB
            go_wp2_with fail
            go_at_call 124; refine (HAA.out _ B01.out HM1.out).mono ?_; rintro e w8 ⟨E, rfl, b8, hE⟩
            have B08 := hid (B01.out.trans b8)
            have BB8 := hid (B2.out.trans (B08.out.mono B2.out.size))
            have HEE := hid hE
            clear b8 hE
            by_cases hE0 : E = 0
            · obtain ⟨g1, g2, sv', g3⟩ := HEE.out hE0
              have HM8 := hid g3
              have HS8 := hid (HSTEP.out g2 g1)
              have tE : (E != 0) = false := by simp [hE0]
              clear g1 g2 g3 hE0
              go_wp2_with fail
              go_roundw
              case rel => exact ⟨k + 1, sv', by omega, by go_num, HM8, HS8, B08⟩
              case measure => simp [intOf]; omega
            · have tE : (E != 0) = true := by simp [hE0]
              clear hE0
              go_wp2_with fail
              go_ret
              exact ⟨TruePost.no _, BB8.out⟩
         · obtain rfl : l5 = k := by omega
           have R0 := hid (RK.zero s)
           have I4 := keep_heap I2.out HB.out
           have q8 : wr.cell? ⟨w.heap.size, 8, none⟩ = some (.slice a6 l6 c6) := cell_of_heap I4 8 rfl
           have lw4 : w.heap.size < wr.heap.size := heap_lt I4
           clear I4
           go_wp2_with fail
           go_loopw [88] (fun iv wr => ∃ (k : Nat) (rv : Value), k ≤ l6 ∧ iv = .int .i64 k ∧ Hid (MkV wr w0.heap.size B s zl l3 l4 l5 k l3 (czK s l3) (.slice a1 l1 c1) (.slice a2 l2 c2) zv av sv rv b1 b2 b3 b4 b5) ∧ Hid (RK s k) ∧ Hid (Below w0.heap.size w0 wr)) (fun iv _ => l6 - (intOf iv).toNat)
           case atStart => exact ⟨0, _, by omega, rfl, HM, R0, HB⟩
           case round =>
            clear q8 lw4 HM HB BW R0
            obtain ⟨k, rv, hk, rfl, HM, HRK, HB⟩ := hrel
            have BW := hid (B2.out.trans (HB.out.mono B2.out.size))
            by_cases hkn : k < l6
            · as_aux_lemma =>
               have hks : k < s.robots.length := by rw [E6.out]; exact hkn
               obtain ⟨zb, zo, t1, hzb, r0, r1⟩ := ShV.cell (Rw.keep HRB.out BW.out) k hks
               subst t1
               have HSTEP := hid (fun g1 g2 => HRK.out.step hks g1 g2)
               obtain ⟨x, hx⟩ : ∃ x, s.robots[k] = x := ⟨_, rfl⟩
               have hx2 : s.robots[k]? = some x := by rw [List.getElem?_eq_getElem hks, hx]
               rw [hx] at r0 r1 HSTEP
               have HAA := hid (fun W (hb : Below w0.heap.size w0 W) (hM : MkV W w0.heap.size B s zl l3 l4 l5 k l3 (czK s l3) (.slice a1 l1 c1) (.slice a2 l2 c2) zv av sv rv b1 b2 b3 b4 b5) => addRobot_any w0 W hb B s zl l3 l4 l5 k l3 (czK s l3) (.slice a1 l1 c1) (.slice a2 l2 c2) zv av sv rv b1 b2 b3 b4 b5 hM HKV.out x hx2)
               obtain ⟨C, D⟩ := x
               dsimp only at r0 r1 HAA
               have k0 : (0 : Int) ≤ (k : Int) := by omega
               have k1 : (k : Int) < (l6 : Int) := by omega
               have BA : Hid (Below wr.heap.size wr (wr.alloc (.cells #[.int .i64 C, .int .i64 D] 159))) := hid ((Below.refl _ _).alloc (Nat.le_refl _) _)
               have HM1 := hid (HM.out.below BA.out)
               have B01 := hid (HB.out.trans (BA.out.mono HB.out.size))
               clear hx hx2
               go_wp2_with fail
               go_at_call 125; refine (HAA.out _ B01.out HM1.out).mono ?_; rintro e w8 ⟨E, rfl, b8, hE⟩
               have B08 := hid (B01.out.trans b8)
               have BB8 := hid (B2.out.trans (B08.out.mono B2.out.size))
               have HEE := hid hE
               clear b8 hE
               by_cases hE0 : E = 0
               · obtain ⟨g1, g2, rv', g3⟩ := HEE.out hE0
                 have HM8 := hid g3
                 have HS8 := hid (HSTEP.out g2 g1)
                 have tE : (E != 0) = false := by simp [hE0]
                 clear g1 g2 g3 hE0
                 go_wp2_with fail
                 go_roundw
                 case rel => exact ⟨k + 1, rv', by omega, by go_num, HM8, HS8, B08⟩
                 case measure => simp [intOf]; omega
               · have tE : (E != 0) = true := by simp [hE0]
                 clear hE0
                 go_wp2_with fail
                 go_ret
                 exact ⟨TruePost.no _, BB8.out⟩
            · as_aux_lemma =>
               obtain rfl : l6 = k := by omega
               have HBE := hid (besideM_any w0 wr HB.out B s zl l3 l4 l5 l6 l3 (czK s l3) (.slice a1 l1 c1) (.slice a2 l2 c2) zv av sv rv b1 b2 b3 b4 b5 HM.out HKV.out HOV.out HF.out (by rw [E4.out]; omega) (by rw [E5.out]; omega))
               go_wp2_with fail
               go_at_call 126; refine HBE.out.mono ?_; rintro e w5 ⟨⟨n, rfl⟩, b5⟩
               have B05 := hid (HB.out.trans (b5.mono HB.out.size))
               have BB5 := hid (B2.out.trans (B05.out.mono B2.out.size))
               have HM5 := hid (HM.out.below b5)
               clear b5
               by_cases hn0 : n < 0
               · have HZV : Hid (ZnV w5 zv s.zones) := hid (by
                  have h9 := HM5.out
                  rw [← HZL.out] at h9
                  exact h9.znV HZM.out (fun x hx => ⟨(HZI.out x hx).1.keep BB5.out, Rw.keep (HZI.out x hx).2 BB5.out⟩))
                 have HCR := hid (crowded_any w5 w0.heap.size B s zl l3 l4 l5 l6 l3 (czK s l3) (.slice a1 l1 c1) (.slice a2 l2 c2) zv av sv rv b1 b2 b3 b4 b5 HM5.out (HKV.out.keep B05.out) s.zones HZV.out (fun z hz => ⟨fun c hc => by
                  have h9 := HZK.out.b
                  rw [List.take_of_length_le (by rw [E3.out]; omega)] at h9
                  exact (h9 z hz c hc).1, HZC.out z hz⟩))
                 go_wp2_with fail
                 go_at_call 127; refine HCR.out.mono ?_; rintro e w6 ⟨⟨m, rfl, hm⟩, b6⟩
                 have HMM := hid hm
                 have B06 := hid (B05.out.trans (b6.mono B05.out.size))
                 have BB6 := hid (B2.out.trans (B06.out.mono B2.out.size))
                 have HM6 := hid (HM5.out.below b6)
                 clear b6 hm
                 by_cases hm0 : m < 0
                 · have HRT : Hid (RtP s) := hid (right_end HF.out (by rw [E3.out]; exact HZK.out) (by rw [E5.out]; exact HSK.out) (by rw [E6.out]; exact HRK.out) (HMM.out hm0))
                   have HCH := hid (chargerM_any s.floor B _ (.slice a1 l1 c1) w6 HM6.out.hB rfl (HKV.out.keep B06.out))
                   go_wp2_with fail
                   go_at_call 128; refine HCH.out.mono ?_; rintro e w7 ⟨⟨q, rfl⟩, rfl⟩
                   go_wp2_with fail
                   go_ret
                   exact ⟨⟨_, rfl, fun _ => HRT.out⟩, BB6.out⟩
                 · go_wp2_with fail
                   go_ret
                   exact ⟨TruePost.no _, BB6.out⟩
               · go_wp2_with fail
                 go_ret
                 exact ⟨TruePost.no _, BB5.out⟩
end Go.Proofs.YtfcbcpfnaadpeaaGreatDoor
