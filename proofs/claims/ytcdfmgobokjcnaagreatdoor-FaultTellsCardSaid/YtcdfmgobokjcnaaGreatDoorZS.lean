/- Parts Mg, Mj of this claim, laid one behind the other: walks and the plain laws behind them; each contract states its own conditions. -/
import Derived.Test.YtcdfmgobokjcnaaGreatDoorZO
import Derived.Test.YtcdfmgobokjcnaaGreatDoorZQ
/- Walks of package floor: Right. -/
namespace Go.Proofs.YtcdfmgobokjcnaaGreatDoor
set_option linter.unusedSimpArgs false
set_option linter.unusedVariables false
open Go.RowKit

set_option maxRecDepth 100000 in
set_option maxHeartbeats 16000000 in
theorem fRight_any (f : Fl.Floor) (kv ov : Value) (w : World) (h : FlV w kv ov f) :
    Calls Tryz.prog 69 #[flV f kv ov] w fun e w' => TruePost (Fl.Right f) e ∧ Below w.heap.size w w' := by
  obtain ⟨a1, c1, rfl, m1⟩ := h.kind.form
  obtain ⟨a2, c2, rfl, m2⟩ := h.out.form
  have HSZ := Lib.hid (fun W hb => size_any f (.slice a1 f.kind.length c1) (.slice a2 f.out.length c2) W hb)
  have HGO := Lib.hid (fun hb hs h1 h2 ho => right_of (f := f) hb hs h1 h2 ho)
  have HO0 : Hid (okTo f 0) := Lib.hid (fun i hi => absurd hi (by omega))
  have HFL := Lib.hid h
  obtain ⟨n, hn⟩ : ∃ n, f.kind.length = n := ⟨_, rfl⟩
  obtain ⟨n2, hn2⟩ : ∃ n, f.out.length = n := ⟨_, rfl⟩
  unfold flV at HSZ ⊢
  rw [hn] at m1 HFL HGO HSZ ⊢
  rw [hn2] at m2 HFL HGO HSZ ⊢
  have HN := Lib.hid hn
  have HN2 := Lib.hid hn2
  obtain ⟨w1, hw1⟩ : ∃ x, x = w.alloc (.cells #[.int .i64 f.w, .int .i64 f.h, .int .i64 f.d, .slice a1 n c1, .slice a2 n2 c2] 24) := ⟨_, rfl⟩
  have B1 : Hid (Below w.heap.size w w1) := Lib.hid (by rw [hw1]; exact (Below.refl _ w).alloc (Nat.le_refl _) _)
  have I1 : Hid (w1.heap[w.heap.size]? = some (.cells #[.int .i64 f.w, .int .i64 f.h, .int .i64 f.d, .slice a1 n c1, .slice a2 n2 c2] 24 (0, 0))) := Lib.hid (by rw [hw1]; exact heap_alloc_new _ _)
  have HW1 := Lib.hid hw1
  obtain ⟨FW, hFW⟩ : ∃ x, f.w = x := ⟨_, rfl⟩
  obtain ⟨FH, hFH⟩ : ∃ x, f.h = x := ⟨_, rfl⟩
  obtain ⟨FD, hFD⟩ : ∃ x, f.d = x := ⟨_, rfl⟩
  have HFB : Hid (1 ≤ FW → 1 ≤ FH → 1 ≤ FD → FW ≤ 4096 → FH ≤ 4096 → FD ≤ 4 → FB f) := Lib.hid (fun h1 h2 h3 h4 h5 h6 => by subst hFW hFH hFD; exact ⟨h1, h2, h3, h4, h5, h6⟩)
  obtain ⟨S, hS⟩ : ∃ x, f.size = x := ⟨_, rfl⟩
  rw [hS] at HSZ HGO
  rw [hFW, hFH, hFD] at HSZ I1 HW1 ⊢
  have p0 : w1.cell? ⟨w.heap.size, 0, none⟩ = some (.int .i64 FW) := cell_of_heap I1.out 0 rfl
  have p1 : w1.cell? ⟨w.heap.size, 1, none⟩ = some (.int .i64 FH) := cell_of_heap I1.out 1 rfl
  have p2 : w1.cell? ⟨w.heap.size, 2, none⟩ = some (.int .i64 FD) := cell_of_heap I1.out 2 rfl
  have p3 : w1.cell? ⟨w.heap.size, 3, none⟩ = some (.slice a1 n c1) := cell_of_heap I1.out 3 rfl
  have p4 : w1.cell? ⟨w.heap.size, 4, none⟩ = some (.slice a2 n2 c2) := cell_of_heap I1.out 4 rfl
  have lw : w.heap.size < w1.heap.size := heap_lt I1.out
  clear h hn hn2 hw1 hFW hFH hFD hS
  go_enter Tryz.func69, Tryz.ntmps69
  go_upto_region 1 with fail
  rw [← HW1.out]
  go_cut [26] (fun v wx => ∃ b : Bool, v = .bool b ∧ Hid (b = false → FB f) ∧ wx = w1)
  case first =>
    go_wp2_with fail
    all_goals
      go_meet
      exact ⟨_, rfl, Lib.hid (fun hq => by first | (cases hq; done) | (simp at hq; exact HFB.out (by omega) (by omega) (by omega) (by omega) (by omega) (by omega))), rfl⟩
  case rest =>
    obtain ⟨b, rfl, HB0, hwc⟩ := hcut
    obtain rfl : w1 = wc := hwc.symm
    cases b with
    | true =>
      go_wp2_with fail
      go_ret
      exact ⟨TruePost.no _, B1.out⟩
    | false =>
      have HB := Lib.hid (HB0.out (by trivial))
      clear HB0
      go_wp2_with fail
      go_at_call 109; refine (HSZ.out _ HB.out).mono ?_; rintro e w2 ⟨rfl, b2⟩
      have B2 := Lib.hid (B1.out.trans (b2.mono B1.out.size))
      have I2 := Lib.hid (keep_heap I1.out b2)
      clear b2 p0 p1 p2 p3 p4 lw
      have p3 : w2.cell? ⟨w.heap.size, 3, none⟩ = some (.slice a1 n c1) := cell_of_heap I2.out 3 rfl
      have p4 : w2.cell? ⟨w.heap.size, 4, none⟩ = some (.slice a2 n2 c2) := cell_of_heap I2.out 4 rfl
      have lw : w.heap.size < w2.heap.size := heap_lt I2.out
      go_upto_region 4 with fail
      go_cut [44] (fun v wx => ∃ b : Bool, v = .bool b ∧ Hid (b = false → S ≤ 4096 ∧ (n : Int) = S ∧ (n2 : Int) = S) ∧ wx = w2)
      case first =>
        go_wp2_with fail
        all_goals
          go_meet
          exact ⟨_, rfl, Lib.hid (fun hq => by first | (cases hq; done) | (simp_all; omega) | (simp at hq; simp_all <;> omega)), rfl⟩
      case rest =>
        obtain ⟨b, rfl, HB1, hwc⟩ := hcut
        obtain rfl : w2 = wc := hwc.symm
        cases b with
        | true =>
          go_wp2_with fail
          go_ret
          exact ⟨TruePost.no _, B2.out⟩
        | false =>
          obtain ⟨hs1, hs2, hs3⟩ := HB1.out (by trivial)
          obtain rfl : n2 = n := by omega
          have HS := Lib.hid (HGO.out HB.out hs1 hs2 hs3)
          have hn4 : (n2 : Int) ≤ 4096 := by omega
          clear HB1 hs1 hs2 hs3
          go_wp2_with fail
          go_loop [48] (fun iv => ∃ k : Nat, k ≤ n2 ∧ iv = .int .i64 k ∧ Hid (okTo f k)) (fun iv => n2 - (intOf iv).toNat)
          case atStart => exact ⟨0, by omega, rfl, HO0⟩
          case round =>
            obtain ⟨k, hk, rfl, HO⟩ := hrel
            by_cases hkn : k < n2
            · have hk1 : k < f.kind.length := by rw [HN.out]; exact hkn
              have hk2 : k < f.out.length := by rw [HN2.out]; exact hkn
              obtain ⟨x1, y1, q1, t1⟩ := (HFL.out.keep B2.out).kind.cell k hk1
              obtain ⟨x2, y2, q2, t2⟩ := (HFL.out.keep B2.out).out.cell k hk2
              subst q1 q2
              obtain ⟨K, hK⟩ : ∃ K, f.kind[k] = K := ⟨_, rfl⟩
              obtain ⟨O, hO⟩ : ∃ O, f.out[k] = O := ⟨_, rfl⟩
              rw [hK] at t1
              rw [hO] at t2
              have HNX : Hid (0 ≤ K → K < 7 → 0 ≤ O → O ≤ 63 → okTo f (k + 1)) := Lib.hid (by
                intro r1 r2 r3 r4 i hi
                by_cases hik : i < k
                · exact HO.out i hik
                · obtain rfl : i = k := by omega
                  exact ⟨fun _ => by rw [hK]; exact ⟨r1, r2⟩, fun _ => by rw [hO]; exact ⟨r3, r4⟩⟩)
              have k0 : (0 : Int) ≤ (k : Int) := by omega
              have k1 : (k : Int) < (n2 : Int) := by omega
              clear hK hO
              go_wp2_with fail
              all_goals first
                | (go_ret; exact ⟨TruePost.no _, B2.out⟩)
                | (go_round
                   case rel => exact ⟨k + 1, by omega, by go_num, Lib.hid (HNX.out (by omega) (by omega) (by omega) (by omega))⟩
                   case measure => simp [intOf]; omega)
            · obtain rfl : k = n2 := by omega
              go_wp2_with fail
              go_ret
              exact ⟨⟨true, rfl, fun _ => HS.out HO.out⟩, B2.out⟩
end Go.Proofs.YtcdfmgobokjcnaaGreatDoor
/- What survey.Right has shown after its first steps, in plain words; what it shows at the end. -/
namespace Go.Proofs.YtcdfmgobokjcnaaGreatDoor
set_option linter.unusedSimpArgs false
set_option linter.unusedVariables false
open Go.RowKit Go.Maps

/-- The first zones are right. -/
structure ZK (s : Si.Site) (k : Nat) : Prop where
  a : ∀ z ∈ s.zones.take k, z.cells ≠ [] ∧ z.cells.Pairwise (· < ·) ∧ 0 ≤ z.keep ∧ 1 ≤ z.speed ∧ z.speed ≤ 100
  b : ∀ z ∈ s.zones.take k, ∀ c ∈ z.cells, ZnC s.floor c
  d : (s.zones.take k).Pairwise (fun y z => ∀ c ∈ y.cells, c ∉ z.cells)
  n : k ≤ 64
def czK (s : Si.Site) (k : Nat) : List Int := (s.zones.take k).flatMap (·.cells)
theorem czK_succ {s : Si.Site} {k : Nat} (h : k < s.zones.length) : czK s (k + 1) = czK s k ++ s.zones[k].cells := by unfold czK; rw [List.take_succ_eq_append_getElem h, List.flatMap_append]; simp
theorem czK_len {s : Si.Site} (h : ∀ z ∈ s.zones, z.cells.length ≤ 1000000) : ∀ k, (czK s k).length ≤ k * 1000000
  | 0 => by simp [czK]
  | k + 1 => by
    by_cases hk : k < s.zones.length
    · rw [czK_succ hk, List.length_append]
      rw [Nat.succ_mul]
      exact Nat.add_le_add (czK_len h k) (h _ (List.getElem_mem hk))
    · have e : czK s (k + 1) = czK s k := by unfold czK; rw [List.take_of_length_le (by omega), List.take_of_length_le (by omega)]
      rw [e]; exact Nat.le_trans (czK_len h k) (Nat.mul_le_mul_right _ (Nat.le_succ k))
theorem no_take {α : Type} {l : List α} {x : α} {p : Prop} (h : x ∈ l.take 0) : p := by rw [List.take_zero] at h; cases h
theorem ZK.zero (s : Si.Site) : ZK s 0 := ⟨fun z h => no_take h, fun z h => no_take h, by rw [List.take_zero]; exact List.Pairwise.nil, Nat.zero_le _⟩
theorem ZK.step {s : Si.Site} {k : Nat} (h : ZK s k) (hk : k < s.zones.length) (h1 : s.zones[k].cells ≠ []) (h2 : s.zones[k].cells.Pairwise (· < ·)) (h3 : 0 ≤ s.zones[k].keep) (h4 : 1 ≤ s.zones[k].speed ∧ s.zones[k].speed ≤ 100) (h5 : ∀ c ∈ s.zones[k].cells, ZnC s.floor c ∧ c ∉ czK s k) (h6 : k < 64) : ZK s (k + 1) where
  a := all_take h.a hk ⟨h1, h2, h3, h4.1, h4.2⟩
  b := all_take h.b hk (fun c hc => (h5 c hc).1)
  d := by
    rw [List.take_succ_eq_append_getElem hk, List.pairwise_append]
    refine ⟨h.d, by simp, fun y hy z hz => ?_⟩
    rw [List.mem_singleton] at hz
    subst hz
    intro c hc hc2
    exact (h5 c hc2).2 (List.mem_flatMap.2 ⟨y, hy, hc⟩)
  n := by omega
/-- The first shelves, robots are right. -/
structure SK (s : Si.Site) (k : Nat) : Prop where
  a : ∀ x ∈ s.shelves.take k, inK s.floor x.1 = true ∧ (kOf s.floor x.1 = 1 ∨ kOf s.floor x.1 = 2)
  d : ((s.shelves.take k).map (·.1)).Nodup
  n : k ≤ 3000
structure RK (s : Si.Site) (k : Nat) : Prop where
  a : ∀ x ∈ s.robots.take k, inK s.floor x.1 = true ∧ kOf s.floor x.1 ≠ 0 ∧ 0 ≤ x.2 ∧ x.2 ≤ 1000000
  d : ((s.robots.take k).map (·.1)).Nodup
  n : k ≤ 200
theorem nodup_snoc {α : Type} {l : List (Int × α)} {k : Nat} (h : ((l.take k).map (·.1)).Nodup) (hk : k < l.length) (hn : l[k].1 ∉ (l.take k).map (·.1)) : ((l.take (k + 1)).map (·.1)).Nodup := by
  rw [List.take_succ_eq_append_getElem hk, List.map_append, List.nodup_append]
  refine ⟨h, by simp, fun x hx y hy => ?_⟩
  rw [List.map_singleton, List.mem_singleton] at hy
  subst hy
  intro e; subst e; exact hn hx
theorem SK.zero (s : Si.Site) : SK s 0 := ⟨fun z h => no_take h, by rw [List.take_zero]; exact List.Pairwise.nil, Nat.zero_le _⟩
theorem RK.zero (s : Si.Site) : RK s 0 := ⟨fun z h => no_take h, by rw [List.take_zero]; exact List.Pairwise.nil, Nat.zero_le _⟩
theorem SK.step {s : Si.Site} {k : Nat} (h : SK s k) (hk : k < s.shelves.length) (h1 : ShC s k s.shelves[k].1) (h6 : k < 3000) : SK s (k + 1) :=
  ⟨all_take h.a hk ⟨h1.1, h1.2.1⟩, nodup_snoc h.d hk h1.2.2, by omega⟩
theorem RK.step {s : Si.Site} {k : Nat} (h : RK s k) (hk : k < s.robots.length) (h1 : RbC s k s.robots[k]) (h6 : k < 200) : RK s (k + 1) :=
  ⟨all_take h.a hk ⟨h1.1, h1.2.1, h1.2.2.1, h1.2.2.2.1⟩, nodup_snoc h.d hk h1.2.2.2.2, by omega⟩
theorem inK_isC {f : Fl.Floor} (hf : Fl.Right f) {c : Int} (h : inK f c = true) : Fl.isC f c = true ∧ kOf f c = Si.kindAt f c := by
  refine ⟨?_, by unfold kOf; rw [if_pos h]⟩
  unfold inK at h
  unfold Fl.isC
  have := hf.kl
  simp at h ⊢
  omega
theorem right_end {s : Si.Site} (hf : Fl.Right s.floor) (hz : ZK s s.zones.length) (hs : SK s s.shelves.length) (hr : RK s s.robots.length) (hk : ∀ z ∈ s.zones, z.keep ≤ z.cells.length) : RtP s := by
  have ez := List.take_length (l := s.zones)
  have es := List.take_length (l := s.shelves)
  have er := List.take_length (l := s.robots)
  obtain ⟨z1, z2, z3, z4⟩ := hz
  obtain ⟨s1, s2, s3⟩ := hs
  obtain ⟨r1, r2, r3⟩ := hr
  rw [ez] at z1 z2 z3
  rw [es] at s1 s2
  rw [er] at r1 r2
  refine ⟨⟨hf, z4, z1, fun z h c hc => ?_, z3, s3, fun x h => ?_, s2, r3, fun x h => ?_, r2⟩, hk⟩
  · obtain ⟨k1, k2, k3, k4⟩ := z2 z h c hc
    obtain ⟨i1, i2⟩ := inK_isC hf k1
    rw [i2] at k2 k3 k4
    exact ⟨i1, k2, k3, k4⟩
  · obtain ⟨k1, k2⟩ := s1 x h
    obtain ⟨i1, i2⟩ := inK_isC hf k1
    rw [i2] at k2
    exact ⟨i1, k2⟩
  · obtain ⟨k1, k2, k3⟩ := r1 x h
    obtain ⟨i1, i2⟩ := inK_isC hf k1
    rw [i2] at k2
    exact ⟨i1, k2, k3⟩
theorem znZ_cell {w : World} {a : Option Addr} {n cap : Nat} {zl : List (Si.Zone × Value × Value)} (h : Rw w (.slice a n cap) 5 (zl.map fun x => zoneC x.1 x.2.1 x.2.2)) (i : Nat) (hi : i < zl.length) : ∃ b off, a = some ⟨b, off, none⟩ ∧ b < w.heap.size ∧
    w.cell? ⟨b, off + i * 5, none⟩ = some (.string ⟨zl[i].1.name.toArray⟩) ∧ w.cell? ⟨b, off + i * 5 + 1, none⟩ = some zl[i].2.1 ∧ w.cell? ⟨b, off + i * 5 + 2, none⟩ = some (.int .i64 zl[i].1.speed) ∧ w.cell? ⟨b, off + i * 5 + 3, none⟩ = some (.int .i64 zl[i].1.keep) ∧ w.cell? ⟨b, off + i * 5 + 4, none⟩ = some zl[i].2.2 := by
  obtain ⟨b, off, rfl, hlt, hc⟩ := h.cell i (by simpa using hi)
  rw [List.getElem_map] at hc
  exact ⟨b, off, rfl, hlt, hc 0 (by omega), hc 1 (by omega), hc 2 (by omega), hc 3 (by omega), hc 4 (by omega)⟩
theorem MkV.znV {w : World} {base B : Nat} {s : Si.Site} {zl : List (Si.Zone × Value × Value)} {ka ks kr nn : Nat} {cz : List Int} {kv ov zv av sv rv : Value} {b1 b2 b3 b4 b5 : Nat} (h : MkV w base B s zl zl.length ka ks kr nn cz kv ov zv av sv rv b1 b2 b3 b4 b5) (hm : zl.map (·.1) = s.zones) (hi : ∀ x ∈ zl, Is w x.2.1 x.1.cells ∧ ShV w x.2.2 x.1.shut) : ZnV w zv s.zones := by
  refine ⟨zl, hm, ?_, hi⟩
  have h9 := h.hz
  unfold zRows at h9
  rw [List.take_length] at h9
  exact Rw.of_own (rows := zl.map fun x => zoneC x.1 x.2.1 x.2.2) h9 (by simp) (fun r hr => by obtain ⟨x, -, rfl⟩ := List.mem_map.1 hr; rfl) (by omega)
end Go.Proofs.YtcdfmgobokjcnaaGreatDoor
