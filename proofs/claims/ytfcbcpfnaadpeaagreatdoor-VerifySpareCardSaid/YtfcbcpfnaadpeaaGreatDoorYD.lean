/- Parts Mg, Mh of this claim, laid one behind the other: walks and the plain laws behind them; each contract states its own conditions. -/
import Derived.Test.YtfcbcpfnaadpeaaGreatDoorZE
import Derived.Test.YtfcbcpfnaadpeaaGreatDoorYC
import Derived.Test.YtfcbcpfnaadpeaaGreatDoorZG
/- Walks of package floor: Right. -/
namespace Go.Proofs.YtfcbcpfnaadpeaaGreatDoor
set_option linter.unusedSimpArgs false
set_option linter.unusedVariables false
open Go.RowKit

set_option maxRecDepth 100000 in
set_option maxHeartbeats 16000000 in
theorem fRight_any (f : Fl.Floor) (kv ov : Value) (w : World) (h : FlV w kv ov f) :
    Calls Tryz.prog 42 #[flV f kv ov] w fun e w' => TruePost (Fl.Right f) e ∧ Below w.heap.size w w' := by
  obtain ⟨a1, c1, rfl, m1⟩ := h.kind.form
  obtain ⟨a2, c2, rfl, m2⟩ := h.out.form
  have HSZ := Lib.hid (fun W hb => size_any f (.slice a1 f.kind.length c1) (.slice a2 f.out.length c2) W hb)
  have HGO := Lib.hid (fun hb hs h1 h2 ho => right_of (f := f) hb hs h1 h2 ho)
  have HO0 : Hid (okTo f 0) := Lib.hid (fun i hi => absurd hi (by omega))
  have HFL := Lib.hid h
  obtain ⟨n, hn⟩ : ∃ n, f.kind.length = n := ⟨_, rfl⟩
  obtain ⟨n2, hn2⟩ : ∃ n, f.out.length = n := ⟨_, rfl⟩
  unfold flV at HSZ ⊢
  rw [hn] at m1 HFL HGO HSZ ⊢
  rw [hn2] at m2 HFL HGO HSZ ⊢
  have HN := Lib.hid hn
  have HN2 := Lib.hid hn2
  obtain ⟨w1, hw1⟩ : ∃ x, x = w.alloc (.cells #[.int .i64 f.w, .int .i64 f.h, .int .i64 f.d, .slice a1 n c1, .slice a2 n2 c2] 24) := ⟨_, rfl⟩
  have B1 : Hid (Below w.heap.size w w1) := Lib.hid (by rw [hw1]; exact (Below.refl _ w).alloc (Nat.le_refl _) _)
  have I1 : Hid (w1.heap[w.heap.size]? = some (.cells #[.int .i64 f.w, .int .i64 f.h, .int .i64 f.d, .slice a1 n c1, .slice a2 n2 c2] 24 (0, 0))) := Lib.hid (by rw [hw1]; exact heap_alloc_new _ _)
  have HW1 := Lib.hid hw1
  obtain ⟨FW, hFW⟩ : ∃ x, f.w = x := ⟨_, rfl⟩
  obtain ⟨FH, hFH⟩ : ∃ x, f.h = x := ⟨_, rfl⟩
  obtain ⟨FD, hFD⟩ : ∃ x, f.d = x := ⟨_, rfl⟩
  have HFB : Hid (1 ≤ FW → 1 ≤ FH → 1 ≤ FD → FW ≤ 4096 → FH ≤ 4096 → FD ≤ 4 → FB f) := Lib.hid (fun h1 h2 h3 h4 h5 h6 => by subst hFW hFH hFD; exact ⟨h1, h2, h3, h4, h5, h6⟩)
  obtain ⟨S, hS⟩ : ∃ x, f.size = x := ⟨_, rfl⟩
  rw [hS] at HSZ HGO
  rw [hFW, hFH, hFD] at HSZ I1 HW1 ⊢
  have p0 : w1.cell? ⟨w.heap.size, 0, none⟩ = some (.int .i64 FW) := cell_of_heap I1.out 0 rfl
  have p1 : w1.cell? ⟨w.heap.size, 1, none⟩ = some (.int .i64 FH) := cell_of_heap I1.out 1 rfl
  have p2 : w1.cell? ⟨w.heap.size, 2, none⟩ = some (.int .i64 FD) := cell_of_heap I1.out 2 rfl
  have p3 : w1.cell? ⟨w.heap.size, 3, none⟩ = some (.slice a1 n c1) := cell_of_heap I1.out 3 rfl
  have p4 : w1.cell? ⟨w.heap.size, 4, none⟩ = some (.slice a2 n2 c2) := cell_of_heap I1.out 4 rfl
  have lw : w.heap.size < w1.heap.size := heap_lt I1.out
  clear h hn hn2 hw1 hFW hFH hFD hS
  go_enter Tryz.func42, Tryz.ntmps42
  go_upto_region 1 with fail
  rw [← HW1.out]
  go_cut [26] (fun v wx => ∃ b : Bool, v = .bool b ∧ Hid (b = false → FB f) ∧ wx = w1)
  case first =>
    go_wp2_with fail
    all_goals
      go_meet
      exact ⟨_, rfl, Lib.hid (fun hq => by first | (cases hq; done) | (simp at hq; exact HFB.out (by omega) (by omega) (by omega) (by omega) (by omega) (by omega))), rfl⟩
  case rest =>
    obtain ⟨b, rfl, HB0, hwc⟩ := hcut
    obtain rfl : w1 = wc := hwc.symm
    cases b with
    | true =>
      go_wp2_with fail
      go_ret
      exact ⟨TruePost.no _, B1.out⟩
    | false =>
      have HB := Lib.hid (HB0.out (by trivial))
      clear HB0
      go_wp2_with fail
      go_at_call 115; refine (HSZ.out _ HB.out).mono ?_; rintro e w2 ⟨rfl, b2⟩
      have B2 := Lib.hid (B1.out.trans (b2.mono B1.out.size))
      have I2 := Lib.hid (keep_heap I1.out b2)
      clear b2 p0 p1 p2 p3 p4 lw
      have p3 : w2.cell? ⟨w.heap.size, 3, none⟩ = some (.slice a1 n c1) := cell_of_heap I2.out 3 rfl
      have p4 : w2.cell? ⟨w.heap.size, 4, none⟩ = some (.slice a2 n2 c2) := cell_of_heap I2.out 4 rfl
      have lw : w.heap.size < w2.heap.size := heap_lt I2.out
      go_upto_region 4 with fail
      go_cut [44] (fun v wx => ∃ b : Bool, v = .bool b ∧ Hid (b = false → S ≤ 4096 ∧ (n : Int) = S ∧ (n2 : Int) = S) ∧ wx = w2)
      case first =>
        go_wp2_with fail
        all_goals
          go_meet
          exact ⟨_, rfl, Lib.hid (fun hq => by first | (cases hq; done) | (simp_all; omega) | (simp at hq; simp_all <;> omega)), rfl⟩
      case rest =>
        obtain ⟨b, rfl, HB1, hwc⟩ := hcut
        obtain rfl : w2 = wc := hwc.symm
        cases b with
        | true =>
          go_wp2_with fail
          go_ret
          exact ⟨TruePost.no _, B2.out⟩
        | false =>
          obtain ⟨hs1, hs2, hs3⟩ := HB1.out (by trivial)
          obtain rfl : n2 = n := by omega
          have HS := Lib.hid (HGO.out HB.out hs1 hs2 hs3)
          have hn4 : (n2 : Int) ≤ 4096 := by omega
          clear HB1 hs1 hs2 hs3
          go_wp2_with fail
          go_loop [48] (fun iv => ∃ k : Nat, k ≤ n2 ∧ iv = .int .i64 k ∧ Hid (okTo f k)) (fun iv => n2 - (intOf iv).toNat)
          case atStart => exact ⟨0, by omega, rfl, HO0⟩
          case round =>
            obtain ⟨k, hk, rfl, HO⟩ := hrel
            by_cases hkn : k < n2
            · have hk1 : k < f.kind.length := by rw [HN.out]; exact hkn
              have hk2 : k < f.out.length := by rw [HN2.out]; exact hkn
              obtain ⟨x1, y1, q1, t1⟩ := (HFL.out.keep B2.out).kind.cell k hk1
              obtain ⟨x2, y2, q2, t2⟩ := (HFL.out.keep B2.out).out.cell k hk2
              subst q1 q2
              obtain ⟨K, hK⟩ : ∃ K, f.kind[k] = K := ⟨_, rfl⟩
              obtain ⟨O, hO⟩ : ∃ O, f.out[k] = O := ⟨_, rfl⟩
              rw [hK] at t1
              rw [hO] at t2
              have HNX : Hid (0 ≤ K → K < 7 → 0 ≤ O → O ≤ 63 → okTo f (k + 1)) := Lib.hid (by
                intro r1 r2 r3 r4 i hi
                by_cases hik : i < k
                · exact HO.out i hik
                · obtain rfl : i = k := by omega
                  exact ⟨fun _ => by rw [hK]; exact ⟨r1, r2⟩, fun _ => by rw [hO]; exact ⟨r3, r4⟩⟩)
              have k0 : (0 : Int) ≤ (k : Int) := by omega
              have k1 : (k : Int) < (n2 : Int) := by omega
              clear hK hO
              go_wp2_with fail
              all_goals first
                | (go_ret; exact ⟨TruePost.no _, B2.out⟩)
                | (go_round
                   case rel => exact ⟨k + 1, by omega, by go_num, Lib.hid (HNX.out (by omega) (by omega) (by omega) (by omega))⟩
                   case measure => simp [intOf]; omega)
            · obtain rfl : k = n2 := by omega
              go_wp2_with fail
              go_ret
              exact ⟨⟨true, rfl, fun _ => HS.out HO.out⟩, B2.out⟩
end Go.Proofs.YtfcbcpfnaadpeaaGreatDoor
/- Walks of package survey: charger, crowded. -/
namespace Go.Proofs.YtfcbcpfnaadpeaaGreatDoor
set_option linter.unusedSimpArgs false
set_option linter.unusedVariables false
open Go.RowKit Go.Maps

set_option maxRecDepth 100000 in
set_option maxHeartbeats 8000000 in
theorem IndexI_any (v : Value) (l : List Int) (x : Int) (w : World) (h : Is w v l) :
    Calls Tryz.prog 252 #[v, .int .i64 x] w fun e w' => (∃ n : Int, e = .returned (.int .i64 n)) ∧ w = w' := by
  obtain ⟨a, cap, rfl, hm⟩ := h.form
  have H := Lib.hid h
  obtain ⟨n, hn⟩ : ∃ n, l.length = n := ⟨_, rfl⟩
  rw [hn] at hm H ⊢
  have HN := Lib.hid hn
  clear h hn
  go_enter Tryz.func252, Tryz.ntmps252
  go_wp2_with fail
  go_loop [8] (fun iv => ∃ k : Nat, k ≤ n ∧ iv = .int .i64 k) (fun iv => n - (intOf iv).toNat)
  case atStart => exact ⟨0, by omega, rfl⟩
  case round =>
    obtain ⟨k, hk, rfl⟩ := hrel
    by_cases hkn : k < n
    · have hkl : k < l.length := by rw [HN.out]; exact hkn
      obtain ⟨b, off, e1, c0⟩ := H.out.cell k hkl
      subst e1
      obtain ⟨y, hy⟩ : ∃ y, l[k] = y := ⟨_, rfl⟩
      rw [hy] at c0
      have k1 : (k : Int) < (n : Int) := by omega
      have k0 : (0 : Int) ≤ (k : Int) := by omega
      clear hy
      go_wp2_with fail
      all_goals first
        | (go_ret; exact ⟨⟨_, rfl⟩, rfl⟩)
        | (go_round
           case rel => exact ⟨k + 1, by omega, by go_num⟩
           case measure => simp [intOf]; omega)
    · go_wp2_with fail
      all_goals
        go_ret
        exact ⟨⟨_, rfl⟩, rfl⟩
theorem ContainsI_any (v : Value) (l : List Int) (x : Int) (w : World) (h : Is w v l) :
    Calls Tryz.prog 192 #[v, .int .i64 x] w fun e w' => ABool e ∧ w = w' := by
  have HX := Lib.hid (IndexI_any v l x w h)
  clear h
  go_enter Tryz.func192, Tryz.ntmps192
  go_wp2_with fail
  go_at_call 252; refine HX.out.mono ?_; rintro e w1 ⟨⟨n, rfl⟩, rfl⟩
  go_wp2_with fail
  go_ret
  exact ⟨⟨_, rfl⟩, rfl⟩
theorem chargerM_any (f : Fl.Floor) (B : Nat) (cs : Array Value) (kv : Value) (w : World) (hB : w.heap[B]? = some (.cells cs 225 (0, 0))) (h3 : cs[3]? = some kv) (hk : Is w kv f.kind) :
    Calls Tryz.prog 128 #[.pointer (some ⟨B, 0, none⟩)] w fun e w' => ABool e ∧ w = w' := by
  have HX := Lib.hid (ContainsI_any kv f.kind 3 w hk)
  have p3 : w.cell? ⟨B, 3, none⟩ = some kv := cell_of_heap hB 3 h3
  obtain ⟨a, cap, rfl, -⟩ := hk.form
  obtain ⟨n, hn⟩ : ∃ n, f.kind.length = n := ⟨_, rfl⟩
  rw [hn] at HX p3
  clear hB h3 hk hn
  go_enter Tryz.func128, Tryz.ntmps128
  go_wp2_with fail
  go_at_call 192; refine HX.out.mono ?_; rintro e w1 ⟨⟨n, rfl⟩, rfl⟩
  go_wp2_with fail
  go_ret
  exact ⟨⟨_, rfl⟩, rfl⟩
def KeepP (kp n : Int) (e : Ending) : Prop := ∃ r : Bool, e = .returned (.bool r) ∧ (r = false → kp ≤ n)
set_option maxRecDepth 100000 in
set_option maxHeartbeats 16000000 in
theorem crowded1_any (w : World) (base B Bm : Nat) (s : Si.Site) (zl : List (Si.Zone × Value × Value)) (kz ka ks kr nn : Nat) (cz : List Int) (kv ov zv av sv rv : Value) (b1 b2 b3 b4 b5 : Nat)
    (h : MkV w base B s zl kz ka ks kr nn cz kv ov zv av sv rv b1 b2 b3 b4 b5) (hkv : Is w kv s.floor.kind) (hBm : w.heap[Bm]? = some (.cells #[.pointer (some ⟨B, 0, none⟩)] 165 (0, 0))) (z : Si.Zone) (u1 u2 : Value) (hu1 : Is w u1 z.cells) (hu2 : ShV w u2 z.shut) (hc : ∀ c ∈ z.cells, inK s.floor c = true) (hl : z.cells.length ≤ 1000000) :
    Calls Tryz.prog 205 #[.agg #[.string ⟨z.name.toArray⟩, u1, .int .i64 z.speed, .int .i64 z.keep, u2], .pointer (some ⟨Bm, 0, none⟩)] w fun e w' => KeepP z.keep z.cells.length e ∧ Below w.heap.size w w' := by
  obtain ⟨a1, c1, rfl, hm1⟩ := hu1.form
  obtain ⟨a2, c2, rfl, hm2⟩ := two_form hu2
  obtain ⟨ka1, kc1, rfl, hkm⟩ := hkv.form
  have HKL := Lib.hid hkm
  obtain ⟨w1, hw1⟩ : ∃ x, x = w.alloc (.cells #[.string ⟨z.name.toArray⟩, .slice a1 z.cells.length c1, .int .i64 z.speed, .int .i64 z.keep, .slice a2 z.shut.length c2] 80) := ⟨_, rfl⟩
  have B1 : Hid (Below w.heap.size w w1) := Lib.hid (by rw [hw1]; exact (Below.refl _ w).alloc (Nat.le_refl _) _)
  have I1 : Hid (w1.heap[w.heap.size]? = some (.cells #[.string ⟨z.name.toArray⟩, .slice a1 z.cells.length c1, .int .i64 z.speed, .int .i64 z.keep, .slice a2 z.shut.length c2] 80 (0, 0))) := Lib.hid (by rw [hw1]; exact heap_alloc_new _ _)
  have HM1 := Lib.hid (h.below B1.out)
  have HW1 := Lib.hid hw1
  have HU := Lib.hid (hu1.keep B1.out)
  have HKV := Lib.hid (hkv.keep B1.out)
  have HC := Lib.hid hc
  have hIm := keep_heap hBm B1.out
  have pm : w1.cell? ⟨Bm, 0, none⟩ = some (.pointer (some ⟨B, 0, none⟩)) := cell_of_heap hIm 0 rfl
  obtain ⟨n, hn⟩ : ∃ n, z.cells.length = n := ⟨_, rfl⟩
  obtain ⟨m, hm⟩ : ∃ n, z.shut.length = n := ⟨_, rfl⟩
  obtain ⟨kl, hkl⟩ : ∃ n, s.floor.kind.length = n := ⟨_, rfl⟩
  rw [hn] at HU hl I1 HW1 hm1 ⊢
  rw [hm] at I1 HW1 hm2 ⊢
  rw [hkl] at HM1 HKV hkm
  have HN := Lib.hid hn
  have HKLn := Lib.hid hkl
  have lw : w.heap.size < w1.heap.size := heap_lt I1.out
  have lB : B < w1.heap.size := HM1.out.lt
  have lm : Bm < w1.heap.size := heap_lt hIm
  have p3 : w1.cell? ⟨B, 3, none⟩ = some (.slice ka1 kl kc1) := cell_of_heap HM1.out.hB 3 rfl
  have p9 : w1.cell? ⟨B, 9, none⟩ = some (.map (some b1)) := cell_of_heap HM1.out.hB 9 rfl
  have r1 : w1.cell? ⟨w.heap.size, 1, none⟩ = some (.slice a1 n c1) := cell_of_heap I1.out 1 rfl
  have r3 : w1.cell? ⟨w.heap.size, 3, none⟩ = some (.int .i64 z.keep) := cell_of_heap I1.out 3 rfl
  clear h hkv hBm hu1 hu2 hc hw1 hIm hn hm hkl
  go_enter Tryz.func205, Tryz.ntmps205
  go_upto_region 1 with fail
  rw [← HW1.out]
  go_wp2_with fail
  go_loop [4, 12] (fun nv iv => ∃ k c : Nat, k ≤ n ∧ c ≤ k ∧ iv = .int .i64 k ∧ nv = .int .i64 c) (fun _ iv => n - (intOf iv).toNat)
  case atStart => exact ⟨0, 0, by omega, by omega, rfl, rfl⟩
  case round =>
    obtain ⟨k, c, hk, hck, rfl, rfl⟩ := hrel
    by_cases hkn : k < n
    · have hkl : k < z.cells.length := by rw [HN.out]; exact hkn
      obtain ⟨b, off, e1, hc⟩ := HU.out.cell k hkl
      subst e1
      have hin := HC.out _ (List.getElem_mem hkl)
      obtain ⟨C, hC⟩ : ∃ C, z.cells[k] = C := ⟨_, rfl⟩
      rw [hC] at hc hin
      have hin2 : 0 ≤ C ∧ C < (s.floor.kind.length : Int) := by unfold inK at hin; simpa using hin
      obtain ⟨cn, rfl⟩ : ∃ cn : Nat, C = (cn : Int) := ⟨C.toNat, by omega⟩
      obtain ⟨b4', off4, e4, hk4⟩ := HKV.out.cell cn (by omega)
      subst e4
      obtain ⟨K, hK⟩ : ∃ K, s.floor.kind[cn]'(by omega) = K := ⟨_, rfl⟩
      rw [hK] at hk4
      obtain ⟨lv, hlk, -⟩ := HM1.out.m1.look (inK_rng hin HKL.out)
      obtain ⟨D, hD⟩ : ∃ D, decide ((cn : Int) ∈ (shP s.shelves ks).map (·.1)) = D := ⟨_, rfl⟩
      rw [hD] at hlk
      rw [HKLn.out] at hin2
      obtain ⟨hin3, hin4⟩ := hin2
      have HST := Lib.hid (stands_any2 K w1)
      obtain ⟨S, hS⟩ : ∃ S, (decide (K = 1) || decide (K = 2)) = S := ⟨_, rfl⟩
      rw [hS] at HST
      have k0 : (0 : Int) ≤ (k : Int) := by omega
      have k1 : (k : Int) < (n : Int) := by omega
      clear hC hK hD hin hS
      cases D with
      | true =>
        go_wp2_with fail
        go_round
        case rel => exact ⟨k + 1, c, by omega, by omega, by go_num, rfl⟩
        case measure => simp [intOf]; omega
      | false =>
        cases S with
        | true =>
          go_wp2_with fail
          go_at_call 202; refine HST.out.mono ?_; rintro e w2 ⟨rfl, rfl⟩
          go_wp2_with fail
          go_round
          case rel => exact ⟨k + 1, c + 1, by omega, by omega, by go_num, by go_num⟩
          case measure => simp [intOf]; omega
        | false =>
          go_wp2_with fail
          go_at_call 202; refine HST.out.mono ?_; rintro e w2 ⟨rfl, rfl⟩
          go_wp2_with fail
          go_round
          case rel => exact ⟨k + 1, c, by omega, by omega, by go_num, rfl⟩
          case measure => simp [intOf]; omega
    · obtain rfl : n = k := by omega
      have hf : (z.cells.length : Int) = (n : Int) := by rw [HN.out]
      have HF := Lib.hid hf
      clear hf
      go_wp2_with fail
      all_goals
        go_ret
        exact ⟨⟨_, rfl, fun hq => by have h9 := HF.out; simp at hq; omega⟩, B1.out⟩
/-- What crowded tells: a number; below 0 no zone keeps more than it has. -/
def CrP (l : List Si.Zone) (e : Ending) : Prop := ∃ n : Int, e = .returned (.int .i64 n) ∧ (n < 0 → ∀ z ∈ l, z.keep ≤ z.cells.length)
set_option maxRecDepth 100000 in
set_option maxHeartbeats 16000000 in
theorem IndexZ_any (w : World) (base B Bm : Nat) (s : Si.Site) (zl : List (Si.Zone × Value × Value)) (kz ka ks kr nn : Nat) (cz : List Int) (kv ov zv av sv rv : Value) (b1 b2 b3 b4 b5 : Nat)
    (h : MkV w base B s zl kz ka ks kr nn cz kv ov zv av sv rv b1 b2 b3 b4 b5) (hkv : Is w kv s.floor.kind) (hBm : w.heap[Bm]? = some (.cells #[.pointer (some ⟨B, 0, none⟩)] 165 (0, 0))) (v : Value) (zs : List Si.Zone) (hz : ZnV w v zs) (hc : ∀ z ∈ zs, (∀ c ∈ z.cells, inK s.floor c = true) ∧ z.cells.length ≤ 1000000) :
    Calls Tryz.prog 177 #[v, .func (.func 205) #[] #[.pointer (some ⟨Bm, 0, none⟩)]] w fun e w' => CrP zs e ∧ Below w.heap.size w w' := by
  obtain ⟨a, cap, rfl, hm⟩ := hz.form
  obtain ⟨n, hn⟩ : ∃ n, zs.length = n := ⟨_, rfl⟩
  rw [hn] at hz hm ⊢
  have HN := Lib.hid hn
  have HZ := Lib.hid hz
  have HC := Lib.hid hc
  have HX := Lib.hid (fun W hb z u1 u2 g1 g2 g3 g4 => crowded1_any W base B Bm s zl kz ka ks kr nn cz kv ov zv av sv rv b1 b2 b3 b4 b5 (h.below hb) (hkv.keep hb) (keep_heap hBm hb) z u1 u2 g1 g2 g3 g4)
  have H0 : Hid (∀ z ∈ zs.take 0, z.keep ≤ z.cells.length) := Lib.hid (by simp)
  clear hn hz h hkv hBm hc
  go_enter Tryz.func177, Tryz.ntmps177
  go_wp2_with fail
  go_loopw [8] (fun iv wr => ∃ k : Nat, k ≤ n ∧ iv = .int .i64 k ∧ Hid (∀ z ∈ zs.take k, z.keep ≤ z.cells.length) ∧ Hid (Below w.heap.size w wr)) (fun iv _ => n - (intOf iv).toNat)
  case atStart => exact ⟨0, by omega, rfl, H0, Lib.hid (Below.refl _ _)⟩
  case round =>
    obtain ⟨k, hk, rfl, HR, HBW⟩ := hrel
    by_cases hkn : k < n
    · have hku : k < zs.length := by rw [HN.out]; exact hkn
      obtain ⟨b, off, u1, u2, e1, hb, hu1, hu2, p0, p1, p2, p3, p4⟩ := (HZ.out.keep HBW.out).cell k hku
      subst e1
      have hcz := HC.out _ (List.getElem_mem hku)
      have kI0 : (0 : Int) ≤ (k : Int) := by omega
      have kI1 : (k : Int) < (n : Int) := by omega
      have HCC := Lib.hid (HX.out wr HBW.out zs[k] u1 u2 hu1 hu2 hcz.1 hcz.2)
      have HST := Lib.hid (fun hq => all_take HR.out hku hq)
      obtain ⟨a1, c1, rfl, -⟩ := hu1.form
      obtain ⟨a2, c2, rfl, -⟩ := two_form hu2
      obtain ⟨z, hzk⟩ : ∃ z, zs[k] = z := ⟨_, rfl⟩
      rw [hzk] at p0 p1 p2 p3 p4 HCC HST
      obtain ⟨l1, hl1⟩ : ∃ n, z.cells.length = n := ⟨_, rfl⟩
      obtain ⟨l2, hl2⟩ : ∃ n, z.shut.length = n := ⟨_, rfl⟩
      rw [hl1] at p1 HCC HST
      rw [hl2] at p4 HCC
      clear hu1 hu2 hzk hl1 hl2 hcz
      go_wp2_with fail
      go_at_call 205; refine HCC.out.mono ?_; rintro e w2 ⟨⟨r, rfl, hr⟩, b2⟩
      have HR2 := Lib.hid hr
      have HB2 := Lib.hid (HBW.out.trans (b2.mono HBW.out.size))
      clear b2 hr
      cases r with
      | true =>
        go_wp2_with fail
        go_ret
        exact ⟨⟨_, rfl, fun hq => by exfalso; omega⟩, HB2.out⟩
      | false =>
        have HNX := Lib.hid (HST.out (HR2.out (by trivial)))
        go_wp2_with fail
        go_roundw
        case rel => exact ⟨k + 1, by omega, by go_num, HNX, HB2⟩
        case measure => simp [intOf]; omega
    · obtain rfl : n = k := by omega
      have HAL := Lib.hid (all_end HR.out (by rw [HN.out]; omega))
      go_wp2_with fail
      go_ret
      exact ⟨⟨_, rfl, fun _ => HAL.out⟩, HBW.out⟩
set_option maxRecDepth 100000 in
set_option maxHeartbeats 8000000 in
theorem crowded_any (w : World) (base B : Nat) (s : Si.Site) (zl : List (Si.Zone × Value × Value)) (kz ka ks kr nn : Nat) (cz : List Int) (kv ov zv av sv rv : Value) (b1 b2 b3 b4 b5 : Nat)
    (h : MkV w base B s zl kz ka ks kr nn cz kv ov zv av sv rv b1 b2 b3 b4 b5) (hkv : Is w kv s.floor.kind) (zs : List Si.Zone) (hz : ZnV w zv zs) (hc : ∀ z ∈ zs, (∀ c ∈ z.cells, inK s.floor c = true) ∧ z.cells.length ≤ 1000000) :
    Calls Tryz.prog 127 #[.pointer (some ⟨B, 0, none⟩)] w fun e w' => CrP zs e ∧ Below w.heap.size w w' := by
  obtain ⟨za, zc, rfl, hzm⟩ := hz.form
  obtain ⟨w1, hw1⟩ : ∃ x, x = w.alloc (.cells #[.pointer (some ⟨B, 0, none⟩)] 165) := ⟨_, rfl⟩
  have B1 : Hid (Below w.heap.size w w1) := Lib.hid (by rw [hw1]; exact (Below.refl _ w).alloc (Nat.le_refl _) _)
  have I1 : Hid (w1.heap[w.heap.size]? = some (.cells #[.pointer (some ⟨B, 0, none⟩)] 165 (0, 0))) := Lib.hid (by rw [hw1]; exact heap_alloc_new _ _)
  have HW1 := Lib.hid hw1
  have lw : w.heap.size < w1.heap.size := heap_lt I1.out
  have lB : B < w1.heap.size := (h.below B1.out).lt
  have p0 : w1.cell? ⟨w.heap.size, 0, none⟩ = some (.pointer (some ⟨B, 0, none⟩)) := cell_of_heap I1.out 0 rfl
  have p5 : w1.cell? ⟨B, 5, none⟩ = some (.slice za zs.length zc) := cell_of_heap (h.below B1.out).hB 5 rfl
  have HX := Lib.hid (IndexZ_any w1 base B w.heap.size s zl kz ka ks kr nn cz kv ov _ av sv rv b1 b2 b3 b4 b5 (h.below B1.out) (hkv.keep B1.out) I1.out _ zs (hz.keep B1.out) hc)
  obtain ⟨n, hn⟩ : ∃ n, zs.length = n := ⟨_, rfl⟩
  rw [hn] at HX p5 hzm
  clear h hkv hz hc hw1 hn
  go_enter Tryz.func127, Tryz.ntmps127
  go_upto_region 1 with fail
  rw [← HW1.out]
  go_wp2_with fail
  go_at_call 177; refine HX.out.mono ?_; rintro e w2 ⟨⟨n, rfl, hn⟩, b2⟩
  have HNN := Lib.hid hn
  have B2 := Lib.hid (B1.out.trans (b2.mono B1.out.size))
  clear b2 hn
  go_wp2_with fail
  go_ret
  exact ⟨⟨n, rfl, HNN.out⟩, B2.out⟩
end Go.Proofs.YtfcbcpfnaadpeaaGreatDoor
