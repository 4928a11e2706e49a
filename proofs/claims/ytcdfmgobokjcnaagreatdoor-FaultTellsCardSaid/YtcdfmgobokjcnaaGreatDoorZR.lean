/- Parts Mh, Mi of this claim, laid one behind the other: walks and the plain laws behind them; each contract states its own conditions. -/
import Derived.Test.YtcdfmgobokjcnaaGreatDoorZO
import Derived.Test.YtcdfmgobokjcnaaGreatDoorZP
import Derived.Test.YtcdfmgobokjcnaaGreatDoorZQ
/- Walks of package survey: charger, crowded. -/
namespace Go.Proofs.YtcdfmgobokjcnaaGreatDoor
set_option linter.unusedSimpArgs false
set_option linter.unusedVariables false
open Go.RowKit Go.Maps

set_option maxRecDepth 100000 in
set_option maxHeartbeats 8000000 in
theorem IndexI_any (v : Value) (l : List Int) (x : Int) (w : World) (h : Is w v l) :
    Calls Tryz.prog 65 #[v, .int .i64 x] w fun e w' => (∃ n : Int, e = .returned (.int .i64 n)) ∧ w = w' := by
  obtain ⟨a, cap, rfl, hm⟩ := h.form
  have H := Lib.hid h
  obtain ⟨n, hn⟩ : ∃ n, l.length = n := ⟨_, rfl⟩
  rw [hn] at hm H ⊢
  have HN := Lib.hid hn
  clear h hn
  go_enter Tryz.func65, Tryz.ntmps65
  go_wp2_with fail
  go_loop [8] (fun iv => ∃ k : Nat, k ≤ n ∧ iv = .int .i64 k) (fun iv => n - (intOf iv).toNat)
  case atStart => exact ⟨0, by omega, rfl⟩
  case round =>
    obtain ⟨k, hk, rfl⟩ := hrel
    by_cases hkn : k < n
    · have hkl : k < l.length := by rw [HN.out]; exact hkn
      obtain ⟨b, off, e1, c0⟩ := H.out.cell k hkl
      subst e1
      obtain ⟨y, hy⟩ : ∃ y, l[k] = y := ⟨_, rfl⟩
      rw [hy] at c0
      have k1 : (k : Int) < (n : Int) := by omega
      have k0 : (0 : Int) ≤ (k : Int) := by omega
      clear hy
      go_wp2_with fail
      all_goals first
        | (go_ret; exact ⟨⟨_, rfl⟩, rfl⟩)
        | (go_round
           case rel => exact ⟨k + 1, by omega, by go_num⟩
           case measure => simp [intOf]; omega)
    · go_wp2_with fail
      all_goals
        go_ret
        exact ⟨⟨_, rfl⟩, rfl⟩
theorem ContainsI_any (v : Value) (l : List Int) (x : Int) (w : World) (h : Is w v l) :
    Calls Tryz.prog 38 #[v, .int .i64 x] w fun e w' => ABool e ∧ w = w' := by
  have HX := Lib.hid (IndexI_any v l x w h)
  clear h
  go_enter Tryz.func38, Tryz.ntmps38
  go_wp2_with fail
  go_at_call 65; refine HX.out.mono ?_; rintro e w1 ⟨⟨n, rfl⟩, rfl⟩
  go_wp2_with fail
  go_ret
  exact ⟨⟨_, rfl⟩, rfl⟩
theorem chargerM_any (f : Fl.Floor) (B : Nat) (cs : Array Value) (kv : Value) (w : World) (hB : w.heap[B]? = some (.cells cs 153 (0, 0))) (h3 : cs[3]? = some kv) (hk : Is w kv f.kind) :
    Calls Tryz.prog 81 #[.pointer (some ⟨B, 0, none⟩)] w fun e w' => ABool e ∧ w = w' := by
  have HX := Lib.hid (ContainsI_any kv f.kind 3 w hk)
  have p3 : w.cell? ⟨B, 3, none⟩ = some kv := cell_of_heap hB 3 h3
  obtain ⟨a, cap, rfl, -⟩ := hk.form
  obtain ⟨n, hn⟩ : ∃ n, f.kind.length = n := ⟨_, rfl⟩
  rw [hn] at HX p3
  clear hB h3 hk hn
  go_enter Tryz.func81, Tryz.ntmps81
  go_wp2_with fail
  go_at_call 38; refine HX.out.mono ?_; rintro e w1 ⟨⟨n, rfl⟩, rfl⟩
  go_wp2_with fail
  go_ret
  exact ⟨⟨_, rfl⟩, rfl⟩
def KeepP (kp n : Int) (e : Ending) : Prop := ∃ r : Bool, e = .returned (.bool r) ∧ (r = false → kp ≤ n)
set_option maxRecDepth 100000 in
set_option maxHeartbeats 16000000 in
theorem crowded1_any (w : World) (base B Bm : Nat) (s : Si.Site) (zl : List (Si.Zone × Value × Value)) (kz ka ks kr nn : Nat) (cz : List Int) (kv ov zv av sv rv : Value) (b1 b2 b3 b4 b5 : Nat)
    (h : MkV w base B s zl kz ka ks kr nn cz kv ov zv av sv rv b1 b2 b3 b4 b5) (hkv : Is w kv s.floor.kind) (hBm : w.heap[Bm]? = some (.cells #[.pointer (some ⟨B, 0, none⟩)] 114 (0, 0))) (z : Si.Zone) (u1 u2 : Value) (hu1 : Is w u1 z.cells) (hu2 : ShV w u2 z.shut) (hc : ∀ c ∈ z.cells, inK s.floor c = true) (hl : z.cells.length ≤ 1000000) :
    Calls Tryz.prog 117 #[.agg #[.string ⟨z.name.toArray⟩, u1, .int .i64 z.speed, .int .i64 z.keep, u2], .pointer (some ⟨Bm, 0, none⟩)] w fun e w' => KeepP z.keep z.cells.length e ∧ Below w.heap.size w w' := by
  obtain ⟨a1, c1, rfl, hm1⟩ := hu1.form
  obtain ⟨a2, c2, rfl, hm2⟩ := two_form hu2
  obtain ⟨ka1, kc1, rfl, hkm⟩ := hkv.form
  have HKL := Lib.hid hkm
  obtain ⟨w1, hw1⟩ : ∃ x, x = w.alloc (.cells #[.string ⟨z.name.toArray⟩, .slice a1 z.cells.length c1, .int .i64 z.speed, .int .i64 z.keep, .slice a2 z.shut.length c2] 107) := ⟨_, rfl⟩
  have B1 : Hid (Below w.heap.size w w1) := Lib.hid (by rw [hw1]; exact (Below.refl _ w).alloc (Nat.le_refl _) _)
  have I1 : Hid (w1.heap[w.heap.size]? = some (.cells #[.string ⟨z.name.toArray⟩, .slice a1 z.cells.length c1, .int .i64 z.speed, .int .i64 z.keep, .slice a2 z.shut.length c2] 107 (0, 0))) := Lib.hid (by rw [hw1]; exact heap_alloc_new _ _)
  have HM1 := Lib.hid (h.below B1.out)
  have HW1 := Lib.hid hw1
  have HU := Lib.hid (hu1.keep B1.out)
  have HKV := Lib.hid (hkv.keep B1.out)
  have HC := Lib.hid hc
  have hIm := keep_heap hBm B1.out
  have pm : w1.cell? ⟨Bm, 0, none⟩ = some (.pointer (some ⟨B, 0, none⟩)) := cell_of_heap hIm 0 rfl
  obtain ⟨n, hn⟩ : ∃ n, z.cells.length = n := ⟨_, rfl⟩
  obtain ⟨m, hm⟩ : ∃ n, z.shut.length = n := ⟨_, rfl⟩
  obtain ⟨kl, hkl⟩ : ∃ n, s.floor.kind.length = n := ⟨_, rfl⟩
  rw [hn] at HU hl I1 HW1 hm1 ⊢
  rw [hm] at I1 HW1 hm2 ⊢
  rw [hkl] at HM1 HKV hkm
  have HN := Lib.hid hn
  have HKLn := Lib.hid hkl
  have lw : w.heap.size < w1.heap.size := heap_lt I1.out
  have lB : B < w1.heap.size := HM1.out.lt
  have lm : Bm < w1.heap.size := heap_lt hIm
  have p3 : w1.cell? ⟨B, 3, none⟩ = some (.slice ka1 kl kc1) := cell_of_heap HM1.out.hB 3 rfl
  have p9 : w1.cell? ⟨B, 9, none⟩ = some (.map (some b1)) := cell_of_heap HM1.out.hB 9 rfl
  have r1 : w1.cell? ⟨w.heap.size, 1, none⟩ = some (.slice a1 n c1) := cell_of_heap I1.out 1 rfl
  have r3 : w1.cell? ⟨w.heap.size, 3, none⟩ = some (.int .i64 z.keep) := cell_of_heap I1.out 3 rfl
  clear h hkv hBm hu1 hu2 hc hw1 hIm hn hm hkl
  go_enter Tryz.func117, Tryz.ntmps117
  go_upto_region 1 with fail
  rw [← HW1.out]
  go_wp2_with fail
  go_loop [4, 12] (fun nv iv => ∃ k c : Nat, k ≤ n ∧ c ≤ k ∧ iv = .int .i64 k ∧ nv = .int .i64 c) (fun _ iv => n - (intOf iv).toNat)
  case atStart => exact ⟨0, 0, by omega, by omega, rfl, rfl⟩
  case round =>
    obtain ⟨k, c, hk, hck, rfl, rfl⟩ := hrel
    by_cases hkn : k < n
    · have hkl : k < z.cells.length := by rw [HN.out]; exact hkn
      obtain ⟨b, off, e1, hc⟩ := HU.out.cell k hkl
      subst e1
      have hin := HC.out _ (List.getElem_mem hkl)
      obtain ⟨C, hC⟩ : ∃ C, z.cells[k] = C := ⟨_, rfl⟩
      rw [hC] at hc hin
      have hin2 : 0 ≤ C ∧ C < (s.floor.kind.length : Int) := by unfold inK at hin; simpa using hin
      obtain ⟨cn, rfl⟩ : ∃ cn : Nat, C = (cn : Int) := ⟨C.toNat, by omega⟩
      obtain ⟨b4', off4, e4, hk4⟩ := HKV.out.cell cn (by omega)
      subst e4
      obtain ⟨K, hK⟩ : ∃ K, s.floor.kind[cn]'(by omega) = K := ⟨_, rfl⟩
      rw [hK] at hk4
      obtain ⟨lv, hlk, -⟩ := HM1.out.m1.look (inK_rng hin HKL.out)
      obtain ⟨D, hD⟩ : ∃ D, decide ((cn : Int) ∈ (shP s.shelves ks).map (·.1)) = D := ⟨_, rfl⟩
      rw [hD] at hlk
      rw [HKLn.out] at hin2
      obtain ⟨hin3, hin4⟩ := hin2
      have HST := Lib.hid (stands_any2 K w1)
      obtain ⟨S, hS⟩ : ∃ S, (decide (K = 1) || decide (K = 2)) = S := ⟨_, rfl⟩
      rw [hS] at HST
      have k0 : (0 : Int) ≤ (k : Int) := by omega
      have k1 : (k : Int) < (n : Int) := by omega
      clear hC hK hD hin hS
      cases D with
      | true =>
        go_wp2_with fail
        go_round
        case rel => exact ⟨k + 1, c, by omega, by omega, by go_num, rfl⟩
        case measure => simp [intOf]; omega
      | false =>
        cases S with
        | true =>
          go_wp2_with fail
          go_at_call 113; refine HST.out.mono ?_; rintro e w2 ⟨rfl, rfl⟩
          go_wp2_with fail
          go_round
          case rel => exact ⟨k + 1, c + 1, by omega, by omega, by go_num, by go_num⟩
          case measure => simp [intOf]; omega
        | false =>
          go_wp2_with fail
          go_at_call 113; refine HST.out.mono ?_; rintro e w2 ⟨rfl, rfl⟩
          go_wp2_with fail
          go_round
          case rel => exact ⟨k + 1, c, by omega, by omega, by go_num, rfl⟩
          case measure => simp [intOf]; omega
    · obtain rfl : n = k := by omega
      have hf : (z.cells.length : Int) = (n : Int) := by rw [HN.out]
      have HF := Lib.hid hf
      clear hf
      go_wp2_with fail
      all_goals
        go_ret
        exact ⟨⟨_, rfl, fun hq => by have h9 := HF.out; simp at hq; omega⟩, B1.out⟩
/-- What crowded tells: a number; below 0 no zone keeps more than it has. -/
def CrP (l : List Si.Zone) (e : Ending) : Prop := ∃ n : Int, e = .returned (.int .i64 n) ∧ (n < 0 → ∀ z ∈ l, z.keep ≤ z.cells.length)
set_option maxRecDepth 100000 in
set_option maxHeartbeats 16000000 in
theorem IndexZ_any (w : World) (base B Bm : Nat) (s : Si.Site) (zl : List (Si.Zone × Value × Value)) (kz ka ks kr nn : Nat) (cz : List Int) (kv ov zv av sv rv : Value) (b1 b2 b3 b4 b5 : Nat)
    (h : MkV w base B s zl kz ka ks kr nn cz kv ov zv av sv rv b1 b2 b3 b4 b5) (hkv : Is w kv s.floor.kind) (hBm : w.heap[Bm]? = some (.cells #[.pointer (some ⟨B, 0, none⟩)] 114 (0, 0))) (v : Value) (zs : List Si.Zone) (hz : ZnV w v zs) (hc : ∀ z ∈ zs, (∀ c ∈ z.cells, inK s.floor c = true) ∧ z.cells.length ≤ 1000000) :
    Calls Tryz.prog 116 #[v, .func (.func 117) #[] #[.pointer (some ⟨Bm, 0, none⟩)]] w fun e w' => CrP zs e ∧ Below w.heap.size w w' := by
  obtain ⟨a, cap, rfl, hm⟩ := hz.form
  obtain ⟨n, hn⟩ : ∃ n, zs.length = n := ⟨_, rfl⟩
  rw [hn] at hz hm ⊢
  have HN := Lib.hid hn
  have HZ := Lib.hid hz
  have HC := Lib.hid hc
  have HX := Lib.hid (fun W hb z u1 u2 g1 g2 g3 g4 => crowded1_any W base B Bm s zl kz ka ks kr nn cz kv ov zv av sv rv b1 b2 b3 b4 b5 (h.below hb) (hkv.keep hb) (keep_heap hBm hb) z u1 u2 g1 g2 g3 g4)
  have H0 : Hid (∀ z ∈ zs.take 0, z.keep ≤ z.cells.length) := Lib.hid (by simp)
  clear hn hz h hkv hBm hc
  go_enter Tryz.func116, Tryz.ntmps116
  go_wp2_with fail
  go_loopw [8] (fun iv wr => ∃ k : Nat, k ≤ n ∧ iv = .int .i64 k ∧ Hid (∀ z ∈ zs.take k, z.keep ≤ z.cells.length) ∧ Hid (Below w.heap.size w wr)) (fun iv _ => n - (intOf iv).toNat)
  case atStart => exact ⟨0, by omega, rfl, H0, Lib.hid (Below.refl _ _)⟩
  case round =>
    obtain ⟨k, hk, rfl, HR, HBW⟩ := hrel
    by_cases hkn : k < n
    · have hku : k < zs.length := by rw [HN.out]; exact hkn
      obtain ⟨b, off, u1, u2, e1, hb, hu1, hu2, p0, p1, p2, p3, p4⟩ := (HZ.out.keep HBW.out).cell k hku
      subst e1
      have hcz := HC.out _ (List.getElem_mem hku)
      have kI0 : (0 : Int) ≤ (k : Int) := by omega
      have kI1 : (k : Int) < (n : Int) := by omega
      have HCC := Lib.hid (HX.out wr HBW.out zs[k] u1 u2 hu1 hu2 hcz.1 hcz.2)
      have HST := Lib.hid (fun hq => all_take HR.out hku hq)
      obtain ⟨a1, c1, rfl, -⟩ := hu1.form
      obtain ⟨a2, c2, rfl, -⟩ := two_form hu2
      obtain ⟨z, hzk⟩ : ∃ z, zs[k] = z := ⟨_, rfl⟩
      rw [hzk] at p0 p1 p2 p3 p4 HCC HST
      obtain ⟨l1, hl1⟩ : ∃ n, z.cells.length = n := ⟨_, rfl⟩
      obtain ⟨l2, hl2⟩ : ∃ n, z.shut.length = n := ⟨_, rfl⟩
      rw [hl1] at p1 HCC HST
      rw [hl2] at p4 HCC
      clear hu1 hu2 hzk hl1 hl2 hcz
      go_wp2_with fail
      go_at_call 117; refine HCC.out.mono ?_; rintro e w2 ⟨⟨r, rfl, hr⟩, b2⟩
      have HR2 := Lib.hid hr
      have HB2 := Lib.hid (HBW.out.trans (b2.mono HBW.out.size))
      clear b2 hr
      cases r with
      | true =>
        go_wp2_with fail
        go_ret
        exact ⟨⟨_, rfl, fun hq => by exfalso; omega⟩, HB2.out⟩
      | false =>
        have HNX := Lib.hid (HST.out (HR2.out (by trivial)))
        go_wp2_with fail
        go_roundw
        case rel => exact ⟨k + 1, by omega, by go_num, HNX, HB2⟩
        case measure => simp [intOf]; omega
    · obtain rfl : n = k := by omega
      have HAL := Lib.hid (all_end HR.out (by rw [HN.out]; omega))
      go_wp2_with fail
      go_ret
      exact ⟨⟨_, rfl, fun _ => HAL.out⟩, HBW.out⟩
set_option maxRecDepth 100000 in
set_option maxHeartbeats 8000000 in
theorem crowded_any (w : World) (base B : Nat) (s : Si.Site) (zl : List (Si.Zone × Value × Value)) (kz ka ks kr nn : Nat) (cz : List Int) (kv ov zv av sv rv : Value) (b1 b2 b3 b4 b5 : Nat)
    (h : MkV w base B s zl kz ka ks kr nn cz kv ov zv av sv rv b1 b2 b3 b4 b5) (hkv : Is w kv s.floor.kind) (zs : List Si.Zone) (hz : ZnV w zv zs) (hc : ∀ z ∈ zs, (∀ c ∈ z.cells, inK s.floor c = true) ∧ z.cells.length ≤ 1000000) :
    Calls Tryz.prog 80 #[.pointer (some ⟨B, 0, none⟩)] w fun e w' => CrP zs e ∧ Below w.heap.size w w' := by
  obtain ⟨za, zc, rfl, hzm⟩ := hz.form
  obtain ⟨w1, hw1⟩ : ∃ x, x = w.alloc (.cells #[.pointer (some ⟨B, 0, none⟩)] 114) := ⟨_, rfl⟩
  have B1 : Hid (Below w.heap.size w w1) := Lib.hid (by rw [hw1]; exact (Below.refl _ w).alloc (Nat.le_refl _) _)
  have I1 : Hid (w1.heap[w.heap.size]? = some (.cells #[.pointer (some ⟨B, 0, none⟩)] 114 (0, 0))) := Lib.hid (by rw [hw1]; exact heap_alloc_new _ _)
  have HW1 := Lib.hid hw1
  have lw : w.heap.size < w1.heap.size := heap_lt I1.out
  have lB : B < w1.heap.size := (h.below B1.out).lt
  have p0 : w1.cell? ⟨w.heap.size, 0, none⟩ = some (.pointer (some ⟨B, 0, none⟩)) := cell_of_heap I1.out 0 rfl
  have p5 : w1.cell? ⟨B, 5, none⟩ = some (.slice za zs.length zc) := cell_of_heap (h.below B1.out).hB 5 rfl
  have HX := Lib.hid (IndexZ_any w1 base B w.heap.size s zl kz ka ks kr nn cz kv ov _ av sv rv b1 b2 b3 b4 b5 (h.below B1.out) (hkv.keep B1.out) I1.out _ zs (hz.keep B1.out) hc)
  obtain ⟨n, hn⟩ : ∃ n, zs.length = n := ⟨_, rfl⟩
  rw [hn] at HX p5 hzm
  clear h hkv hz hc hw1 hn
  go_enter Tryz.func80, Tryz.ntmps80
  go_upto_region 1 with fail
  rw [← HW1.out]
  go_wp2_with fail
  go_at_call 116; refine HX.out.mono ?_; rintro e w2 ⟨⟨n, rfl, hn⟩, b2⟩
  have HNN := Lib.hid hn
  have B2 := Lib.hid (B1.out.trans (b2.mono B1.out.size))
  clear b2 hn
  go_wp2_with fail
  go_ret
  exact ⟨⟨n, rfl, HNN.out⟩, B2.out⟩
end Go.Proofs.YtcdfmgobokjcnaaGreatDoor
/- Walks of package survey: beside, in few words: it returns a number. -/
namespace Go.Proofs.YtcdfmgobokjcnaaGreatDoor
set_option linter.unusedSimpArgs false
set_option linter.unusedVariables false
open Go.RowKit Go.Maps

theorem MkV.sfV {w : World} {base B : Nat} {s : Si.Site} {zl : List (Si.Zone × Value × Value)} {kz ka ks kr nn : Nat} {cz : List Int} {kv ov zv av sv rv : Value} {b1 b2 b3 b4 b5 : Nat} (h : MkV w base B s zl kz ka ks kr nn cz kv ov zv av sv rv b1 b2 b3 b4 b5) (hk : ks ≤ s.shelves.length) : SfV w sv (s.shelves.take ks) :=
  Rw.of_own (rows := (s.shelves.take ks).map shelfC) h.hs (by simp; omega) (fun r hr => by obtain ⟨x, -, rfl⟩ := List.mem_map.1 hr; rfl) (by omega)
theorem at_bd {f : Fl.Floor} (hb : FB f) (c : Int) : (0 ≤ Fl.atX f c ∧ Fl.atX f c ≤ 4096) ∧ (0 ≤ Fl.atY f c ∧ Fl.atY f c ≤ 4096) ∧ 0 ≤ Fl.atZ f c ∧ Fl.atZ f c ≤ 67108864 := by
  have hs := hb.size
  unfold Fl.atX Fl.atY Fl.atZ
  by_cases h : Fl.isC f c = true
  · have h0 : 0 ≤ c ∧ c < f.size := by unfold Fl.isC at h; simpa using h
    have h1 : c < f.w * f.h * f.d := h0.2
    rw [if_pos h, if_pos h, if_pos h]
    have a1 := Int.emod_nonneg c (b := f.w) (by have := hb.w1; omega)
    have a2 := Int.emod_lt_of_pos c (b := f.w) (by have := hb.w1; omega)
    have a3 := Int.emod_nonneg (c / f.w) (b := f.h) (by have := hb.h1; omega)
    have a4 := Int.emod_lt_of_pos (c / f.w) (b := f.h) (by have := hb.h1; omega)
    have a5 := Int.ediv_nonneg (a := c) (b := f.w * f.h) h0.1 hs.1.1
    have a6 : c / (f.w * f.h) ≤ c := Int.ediv_le_self _ h0.1
    have := hb.w2; have := hb.h2
    omega
  · rw [if_neg h, if_neg h, if_neg h]; omega
theorem cell_bd {f : Fl.Floor} (h : Fl.Right f) (x y z : Int) : -1 ≤ Fl.cell f x y z ∧ Fl.cell f x y z ≤ 4096 := by
  have := Fl.cell_lt h x y z
  have := h.sz
  omega
set_option maxRecDepth 100000 in
set_option maxHeartbeats 64000000 in
theorem besideM_any (w0 w : World) (hb0 : Below w0.heap.size w0 w) (B : Nat) (s : Si.Site) (zl : List (Si.Zone × Value × Value)) (kz ka ks kr nn : Nat) (cz : List Int) (kv ov zv av sv rv : Value) (b1 b2 b3 b4 b5 : Nat)
    (h : MkV w w0.heap.size B s zl kz ka ks kr nn cz kv ov zv av sv rv b1 b2 b3 b4 b5) (hkv : Is w0 kv s.floor.kind) (hov : Is w0 ov s.floor.out) (hf : Fl.Right s.floor) (hka : ka ≤ s.aparts.length) (hks : ks ≤ s.shelves.length) :
    Calls Tryz.prog 79 #[.pointer (some ⟨B, 0, none⟩)] w fun e w' => IsInt e ∧ Below w.heap.size w w' := by
  obtain ⟨k1, q1, rfl, mk⟩ := hkv.form
  obtain ⟨k2, q2, rfl, mo⟩ := hov.form
  obtain ⟨sa, sc, rfl, hms⟩ := own_slice h.hs
  obtain ⟨aa, ac, rfl, hma⟩ := own_slice h.ha
  have HSF : Hid (∀ W, Below w.heap.size w W → SfV W (.slice sa ks sc) (s.shelves.take ks)) := Lib.hid (fun W hb => Rw.keep (h.sfV hks) hb)
  have HAP := Lib.hid (fun s' t W hb => SApart_any (.slice aa ka ac) (s.aparts.take ka) s' t W (Rw.keep (h.apV hka) hb))
  have HAT := Lib.hid (fun c W => At_any s.floor (.slice k1 s.floor.kind.length q1) (.slice k2 s.floor.out.length q2) c W (.of hf))
  have HCE := Lib.hid (fun x y z W => Cell_any s.floor (.slice k1 s.floor.kind.length q1) (.slice k2 s.floor.out.length q2) x y z W (.of hf))
  have HBD := Lib.hid (fun c => at_bd (.of hf) c)
  have HCB := Lib.hid (fun x y z => cell_bd hf x y z)
  have HM := Lib.hid h
  have hlB := h.lt
  have hks2 : (s.shelves.take ks).length = ks := by rw [List.length_take]; omega
  have HKS := Lib.hid hks2
  obtain ⟨l1, e1⟩ : ∃ n, s.floor.kind.length = n := ⟨_, rfl⟩
  obtain ⟨l2, e2⟩ : ∃ n, s.floor.out.length = n := ⟨_, rfl⟩
  unfold flV at HAT HCE
  rw [e1, e2] at HAT HCE HM
  have p0 : w.cell? ⟨B, 0, none⟩ = some (.int .i64 s.floor.w) := cell_of_heap HM.out.hB 0 rfl
  have p1 : w.cell? ⟨B, 1, none⟩ = some (.int .i64 s.floor.h) := cell_of_heap HM.out.hB 1 rfl
  have p2 : w.cell? ⟨B, 2, none⟩ = some (.int .i64 s.floor.d) := cell_of_heap HM.out.hB 2 rfl
  have p3 : w.cell? ⟨B, 3, none⟩ = some (.slice k1 l1 q1) := cell_of_heap HM.out.hB 3 rfl
  have p4 : w.cell? ⟨B, 4, none⟩ = some (.slice k2 l2 q2) := cell_of_heap HM.out.hB 4 rfl
  have p7 : w.cell? ⟨B, 7, none⟩ = some (.slice sa ks sc) := cell_of_heap HM.out.hB 7 rfl
  have F0 : Hid ((w.alloc (.cells #[.int .i64 s.floor.w, .int .i64 s.floor.h, .int .i64 s.floor.d, .slice k1 l1 q1, .slice k2 l2 q2] 24)).heap[w.heap.size]? = some (.cells #[.int .i64 s.floor.w, .int .i64 s.floor.h, .int .i64 s.floor.d, .slice k1 l1 q1, .slice k2 l2 q2] 24 (0, 0))) := Lib.hid (heap_alloc_new _ _)
  have B0 : Hid (Below w.heap.size w (w.alloc (.cells #[.int .i64 s.floor.w, .int .i64 s.floor.h, .int .i64 s.floor.d, .slice k1 l1 q1, .slice k2 l2 q2] 24))) := Lib.hid ((Below.refl _ w).alloc (Nat.le_refl _) _)
  obtain ⟨FW, hFW⟩ : ∃ x, s.floor.w = x := ⟨_, rfl⟩
  obtain ⟨FH, hFH⟩ : ∃ x, s.floor.h = x := ⟨_, rfl⟩
  obtain ⟨FD, hFD⟩ : ∃ x, s.floor.d = x := ⟨_, rfl⟩
  rw [hFW] at p0 F0 B0 HAT HCE
  rw [hFH] at p1 F0 B0 HAT HCE
  rw [hFD] at p2 F0 B0 HAT HCE
  clear h hkv hov hf hb0 hks2 e1 e2 hFW hFH hFD
  go_enter Tryz.func79, Tryz.ntmps79
  go_wp2_with fail
  go_loopw [24] (fun iv wr => ∃ k : Nat, k ≤ ks ∧ iv = .int .i64 k ∧ Hid (Below w.heap.size w wr) ∧ Hid (wr.heap[w.heap.size]? = some (.cells #[.int .i64 FW, .int .i64 FH, .int .i64 FD, .slice k1 l1 q1, .slice k2 l2 q2] 24 (0, 0)))) (fun iv _ => ks - (intOf iv).toNat)
  case atStart => exact ⟨0, by omega, rfl, B0, F0⟩
  case round =>
    clear B0 F0 p0 p1 p2 p3 p4 p7
    obtain ⟨k, hk, rfl, HB, J0⟩ := hrel
    obtain ⟨wo, rfl⟩ : ∃ wo : World, wo = wr := ⟨_, rfl⟩
    by_cases hkn : k < ks
    · have hkl : k < (s.shelves.take ks).length := by rw [HKS.out]; exact hkn
      obtain ⟨sb, so, t1, hsb, r0, r1⟩ := SfV.cell (HSF.out wo HB.out) k hkl
      subst t1
      obtain ⟨C, hC⟩ : ∃ C, (s.shelves.take ks)[k].1 = C := ⟨_, rfl⟩
      obtain ⟨NM, hNM⟩ : ∃ C : ByteArray, ⟨(s.shelves.take ks)[k].2.toArray⟩ = C := ⟨_, rfl⟩
      rw [hC] at r0
      rw [hNM] at r1
      have kk1 : (k : Int) < (ks : Int) := by omega
      have kk0 : (0 : Int) ≤ (k : Int) := by omega
      obtain ⟨w2, hw2⟩ : ∃ x, x = wo.alloc (.cells #[.int .i64 C, .string NM] 111) := ⟨_, rfl⟩
      have BA : Hid (Below wo.heap.size wo w2) := Lib.hid (by rw [hw2]; exact (Below.refl _ _).alloc (Nat.le_refl _) _)
      have IA : Hid (w2.heap[wo.heap.size]? = some (.cells #[.int .i64 C, .string NM] 111 (0, 0))) := Lib.hid (by rw [hw2]; exact heap_alloc_new _ _)
      have HW2 := Lib.hid hw2
      have B2 := Lib.hid (HB.out.trans (BA.out.mono HB.out.size))
      have J2 := Lib.hid (keep_heap J0.out BA.out)
      have lw2 : w.heap.size < w2.heap.size := heap_lt J2.out
      have lo2 : wo.heap.size < w2.heap.size := heap_lt IA.out
      have a0 : w2.cell? ⟨w.heap.size, 0, none⟩ = some (.int .i64 FW) := cell_of_heap J2.out 0 rfl
      have a1 : w2.cell? ⟨w.heap.size, 1, none⟩ = some (.int .i64 FH) := cell_of_heap J2.out 1 rfl
      have a2 : w2.cell? ⟨w.heap.size, 2, none⟩ = some (.int .i64 FD) := cell_of_heap J2.out 2 rfl
      have a3 : w2.cell? ⟨w.heap.size, 3, none⟩ = some (.slice k1 l1 q1) := cell_of_heap J2.out 3 rfl
      have a4 : w2.cell? ⟨w.heap.size, 4, none⟩ = some (.slice k2 l2 q2) := cell_of_heap J2.out 4 rfl
      have x0 : w2.cell? ⟨wo.heap.size, 0, none⟩ = some (.int .i64 C) := cell_of_heap IA.out 0 rfl
      have HAC := Lib.hid (HAT.out C w2)
      obtain ⟨⟨g1, g2⟩, ⟨g3, g4⟩, g5, g6⟩ := HBD.out C
      obtain ⟨X, hX⟩ : ∃ x, Fl.atX s.floor C = x := ⟨_, rfl⟩
      obtain ⟨Y, hY⟩ : ∃ x, Fl.atY s.floor C = x := ⟨_, rfl⟩
      obtain ⟨Z, hZ⟩ : ∃ x, Fl.atZ s.floor C = x := ⟨_, rfl⟩
      rw [hX, hY, hZ] at HAC
      rw [hX] at g1 g2
      rw [hY] at g3 g4
      rw [hZ] at g5 g6
      clear hC hNM hw2 hX hY hZ
      go_upto_region 5 with fail
      rw [← HW2.out]
      go_wp2_with fail
      go_at_call 114; refine HAC.out.mono ?_; rintro e w3 ⟨rfl, b3⟩
      have B3 := Lib.hid (B2.out.trans (b3.mono B2.out.size))
      have J3 := Lib.hid (keep_heap J2.out b3)
      have I3 := Lib.hid (keep_heap IA.out b3)
      clear b3 a0 a1 a2 a3 a4 x0 lw2 lo2 r0 r1
      have lw3 : w.heap.size < w3.heap.size := heap_lt J3.out
      have p0 : w3.cell? ⟨w.heap.size, 0, none⟩ = some (.int .i64 FW) := cell_of_heap J3.out 0 rfl
      have p1 : w3.cell? ⟨w.heap.size, 1, none⟩ = some (.int .i64 FH) := cell_of_heap J3.out 1 rfl
      have p2 : w3.cell? ⟨w.heap.size, 2, none⟩ = some (.int .i64 FD) := cell_of_heap J3.out 2 rfl
      have p3 : w3.cell? ⟨w.heap.size, 3, none⟩ = some (.slice k1 l1 q1) := cell_of_heap J3.out 3 rfl
      have p4 : w3.cell? ⟨w.heap.size, 4, none⟩ = some (.slice k2 l2 q2) := cell_of_heap J3.out 4 rfl
      have h1 : IntKind.i64.wrap (X + 1) = X + 1 := IntWalk.i64_in _ (by omega)
      have h2 : IntKind.i64.wrap (X - 1) = X - 1 := IntWalk.i64_in _ (by omega)
      have h3 : IntKind.i64.wrap (Y + 1) = Y + 1 := IntWalk.i64_in _ (by omega)
      have h4 : IntKind.i64.wrap (Y - 1) = Y - 1 := IntWalk.i64_in _ (by omega)
      have BX : Below w3.heap.size w3 w3.drew := below_drewN _ _ 1
      go_upto_region 6 with fail
      go_cut [61, 62, 63] (fun v n0 i0 wx => ∃ (g : Nat) (cs : List Int), v = .slice (some ⟨g, 0, none⟩) 4 4 ∧ n0 = .int .i64 4 ∧ i0 = .int .i64 0 ∧ Hid (cs.length = 4) ∧ Hid (wx.heap[g]? = some (.cells (ints cs).toArray 3 (0, 0))) ∧ Hid (∀ c ∈ cs, -1 ≤ c ∧ c ≤ 4096) ∧ Hid (Below w3.heap.size w3 wx))
      case first =>
        go_region_held3 (fun w' => w'.cell? ⟨w.heap.size, 0, none⟩ = some (.int .i64 FW) ∧ w'.cell? ⟨w.heap.size, 1, none⟩ = some (.int .i64 FH) ∧ w'.cell? ⟨w.heap.size, 2, none⟩ = some (.int .i64 FD) ∧ w'.cell? ⟨w.heap.size, 3, none⟩ = some (.slice k1 l1 q1) ∧ w'.cell? ⟨w.heap.size, 4, none⟩ = some (.slice k2 l2 q2)) (go_keep)
          ((go_at_call 115; refine (HCE.out _ _ _ _).mono ?_; rintro e w5 ⟨rfl, b5⟩; have BX : Below w3.heap.size w3 w5 := BX.trans (b5.mono BX.size); have s0 := (BX.cell (p := ⟨w.heap.size, 0, none⟩) lw3).trans p0; have s1 := (BX.cell (p := ⟨w.heap.size, 1, none⟩) lw3).trans p1; have s2 := (BX.cell (p := ⟨w.heap.size, 2, none⟩) lw3).trans p2; have s3 := (BX.cell (p := ⟨w.heap.size, 3, none⟩) lw3).trans p3; have s4 := (BX.cell (p := ⟨w.heap.size, 4, none⟩) lw3).trans p4; clear b5))
        all_goals go_wp2_with fail
        all_goals
          go_meet
          refine ⟨_, [_, _, _, _], rfl, rfl, rfl, Lib.hid rfl, Lib.hid (heap_alloc_new _ _), Lib.hid ?_, Lib.hid (BX.alloc BX.size _)⟩
          intro c hc
          simp only [List.mem_cons, List.not_mem_nil, or_false] at hc
          rcases hc with rfl | rfl | rfl | rfl
          all_goals exact HCB.out _ _ _
      case rest =>
        obtain ⟨g, cs, rfl, rfl, rfl, HLN, HG, HBN, HBX⟩ := hcut
        have BC := Lib.hid (B3.out.trans (HBX.out.mono B3.out.size))
        have JC := Lib.hid (keep_heap J3.out HBX.out)
        have IC := Lib.hid (keep_heap I3.out HBX.out)
        clear p0 p1 p2 p3 p4 BX lw3 h1 h2 h3 h4
        go_wp2_with fail
        go_loopw [63] (fun iv wr => ∃ j : Nat, j ≤ 4 ∧ iv = .int .i64 j ∧ Hid (Below wc.heap.size wc wr)) (fun iv _ => 4 - (intOf iv).toNat)
        case atStart => exact ⟨0, by omega, rfl, Lib.hid (Below.refl _ _)⟩
        case round =>
          obtain ⟨j, hj, rfl, HBR⟩ := hrel
          have BR := Lib.hid (BC.out.trans (HBR.out.mono BC.out.size))
          by_cases hjn : j < 4
          · have hjl : j < cs.length := by rw [HLN.out]; exact hjn
            have hgr := keep_heap HG.out HBR.out
            have c0 : wr.cell? ⟨g, j, none⟩ = some (.int .i64 cs[j]) := cell_of_heap hgr j (by simp [ints, hjl])
            obtain ⟨hc1, hc2⟩ := HBN.out _ (List.getElem_mem hjl)
            obtain ⟨D, hD⟩ : ∃ D, cs[j] = D := ⟨_, rfl⟩
            rw [hD] at c0 hc1 hc2
            have j0 : (0 : Int) ≤ (j : Int) := by omega
            have j1 : (j : Int) < 4 := by omega
            have HMR := Lib.hid (HM.out.below BR.out)
            obtain ⟨lv, hlk, hlv⟩ := HMR.out.m1.look (c := D) (by omega)
            have hlv2 : 0 ≤ lv := by
              rcases hlv with h | h
              · omega
              · exact (shP_val h).1
            obtain ⟨F, hF⟩ : ∃ F, decide (D ∈ (shP s.shelves ks).map (·.1)) = F := ⟨_, rfl⟩
            rw [hF] at hlk
            have p9 : wr.cell? ⟨B, 9, none⟩ = some (.map (some b1)) := cell_of_heap HMR.out.hB 9 rfl
            have p6 : wr.cell? ⟨B, 6, none⟩ = some (.slice aa ka ac) := cell_of_heap HMR.out.hB 6 rfl
            have p7 : wr.cell? ⟨B, 7, none⟩ = some (.slice (some ⟨sb, so, none⟩) ks sc) := cell_of_heap HMR.out.hB 7 rfl
            have hir := keep_heap IC.out HBR.out
            have x1 : wr.cell? ⟨wo.heap.size, 1, none⟩ = some (.string NM) := cell_of_heap hir 1 rfl
            have lwr : wo.heap.size < wr.heap.size := heap_lt hir
            have lBr : B < wr.heap.size := HMR.out.lt
            have lg : g < wr.heap.size := heap_lt hgr
            clear hD hgr hlv hF hir
            go_upto_region 10 with fail
            go_cut [100] (fun v wx => IsB v ∧ Hid (Below wr.heap.size wr wx))
            case first =>
              cases F with
              | false =>
                go_quiet (fail)
                go_wp2_with fail
                go_meet
                exact ⟨⟨_, rfl⟩, Lib.hid (below_drewN _ _ _)⟩
              | true =>
                by_cases hlt : lv < (k : Int)
                · obtain ⟨n, rfl⟩ : ∃ n : Nat, lv = (n : Int) := ⟨lv.toNat, by omega⟩
                  have hnl : n < (s.shelves.take ks).length := by rw [HKS.out]; omega
                  obtain ⟨sb', so', t1, hsb', r0, r1⟩ := SfV.cell (HSF.out wr BR.out) n hnl
                  injection t1 with t1; injection t1 with t1 t2; subst t1 t2
                  obtain ⟨NK, hNK⟩ : ∃ C : ByteArray, ⟨(s.shelves.take ks)[n].2.toArray⟩ = C := ⟨_, rfl⟩
                  rw [hNK] at r1
                  have n1 : (n : Int) < (ks : Int) := by omega
                  have t2 : decide ((n : Int) < (k : Int)) = true := decide_eq_true hlt
                  have HPA := Lib.hid (fun W hb => HAP.out NM NK W hb)
                  have HPB := Lib.hid BR.out
                  clear hNK r0
                  go_region_held3 (fun w' => w'.cell? ⟨B, 6, none⟩ = some (.slice aa ka ac) ∧ w'.cell? ⟨B, 7, none⟩ = some (.slice (some ⟨sb, so, none⟩) ks sc) ∧ w'.cell? ⟨wo.heap.size, 1, none⟩ = some (.string NM) ∧ w'.cell? ⟨sb, so + n * 2 + 1, none⟩ = some (.string NK)) (go_keep)
                    ((go_at_call 112; refine (HPA.out wr.drew (HPB.out.trans (below_drewN _ _ 1))).mono ?_; rintro e w5 ⟨⟨q, rfl⟩, b5⟩; have BX : Below wr.heap.size wr w5 := (show Below wr.heap.size wr wr.drew from below_drewN _ _ 1).trans b5; have s0 := (BX.cell (p := ⟨B, 6, none⟩) lBr).trans p6; have s1 := (BX.cell (p := ⟨B, 7, none⟩) lBr).trans p7; have s2 := (BX.cell (p := ⟨wo.heap.size, 1, none⟩) lwr).trans x1; have s3 := (BX.cell (p := ⟨sb, so + n * 2 + 1, none⟩) hsb').trans r1; clear b5))
                  all_goals go_wp2_with fail
                  all_goals
                    go_meet
                    exact ⟨⟨_, rfl⟩, Lib.hid BX⟩
                · have t2 : decide (lv < (k : Int)) = false := decide_eq_false hlt
                  clear hlt
                  go_quiet (fail)
                  go_wp2_with fail
                  go_meet
                  exact ⟨⟨_, rfl⟩, Lib.hid (below_drewN _ _ _)⟩
            case rest =>
              obtain ⟨⟨q, rfl⟩, HBY⟩ := hcut
              have BY := Lib.hid (BR.out.trans (HBY.out.mono BR.out.size))
              have BZ := Lib.hid (HBR.out.trans (HBY.out.mono HBR.out.size))
              clear p6 p7 p9 x1 c0 hlk lwr lBr lg
              cases q with
              | true =>
                go_wp2_with fail
                go_ret
                exact ⟨⟨_, rfl⟩, BY.out⟩
              | false =>
                go_wp2_with fail
                go_roundw
                case rel => exact ⟨j + 1, by omega, by go_num, BZ⟩
                case measure => simp [intOf]; omega
          · obtain rfl : j = 4 := by omega
            have J4 := Lib.hid (keep_heap JC.out HBR.out)
            have e4 : ((4 : Nat) : Int) = 4 := rfl
            go_wp2_with fail
            go_roundw
            case rel => exact ⟨k + 1, by omega, by go_num, BR, J4⟩
            case measure => simp [intOf]; omega
    · go_wp2_with fail
      all_goals
        go_ret
        exact ⟨⟨_, rfl⟩, HB.out⟩
end Go.Proofs.YtcdfmgobokjcnaaGreatDoor
