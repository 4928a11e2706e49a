/- Parts Me, Mf of this claim, laid one behind the other: walks and the plain laws behind them; each contract states its own conditions. -/
import Derived.Test.YtcdfmgobokjcnaaGreatDoorZN
/- Walks of package survey: addShelf, addRobot. -/
namespace Go.Proofs.YtcdfmgobokjcnaaGreatDoor
set_option linter.unusedSimpArgs false
set_option linter.unusedVariables false
open Go.RowKit Go.Maps

section
variable {w w1 w' : World} {base B : Nat} {s : Si.Site} {zl : List (Si.Zone × Value × Value)} {kz ka ks kr nn : Nat} {cz : List Int} {kv ov zv av sv rv : Value} {b1 b2 b3 b4 b5 : Nat}
theorem MkV.own1 (h : MkV w base B s zl kz ka ks kr nn cz kv ov zv av sv rv b1 b2 b3 b4 b5) (hg1 : w.grownBy w1 (some b1)) : w1.ownsRow base 111 2 sv ks (sRows s.shelves ks) := ownM_map h.hs h.m1.isMap hg1
theorem MkV.own2 (h : MkV w base B s zl kz ka ks kr nn cz kv ov zv av sv rv b1 b2 b3 b4 b5) (hg1 : w.grownBy w1 (some b2)) : w1.ownsRow base 93 2 rv kr (rRows s.robots kr) := ownM_map h.hr h.m2.isMap hg1
theorem app_cellsS (h : MkV w base B s zl kz ka ks kr nn cz kv ov zv av sv rv b1 b2 b3 b4 b5) (hg1 : w.grownBy w1 (some b1)) (o : Obj) (hg : ((w1.alloc o).drew).grownBy w' sv.ownBlock) :
    w'.heap[B]? = some (.cells (mkC s kv ov zv av sv rv b1 b2 b3 b4 b5) 153 (0, 0)) :=
  (GT.of_own ((World.ownsRow.alloc (h.own1 hg1) o).drew) hg).heap (heap_le (heap_map h.hB h.m1.isMap hg1)) (by decide)
theorem app_cellsR (h : MkV w base B s zl kz ka ks kr nn cz kv ov zv av sv rv b1 b2 b3 b4 b5) (hg1 : w.grownBy w1 (some b2)) (o : Obj) (hg : ((w1.alloc o).drew).grownBy w' rv.ownBlock) :
    w'.heap[B]? = some (.cells (mkC s kv ov zv av sv rv b1 b2 b3 b4 b5) 153 (0, 0)) :=
  (GT.of_own ((World.ownsRow.alloc (h.own2 hg1) o).drew) hg).heap (heap_le (heap_map h.hB h.m2.isMap hg1)) (by decide)
end
theorem inK_rng {f : Fl.Floor} {c : Int} (h : inK f c = true) (hl : f.kind.length ≤ 9223372036854775807) : -9223372036854775808 ≤ c ∧ c ≤ 9223372036854775807 := by
  unfold inK at h
  simp at h
  omega
/-- A shelf that may stand there. -/
def ShC (s : Si.Site) (ks : Nat) (c : Int) : Prop := inK s.floor c = true ∧ (kOf s.floor c = 1 ∨ kOf s.floor c = 2) ∧ c ∉ (s.shelves.take ks).map (·.1)
def RbC (s : Si.Site) (kr : Nat) (p : Int × Int) : Prop := inK s.floor p.1 = true ∧ kOf s.floor p.1 ≠ 0 ∧ 0 ≤ p.2 ∧ p.2 ≤ 1000000 ∧ p.1 ∉ (s.robots.take kr).map (·.1)
def AddS (w : World) (base B : Nat) (s : Si.Site) (zl : List (Si.Zone × Value × Value)) (kz ka ks kr nn : Nat) (cz : List Int) (c : Int) (kv ov zv av rv : Value) (b1 b2 b3 b4 b5 : Nat) (e : Ending) (w' : World) : Prop :=
  ∃ E : Int, e = .returned (.int .i64 E) ∧ Below base w w' ∧ (E = 0 → ks < 3000 ∧ ShC s ks c ∧ ∃ sv', MkV w' base B s zl kz ka (ks + 1) kr nn cz kv ov zv av sv' rv b1 b2 b3 b4 b5)
theorem AddS.no {w w' : World} {base B : Nat} {s : Si.Site} {zl : List (Si.Zone × Value × Value)} {kz ka ks kr nn : Nat} {cz : List Int} {c : Int} {kv ov zv av rv : Value} {b1 b2 b3 b4 b5 : Nat} {E : Int} (hE : E ≠ 0) (hb : Below base w w') :
    AddS w base B s zl kz ka ks kr nn cz c kv ov zv av rv b1 b2 b3 b4 b5 (.returned (.int .i64 E)) w' := ⟨E, rfl, hb, fun h => absurd h hE⟩
def AddR (w : World) (base B : Nat) (s : Si.Site) (zl : List (Si.Zone × Value × Value)) (kz ka ks kr nn : Nat) (cz : List Int) (p : Int × Int) (kv ov zv av sv : Value) (b1 b2 b3 b4 b5 : Nat) (e : Ending) (w' : World) : Prop :=
  ∃ E : Int, e = .returned (.int .i64 E) ∧ Below base w w' ∧ (E = 0 → kr < 200 ∧ RbC s kr p ∧ ∃ rv', MkV w' base B s zl kz ka ks (kr + 1) nn cz kv ov zv av sv rv' b1 b2 b3 b4 b5)
theorem AddR.no {w w' : World} {base B : Nat} {s : Si.Site} {zl : List (Si.Zone × Value × Value)} {kz ka ks kr nn : Nat} {cz : List Int} {p : Int × Int} {kv ov zv av sv : Value} {b1 b2 b3 b4 b5 : Nat} {E : Int} (hE : E ≠ 0) (hb : Below base w w') :
    AddR w base B s zl kz ka ks kr nn cz p kv ov zv av sv b1 b2 b3 b4 b5 (.returned (.int .i64 E)) w' := ⟨E, rfl, hb, fun h => absurd h hE⟩
set_option maxRecDepth 100000 in
set_option maxHeartbeats 32000000 in
theorem addShelf_any (w0 w : World) (hb0 : Below w0.heap.size w0 w) (B : Nat) (s : Si.Site) (zl : List (Si.Zone × Value × Value)) (kz ka ks kr nn : Nat) (cz : List Int) (kv ov zv av sv rv : Value) (b1 b2 b3 b4 b5 : Nat)
    (h : MkV w w0.heap.size B s zl kz ka ks kr nn cz kv ov zv av sv rv b1 b2 b3 b4 b5) (hkv : Is w0 kv s.floor.kind) (x : Int × List UInt8) (hx : s.shelves[ks]? = some x) (hl : x.2.length ≤ 9223372036854775807) :
    Calls Tryz.prog 77 #[.pointer (some ⟨B, 0, none⟩), .agg #[.int .i64 x.1, .string ⟨x.2.toArray⟩]] w (AddS w w0.heap.size B s zl kz ka ks kr nn cz x.1 kv ov zv av rv b1 b2 b3 b4 b5) := by
  obtain ⟨i0, hi0, hz0, hz1, hz2⟩ := info_parts Tryz.shelfInfo
  obtain ⟨sa, sc, rfl, hzm⟩ := own_slice h.hs
  obtain ⟨hkl, hke⟩ := List.getElem?_eq_some_iff.1 hx
  obtain ⟨ka1, kc1, rfl, hkm⟩ := hkv.form
  obtain ⟨NM, hNM⟩ : ∃ N : ByteArray, ⟨x.2.toArray⟩ = N := ⟨_, rfl⟩
  obtain ⟨C, hC⟩ : ∃ C, x.1 = C := ⟨_, rfl⟩
  have HNM := Lib.hid (fun W => SName_any NM W (by rw [← hNM]; show x.2.toArray.size ≤ _; simpa using hl))
  have HKA := Lib.hid (fun W hb => kindAt_any s.floor B _ (.slice ka1 s.floor.kind.length kc1) C W (keep_heap h.hB hb) rfl (hkv.keep (hb0.trans (hb.mono hb0.size))))
  have HKL := Lib.hid hkm
  have HZR : Hid (sRows s.shelves (ks + 1) = sRows s.shelves ks ++ [.int .i64 C, .string NM]) := Lib.hid (by rw [sRows_succ hkl, hke, ← hNM, ← hC]; rfl)
  have HSP : Hid (shP s.shelves (ks + 1) = shP s.shelves ks ++ [(C, (ks : Int))]) := Lib.hid (by rw [shP_succ hkl, hke, hC])
  have HKY : Hid ((shP s.shelves ks).map (·.1) = (s.shelves.take ks).map (·.1)) := Lib.hid (shP_keys (by omega))
  rw [hNM, hC]
  obtain ⟨w1, hw1⟩ : ∃ y, y = w.alloc (.cells #[.int .i64 C, .string NM] 111) := ⟨_, rfl⟩
  have B1 : Hid (Below w.heap.size w w1) := Lib.hid (by rw [hw1]; exact (Below.refl _ w).alloc (Nat.le_refl _) _)
  have I1 : Hid (w1.heap[w.heap.size]? = some (.cells #[.int .i64 C, .string NM] 111 (0, 0))) := Lib.hid (by rw [hw1]; exact heap_alloc_new _ _)
  have HM1 := Lib.hid (h.below B1.out)
  have hbl := h.base_le
  have hBl := h.lt
  have HW1 := Lib.hid hw1
  have lw : w.heap.size < w1.heap.size := heap_lt I1.out
  have lB : B < w1.heap.size := by omega
  have p7 : w1.cell? ⟨B, 7, none⟩ = some (.slice sa ks sc) := cell_of_heap HM1.out.hB 7 rfl
  have p9 : w1.cell? ⟨B, 9, none⟩ = some (.map (some b1)) := cell_of_heap HM1.out.hB 9 rfl
  have r0 : w1.cell? ⟨w.heap.size, 0, none⟩ = some (.int .i64 C) := cell_of_heap I1.out 0 rfl
  have r1 : w1.cell? ⟨w.heap.size, 1, none⟩ = some (.string NM) := cell_of_heap I1.out 1 rfl
  have BB := Lib.hid (B1.out.mono hbl)
  obtain ⟨T, hT⟩ : ∃ T, inK s.floor C = T := ⟨_, rfl⟩
  obtain ⟨K, hK⟩ : ∃ T, kOf s.floor C = T := ⟨_, rfl⟩
  rw [hT, hK] at HKA
  have HT := Lib.hid hT
  have HK := Lib.hid hK
  clear h hx hkl hke hNM hC hl hw1 hzm hkv hkm hT hK
  go_enter Tryz.func77, Tryz.ntmps77
  go_upto_region 1 with fail
  rw [← HW1.out]
  go_cut [17] (fun v wx => IsB v ∧ wx = w1)
  case first =>
    go_wp2_with fail
    all_goals first
      | (go_at_call 71; refine (HNM.out _).mono ?_; rintro e w2 ⟨⟨q, rfl⟩, rfl⟩
         go_wp2_with fail
         go_meet
         exact ⟨⟨_, rfl⟩, rfl⟩)
      | (go_meet
         exact ⟨⟨_, rfl⟩, rfl⟩)
  case rest =>
    obtain ⟨⟨q, rfl⟩, hwc⟩ := hcut
    obtain rfl : w1 = wc := hwc.symm
    cases q with
    | true =>
      go_wp2_with fail
      go_ret
      exact AddS.no (by decide) BB.out
    | false =>
      cases T with
      | false =>
        go_wp2_with fail
        go_at_call 110; refine (HKA.out _ B1.out).mono ?_; rintro e w2 ⟨rfl, rfl⟩
        go_wp2_with fail
        go_ret
        exact AddS.no (by decide) BB.out
      | true =>
        have hrng := inK_rng HT.out HKL.out
        obtain ⟨S, hS⟩ : ∃ S, (decide (K = 1) || decide (K = 2)) = S := ⟨_, rfl⟩
        have HST := Lib.hid (stands_any2 K w1)
        rw [hS] at HST
        cases S with
        | false =>
          clear hS
          go_wp2_with fail
          go_at_call 110; refine (HKA.out _ B1.out).mono ?_; rintro e w2 ⟨rfl, rfl⟩
          go_wp2_with fail
          go_at_call 113; refine HST.out.mono ?_; rintro e w2 ⟨rfl, rfl⟩
          go_wp2_with fail
          go_ret
          exact AddS.no (by decide) BB.out
        | true =>
          have HSK : Hid (K = 1 ∨ K = 2) := Lib.hid (by simpa using hS)
          obtain ⟨lv, -, hlk⟩ := HM1.out.m1.lookQ hrng
          rw [HKY.out] at hlk
          obtain ⟨D, hD⟩ : ∃ D, decide (C ∈ (s.shelves.take ks).map (·.1)) = D := ⟨_, rfl⟩
          rw [hD] at hlk
          have HD := Lib.hid hD
          clear hS hD
          go_wp2_with fail
          go_at_call 110; refine (HKA.out _ B1.out).mono ?_; rintro e w2 ⟨rfl, rfl⟩
          go_wp2_with fail
          go_at_call 113; refine HST.out.mono ?_; rintro e w2 ⟨rfl, rfl⟩
          go_upto_region 8 with fail
          go_cut [7, 8] (fun v y wx => v = .int .i64 lv ∧ y = .bool D ∧ Hid (Below w1.heap.size w1 wx))
          case first =>
            go_quiet (fail)
            go_wp2_with fail
            go_meet
            exact ⟨rfl, rfl, Lib.hid (below_drewN _ _ _)⟩
          case rest =>
            obtain ⟨rfl, rfl, HBX⟩ := hcut
            have BC := Lib.hid (B1.out.trans (HBX.out.mono B1.out.size))
            have BBC := Lib.hid (BC.out.mono hbl)
            have HMC := Lib.hid (HM1.out.below HBX.out)
            have IC := Lib.hid (keep_heap I1.out HBX.out)
            have lc : w.heap.size < wc.heap.size := heap_lt IC.out
            have lBc : B < wc.heap.size := HMC.out.lt
            clear p7 p9 r0 r1 hlk
            cases D with
            | true =>
              go_wp2_with fail
              go_ret
              exact AddS.no (by decide) BBC.out
            | false =>
              have hks : ks ≤ maxLen := own_max HMC.out.hs
              have p7 : wc.cell? ⟨B, 7, none⟩ = some (.slice sa ks sc) := cell_of_heap HMC.out.hB 7 rfl
              by_cases hk3 : (ks : Int) ≥ 3000
              · go_wp2_with fail
                go_ret
                exact AddS.no (by decide) BBC.out
              · have HNI : Hid (C ∉ (s.shelves.take ks).map (·.1)) := Lib.hid (by simpa using HD.out)
                have M1 : MapI wc.drew b1 (shP s.shelves ks) := HMC.out.m1
                obtain ⟨w2, hst, hm2', hg2⟩ := M1.store (by rw [shP_len]; unfold maxLen; omega) hrng (n := (ks : Int)) (by omega)
                have HMD : Hid (MkV wc.drew w0.heap.size B s zl kz ka ks kr nn cz (.slice ka1 s.floor.kind.length kc1) ov zv av (.slice sa ks sc) rv b1 b2 b3 b4 b5) := Lib.hid (HMC.out.below (below_drewN _ _ 1))
                have HP2 : Hid (MapI w2 b1 (shP s.shelves (ks + 1))) := Lib.hid (by rw [HSP.out]; exact hm2')
                have HG2 := Lib.hid hg2
                have HB2 : Hid (w2.heap[B]? = some (.cells (mkC s (.slice ka1 s.floor.kind.length kc1) ov zv av (.slice sa ks sc) rv b1 b2 b3 b4 b5) 153 (0, 0))) := Lib.hid (heap_map HMD.out.hB HMD.out.m1.isMap hg2)
                have I2 := Lib.hid (heap_map (show wc.drew.heap[w.heap.size]? = _ from IC.out) HMD.out.m1.isMap hg2)
                have BB2 : Hid (Below w0.heap.size w w2) := Lib.hid ((BBC.out.trans (below_drewN w0.heap.size wc 1)).trans (below_grown HMD.out.lb.2.1 HMC.out.base_le hg2))
                have HO2 := Lib.hid (HMD.out.own1 hg2)
                have p9 : wc.cell? ⟨B, 9, none⟩ = some (.map (some b1)) := cell_of_heap HMC.out.hB 9 rfl
                have r0 : wc.cell? ⟨w.heap.size, 0, none⟩ = some (.int .i64 C) := cell_of_heap IC.out 0 rfl
                clear hm2' hg2 hrng
                go_wp2_with fail
                go_still_tail 12, (by kernel_rfl)
                change wpList _ _ _ _ _ wc.drew
                go_wp2_with fail
                have q0 : w2.cell? ⟨w.heap.size, 0, none⟩ = some (.int .i64 C) := cell_of_heap I2.out 0 rfl
                have q1 : w2.cell? ⟨w.heap.size, 1, none⟩ = some (.string NM) := cell_of_heap I2.out 1 rfl
                have q7 : w2.cell? ⟨B, 7, none⟩ = some (.slice sa ks sc) := cell_of_heap HB2.out 7 rfl
                have lB2 : B < w2.heap.size := heap_lt HB2.out
                have l2 : w.heap.size < w2.heap.size := heap_lt I2.out
                have lb2 : w0.heap.size ≤ w2.heap.size := Nat.le_trans hbl (Nat.le_of_lt l2)
                clear p9 p7 r0 hst
                go_region_law ((refine step_append_lies _ (by rfl) _ _ _ (by rfl) w0.heap.size 111 i0 _ 2 24 Tryz.underlying27 hi0 hz0 hz1 hz2 rfl (by omega) (.slice sa ks sc) ks (sRows s.shelves ks) (by rfl) ((World.ownsRow.alloc HO2.out _).drew) ⟨w2.heap.size, 0, none⟩ 1 1 [.int .i64 C, .string NM] (by rfl) (by rfl) (World.news_of_block (cs := #[.int .i64 C, .string NM]) (t := 111) (fr := (0, 0)) (heap_new1 w2 _)) (by simp [Value.oneCell']) (by omega) (by unfold maxLen; omega) (by omega) (by simp; omega) (w2.heap.size + 1) (by simp) ?_; intro g cap w4 hown3 hgrow hat hlt3; have hB3 := app_cellsS HMD.out HG2.out _ hgrow; have p7' := cell_of_heap hB3 7 (v := .slice sa ks sc) rfl; have f7' := free_of_heap hB3 7))
                all_goals
                  go_wp2_with fail
                  go_ret
                  have bA : Below w2.heap.size w2 ((w2.alloc (.cells #[.int .i64 C, .string NM] 111)).drew) := ((Below.refl _ w2).alloc (Nat.le_refl _) _).drew
                  refine ⟨0, rfl, ?_, fun _ => ⟨by omega, ⟨HT.out, by rw [HK.out]; exact HSK.out, HNI.out⟩, _, HMD.out.appS HP2.out HG2.out bA (by rw [HZR.out]; exact hown3) hgrow⟩⟩
                  exact ((BB2.out.trans (bA.mono lb2)).trans (below_own ((World.ownsRow.alloc HO2.out _).drew) hgrow (Nat.le_refl _) (Nat.le_trans lb2 bA.size))).setCell HMD.out.lb.1 _
end Go.Proofs.YtcdfmgobokjcnaaGreatDoor
/- Walks of package survey: addRobot. -/
namespace Go.Proofs.YtcdfmgobokjcnaaGreatDoor
set_option linter.unusedSimpArgs false
set_option linter.unusedVariables false
open Go.RowKit Go.Maps

set_option maxRecDepth 100000 in
set_option maxHeartbeats 32000000 in
theorem addRobot_any (w0 w : World) (hb0 : Below w0.heap.size w0 w) (B : Nat) (s : Si.Site) (zl : List (Si.Zone × Value × Value)) (kz ka ks kr nn : Nat) (cz : List Int) (kv ov zv av sv rv : Value) (b1 b2 b3 b4 b5 : Nat)
    (h : MkV w w0.heap.size B s zl kz ka ks kr nn cz kv ov zv av sv rv b1 b2 b3 b4 b5) (hkv : Is w0 kv s.floor.kind) (x : Int × Int) (hx : s.robots[kr]? = some x) :
    Calls Tryz.prog 78 #[.pointer (some ⟨B, 0, none⟩), .agg #[.int .i64 x.1, .int .i64 x.2]] w (AddR w w0.heap.size B s zl kz ka ks kr nn cz x kv ov zv av sv b1 b2 b3 b4 b5) := by
  obtain ⟨i0, hi0, hz0, hz1, hz2⟩ := info_parts Tryz.startInfo
  obtain ⟨sa, sc, rfl, hzm⟩ := own_slice h.hr
  obtain ⟨hkl, hke⟩ := List.getElem?_eq_some_iff.1 hx
  obtain ⟨ka1, kc1, rfl, hkm⟩ := hkv.form
  obtain ⟨CH, hCH⟩ : ∃ N, x.2 = N := ⟨_, rfl⟩
  obtain ⟨C, hC⟩ : ∃ C, x.1 = C := ⟨_, rfl⟩
  have HKA := Lib.hid (fun W hb => kindAt_any s.floor B _ (.slice ka1 s.floor.kind.length kc1) C W (keep_heap h.hB hb) rfl (hkv.keep (hb0.trans (hb.mono hb0.size))))
  have HKL := Lib.hid hkm
  have HZR : Hid (rRows s.robots (kr + 1) = rRows s.robots kr ++ [.int .i64 C, .int .i64 CH]) := Lib.hid (by rw [rRows_succ hkl, hke, ← hCH, ← hC]; rfl)
  have HSP : Hid ((s.robots.take (kr + 1)).map (·.1) = (s.robots.take kr).map (·.1) ++ [C]) := Lib.hid (by rw [List.take_succ_eq_append_getElem hkl, List.map_append, hke, List.map_singleton, hC])
  have HXX : Hid (x = (C, CH)) := Lib.hid (by rw [← hC, ← hCH])
  rw [hCH, hC]
  obtain ⟨w1, hw1⟩ : ∃ y, y = w.alloc (.cells #[.int .i64 C, .int .i64 CH] 93) := ⟨_, rfl⟩
  have B1 : Hid (Below w.heap.size w w1) := Lib.hid (by rw [hw1]; exact (Below.refl _ w).alloc (Nat.le_refl _) _)
  have I1 : Hid (w1.heap[w.heap.size]? = some (.cells #[.int .i64 C, .int .i64 CH] 93 (0, 0))) := Lib.hid (by rw [hw1]; exact heap_alloc_new _ _)
  have HM1 := Lib.hid (h.below B1.out)
  have hbl := h.base_le
  have hBl := h.lt
  have HW1 := Lib.hid hw1
  have lw : w.heap.size < w1.heap.size := heap_lt I1.out
  have lB : B < w1.heap.size := by omega
  have p8 : w1.cell? ⟨B, 8, none⟩ = some (.slice sa kr sc) := cell_of_heap HM1.out.hB 8 rfl
  have p10 : w1.cell? ⟨B, 10, none⟩ = some (.map (some b2)) := cell_of_heap HM1.out.hB 10 rfl
  have r0 : w1.cell? ⟨w.heap.size, 0, none⟩ = some (.int .i64 C) := cell_of_heap I1.out 0 rfl
  have r1 : w1.cell? ⟨w.heap.size, 1, none⟩ = some (.int .i64 CH) := cell_of_heap I1.out 1 rfl
  have BB := Lib.hid (B1.out.mono hbl)
  obtain ⟨T, hT⟩ : ∃ T, inK s.floor C = T := ⟨_, rfl⟩
  obtain ⟨K, hK⟩ : ∃ T, kOf s.floor C = T := ⟨_, rfl⟩
  rw [hT, hK] at HKA
  have HT := Lib.hid hT
  have HK := Lib.hid hK
  clear h hx hkl hke hCH hC hw1 hzm hkv hkm hT hK
  go_enter Tryz.func78, Tryz.ntmps78
  go_upto_region 1 with fail
  rw [← HW1.out]
  cases T with
  | false =>
    go_wp2_with fail
    go_at_call 110; refine (HKA.out _ B1.out).mono ?_; rintro e w2 ⟨rfl, rfl⟩
    go_wp2_with fail
    go_ret
    exact AddR.no (by decide) BB.out
  | true =>
    have hrng := inK_rng HT.out HKL.out
    obtain ⟨S, hS⟩ : ∃ S, (decide (0 ≤ CH) && decide (CH ≤ 1000000)) = S := ⟨_, rfl⟩
    have HST := Lib.hid (within_any CH 0 1000000 w1)
    rw [hS] at HST
    cases S with
    | false =>
      clear hS
      go_wp2_with fail
      go_at_call 110; refine (HKA.out _ B1.out).mono ?_; rintro e w2 ⟨rfl, rfl⟩
      go_wp2_with fail
      go_at_call 72; refine HST.out.mono ?_; rintro e w2 ⟨rfl, rfl⟩
      go_wp2_with fail
      go_ret
      exact AddR.no (by decide) BB.out
    | true =>
      have HSK : Hid (0 ≤ CH ∧ CH ≤ 1000000) := Lib.hid (by simpa using hS)
      obtain ⟨Z, hZ⟩ : ∃ Z, (K == 0) = Z := ⟨_, rfl⟩
      have HZK := Lib.hid hZ
      cases Z with
      | true =>
        go_wp2_with fail
        go_at_call 110; refine (HKA.out _ B1.out).mono ?_; rintro e w2 ⟨rfl, rfl⟩
        go_wp2_with fail
        go_at_call 72; refine HST.out.mono ?_; rintro e w2 ⟨rfl, rfl⟩
        go_wp2_with fail
        go_ret
        exact AddR.no (by decide) BB.out
      | false =>
        have hlk := fun q => HM1.out.m2.lookQ hrng q
        obtain ⟨D, hD⟩ : ∃ D, decide (C ∈ (s.robots.take kr).map (·.1)) = D := ⟨_, rfl⟩
        rw [hD] at hlk
        have HD := Lib.hid hD
        clear hS hD
        go_wp2_with fail
        go_at_call 110; refine (HKA.out _ B1.out).mono ?_; rintro e w2 ⟨rfl, rfl⟩
        go_wp2_with fail
        go_at_call 72; refine HST.out.mono ?_; rintro e w2 ⟨rfl, rfl⟩
        go_upto_region 6 with fail
        go_cut [30] (fun v wx => v = .bool D ∧ Hid (Below w1.heap.size w1 wx))
        case first =>
          go_quiet (fail)
          go_wp2_with fail
          go_meet
          exact ⟨rfl, Lib.hid (below_drewN _ _ _)⟩
        case rest =>
          obtain ⟨rfl, HBX⟩ := hcut
          have BC := Lib.hid (B1.out.trans (HBX.out.mono B1.out.size))
          have BBC := Lib.hid (BC.out.mono hbl)
          have HMC := Lib.hid (HM1.out.below HBX.out)
          have IC := Lib.hid (keep_heap I1.out HBX.out)
          have lc : w.heap.size < wc.heap.size := heap_lt IC.out
          have lBc : B < wc.heap.size := HMC.out.lt
          clear p8 p10 r0 r1 hlk
          cases D with
          | true =>
            go_wp2_with fail
            go_ret
            exact AddR.no (by decide) BBC.out
          | false =>
            have hks : kr ≤ maxLen := own_max HMC.out.hr
            have p8 : wc.cell? ⟨B, 8, none⟩ = some (.slice sa kr sc) := cell_of_heap HMC.out.hB 8 rfl
            by_cases hk3 : (kr : Int) ≥ 200
            · go_wp2_with fail
              go_ret
              exact AddR.no (by decide) BBC.out
            · have HNI : Hid (C ∉ (s.robots.take kr).map (·.1)) := Lib.hid (by simpa using HD.out)
              have M1 : MapB wc.drew b2 ((s.robots.take kr).map (·.1)) := HMC.out.m2
              obtain ⟨w2, hst, hm2', hg2⟩ := M1.store (by rw [List.length_map, List.length_take]; unfold maxLen; omega) hrng
              have HMD : Hid (MkV wc.drew w0.heap.size B s zl kz ka ks kr nn cz (.slice ka1 s.floor.kind.length kc1) ov zv av sv (.slice sa kr sc) b1 b2 b3 b4 b5) := Lib.hid (HMC.out.below (below_drewN _ _ 1))
              have HP2 : Hid (MapB w2 b2 ((s.robots.take (kr + 1)).map (·.1))) := Lib.hid (by rw [HSP.out]; exact hm2')
              have HG2 := Lib.hid hg2
              have HB2 : Hid (w2.heap[B]? = some (.cells (mkC s (.slice ka1 s.floor.kind.length kc1) ov zv av sv (.slice sa kr sc) b1 b2 b3 b4 b5) 153 (0, 0))) := Lib.hid (heap_map HMD.out.hB HMD.out.m2.isMap hg2)
              have I2 := Lib.hid (heap_map (show wc.drew.heap[w.heap.size]? = _ from IC.out) HMD.out.m2.isMap hg2)
              have BB2 : Hid (Below w0.heap.size w w2) := Lib.hid ((BBC.out.trans (below_drewN w0.heap.size wc 1)).trans (below_grown HMD.out.lb.2.2.1 HMC.out.base_le hg2))
              have HO2 := Lib.hid (HMD.out.own2 hg2)
              have p10 : wc.cell? ⟨B, 10, none⟩ = some (.map (some b2)) := cell_of_heap HMC.out.hB 10 rfl
              have r0 : wc.cell? ⟨w.heap.size, 0, none⟩ = some (.int .i64 C) := cell_of_heap IC.out 0 rfl
              clear hm2' hg2 hrng
              go_wp2_with fail
              go_still_tail 6, (by kernel_rfl)
              change wpList _ _ _ _ _ wc.drew
              go_wp2_with fail
              have q0 : w2.cell? ⟨w.heap.size, 0, none⟩ = some (.int .i64 C) := cell_of_heap I2.out 0 rfl
              have q1 : w2.cell? ⟨w.heap.size, 1, none⟩ = some (.int .i64 CH) := cell_of_heap I2.out 1 rfl
              have q8 : w2.cell? ⟨B, 8, none⟩ = some (.slice sa kr sc) := cell_of_heap HB2.out 8 rfl
              have lB2 : B < w2.heap.size := heap_lt HB2.out
              have l2 : w.heap.size < w2.heap.size := heap_lt I2.out
              have lb2 : w0.heap.size ≤ w2.heap.size := Nat.le_trans hbl (Nat.le_of_lt l2)
              clear p10 p8 r0 hst
              go_region_law ((refine step_append_lies _ (by rfl) _ _ _ (by rfl) w0.heap.size 93 i0 _ 2 16 Tryz.underlying28 hi0 hz0 hz1 hz2 rfl (by omega) (.slice sa kr sc) kr (rRows s.robots kr) (by rfl) ((World.ownsRow.alloc HO2.out _).drew) ⟨w2.heap.size, 0, none⟩ 1 1 [.int .i64 C, .int .i64 CH] (by rfl) (by rfl) (World.news_of_block (cs := #[.int .i64 C, .int .i64 CH]) (t := 93) (fr := (0, 0)) (heap_new1 w2 _)) (by simp [Value.oneCell']) (by omega) (by unfold maxLen; omega) (by omega) (by simp; omega) (w2.heap.size + 1) (by simp) ?_; intro g cap w4 hown3 hgrow hat hlt3; have hB3 := app_cellsR HMD.out HG2.out _ hgrow; have p8' := cell_of_heap hB3 8 (v := .slice sa kr sc) rfl; have f8' := free_of_heap hB3 8))
              all_goals
                go_wp2_with fail
                go_ret
                have bA : Below w2.heap.size w2 ((w2.alloc (.cells #[.int .i64 C, .int .i64 CH] 93)).drew) := ((Below.refl _ w2).alloc (Nat.le_refl _) _).drew
                refine ⟨0, rfl, ?_, fun _ => ⟨by omega, ?_, _, HMD.out.appR HP2.out HG2.out bA (by rw [HZR.out]; exact hown3) hgrow⟩⟩
                · exact ((BB2.out.trans (bA.mono lb2)).trans (below_own ((World.ownsRow.alloc HO2.out _).drew) hgrow (Nat.le_refl _) (Nat.le_trans lb2 bA.size))).setCell HMD.out.lb.1 _
                · rw [HXX.out]
                  exact ⟨HT.out, by show kOf s.floor C ≠ 0; rw [HK.out]; simpa using HZK.out, HSK.out.1, HSK.out.2, HNI.out⟩
end Go.Proofs.YtcdfmgobokjcnaaGreatDoor
