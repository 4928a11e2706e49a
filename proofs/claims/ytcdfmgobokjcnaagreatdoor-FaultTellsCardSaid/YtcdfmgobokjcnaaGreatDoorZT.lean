/- Parts Ml of this claim, laid one behind the other: walks and the plain laws behind them; each contract states its own conditions. -/
import Derived.Test.YtcdfmgobokjcnaaGreatDoorZR
import Derived.Test.YtcdfmgobokjcnaaGreatDoorZS
/- Walks of package survey: Right. -/
namespace Go.Proofs.YtcdfmgobokjcnaaGreatDoor
set_option linter.unusedSimpArgs false
set_option linter.unusedVariables false
open Go.RowKit Go.Maps

theorem newMaker_ex (s : Si.Site) (zl : List (Si.Zone × Value × Value)) (kv ov : Value) (w : World) :
    Calls Tryz.prog 70 #[flV s.floor kv ov] w fun e w' => ∃ B b1 b2 b3 b4 b5, e = .returned (.pointer (some ⟨B, 0, none⟩)) ∧ Below w.heap.size w w' ∧
      MkV w' w.heap.size B s zl 0 0 0 0 0 [] kv ov (.slice none 0 0) (.slice none 0 0) (.slice none 0 0) (.slice none 0 0) b1 b2 b3 b4 b5 :=
  (newMaker_any s zl kv ov w).mono fun e w' ⟨h1, h2, h3⟩ => ⟨_, _, _, _, _, _, h1, h2, h3⟩
set_option maxRecDepth 100000 in
set_option maxHeartbeats 64000000 in
theorem sRight_any (s : Si.Site) (kv ov zv av sv rv : Value) (w : World) (h : SiV w kv ov zv av sv rv s) (hnm : Names s) (hzc : ∀ z ∈ s.zones, z.cells.length ≤ 1000000) (hal : s.aparts.length ≤ 1000000) :
    Calls Tryz.prog 45 #[siV s kv ov zv av sv rv] w fun e w' => TruePost (RtP s) e ∧ Below w.heap.size w w' := by
  obtain ⟨a1, c1, a2, c2, a3, c3, a4, c4, a5, c5, a6, c6, rfl, rfl, rfl, rfl, rfl, rfl, m1, m2, m3, m4, m5, m6⟩ := h.open
  have HV := Lib.hid h
  have HNM := Lib.hid hnm
  have HZC := Lib.hid hzc
  have HFL := Lib.hid (fun W hb => fRight_any s.floor (.slice a1 s.floor.kind.length c1) (.slice a2 s.floor.out.length c2) W (h.fl.keep hb))
  obtain ⟨zl, hzm, hzr, hzi⟩ := h.zn
  have HNEW := Lib.hid (fun W => newMaker_ex s zl (.slice a1 s.floor.kind.length c1) (.slice a2 s.floor.out.length c2) W)
  have hzl : zl.length = s.zones.length := by rw [← hzm, List.length_map]
  have HZM := Lib.hid hzm
  have HZR := Lib.hid hzr
  have HZI := Lib.hid hzi
  have HFI : Hid (Is w (.slice a1 s.floor.kind.length c1) s.floor.kind ∧ Is w (.slice a2 s.floor.out.length c2) s.floor.out) := Lib.hid ⟨h.fl.kind, h.fl.out⟩
  have HAP := Lib.hid h.ap
  have HSF := Lib.hid h.sf
  have HRB := Lib.hid h.rb
  obtain ⟨l1, e1⟩ : ∃ n, s.floor.kind.length = n := ⟨_, rfl⟩
  obtain ⟨l2, e2⟩ : ∃ n, s.floor.out.length = n := ⟨_, rfl⟩
  obtain ⟨l3, e3⟩ : ∃ n, s.zones.length = n := ⟨_, rfl⟩
  obtain ⟨l4, e4⟩ : ∃ n, s.aparts.length = n := ⟨_, rfl⟩
  obtain ⟨l5, e5⟩ : ∃ n, s.shelves.length = n := ⟨_, rfl⟩
  obtain ⟨l6, e6⟩ : ∃ n, s.robots.length = n := ⟨_, rfl⟩
  unfold siV
  unfold flV at HFL HNEW
  rw [e1, e2] at HFL HNEW HFI
  rw [e3] at m3 hzl HZR
  rw [e4] at m4 hal HAP
  rw [e5] at m5 HSF
  rw [e6] at m6 HRB
  rw [e1, e2, e3, e4, e5, e6]
  have E3 := Lib.hid e3
  have E4 := Lib.hid e4
  have E5 := Lib.hid e5
  have E6 := Lib.hid e6
  have HZL := Lib.hid hzl
  have B1 := Lib.hid ((Below.refl _ w).alloc (Nat.le_refl _) (.cells #[.int .i64 s.floor.w, .int .i64 s.floor.h, .int .i64 s.floor.d, .slice a1 l1 c1, .slice a2 l2 c2, .slice a3 l3 c3, .slice a4 l4 c4, .slice a5 l5 c5, .slice a6 l6 c6] 30))
  have I0 := Lib.hid (heap_alloc_new w (.cells #[.int .i64 s.floor.w, .int .i64 s.floor.h, .int .i64 s.floor.d, .slice a1 l1 c1, .slice a2 l2 c2, .slice a3 l3 c3, .slice a4 l4 c4, .slice a5 l5 c5, .slice a6 l6 c6] 30))
  clear h hnm hzc hzm hzr hzi hzl e1 e2 e3 e4 e5 e6
  go_enter Tryz.func45, Tryz.ntmps45
  go_wp2_with fail
  go_at_call 69; refine (HFL.out _ B1.out).mono ?_; rintro e w0 ⟨⟨rb, rfl, hrb⟩, b1⟩
  have HFR := Lib.hid hrb
  have B2 := Lib.hid (B1.out.trans (b1.mono B1.out.size))
  have I2 := Lib.hid (keep_heap I0.out b1)
  clear b1 hrb B1 I0
  cases rb with
  | false =>
    go_wp2_with fail
    go_ret
    exact ⟨TruePost.no _, B2.out⟩
  | true =>
    have HF := Lib.hid (HFR.out (by trivial))
    clear HFR
    have p0 : w0.cell? ⟨w.heap.size, 0, none⟩ = some (.int .i64 s.floor.w) := cell_of_heap I2.out 0 rfl
    have p1 : w0.cell? ⟨w.heap.size, 1, none⟩ = some (.int .i64 s.floor.h) := cell_of_heap I2.out 1 rfl
    have p2 : w0.cell? ⟨w.heap.size, 2, none⟩ = some (.int .i64 s.floor.d) := cell_of_heap I2.out 2 rfl
    have p3 : w0.cell? ⟨w.heap.size, 3, none⟩ = some (.slice a1 l1 c1) := cell_of_heap I2.out 3 rfl
    have p4 : w0.cell? ⟨w.heap.size, 4, none⟩ = some (.slice a2 l2 c2) := cell_of_heap I2.out 4 rfl
    go_wp2_with fail
    go_at_call 70; refine (HNEW.out w0).mono ?_; rintro e w3 ⟨B, b1, b2, b3, b4, b5, rfl, bn, hmn⟩
    have BN := Lib.hid bn
    have M0 : Hid (MkV w3 w0.heap.size B s zl 0 0 0 0 0 (czK s 0) (.slice a1 l1 c1) (.slice a2 l2 c2) (.slice none 0 0) (.slice none 0 0) (.slice none 0 0) (.slice none 0 0) b1 b2 b3 b4 b5) := Lib.hid hmn
    have HKV : Hid (Is w0 (.slice a1 l1 c1) s.floor.kind) := Lib.hid (HFI.out.1.keep B2.out)
    have HOV : Hid (Is w0 (.slice a2 l2 c2) s.floor.out) := Lib.hid (HFI.out.2.keep B2.out)
    have Z0 := Lib.hid (ZK.zero s)
    have I3 := keep_heap I2.out bn
    have q5 : w3.cell? ⟨w.heap.size, 5, none⟩ = some (.slice a3 l3 c3) := cell_of_heap I3 5 rfl
    have lw3 : w.heap.size < w3.heap.size := heap_lt I3
    clear bn hmn p0 p1 p2 p3 p4 I3
    go_wp2_with fail
    go_loopw [22] (fun iv wr => ∃ (k : Nat) (zv : Value), k ≤ l3 ∧ iv = .int .i64 k ∧ Hid (MkV wr w0.heap.size B s zl k 0 0 0 k (czK s k) (.slice a1 l1 c1) (.slice a2 l2 c2) zv (.slice none 0 0) (.slice none 0 0) (.slice none 0 0) b1 b2 b3 b4 b5) ∧ Hid (ZK s k) ∧ Hid (Below w0.heap.size w0 wr)) (fun iv _ => l3 - (intOf iv).toNat)
    case atStart => exact ⟨0, _, by omega, rfl, M0, Z0, BN⟩
    case round =>
      clear q5 lw3 M0 Z0 BN
      obtain ⟨k, zv, hk, rfl, HM, HZK, HB⟩ := hrel
      have BW := Lib.hid (B2.out.trans (HB.out.mono B2.out.size))
      by_cases hkn : k < l3
      · as_aux_lemma =>
          have hkl : k < zl.length := by rw [HZL.out]; exact hkn
          have hks : k < s.zones.length := by rw [E3.out]; exact hkn
          have hz1 : zl[k].1 = s.zones[k] := by simp [← HZM.out]
          obtain ⟨zb, zo, t1, hzb, r0, r1, r2, r3, r4⟩ := znZ_cell (Rw.keep HZR.out BW.out) k hkl
          subst t1
          have hzi := HZI.out _ (List.getElem_mem hkl)
          obtain ⟨x, hx⟩ : ∃ x, zl[k] = x := ⟨_, rfl⟩
          have hx2 : zl[k]? = some x := by rw [List.getElem?_eq_getElem hkl, hx]
          rw [hx] at r0 r1 r2 r3 r4 hzi hz1
          obtain ⟨z, u1, u2⟩ := x
          dsimp only at r0 r1 r2 r3 r4 hzi hz1
          obtain ⟨hu1, hu2⟩ := hzi
          obtain ⟨y1, d1, rfl, -⟩ := hu1.form
          obtain ⟨y2, d2, rfl, -⟩ := two_form hu2
          have hnl : z.name.length ≤ 1000000 := by rw [hz1]; exact HNM.out.z _ (List.getElem_mem hks)
          have hcl : z.cells.length ≤ 1000000 := by rw [hz1]; exact HZC.out _ (List.getElem_mem hks)
          have hk64 := HZK.out.n
          have hczl := czK_len HZC.out k
          have HSTEP := Lib.hid (fun g1 g2 g3 g4 g5 g6 => HZK.out.step hks g1 g2 g3 g4 g5 g6)
          have HCZ := Lib.hid (czK_succ hks)
          rw [← hz1] at HSTEP HCZ
          have HAZ := Lib.hid (fun W (hb : Below w0.heap.size w0 W) (hM : MkV W w0.heap.size B s zl k 0 0 0 k (czK s k) (.slice a1 l1 c1) (.slice a2 l2 c2) zv (.slice none 0 0) (.slice none 0 0) (.slice none 0 0) b1 b2 b3 b4 b5) => addZone_any w0 W hb B s zl k 0 0 0 (czK s k) (.slice a1 l1 c1) (.slice a2 l2 c2) zv (.slice none 0 0) (.slice none 0 0) (.slice none 0 0) b1 b2 b3 b4 b5 hM HKV.out z (.slice y1 z.cells.length d1) (.slice y2 z.shut.length d2) hx2 (hu1.keep B2.out) (Rw.keep hu2 B2.out) (by omega) (by omega))
          have HCE := Lib.hid (fun W (hb : Below w0.heap.size w0 W) (hM : MkV W w0.heap.size B s zl k 0 0 0 k (czK s k) (.slice a1 l1 c1) (.slice a2 l2 c2) zv (.slice none 0 0) (.slice none 0 0) (.slice none 0 0) b1 b2 b3 b4 b5) => cellsM_any s.floor B _ (.slice a1 l1 c1) (.slice y1 z.cells.length d1) z.cells W hM.hB rfl (HKV.out.keep hb) ((hu1.keep B2.out).keep hb))
          have HSH := Lib.hid (fun W hb => shut_any (.slice y2 z.shut.length d2) z.shut W (Rw.keep hu2 hb))
          obtain ⟨NM, hNM⟩ : ∃ N : ByteArray, ⟨z.name.toArray⟩ = N := ⟨_, rfl⟩
          have HN := Lib.hid (fun W => SName_any NM W (by rw [← hNM]; show z.name.toArray.size ≤ _; simp; omega))
          rw [hNM] at r0 HAZ
          obtain ⟨SP, hSP⟩ : ∃ x, z.speed = x := ⟨_, rfl⟩
          obtain ⟨KP, hKP⟩ : ∃ x, z.keep = x := ⟨_, rfl⟩
          rw [hSP] at r2 HAZ HSTEP
          rw [hKP] at r3 HAZ HSTEP
          obtain ⟨n1, hn1⟩ : ∃ n, z.cells.length = n := ⟨_, rfl⟩
          obtain ⟨n2, hn2⟩ : ∃ n, z.shut.length = n := ⟨_, rfl⟩
          rw [hn1] at r1 HAZ HCE
          rw [hn2] at r4 HAZ HSH
          have k0 : (0 : Int) ≤ (k : Int) := by omega
          have k1 : (k : Int) < (l3 : Int) := by omega
          obtain ⟨T, hT⟩ : ∃ T, (decide (1 ≤ SP) && decide (SP ≤ 100)) = T := ⟨_, rfl⟩
          have HWI := Lib.hid (fun W => within_any SP 1 100 W)
          rw [hT] at HWI
          have HT : Hid (T = true → 1 ≤ SP ∧ SP ≤ 100) := Lib.hid (fun h => by rw [h] at hT; simpa using hT)
          obtain ⟨w1, hw1⟩ : ∃ x, x = wr.alloc (.cells #[.string NM, .slice y1 n1 d1, .int .i64 SP, .int .i64 KP, .slice y2 n2 d2] 107) := ⟨_, rfl⟩
          have BA : Hid (Below wr.heap.size wr w1) := Lib.hid (by rw [hw1]; exact (Below.refl _ _).alloc (Nat.le_refl _) _)
          have IA : Hid (w1.heap[wr.heap.size]? = some (.cells #[.string NM, .slice y1 n1 d1, .int .i64 SP, .int .i64 KP, .slice y2 n2 d2] 107 (0, 0))) := Lib.hid (by rw [hw1]; exact heap_alloc_new _ _)
          have HW1 := Lib.hid hw1
          have HM1 := Lib.hid (HM.out.below BA.out)
          have B01 := Lib.hid (HB.out.trans (BA.out.mono HB.out.size))
          have BB1 := Lib.hid (B2.out.trans (B01.out.mono B2.out.size))
          have lr1 : wr.heap.size < w1.heap.size := heap_lt IA.out
          have x0 : w1.cell? ⟨wr.heap.size, 0, none⟩ = some (.string NM) := cell_of_heap IA.out 0 rfl
          have x1 : w1.cell? ⟨wr.heap.size, 1, none⟩ = some (.slice y1 n1 d1) := cell_of_heap IA.out 1 rfl
          have x2 : w1.cell? ⟨wr.heap.size, 2, none⟩ = some (.int .i64 SP) := cell_of_heap IA.out 2 rfl
          have x3 : w1.cell? ⟨wr.heap.size, 3, none⟩ = some (.int .i64 KP) := cell_of_heap IA.out 3 rfl
          have x4 : w1.cell? ⟨wr.heap.size, 4, none⟩ = some (.slice y2 n2 d2) := cell_of_heap IA.out 4 rfl
          clear hx hx2 hu1 hu2 hz1 hNM hSP hKP hn1 hn2 hT hw1 hnl hcl hk64 hczl
          go_upto_region 7 with fail
          rw [← HW1.out]
          clear r0 r1 r2 r3 r4
          go_wp2_with fail
          go_at_call 71; refine (HN.out _).mono ?_; rintro e w5 ⟨⟨q, rfl⟩, rfl⟩
          cases q with
          | false =>
            go_wp2_with fail
            go_ret
            exact ⟨TruePost.no _, BB1.out⟩
          | true =>
            cases T with
            | false =>
              go_wp2_with fail
              go_at_call 72; refine (HWI.out _).mono ?_; rintro e w5 ⟨rfl, rfl⟩
              go_wp2_with fail
              go_ret
              exact ⟨TruePost.no _, BB1.out⟩
            | true =>
              by_cases hkp : KP < 0
              · go_wp2_with fail
                go_at_call 72; refine (HWI.out _).mono ?_; rintro e w5 ⟨rfl, rfl⟩
                go_wp2_with fail
                go_ret
                exact ⟨TruePost.no _, BB1.out⟩
              · go_wp2_with fail
                go_at_call 72; refine (HWI.out _).mono ?_; rintro e w5 ⟨rfl, rfl⟩
                go_wp2_with fail
                go_at_call 73; refine (HSH.out _ BB1.out).mono ?_; rintro e w6 ⟨⟨q, rfl⟩, b6⟩
                have B06 := Lib.hid (B01.out.trans (b6.mono B01.out.size))
                have BB6 := Lib.hid (BB1.out.trans (b6.mono BB1.out.size))
                have HM6 := Lib.hid (HM1.out.below b6)
                have I6 := Lib.hid (keep_heap IA.out b6)
                clear b6 x0 x1 x2 x3 x4 lr1
                cases q with
                | false =>
                  go_wp2_with fail
                  go_ret
                  exact ⟨TruePost.no _, BB6.out⟩
                | true =>
                  have lr6 : wr.heap.size < w6.heap.size := heap_lt I6.out
                  have x0 : w6.cell? ⟨wr.heap.size, 0, none⟩ = some (.string NM) := cell_of_heap I6.out 0 rfl
                  have x1 : w6.cell? ⟨wr.heap.size, 1, none⟩ = some (.slice y1 n1 d1) := cell_of_heap I6.out 1 rfl
                  have x2 : w6.cell? ⟨wr.heap.size, 2, none⟩ = some (.int .i64 SP) := cell_of_heap I6.out 2 rfl
                  have x3 : w6.cell? ⟨wr.heap.size, 3, none⟩ = some (.int .i64 KP) := cell_of_heap I6.out 3 rfl
                  have x4 : w6.cell? ⟨wr.heap.size, 4, none⟩ = some (.slice y2 n2 d2) := cell_of_heap I6.out 4 rfl
                  go_wp2_with fail
                  go_at_call 74; refine (HCE.out _ B06.out HM6.out).mono ?_; rintro e w7 ⟨⟨q, rfl, hq⟩, rfl⟩
                  have HQ := Lib.hid hq
                  clear hq
                  cases q with
                  | false =>
                    go_wp2_with fail
                    go_ret
                    exact ⟨TruePost.no _, BB6.out⟩
                  | true =>
                    have HAS := Lib.hid (HQ.out (by trivial))
                    go_wp2_with fail
                    go_at_call 75; refine (HAZ.out _ B06.out HM6.out).mono ?_; rintro e w8 ⟨E, rfl, b8, hE⟩
                    have B08 := Lib.hid (B06.out.trans b8)
                    have BB8 := Lib.hid (B2.out.trans (B08.out.mono B2.out.size))
                    have HEE := Lib.hid hE
                    clear b8 hE x0 x1 x2 x3 x4 lr6
                    by_cases hE0 : E = 0
                    · obtain ⟨g1, g2, zv', g3⟩ := HEE.out hE0
                      have HM8 : Hid (MkV w8 w0.heap.size B s zl (k + 1) 0 0 0 (k + 1) (czK s (k + 1)) (.slice a1 l1 c1) (.slice a2 l2 c2) zv' (.slice none 0 0) (.slice none 0 0) (.slice none 0 0) b1 b2 b3 b4 b5) := Lib.hid (by rw [HCZ.out]; exact g3)
                      have HZ8 := Lib.hid (HSTEP.out HAS.out.2 HAS.out.1.asc (by omega) (HT.out (by trivial)) g2 g1)
                      have tE : (E != 0) = false := by simp [hE0]
                      clear g1 g2 g3 hE0
                      go_wp2_with fail
                      go_roundw
                      case rel => exact ⟨k + 1, zv', by omega, by go_num, HM8, HZ8, B08⟩
                      case measure => simp [intOf]; omega
                    · have tE : (E != 0) = true := by simp [hE0]
                      clear hE0
                      go_wp2_with fail
                      go_ret
                      exact ⟨TruePost.no _, BB8.out⟩
      · obtain rfl : l3 = k := by omega
        have I4 := keep_heap I2.out HB.out
        have q6 : wr.cell? ⟨w.heap.size, 6, none⟩ = some (.slice a4 l4 c4) := cell_of_heap I4 6 rfl
        have lw4 : w.heap.size < wr.heap.size := heap_lt I4
        clear I4
        go_wp2_with fail
        go_loopw [64] (fun iv wr => ∃ (k : Nat) (av : Value), k ≤ l4 ∧ iv = .int .i64 k ∧ Hid (MkV wr w0.heap.size B s zl l3 k 0 0 l3 (czK s l3) (.slice a1 l1 c1) (.slice a2 l2 c2) zv av (.slice none 0 0) (.slice none 0 0) b1 b2 b3 b4 b5) ∧ Hid (Below w0.heap.size w0 wr)) (fun iv _ => l4 - (intOf iv).toNat)
        case atStart => exact ⟨0, _, by omega, rfl, HM, HB⟩
        case round =>
          clear q6 lw4 HM HB BW
          obtain ⟨k, av, hk, rfl, HM, HB⟩ := hrel
          have BW := Lib.hid (B2.out.trans (HB.out.mono B2.out.size))
          by_cases hkn : k < l4
          · as_aux_lemma =>
              have hks : k < s.aparts.length := by rw [E4.out]; exact hkn
              obtain ⟨zb, zo, t1, hzb, r0, r1⟩ := ApV.cell (Rw.keep HAP.out BW.out) k hks
              subst t1
              have hnl := HNM.out.a _ (List.getElem_mem hks)
              obtain ⟨x, hx⟩ : ∃ x, s.aparts[k] = x := ⟨_, rfl⟩
              have hx2 : s.aparts[k]? = some x := by rw [List.getElem?_eq_getElem hks, hx]
              rw [hx] at r0 r1 hnl
              have HAA := Lib.hid (fun W (hM : MkV W w0.heap.size B s zl l3 k 0 0 l3 (czK s l3) (.slice a1 l1 c1) (.slice a2 l2 c2) zv av (.slice none 0 0) (.slice none 0 0) b1 b2 b3 b4 b5) => addApart_any w0.heap.size W B s zl l3 k 0 0 l3 (czK s l3) (.slice a1 l1 c1) (.slice a2 l2 c2) zv av (.slice none 0 0) (.slice none 0 0) b1 b2 b3 b4 b5 hM x hx2 (by omega) (by omega))
              obtain ⟨NA, hNA⟩ : ∃ N : ByteArray, ⟨x.1.toArray⟩ = N := ⟨_, rfl⟩
              obtain ⟨NB, hNB⟩ : ∃ N : ByteArray, ⟨x.2.toArray⟩ = N := ⟨_, rfl⟩
              rw [hNA] at r0 HAA
              rw [hNB] at r1 HAA
              have k0 : (0 : Int) ≤ (k : Int) := by omega
              have k1 : (k : Int) < (l4 : Int) := by omega
              have BA : Hid (Below wr.heap.size wr (wr.alloc (.cells #[.string NA, .string NB] 109))) := Lib.hid ((Below.refl _ _).alloc (Nat.le_refl _) _)
              have HM1 := Lib.hid (HM.out.below BA.out)
              have B01 := Lib.hid (HB.out.trans (BA.out.mono HB.out.size))
              clear hx hx2 hnl hNA hNB
              go_wp2_with fail
              go_at_call 76; refine (HAA.out _ HM1.out).mono ?_; rintro e w8 ⟨E, rfl, b8, hE⟩
              have B08 := Lib.hid (B01.out.trans b8)
              have BB8 := Lib.hid (B2.out.trans (B08.out.mono B2.out.size))
              have HEE := Lib.hid hE
              clear b8 hE
              by_cases hE0 : E = 0
              · obtain ⟨av', g3⟩ := HEE.out hE0
                have HM8 := Lib.hid g3
                have tE : (E != 0) = false := by simp [hE0]
                clear g3 hE0
                go_wp2_with fail
                go_roundw
                case rel => exact ⟨k + 1, av', by omega, by go_num, HM8, B08⟩
                case measure => simp [intOf]; omega
              · have tE : (E != 0) = true := by simp [hE0]
                clear hE0
                go_wp2_with fail
                go_ret
                exact ⟨TruePost.no _, BB8.out⟩
          · obtain rfl : l4 = k := by omega
            have S0 := Lib.hid (SK.zero s)
            have I4 := keep_heap I2.out HB.out
            have q7 : wr.cell? ⟨w.heap.size, 7, none⟩ = some (.slice a5 l5 c5) := cell_of_heap I4 7 rfl
            have lw4 : w.heap.size < wr.heap.size := heap_lt I4
            clear I4
            go_wp2_with fail
            go_loopw [76] (fun iv wr => ∃ (k : Nat) (sv : Value), k ≤ l5 ∧ iv = .int .i64 k ∧ Hid (MkV wr w0.heap.size B s zl l3 l4 k 0 l3 (czK s l3) (.slice a1 l1 c1) (.slice a2 l2 c2) zv av sv (.slice none 0 0) b1 b2 b3 b4 b5) ∧ Hid (SK s k) ∧ Hid (Below w0.heap.size w0 wr)) (fun iv _ => l5 - (intOf iv).toNat)
            case atStart => exact ⟨0, _, by omega, rfl, HM, S0, HB⟩
            case round =>
              clear q7 lw4 HM HB BW S0
              obtain ⟨k, sv, hk, rfl, HM, HSK, HB⟩ := hrel
              have BW := Lib.hid (B2.out.trans (HB.out.mono B2.out.size))
              by_cases hkn : k < l5
              · as_aux_lemma =>
                  have hks : k < s.shelves.length := by rw [E5.out]; exact hkn
                  obtain ⟨zb, zo, t1, hzb, r0, r1⟩ := SfV.cell (Rw.keep HSF.out BW.out) k hks
                  subst t1
                  have hnl := HNM.out.s _ (List.getElem_mem hks)
                  have HSTEP := Lib.hid (fun g1 g2 => HSK.out.step hks g1 g2)
                  obtain ⟨x, hx⟩ : ∃ x, s.shelves[k] = x := ⟨_, rfl⟩
                  have hx2 : s.shelves[k]? = some x := by rw [List.getElem?_eq_getElem hks, hx]
                  rw [hx] at r0 r1 hnl HSTEP
                  have HAA := Lib.hid (fun W (hb : Below w0.heap.size w0 W) (hM : MkV W w0.heap.size B s zl l3 l4 k 0 l3 (czK s l3) (.slice a1 l1 c1) (.slice a2 l2 c2) zv av sv (.slice none 0 0) b1 b2 b3 b4 b5) => addShelf_any w0 W hb B s zl l3 l4 k 0 l3 (czK s l3) (.slice a1 l1 c1) (.slice a2 l2 c2) zv av sv (.slice none 0 0) b1 b2 b3 b4 b5 hM HKV.out x hx2 (by omega))
                  obtain ⟨C, hC⟩ : ∃ C, x.1 = C := ⟨_, rfl⟩
                  obtain ⟨NB, hNB⟩ : ∃ N : ByteArray, ⟨x.2.toArray⟩ = N := ⟨_, rfl⟩
                  rw [hC] at r0 HAA HSTEP
                  rw [hNB] at r1 HAA
                  have k0 : (0 : Int) ≤ (k : Int) := by omega
                  have k1 : (k : Int) < (l5 : Int) := by omega
                  have BA : Hid (Below wr.heap.size wr (wr.alloc (.cells #[.int .i64 C, .string NB] 111))) := Lib.hid ((Below.refl _ _).alloc (Nat.le_refl _) _)
                  have HM1 := Lib.hid (HM.out.below BA.out)
                  have B01 := Lib.hid (HB.out.trans (BA.out.mono HB.out.size))
                  clear hx hx2 hnl hC hNB
                  go_wp2_with fail
                  go_at_call 77; refine (HAA.out _ B01.out HM1.out).mono ?_; rintro e w8 ⟨E, rfl, b8, hE⟩
                  have B08 := Lib.hid (B01.out.trans b8)
                  have BB8 := Lib.hid (B2.out.trans (B08.out.mono B2.out.size))
                  have HEE := Lib.hid hE
                  clear b8 hE
                  by_cases hE0 : E = 0
                  · obtain ⟨g1, g2, sv', g3⟩ := HEE.out hE0
                    have HM8 := Lib.hid g3
                    have HS8 := Lib.hid (HSTEP.out g2 g1)
                    have tE : (E != 0) = false := by simp [hE0]
                    clear g1 g2 g3 hE0
                    go_wp2_with fail
                    go_roundw
                    case rel => exact ⟨k + 1, sv', by omega, by go_num, HM8, HS8, B08⟩
                    case measure => simp [intOf]; omega
                  · have tE : (E != 0) = true := by simp [hE0]
                    clear hE0
                    go_wp2_with fail
                    go_ret
                    exact ⟨TruePost.no _, BB8.out⟩
              · obtain rfl : l5 = k := by omega
                have R0 := Lib.hid (RK.zero s)
                have I4 := keep_heap I2.out HB.out
                have q8 : wr.cell? ⟨w.heap.size, 8, none⟩ = some (.slice a6 l6 c6) := cell_of_heap I4 8 rfl
                have lw4 : w.heap.size < wr.heap.size := heap_lt I4
                clear I4
                go_wp2_with fail
                go_loopw [88] (fun iv wr => ∃ (k : Nat) (rv : Value), k ≤ l6 ∧ iv = .int .i64 k ∧ Hid (MkV wr w0.heap.size B s zl l3 l4 l5 k l3 (czK s l3) (.slice a1 l1 c1) (.slice a2 l2 c2) zv av sv rv b1 b2 b3 b4 b5) ∧ Hid (RK s k) ∧ Hid (Below w0.heap.size w0 wr)) (fun iv _ => l6 - (intOf iv).toNat)
                case atStart => exact ⟨0, _, by omega, rfl, HM, R0, HB⟩
                case round =>
                  clear q8 lw4 HM HB BW R0
                  obtain ⟨k, rv, hk, rfl, HM, HRK, HB⟩ := hrel
                  have BW := Lib.hid (B2.out.trans (HB.out.mono B2.out.size))
                  by_cases hkn : k < l6
                  · as_aux_lemma =>
                      have hks : k < s.robots.length := by rw [E6.out]; exact hkn
                      obtain ⟨zb, zo, t1, hzb, r0, r1⟩ := ShV.cell (Rw.keep HRB.out BW.out) k hks
                      subst t1
                      have HSTEP := Lib.hid (fun g1 g2 => HRK.out.step hks g1 g2)
                      obtain ⟨x, hx⟩ : ∃ x, s.robots[k] = x := ⟨_, rfl⟩
                      have hx2 : s.robots[k]? = some x := by rw [List.getElem?_eq_getElem hks, hx]
                      rw [hx] at r0 r1 HSTEP
                      have HAA := Lib.hid (fun W (hb : Below w0.heap.size w0 W) (hM : MkV W w0.heap.size B s zl l3 l4 l5 k l3 (czK s l3) (.slice a1 l1 c1) (.slice a2 l2 c2) zv av sv rv b1 b2 b3 b4 b5) => addRobot_any w0 W hb B s zl l3 l4 l5 k l3 (czK s l3) (.slice a1 l1 c1) (.slice a2 l2 c2) zv av sv rv b1 b2 b3 b4 b5 hM HKV.out x hx2)
                      obtain ⟨C, D⟩ := x
                      dsimp only at r0 r1 HAA
                      have k0 : (0 : Int) ≤ (k : Int) := by omega
                      have k1 : (k : Int) < (l6 : Int) := by omega
                      have BA : Hid (Below wr.heap.size wr (wr.alloc (.cells #[.int .i64 C, .int .i64 D] 93))) := Lib.hid ((Below.refl _ _).alloc (Nat.le_refl _) _)
                      have HM1 := Lib.hid (HM.out.below BA.out)
                      have B01 := Lib.hid (HB.out.trans (BA.out.mono HB.out.size))
                      clear hx hx2
                      go_wp2_with fail
                      go_at_call 78; refine (HAA.out _ B01.out HM1.out).mono ?_; rintro e w8 ⟨E, rfl, b8, hE⟩
                      have B08 := Lib.hid (B01.out.trans b8)
                      have BB8 := Lib.hid (B2.out.trans (B08.out.mono B2.out.size))
                      have HEE := Lib.hid hE
                      clear b8 hE
                      by_cases hE0 : E = 0
                      · obtain ⟨g1, g2, rv', g3⟩ := HEE.out hE0
                        have HM8 := Lib.hid g3
                        have HS8 := Lib.hid (HSTEP.out g2 g1)
                        have tE : (E != 0) = false := by simp [hE0]
                        clear g1 g2 g3 hE0
                        go_wp2_with fail
                        go_roundw
                        case rel => exact ⟨k + 1, rv', by omega, by go_num, HM8, HS8, B08⟩
                        case measure => simp [intOf]; omega
                      · have tE : (E != 0) = true := by simp [hE0]
                        clear hE0
                        go_wp2_with fail
                        go_ret
                        exact ⟨TruePost.no _, BB8.out⟩
                  · as_aux_lemma =>
                      obtain rfl : l6 = k := by omega
                      have HBE := Lib.hid (besideM_any w0 wr HB.out B s zl l3 l4 l5 l6 l3 (czK s l3) (.slice a1 l1 c1) (.slice a2 l2 c2) zv av sv rv b1 b2 b3 b4 b5 HM.out HKV.out HOV.out HF.out (by rw [E4.out]; omega) (by rw [E5.out]; omega))
                      go_wp2_with fail
                      go_at_call 79; refine HBE.out.mono ?_; rintro e w5 ⟨⟨n, rfl⟩, b5⟩
                      have B05 := Lib.hid (HB.out.trans (b5.mono HB.out.size))
                      have BB5 := Lib.hid (B2.out.trans (B05.out.mono B2.out.size))
                      have HM5 := Lib.hid (HM.out.below b5)
                      clear b5
                      by_cases hn0 : n < 0
                      · have HZV : Hid (ZnV w5 zv s.zones) := Lib.hid (by
                          have h9 := HM5.out
                          rw [← HZL.out] at h9
                          exact h9.znV HZM.out (fun x hx => ⟨(HZI.out x hx).1.keep BB5.out, Rw.keep (HZI.out x hx).2 BB5.out⟩))
                        have HCR := Lib.hid (crowded_any w5 w0.heap.size B s zl l3 l4 l5 l6 l3 (czK s l3) (.slice a1 l1 c1) (.slice a2 l2 c2) zv av sv rv b1 b2 b3 b4 b5 HM5.out (HKV.out.keep B05.out) s.zones HZV.out (fun z hz => ⟨fun c hc => by
                          have h9 := HZK.out.b
                          rw [List.take_of_length_le (by rw [E3.out]; omega)] at h9
                          exact (h9 z hz c hc).1, HZC.out z hz⟩))
                        go_wp2_with fail
                        go_at_call 80; refine HCR.out.mono ?_; rintro e w6 ⟨⟨m, rfl, hm⟩, b6⟩
                        have HMM := Lib.hid hm
                        have B06 := Lib.hid (B05.out.trans (b6.mono B05.out.size))
                        have BB6 := Lib.hid (B2.out.trans (B06.out.mono B2.out.size))
                        have HM6 := Lib.hid (HM5.out.below b6)
                        clear b6 hm
                        by_cases hm0 : m < 0
                        · have HRT : Hid (RtP s) := Lib.hid (right_end HF.out (by rw [E3.out]; exact HZK.out) (by rw [E5.out]; exact HSK.out) (by rw [E6.out]; exact HRK.out) (HMM.out hm0))
                          have HCH := Lib.hid (chargerM_any s.floor B _ (.slice a1 l1 c1) w6 HM6.out.hB rfl (HKV.out.keep B06.out))
                          go_wp2_with fail
                          go_at_call 81; refine HCH.out.mono ?_; rintro e w7 ⟨⟨q, rfl⟩, rfl⟩
                          go_wp2_with fail
                          go_ret
                          exact ⟨⟨_, rfl, fun _ => HRT.out⟩, BB6.out⟩
                        · go_wp2_with fail
                          go_ret
                          exact ⟨TruePost.no _, BB6.out⟩
                      · go_wp2_with fail
                        go_ret
                        exact ⟨TruePost.no _, BB5.out⟩
end Go.Proofs.YtcdfmgobokjcnaaGreatDoor
