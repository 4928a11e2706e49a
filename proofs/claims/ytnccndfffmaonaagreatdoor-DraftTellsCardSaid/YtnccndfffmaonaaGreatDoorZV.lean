/- Parts DtC, DtQ of this claim, laid one behind the other: walks and the plain laws behind them; each contract states its own conditions. -/
import Derived.Test.YtnccndfffmaonaaGreatDoorZU
import Derived.Test.YtnccndfffmaonaaGreatDoorZP
import Derived.Test.YtnccndfffmaonaaGreatDoorZT
/- The reference of layer 10: RightItem of any kind, Right. -/
namespace Go.Proofs.YtnccndfffmaonaaGreatDoor
set_option linter.unusedSimpArgs false
set_option linter.unusedVariables false
open Go.RowKit

set_option maxHeartbeats 4000000 in
theorem RightItem_none (x : Dr.Item) (nv : Value) (w : World) (h : x.kind < 0 ∨ 6 ≤ x.kind) :
    Calls Tryz.prog 33 #[itemV x nv] w fun e w' => e = .returned (.bool (Dr.rightI x)) ∧ Below w.heap.size w w' := by
  have HF : Hid (Dr.rightI x = false) := Lib.hid (by rcases h with h | h; exact rightI_neg x h; exact rightI_big x h)
  have B1 := Lib.hid ((Below.refl _ w).alloc (Nat.le_refl _) (.cells #[.int .i64 x.kind, .int .i64 x.line, .string ⟨x.name.toArray⟩, .string ⟨x.other.toArray⟩, nv] 34))
  have HC := Lib.hid (Form_none x.kind h)
  clear h
  unfold itemV
  go_enter Tryz.func33, Tryz.ntmps33
  go_wp2_with (go_at_call 24; refine (HC.out _).mono ?_; rintro e w2 ⟨rfl, rfl⟩)
  go_ret
  exact ⟨by rw [HF.out]; rfl, B1.out⟩
theorem RightItem_any (x : Dr.Item) (nv : Value) (w : World) (hn : Sl w nv (ints x.n)) (hl1 : x.name.length ≤ 140737488355328) (hl2 : x.other.length ≤ 140737488355328) :
    Calls Tryz.prog 33 #[itemV x nv] w fun e w' => e = .returned (.bool (Dr.rightI x)) ∧ Below w.heap.size w w' := by
  by_cases h : x.kind < 0 ∨ 6 ≤ x.kind
  · exact RightItem_none x nv w h
  · have hk : x.kind = 0 ∨ x.kind = 1 ∨ x.kind = 2 ∨ x.kind = 3 ∨ x.kind = 4 ∨ x.kind = 5 := by omega
    rcases hk with hk | hk | hk | hk | hk | hk
    · exact RightItem_0 x hk nv w hn hl1 hl2
    · exact RightItem_1 x hk nv w hn hl1 hl2
    · exact RightItem_2 x hk nv w hn hl1 hl2
    · exact RightItem_3 x hk nv w hn hl1 hl2
    · exact RightItem_4 x hk nv w hn hl1 hl2
    · exact RightItem_5 x hk nv w hn hl1 hl2

set_option maxRecDepth 100000 in
set_option maxHeartbeats 32000000 in
theorem rRight_any (va ia : Value) (d : Dr.Draft) (w : World) (hd : DV w va ia d) (hz : DrSize d) :
    Calls Tryz.prog 13 #[.agg #[va, ia]] w fun e w' => e = .returned (.bool (Dr.rightD d)) ∧ Below w.heap.size w w' := by
  obtain ⟨⟨dvs, hu, hul, hus⟩, l, hl, hI, hIs⟩ := hd
  obtain ⟨a1, c1, rfl, m1, -, hk⟩ := hu
  obtain ⟨a3, c3, rfl, m3, -, hk3⟩ := hI
  obtain ⟨n, hn⟩ : ∃ n, n = dvs.length := ⟨_, rfl⟩
  obtain ⟨n3, hn3⟩ : ∃ n, n = l.length := ⟨_, rfl⟩
  have HX := Lib.hid hk
  have HX3 := Lib.hid hk3
  have US := Lib.hid hus
  have VS := Lib.hid hIs
  have HZ := Lib.hid hz
  have HN := Lib.hid (show n = d.decks.length by omega)
  have HNV := Lib.hid hn
  have HN3 := Lib.hid hn3
  have HLL := Lib.hid hl
  rw [← hn] at m1 ⊢
  rw [← hn3] at m3 ⊢
  have hmx : n ≤ 9223372036854775807 := by unfold maxLen at m1; omega
  have hmx3 : n3 ≤ 9223372036854775807 := by unfold maxLen at m3; omega
  obtain ⟨R2, hR2⟩ : ∃ R2, R2 = (decide (d.decks.length ≤ 4) && decide (d.items.length ≤ 5000)) := ⟨_, rfl⟩
  obtain ⟨R, hR⟩ : ∃ R, R = (d.items.all Dr.rightI && R2) := ⟨_, rfl⟩
  obtain ⟨G, hG⟩ : ∃ G, G = (d.decks.all Dr.rightR && R) := ⟨_, rfl⟩
  have hGf : Dr.rightD d = G := by
    rw [hG, hR, hR2]
    unfold Dr.rightD
    cases d.decks.all Dr.rightR <;> cases d.items.all Dr.rightI <;> cases decide (d.decks.length ≤ 4) <;> cases decide (d.items.length ≤ 5000) <;> rfl
  rw [hGf]
  have HR2 : Hid (R2 = (decide (n ≤ 4) && decide (n3 ≤ 5000))) := Lib.hid (by rw [hR2, ← HN.out, HN3.out, ← HLL.out, List.length_map])
  have HR := Lib.hid hR
  have HG := Lib.hid hG
  obtain ⟨w1, hw1⟩ : ∃ w1, w1 = w.alloc (.cells #[.slice a1 n c1, .slice a3 n3 c3] 25) := ⟨_, rfl⟩
  have B1 : Hid (Below w.heap.size w w1) := Lib.hid (by rw [hw1]; exact (Below.refl _ w).alloc (Nat.le_refl _) _)
  have i1 : w1.heap[w.heap.size]? = some (.cells #[.slice a1 n c1, .slice a3 n3 c3] 25 (0, 0)) := by rw [hw1]; exact heap_alloc_new _ _
  have s1w : w.heap.size < w1.heap.size := by rw [hw1]; simp
  have I1 := Lib.hid i1
  have d0 : w1.cell? ⟨w.heap.size, 0, none⟩ = some (.slice a1 n c1) := cell_of_heap i1 0 rfl
  have d1 : w1.cell? ⟨w.heap.size, 1, none⟩ = some (.slice a3 n3 c3) := cell_of_heap i1 1 rfl
  have HW1 := Lib.hid hw1
  clear hz hul hus hl hIs hk hk3 hn hn3 i1 m1 m3 hw1 hR2 hR hG hGf
  go_enter Tryz.func13, Tryz.ntmps13
  go_wp2_with fail
  rw [← HW1.out]
  go_loop [3] (fun iv => ∃ k : Nat, k ≤ n ∧ iv = .int .i64 k ∧ Hid (G = ((d.decks.drop k).all Dr.rightR && R))) (fun iv => n - (intOf iv).toNat)
  case atStart => exact ⟨0, by omega, rfl, HG⟩
  case round =>
    obtain ⟨k, hk, rfl, HGR⟩ := hrel
    by_cases hkn : k < n
    · have hkd : k < d.decks.length := by rw [← HN.out]; exact hkn
      have hku : k < dvs.length := by rw [← HNV.out]; exact hkn
      obtain ⟨b, off, e1, p0⟩ := HX.out k hku
      subst e1
      have sk := US.out k hkd hku
      have hst := HGR.out.trans (by rw [all_drop Dr.rightR _ k hkd])
      have hzk := HZ.out.1 _ (List.getElem_mem hkd)
      obtain ⟨u, hu⟩ : ∃ u, u = dvs[k] := ⟨_, rfl⟩
      obtain ⟨rows, hx⟩ : ∃ x, x = d.decks[k] := ⟨_, rfl⟩
      rw [← hu] at p0 sk
      rw [← hx] at sk hst hzk
      have lt1 := cell_block_lt p0
      have p0 : w1.cell? ⟨b, off + k, none⟩ = _ := (B1.out.cell (p := ⟨b, off + k, none⟩) lt1).trans p0
      have kI0 : (0 : Int) ≤ (k : Int) := by omega
      have kI1 : (k : Int) < (n : Int) := by omega
      have S1 := Lib.hid (sk.below B1.out)
      obtain ⟨ua, uc, rfl, hml⟩ := sk.slice
      rw [strs_len2] at hml p0 S1
      obtain ⟨m, hmr⟩ : ∃ m, m = rows.length := ⟨_, rfl⟩
      rw [← hmr] at p0 S1 hml
      have hmm : m ≤ 9223372036854775807 := by unfold maxLen at hml; omega
      have HMR := Lib.hid hmr
      have HST := Lib.hid hst
      have HZK := Lib.hid hzk
      clear hst hx hu sk lt1 hmr hzk
      obtain ⟨T, hT⟩ : ∃ T, T = (decide (m ≤ 4096) && ((d.decks.drop (k + 1)).all Dr.rightR && R)) := ⟨_, rfl⟩
      have HG2 : Hid (G = (rows.all (fun s => decide (s.length ≤ 4096)) && T)) := Lib.hid (by
        rw [HST.out, hT]; unfold Dr.rightR; rw [← HMR.out]
        generalize rows.all (fun s => decide (s.length ≤ 4096)) = p
        generalize decide (m ≤ 4096) = q
        generalize (d.decks.drop (k + 1)).all _ = r
        cases p <;> cases q <;> cases r <;> rfl)
      have HT := Lib.hid hT
      clear hT
      go_wp2_with fail
      go_loop [4] (fun jv => ∃ j : Nat, j ≤ m ∧ jv = .int .i64 j ∧ Hid (G = ((rows.drop j).all (fun s => decide (s.length ≤ 4096)) && T))) (fun jv => m - (intOf jv).toNat)
      case atStart => exact ⟨0, by omega, rfl, HG2⟩
      case round =>
        obtain ⟨j, hj, rfl, HGJ⟩ := hrel
        by_cases hjm : j < m
        · have hjr : j < rows.length := by rw [← HMR.out]; exact hjm
          obtain ⟨rb, ro, rc, e1, -, hcs⟩ := S1.out.some (by rw [strs_len2]; omega)
          injection e1 with e1 e2 e3
          subst e1
          have q0 := (hcs j (by rw [strs_len2]; exact hjr)).trans (show _ = some (Value.string ⟨(rows[j]).toArray⟩) by simp [strs])
          have hstj := HGJ.out.trans (by rw [all_drop (fun s => decide (s.length ≤ 4096)) rows j hjr])
          have hsl := HZK.out _ (List.getElem_mem hjr)
          obtain ⟨t, ht⟩ : ∃ s, s = rows[j] := ⟨_, rfl⟩
          rw [← ht] at q0 hstj hsl
          obtain ⟨s, hs⟩ : ∃ s : ByteArray, s = ⟨t.toArray⟩ := ⟨_, rfl⟩
          have hss : t.length = s.size := by rw [hs, ← bs_len, bs_lit0]
          rw [← hs] at q0
          rw [hss] at hstj hsl
          have jI0 : (0 : Int) ≤ (j : Int) := by omega
          have jI1 : (j : Int) < (m : Int) := by omega
          have HSJ := Lib.hid hstj
          clear hcs e2 e3 hstj ht hs hss
          by_cases h60 : s.size ≤ 4096
          · have h60I : (s.size : Int) ≤ 4096 := by omega
            have HG3 : Hid (G = ((rows.drop (j + 1)).all (fun s => decide (s.length ≤ 4096)) && T)) := Lib.hid (by rw [HSJ.out, decide_eq_true h60, Bool.true_and])
            go_wp2_with fail
            go_round
            case rel => exact ⟨j + 1, by omega, by go_num, HG3⟩
            case measure => simp [intOf]; omega
          · have h60I : (4096 : Int) < (s.size : Int) := by omega
            have HG3 : Hid (G = false) := Lib.hid (by rw [HSJ.out, decide_eq_false h60]; rfl)
            go_wp2_with fail
            go_ret
            exact ⟨by rw [HG3.out]; rfl, B1.out⟩
        · have HG3 : Hid (G = (decide (m ≤ 4096) && ((d.decks.drop (k + 1)).all Dr.rightR && R))) := Lib.hid (by rw [HGJ.out, List.drop_eq_nil_of_le (by rw [← HMR.out]; omega), HT.out]; rfl)
          by_cases hm4 : m ≤ 4096
          · have hm4I : (m : Int) ≤ 4096 := by omega
            have HG4 : Hid (G = ((d.decks.drop (k + 1)).all Dr.rightR && R)) := Lib.hid (by rw [HG3.out, decide_eq_true hm4, Bool.true_and])
            go_wp2_with fail
            go_round
            case rel => exact ⟨k + 1, by omega, by go_num, HG4⟩
            case measure => simp [intOf]; omega
          · have hm4I : (4096 : Int) < (m : Int) := by omega
            have HG4 : Hid (G = false) := Lib.hid (by rw [HG3.out, decide_eq_false hm4]; rfl)
            go_wp2_with fail
            go_ret
            exact ⟨by rw [HG4.out]; rfl, B1.out⟩
    · have HG1 : Hid (G = R) := Lib.hid (by rw [HGR.out, List.drop_eq_nil_of_le (by rw [← HN.out]; omega)]; rfl)
      have HG2 : Hid (G = ((d.items.drop 0).all Dr.rightI && R2)) := Lib.hid (by rw [HG1.out, HR.out, List.drop_zero])
      clear HGR
      go_wp2_with fail
      go_loopw [5] (fun iv wr => ∃ j : Nat, j ≤ n3 ∧ iv = .int .i64 j ∧ Hid (G = ((d.items.drop j).all Dr.rightI && R2)) ∧ Hid (Below w1.heap.size w1 wr)) (fun iv _ => n3 - (intOf iv).toNat)
      case atStart => exact ⟨0, by omega, rfl, HG2, Lib.hid (Below.refl _ _)⟩
      case round =>
        obtain ⟨j, hj, rfl, HGJ, HB⟩ := hrel
        have hsr := HB.out.size
        have hh := (HB.out.block w.heap.size s1w).trans I1.out
        have d0 : wr.cell? ⟨w.heap.size, 0, none⟩ = some (.slice a1 n c1) := cell_of_heap hh 0 rfl
        have d1 : wr.cell? ⟨w.heap.size, 1, none⟩ = some (.slice a3 n3 c3) := cell_of_heap hh 1 rfl
        have HB3 := Lib.hid (B1.out.trans (HB.out.mono B1.out.size))
        clear hh
        by_cases hjn : j < n3
        · have hjl : j < l.length := by rw [← HN3.out]; exact hjn
          have hji : j < d.items.length := by rw [← HLL.out, List.length_map]; exact hjl
          obtain ⟨b, off, e1, p0, p1, p2, p3, p4⟩ := HX3.out j hjl
          subst e1
          have s1 := (VS.out l[j] (List.getElem_mem hjl)).1
          have hxe : d.items[j] = l[j].1 := by
            have := HLL.out
            simp only [← this, List.getElem_map]
          have hstj := HGJ.out.trans (by rw [all_drop Dr.rightI _ j hji, hxe])
          have hzj := HZ.out.2 _ (List.getElem_mem hji)
          rw [hxe] at hzj
          obtain ⟨⟨x, nx⟩, hx⟩ : ∃ u, u = l[j] := ⟨_, rfl⟩
          rw [← hx] at p0 p1 p2 p3 p4 s1 hstj hzj
          dsimp only at p0 p1 p2 p3 p4 s1 hstj hzj
          have lt1 := cell_block_lt p0
          have p0 : wr.cell? ⟨b, off + j * 5, none⟩ = _ := (HB3.out.cell (p := ⟨b, off + j * 5, none⟩) lt1).trans p0
          have p1 : wr.cell? ⟨b, off + j * 5 + 1, none⟩ = _ := (HB3.out.cell (p := ⟨b, off + j * 5 + 1, none⟩) lt1).trans p1
          have p2 : wr.cell? ⟨b, off + j * 5 + 2, none⟩ = _ := (HB3.out.cell (p := ⟨b, off + j * 5 + 2, none⟩) lt1).trans p2
          have p3 : wr.cell? ⟨b, off + j * 5 + 3, none⟩ = _ := (HB3.out.cell (p := ⟨b, off + j * 5 + 3, none⟩) lt1).trans p3
          have p4 : wr.cell? ⟨b, off + j * 5 + 4, none⟩ = _ := (HB3.out.cell (p := ⟨b, off + j * 5 + 4, none⟩) lt1).trans p4
          have S2 := Lib.hid (s1.below HB3.out)
          obtain ⟨ua, uc, rfl, hml⟩ := s1.slice
          have jI0 : (0 : Int) ≤ (j : Int) := by omega
          have jI1 : (j : Int) < (n3 : Int) := by omega
          have HSJ := Lib.hid hstj
          have HZJ := Lib.hid hzj
          clear hstj hx hxe s1 lt1 hml hzj
          cases hq : Dr.rightI x with
          | true =>
            have HQ := Lib.hid hq
            clear hq
            have HG3 : Hid (G = ((d.items.drop (j + 1)).all Dr.rightI && R2)) := Lib.hid (by rw [HSJ.out, HQ.out, Bool.true_and])
            go_wp2_with fail
            go_at_call 33; refine (RightItem_any x _ _ S2.out HZJ.out.1 HZJ.out.2).mono ?_; rintro e w2 ⟨rfl, b2⟩; rw [HQ.out]
            have HB2 := Lib.hid (HB.out.trans (b2.mono HB.out.size))
            clear b2
            go_wp2_with fail
            go_roundw
            case rel => exact ⟨j + 1, by omega, by go_num, HG3, HB2⟩
            case measure => simp [intOf]; omega
          | false =>
            have HQ := Lib.hid hq
            clear hq
            have HG3 : Hid (G = false) := Lib.hid (by rw [HSJ.out, HQ.out]; rfl)
            go_wp2_with fail
            go_at_call 33; refine (RightItem_any x _ _ S2.out HZJ.out.1 HZJ.out.2).mono ?_; rintro e w2 ⟨rfl, b2⟩; rw [HQ.out]
            have HB2 := Lib.hid (HB.out.trans (b2.mono HB.out.size))
            clear b2
            go_wp2_with fail
            go_ret
            exact ⟨by rw [HG3.out]; rfl, B1.out.trans (HB2.out.mono B1.out.size)⟩
        · have HG3 : Hid (G = (decide (n ≤ 4) && decide (n3 ≤ 5000))) := Lib.hid (by rw [HGJ.out, List.drop_eq_nil_of_le (by rw [← HLL.out, List.length_map, ← HN3.out]; omega), HR2.out]; rfl)
          clear HGJ
          by_cases h6 : n ≤ 4
          · have h6I : (n : Int) ≤ 4 := by omega
            by_cases h40 : n3 ≤ 5000
            · have h40I : (n3 : Int) ≤ 5000 := by omega
              have HG4 : Hid (G = true) := Lib.hid (by rw [HG3.out, decide_eq_true h6, decide_eq_true h40]; rfl)
              go_wp2_with fail
              go_ret
              exact ⟨by rw [HG4.out]; first | rfl | simp [h40I, h6I], HB3.out⟩
            · have h40I : (5000 : Int) < (n3 : Int) := by omega
              have HG4 : Hid (G = false) := Lib.hid (by rw [HG3.out, decide_eq_true h6, decide_eq_false h40]; rfl)
              go_wp2_with fail
              go_ret
              exact ⟨by rw [HG4.out]; first | rfl | (simp; omega), HB3.out⟩
          · have h6I : (4 : Int) < (n : Int) := by omega
            have HG4 : Hid (G = false) := Lib.hid (by rw [HG3.out, decide_eq_false h6]; rfl)
            go_wp2_with fail
            go_ret
            exact ⟨by rw [HG4.out]; first | rfl | (simp; omega), HB3.out⟩
end Go.Proofs.YtnccndfffmaonaaGreatDoor
/- The reference of layer 10 in plain words: the line of a right item. -/
namespace Go.Proofs.YtnccndfffmaonaaGreatDoor
namespace Dr
def numT (k i : Nat) (n : Int) : List UInt8 := if k = 2 ∧ i = 3 then dirs.getD n.toNat [] else Lib.itoa n
/-- The reference's numbers of a line. -/
def numsT (k : Nat) : Nat → List Int → List UInt8
  | _, [] => []
  | i, n :: l => 32 :: (numT k i n ++ numsT k (i + 1) l)
theorem numsT_step (k i : Nat) (l : List Int) (h : i < l.length) : numsT k i (l.drop i) = 32 :: (numT k i l[i] ++ numsT k (i + 1) (l.drop (i + 1))) := by
  rw [List.drop_eq_getElem_cons h, numsT]
def lineR (k : Nat) (x : Item) : List UInt8 :=
  wordOf k ++ ((if 0 < words k then 32 :: x.name else []) ++ ((if 1 < words k then 32 :: x.other else []) ++ (numsT k 0 x.n ++ ((if words k = 0 ∧ x.name ≠ [] then 32 :: x.name else []) ++ [10]))))
theorem lineR_eq {x : Item} (h : rightI x = true) : lineB x = lineR x.kind.toNat x := by
  cases right_shape h with
  | zone ln nm a b c d e f g hn =>
    have hne := word_ne hn
    simp [lineB, lineR, outs, spaced, numsT, numT, hne, show partsOf 0 = [119, 110, 110, 110, 110, 110, 110, 110] by decide, show words 0 = 1 by decide]
  | shift ln nm a b hn =>
    have hne := word_ne hn
    simp [lineB, lineR, outs, spaced, numsT, numT, hne, show partsOf 1 = [119, 110, 110] by decide, show words 1 = 1 by decide]
  | oneway ln a b c d hd =>
    simp [lineB, lineR, outs, spaced, numsT, numT, show partsOf 2 = [110, 110, 110, 100] by decide, show words 2 = 0 by decide]
  | apart ln nm ot hn ho =>
    have hne := word_ne hn
    have hoe := word_ne ho
    simp [lineB, lineR, outs, spaced, numsT, hne, hoe, show partsOf 3 = [119, 119] by decide, show words 3 = 2 by decide]
  | shelf ln nm a b c hn =>
    by_cases hne : nm = []
    · subst hne
      simp [lineB, lineR, outs, spaced, numsT, numT, show partsOf 4 = [110, 110, 110, 111] by decide, show words 4 = 0 by decide]
    · simp [lineB, lineR, outs, spaced, numsT, numT, hne, show partsOf 4 = [110, 110, 110, 111] by decide, show words 4 = 0 by decide]
  | robot ln a b c d =>
    simp [lineB, lineR, outs, spaced, numsT, numT, show partsOf 5 = [110, 110, 110, 110] by decide, show words 5 = 0 by decide]
end Dr
end Go.Proofs.YtnccndfffmaonaaGreatDoor
