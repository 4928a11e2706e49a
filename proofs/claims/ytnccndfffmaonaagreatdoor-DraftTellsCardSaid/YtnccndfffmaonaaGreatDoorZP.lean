/- Parts DsG, DsH, DsI of this claim, laid one behind the other: walks and the plain laws behind them; each contract states its own conditions. -/
import Derived.Test.YtnccndfffmaonaaGreatDoorZM
import Derived.Test.YtnccndfffmaonaaGreatDoorZK
import Derived.Test.YtnccndfffmaonaaGreatDoorZJ
import Derived.Deep.RegionHeld3
import Derived.Test.YtnccndfffmaonaaGreatDoorZN
/- The statements about drafts: the reference's Same (its texts), Few. -/
namespace Go.Proofs.YtnccndfffmaonaaGreatDoor
set_option linter.unusedSimpArgs false
set_option linter.unusedVariables false
open Go.RowKit

set_option maxRecDepth 100000 in
set_option maxHeartbeats 8000000 in
theorem sameTexts_any (va vb : Value) (xs ys : List (List UInt8)) (w : World) (ha : Sl w va (strs xs)) (hb : Sl w vb (strs ys)) :
    Calls Tryz.prog 27 #[va, vb] w fun e w' => e = .returned (.bool (decide (xs = ys))) ∧ Below w.heap.size w w' := by
  have hav := ha
  have hbv := hb
  obtain ⟨a1, c1, rfl, m1⟩ := hav.slice
  obtain ⟨a2, c2, rfl, m2⟩ := hbv.slice
  rw [strs_len2] at m1 m2 ⊢
  rw [strs_len2]
  have mx1 : xs.length ≤ 9223372036854775807 := by unfold maxLen at m1; omega
  have mx2 : ys.length ≤ 9223372036854775807 := by unfold maxLen at m2; omega
  by_cases hl : xs.length = ys.length
  · have HA := Lib.hid ha
    have HB := Lib.hid hb
    obtain ⟨G, hG⟩ : ∃ G, G = decide (xs = ys) := ⟨_, rfl⟩
    rw [← hG]
    have HG := Lib.hid hG
    obtain ⟨n, hn⟩ : ∃ n, n = xs.length := ⟨_, rfl⟩
    have HN := Lib.hid hn
    have HN2 := Lib.hid (show n = ys.length by omega)
    have hn2 : ys.length = n := by omega
    rw [← hn] at mx1 ⊢
    rw [hn2]
    have hne : ((n : Int) != (n : Int)) = false := by simp
    clear ha hb hav hbv hG hn hn2 hl m1 m2 mx2
    go_enter Tryz.func27, Tryz.ntmps27
    go_wp2_with fail
    go_loopw [5] (fun iv wr => ∃ k : Nat, k ≤ n ∧ iv = .int .i64 k ∧ Hid (G = decide (xs.drop k = ys.drop k)) ∧ Hid (Below w.heap.size w wr)) (fun iv _ => n - (intOf iv).toNat)
    case atStart => exact ⟨0, by omega, rfl, HG, Lib.hid (Below.refl _ _)⟩
    case round =>
      obtain ⟨k, hk, rfl, HR, HW⟩ := hrel
      by_cases hkn : k < n
      · have hx : k < xs.length := by rw [← HN.out]; exact hkn
        have hy : k < ys.length := by rw [← HN2.out]; exact hkn
        obtain ⟨b1, o1, c1', e1, -, k1⟩ := (HA.out.below HW.out).some (by rw [strs_len2]; omega)
        obtain ⟨b2, o2, c2', e2, -, k2⟩ := (HB.out.below HW.out).some (by rw [strs_len2]; omega)
        injection e1 with e1 e3 e4
        injection e2 with e2 e5 e6
        subst e1 e2
        have p1 : wr.cell? ⟨b1, o1 + k, none⟩ = some (.string ⟨(xs[k]).toArray⟩) := (k1 k (by rw [strs_len2]; exact hx)).trans (by simp [strs])
        have p2 : wr.cell? ⟨b2, o2 + k, none⟩ = some (.string ⟨(ys[k]).toArray⟩) := (k2 k (by rw [strs_len2]; exact hy)).trans (by simp [strs])
        have hst := HR.out.trans (drop_eq xs ys k hx hy)
        obtain ⟨x, hxe⟩ : ∃ x, x = xs[k] := ⟨_, rfl⟩
        obtain ⟨y, hye⟩ : ∃ y, y = ys[k] := ⟨_, rfl⟩
        rw [← hxe] at p1 hst
        rw [← hye] at p2 hst
        have kI0 : (0 : Int) ≤ (k : Int) := by omega
        have kI1 : (k : Int) < (n : Int) := by omega
        clear k1 k2 e3 e4 e5 e6 hxe hye
        by_cases hq : x = y
        · have HS : Hid (G = decide (xs.drop (k + 1) = ys.drop (k + 1))) := Lib.hid (by rw [hst, decide_eq_true hq, Bool.true_and])
          clear hst
          subst hq
          have hne2 : (x != x) = false := by simp
          go_wp2_with fail
          go_quiet (fail)
          all_goals
            go_wp2_with fail
            go_roundw
            case rel => exact ⟨k + 1, by omega, by go_num, HS, Lib.hid (HW.out.trans (below_drewN _ _ _))⟩
            case measure => simp [intOf]; omega
        · have HS : Hid (G = false) := Lib.hid (by rw [hst, decide_eq_false hq, Bool.false_and])
          have hne2 : (x == y) = false := by simpa using hq
          clear hst
          go_wp2_with fail
          go_quiet (fail)
          all_goals
            go_wp2_with fail
            go_ret
            exact ⟨by rw [HS.out]; rfl, HW.out.trans (below_drewN _ _ _)⟩
      · have hS := HR.out.trans (drop_all2 xs ys k (by rw [← HN.out]; omega) (by rw [← HN2.out]; omega))
        have HS := Lib.hid hS
        clear hS
        go_wp2_with fail
        go_ret
        exact ⟨by rw [HS.out]; rfl, HW.out⟩
  · have HS : Hid (decide (xs = ys) = false) := Lib.hid (decide_eq_false (fun h => hl (by rw [h])))
    have hne : ((xs.length : Int) != (ys.length : Int)) = true := by simp; omega
    obtain ⟨n, hn⟩ : ∃ n, n = xs.length := ⟨_, rfl⟩
    obtain ⟨m, hm⟩ : ∃ m, m = ys.length := ⟨_, rfl⟩
    rw [← hn] at hne ⊢
    rw [← hm] at hne ⊢
    clear ha hb hav hbv m1 m2 mx1 mx2 hl hn hm
    go_enter Tryz.func27, Tryz.ntmps27
    go_wp2_with fail
    go_ret
    exact ⟨by rw [HS.out]; rfl, Below.refl _ _⟩

theorem sameTexts_is (va vb : Value) (xs ys : List (List UInt8)) (r : Bool) (hr : r = decide (xs = ys)) (w : World) (ha : Sl w va (strs xs)) (hb : Sl w vb (strs ys)) :
    Calls Tryz.prog 27 #[va, vb] w fun e w' => e = .returned (.bool r) ∧ Below w.heap.size w w' := by
  rw [hr]; exact sameTexts_any va vb xs ys w ha hb
theorem SameInts_is (va vb : Value) (xs ys : List Int) (r : Bool) (hr : r = decide (xs = ys)) (w : World) (ha : Sl w va (ints xs)) (hb : Sl w vb (ints ys)) :
    Calls Tryz.prog 18 #[va, vb] w fun e w' => e = .returned (.bool r) ∧ Below w.heap.size w w' := by
  rw [hr]; exact SameInts_any va vb xs ys w ha hb
/-- A draft of limited size. -/
def fewR (rows : List (List UInt8)) : Bool := decide (rows.length ≤ 20) && rows.all (fun s => decide (s.length ≤ 60))
def fewI (x : Dr.Item) : Bool := decide (x.name.length ≤ 30) && (decide (x.other.length ≤ 30) && decide (x.n.length ≤ 10))
def few (d : Dr.Draft) : Bool := (d.decks.take 7).all fewR && ((d.items.take 41).all fewI && (decide (d.decks.length ≤ 6) && decide (d.items.length ≤ 40)))
theorem few_parts {d : Dr.Draft} (h : few d = true) : (∀ rows ∈ d.decks, rows.length ≤ 20 ∧ ∀ s ∈ rows, s.length ≤ 60) ∧ (∀ x ∈ d.items, x.name.length ≤ 30 ∧ x.other.length ≤ 30 ∧ x.n.length ≤ 10) ∧ d.decks.length ≤ 6 ∧ d.items.length ≤ 40 := by
  unfold few fewR fewI at h
  simp only [Bool.and_eq_true, List.all_eq_true, decide_eq_true_eq] at h
  obtain ⟨h1, h2, h3, h4⟩ := h
  rw [List.take_of_length_le (by omega)] at h1
  rw [List.take_of_length_le (by omega)] at h2
  exact ⟨h1, h2, h3, h4⟩
theorem few_size {d : Dr.Draft} (h : few d = true) : DrSize d := by
  obtain ⟨h1, h2, -⟩ := few_parts h
  exact ⟨fun rows hr s hs => by have := (h1 rows hr).2 s hs; omega, fun x hx => by have := h2 x hx; omega⟩
/-- The texts are no longer than strings can be. -/
def DrLens (d : Dr.Draft) : Prop := (∀ rows ∈ d.decks, ∀ s ∈ rows, s.length ≤ 9223372036854775807) ∧ ∀ x ∈ d.items, x.name.length ≤ 9223372036854775807 ∧ x.other.length ≤ 9223372036854775807
set_option maxRecDepth 100000 in
set_option maxHeartbeats 32000000 in
theorem Few_any (va ia : Value) (d : Dr.Draft) (w : World) (hd : DV w va ia d) (hz : DrLens d) :
    Calls Tryz.prog 8 #[.agg #[va, ia]] w fun e w' => e = .returned (.bool (few d)) ∧ Below w.heap.size w w' := by
  obtain ⟨⟨dvs, hu, hul, hus⟩, l, hl, hI, hIs⟩ := hd
  obtain ⟨a1, c1, rfl, m1, -, hk⟩ := hu
  obtain ⟨a3, c3, rfl, m3, -, hk3⟩ := hI
  obtain ⟨n, hn⟩ : ∃ n, n = dvs.length := ⟨_, rfl⟩
  obtain ⟨n3, hn3⟩ : ∃ n, n = l.length := ⟨_, rfl⟩
  have HX := Lib.hid hk
  have HX3 := Lib.hid hk3
  have US := Lib.hid hus
  have VS := Lib.hid hIs
  have HZ := Lib.hid hz
  have HN := Lib.hid (show n = d.decks.length by omega)
  have HNV := Lib.hid hn
  have HN3 := Lib.hid hn3
  have HLL := Lib.hid hl
  rw [← hn] at m1 ⊢
  rw [← hn3] at m3 ⊢
  have hmx : n ≤ 9223372036854775807 := by unfold maxLen at m1; omega
  have hmx3 : n3 ≤ 9223372036854775807 := by unfold maxLen at m3; omega
  obtain ⟨R2, hR2⟩ : ∃ R2, R2 = (decide (d.decks.length ≤ 6) && decide (d.items.length ≤ 40)) := ⟨_, rfl⟩
  obtain ⟨R, hR⟩ : ∃ R, R = ((d.items.take 41).all fewI && R2) := ⟨_, rfl⟩
  obtain ⟨G, hG⟩ : ∃ G, G = ((d.decks.take 7).all fewR && R) := ⟨_, rfl⟩
  have hGf : few d = G := by rw [hG, hR, hR2]; rfl
  rw [hGf]
  have HR2 : Hid (R2 = (decide (n ≤ 6) && decide (n3 ≤ 40))) := Lib.hid (by rw [hR2, ← HN.out, HN3.out, ← HLL.out, List.length_map])
  have HR := Lib.hid hR
  have HG := Lib.hid hG
  obtain ⟨w1, hw1⟩ : ∃ w1, w1 = w.alloc (.cells #[.slice a1 n c1, .slice a3 n3 c3] 25) := ⟨_, rfl⟩
  have B1 : Hid (Below w.heap.size w w1) := Lib.hid (by rw [hw1]; exact (Below.refl _ w).alloc (Nat.le_refl _) _)
  have i1 : w1.heap[w.heap.size]? = some (.cells #[.slice a1 n c1, .slice a3 n3 c3] 25 (0, 0)) := by rw [hw1]; exact heap_alloc_new _ _
  have d0 : w1.cell? ⟨w.heap.size, 0, none⟩ = some (.slice a1 n c1) := cell_of_heap i1 0 rfl
  have d1 : w1.cell? ⟨w.heap.size, 1, none⟩ = some (.slice a3 n3 c3) := cell_of_heap i1 1 rfl
  have HW1 := Lib.hid hw1
  clear hz hul hus hl hIs hk hk3 hn hn3 i1 m1 m3 hw1 hR2 hR hG hGf
  go_enter Tryz.func8, Tryz.ntmps8
  go_wp2_with fail
  rw [← HW1.out]
  go_loop [3] (fun iv => ∃ k : Nat, k ≤ n ∧ k ≤ 7 ∧ iv = .int .i64 k ∧ Hid (G = (((d.decks.take 7).drop k).all fewR && R))) (fun iv => n - (intOf iv).toNat)
  case atStart => exact ⟨0, by omega, by omega, rfl, HG⟩
  case round =>
    obtain ⟨k, hk, hk7, rfl, HGR⟩ := hrel
    by_cases hkn : k < n ∧ k < 7
    · obtain ⟨hkn, hk77⟩ := hkn
      have hkd : k < d.decks.length := by rw [← HN.out]; exact hkn
      have hku : k < dvs.length := by rw [← HNV.out]; exact hkn
      have hkt : k < (d.decks.take 7).length := by rw [List.length_take]; omega
      obtain ⟨b, off, e1, p0⟩ := HX.out k hku
      subst e1
      have sk := US.out k hkd hku
      have hst := HGR.out.trans (by rw [all_drop fewR _ k hkt, List.getElem_take])
      have hzk := HZ.out.1 _ (List.getElem_mem hkd)
      obtain ⟨u, hu⟩ : ∃ u, u = dvs[k] := ⟨_, rfl⟩
      obtain ⟨rows, hx⟩ : ∃ x, x = d.decks[k] := ⟨_, rfl⟩
      rw [← hu] at p0 sk
      rw [← hx] at sk hst hzk
      have lt1 := cell_block_lt p0
      have p0 : w1.cell? ⟨b, off + k, none⟩ = _ := (B1.out.cell (p := ⟨b, off + k, none⟩) lt1).trans p0
      have kI0 : (0 : Int) ≤ (k : Int) := by omega
      have kI1 : (k : Int) < (n : Int) := by omega
      have kI7 : (k : Int) < 7 := by omega
      have S1 := Lib.hid (sk.below B1.out)
      obtain ⟨ua, uc, rfl, hml⟩ := sk.slice
      rw [strs_len2] at hml p0 S1
      obtain ⟨m, hmr⟩ : ∃ m, m = rows.length := ⟨_, rfl⟩
      rw [← hmr] at p0 S1 hml
      have hmm : m ≤ 9223372036854775807 := by unfold maxLen at hml; omega
      have HMR := Lib.hid hmr
      have HST := Lib.hid hst
      have HZK := Lib.hid hzk
      clear hst hx hu sk lt1 hmr hzk
      by_cases hm20 : m ≤ 20
      · have hm20I : (m : Int) ≤ 20 := by omega
        have HG2 : Hid (G = (rows.all (fun s => decide (s.length ≤ 60)) && (((d.decks.take 7).drop (k + 1)).all fewR && R))) := Lib.hid (by
          rw [HST.out]; unfold fewR; rw [← HMR.out, decide_eq_true hm20, Bool.true_and, Bool.and_assoc])
        obtain ⟨T, hT⟩ : ∃ T, T = (((d.decks.take 7).drop (k + 1)).all fewR && R) := ⟨_, rfl⟩
        rw [← hT] at HG2
        have HT := Lib.hid hT
        clear hT
        go_wp2_with fail
        go_loop [4] (fun jv => ∃ j : Nat, j ≤ m ∧ jv = .int .i64 j ∧ Hid (G = ((rows.drop j).all (fun s => decide (s.length ≤ 60)) && T))) (fun jv => m - (intOf jv).toNat)
        case atStart => exact ⟨0, by omega, rfl, HG2⟩
        case round =>
          obtain ⟨j, hj, rfl, HGJ⟩ := hrel
          by_cases hjm : j < m
          · have hjr : j < rows.length := by rw [← HMR.out]; exact hjm
            obtain ⟨rb, ro, rc, e1, -, hcs⟩ := S1.out.some (by rw [strs_len2]; omega)
            injection e1 with e1 e2 e3
            subst e1
            have q0 := (hcs j (by rw [strs_len2]; exact hjr)).trans (show _ = some (Value.string ⟨(rows[j]).toArray⟩) by simp [strs])
            have hstj := HGJ.out.trans (by rw [all_drop (fun s => decide (s.length ≤ 60)) rows j hjr])
            have hsl := HZK.out _ (List.getElem_mem hjr)
            obtain ⟨t, ht⟩ : ∃ s, s = rows[j] := ⟨_, rfl⟩
            rw [← ht] at q0 hstj hsl
            obtain ⟨s, hs⟩ : ∃ s : ByteArray, s = ⟨t.toArray⟩ := ⟨_, rfl⟩
            have hss : t.length = s.size := by rw [hs, ← bs_len, bs_lit0]
            rw [← hs] at q0
            rw [hss] at hstj hsl
            have jI0 : (0 : Int) ≤ (j : Int) := by omega
            have jI1 : (j : Int) < (m : Int) := by omega
            have HSJ := Lib.hid hstj
            clear hcs e2 e3 hstj ht hs hss
            by_cases h60 : s.size ≤ 60
            · have h60I : (s.size : Int) ≤ 60 := by omega
              have HG3 : Hid (G = ((rows.drop (j + 1)).all (fun s => decide (s.length ≤ 60)) && T)) := Lib.hid (by rw [HSJ.out, decide_eq_true h60, Bool.true_and])
              go_wp2_with fail
              go_round
              case rel => exact ⟨j + 1, by omega, by go_num, HG3⟩
              case measure => simp [intOf]; omega
            · have h60I : (60 : Int) < (s.size : Int) := by omega
              have HG3 : Hid (G = false) := Lib.hid (by rw [HSJ.out, decide_eq_false h60]; rfl)
              go_wp2_with fail
              go_ret
              exact ⟨by rw [HG3.out]; rfl, B1.out⟩
          · have HG3 : Hid (G = (((d.decks.take 7).drop (k + 1)).all fewR && R)) := Lib.hid (by rw [HGJ.out, List.drop_eq_nil_of_le (by rw [← HMR.out]; omega), HT.out]; rfl)
            go_wp2_with fail
            go_round
            case rel => exact ⟨k + 1, by omega, by omega, by go_num, HG3⟩
            case measure => simp [intOf]; omega
      · have hm20I : (20 : Int) < (m : Int) := by omega
        have HG3 : Hid (G = false) := Lib.hid (by rw [HST.out]; unfold fewR; rw [← HMR.out, decide_eq_false hm20]; rfl)
        go_wp2_with fail
        go_ret
        exact ⟨by rw [HG3.out]; rfl, B1.out⟩
    · have HG1 : Hid (G = R) := Lib.hid (by rw [HGR.out, List.drop_eq_nil_of_le (by rw [List.length_take, ← HN.out]; omega)]; rfl)
      have HG2 : Hid (G = (((d.items.take 41).drop 0).all fewI && R2)) := Lib.hid (by rw [HG1.out, HR.out, List.drop_zero])
      clear HGR
      have hkk : n ≤ k ∨ (k < n ∧ 7 ≤ k) := by omega
      clear hkn
      rcases hkk with hkk | ⟨hkk, hkk2⟩
      all_goals
        go_wp2_with fail
        go_loop [5] (fun iv => ∃ j : Nat, j ≤ n3 ∧ j ≤ 41 ∧ iv = .int .i64 j ∧ Hid (G = (((d.items.take 41).drop j).all fewI && R2))) (fun iv => n3 - (intOf iv).toNat)
        case atStart => exact ⟨0, by omega, by omega, rfl, HG2⟩
        case round =>
          obtain ⟨j, hj, hj41, rfl, HGJ⟩ := hrel
          by_cases hjn : j < n3 ∧ j < 41
          · obtain ⟨hjn, hj42⟩ := hjn
            have hjl : j < l.length := by rw [← HN3.out]; exact hjn
            have hji : j < d.items.length := by rw [← HLL.out, List.length_map]; exact hjl
            have hjt : j < (d.items.take 41).length := by rw [List.length_take]; omega
            obtain ⟨b, off, e1, p0, p1, p2, p3, p4⟩ := HX3.out j hjl
            subst e1
            have s1 := (VS.out l[j] (List.getElem_mem hjl)).1
            have hxe : d.items[j] = l[j].1 := by
              have := HLL.out
              simp only [← this, List.getElem_map]
            have hstj := HGJ.out.trans (by rw [all_drop fewI _ j hjt, List.getElem_take, hxe])
            have hzj := HZ.out.2 _ (List.getElem_mem hji)
            rw [hxe] at hzj
            obtain ⟨⟨x, nx⟩, hx⟩ : ∃ u, u = l[j] := ⟨_, rfl⟩
            rw [← hx] at p0 p1 p2 p3 p4 s1 hstj hzj
            dsimp only at p0 p1 p2 p3 p4 s1 hstj hzj
            have lt1 := cell_block_lt p0
            have p2 : w1.cell? ⟨b, off + j * 5 + 2, none⟩ = _ := (B1.out.cell (p := ⟨b, off + j * 5 + 2, none⟩) lt1).trans p2
            have p3 : w1.cell? ⟨b, off + j * 5 + 3, none⟩ = _ := (B1.out.cell (p := ⟨b, off + j * 5 + 3, none⟩) lt1).trans p3
            have p4 : w1.cell? ⟨b, off + j * 5 + 4, none⟩ = _ := (B1.out.cell (p := ⟨b, off + j * 5 + 4, none⟩) lt1).trans p4
            obtain ⟨ua, uc, rfl, hml⟩ := s1.slice
            rw [ints_len] at hml p4
            obtain ⟨m, hmr⟩ : ∃ m, m = x.n.length := ⟨_, rfl⟩
            rw [← hmr] at p4 hml
            have hmm : m ≤ 9223372036854775807 := by unfold maxLen at hml; omega
            obtain ⟨s, hs⟩ : ∃ s : ByteArray, s = ⟨x.name.toArray⟩ := ⟨_, rfl⟩
            have hss : x.name.length = s.size := by rw [hs, ← bs_len, bs_lit0]
            obtain ⟨t, ht⟩ : ∃ s : ByteArray, s = ⟨x.other.toArray⟩ := ⟨_, rfl⟩
            have hts : x.other.length = t.size := by rw [ht, ← bs_len, bs_lit0]
            rw [← hs] at p2
            rw [← ht] at p3
            unfold fewI at hstj
            rw [hss, hts, ← hmr] at hstj
            rw [hss, hts] at hzj
            obtain ⟨hz1, hz2⟩ := hzj
            have jI0 : (0 : Int) ≤ (j : Int) := by omega
            have jI1 : (j : Int) < (n3 : Int) := by omega
            have jI7 : (j : Int) < 41 := by omega
            have HSJ := Lib.hid hstj
            clear hstj hx hxe s1 lt1 hmr hs ht hss hts p0 p1
            by_cases h1 : s.size ≤ 30
            · have h1I : (s.size : Int) ≤ 30 := by omega
              by_cases h2 : t.size ≤ 30
              · have h2I : (t.size : Int) ≤ 30 := by omega
                by_cases h3 : m ≤ 10
                · have h3I : (m : Int) ≤ 10 := by omega
                  have HG3 : Hid (G = (((d.items.take 41).drop (j + 1)).all fewI && R2)) := Lib.hid (by rw [HSJ.out]; simp only [fewI, h1, h2, h3, decide_true, Bool.and_self, Bool.true_and]; rfl)
                  go_wp2_with fail
                  go_round
                  case rel => exact ⟨j + 1, by omega, by omega, by go_num, HG3⟩
                  case measure => simp [intOf]; omega
                · have h3I : (10 : Int) < (m : Int) := by omega
                  have HG3 : Hid (G = false) := Lib.hid (by rw [HSJ.out]; simp [h3])
                  go_wp2_with fail
                  go_ret
                  exact ⟨by rw [HG3.out]; rfl, B1.out⟩
              · have h2I : (30 : Int) < (t.size : Int) := by omega
                have HG3 : Hid (G = false) := Lib.hid (by rw [HSJ.out]; simp [h2])
                go_wp2_with fail
                go_ret
                exact ⟨by rw [HG3.out]; rfl, B1.out⟩
            · have h1I : (30 : Int) < (s.size : Int) := by omega
              have HG3 : Hid (G = false) := Lib.hid (by rw [HSJ.out]; simp [h1])
              go_wp2_with fail
              go_ret
              exact ⟨by rw [HG3.out]; rfl, B1.out⟩
          · have HG3 : Hid (G = (decide (n ≤ 6) && decide (n3 ≤ 40))) := Lib.hid (by rw [HGJ.out, List.drop_eq_nil_of_le (by rw [List.length_take, ← HLL.out, List.length_map, ← HN3.out]; omega), HR2.out]; rfl)
            have hjj : n3 ≤ j ∨ (j < n3 ∧ 41 ≤ j) := by omega
            clear hjn HGJ
            by_cases h6 : n ≤ 6
            · have h6I : (n : Int) ≤ 6 := by omega
              by_cases h40 : n3 ≤ 40
              · have h40I : (n3 : Int) ≤ 40 := by omega
                have HG4 : Hid (G = true) := Lib.hid (by rw [HG3.out, decide_eq_true h6, decide_eq_true h40]; rfl)
                rcases hjj with hjj | ⟨hjj, hjj2⟩
                all_goals
                  first
                    | (exfalso; omega)
                    | (go_wp2_with fail; go_ret; exact ⟨by rw [HG4.out]; first | rfl | (simp [h6, h40]; done) | (simp [h6, h40]; omega), B1.out⟩)
              · have h40I : (40 : Int) < (n3 : Int) := by omega
                have HG4 : Hid (G = false) := Lib.hid (by rw [HG3.out, decide_eq_false h40, Bool.and_false])
                rcases hjj with hjj | ⟨hjj, hjj2⟩
                all_goals
                  first
                    | (exfalso; omega)
                    | (go_wp2_with fail; go_ret; exact ⟨by rw [HG4.out]; first | rfl | (simp [h6, h40]; done) | (simp [h6, h40]; omega), B1.out⟩)
            · have h6I : (6 : Int) < (n : Int) := by omega
              have HG4 : Hid (G = false) := Lib.hid (by rw [HG3.out, decide_eq_false h6, Bool.false_and])
              rcases hjj with hjj | ⟨hjj, hjj2⟩
              all_goals
                first
                  | (exfalso; omega)
                  | (go_wp2_with fail; go_ret; exact ⟨by rw [HG4.out]; first | rfl | (simp [h6]; done) | (simp [h6]; omega), B1.out⟩)
end Go.Proofs.YtnccndfffmaonaaGreatDoor
/- The statements about drafts: the reference's Same. -/
namespace Go.Proofs.YtnccndfffmaonaaGreatDoor
set_option linter.unusedSimpArgs false
set_option linter.unusedVariables false
open Go.RowKit

set_option maxRecDepth 100000 in
set_option maxHeartbeats 32000000 in
theorem rSame_any (va ia vb ib : Value) (x y : Dr.Draft) (w : World) (ha : DV w va ia x) (hb : DV w vb ib y) :
    Calls Tryz.prog 11 #[.agg #[va, ia], .agg #[vb, ib]] w fun e w' => e = .returned (.bool (Dr.same x y)) ∧ Below w.heap.size w w' := by
  obtain ⟨⟨us, hu, hul, hus⟩, l, hl, hI, hIs⟩ := ha
  obtain ⟨⟨vs, hv, hvl, hvs⟩, l2, hl2, hI2, hIs2⟩ := hb
  obtain ⟨a1, c1, rfl, m1, -, hk⟩ := hu
  obtain ⟨a2, c2, rfl, m2, -, hk2⟩ := hv
  obtain ⟨a3, c3, rfl, m3, -, hk3⟩ := hI
  obtain ⟨a4, c4, rfl, m4, -, hk4⟩ := hI2
  by_cases hlen : us.length = vs.length ∧ l.length = l2.length
  · obtain ⟨hlen1, hlen2⟩ := hlen
    obtain ⟨n, hn⟩ : ∃ n, n = us.length := ⟨_, rfl⟩
    obtain ⟨n3, hn3⟩ : ∃ n, n = l.length := ⟨_, rfl⟩
    have HX := Lib.hid hk
    have HX2 := Lib.hid hk2
    have HX3 := Lib.hid hk3
    have HX4 := Lib.hid hk4
    have US := Lib.hid hus
    have VS := Lib.hid hvs
    have LS := Lib.hid hIs
    have LS2 := Lib.hid hIs2
    have HN := Lib.hid (show n = us.length ∧ n = vs.length ∧ n = x.decks.length ∧ n = y.decks.length by omega)
    have HN3 := Lib.hid (show n3 = l.length ∧ n3 = l2.length by omega)
    have HL := Lib.hid hl
    have HL2 := Lib.hid hl2
    have hvn : vs.length = n := by omega
    have hln : l2.length = n3 := by omega
    rw [← hn] at m1 ⊢
    rw [← hn3] at m3 ⊢
    rw [hvn, hln]
    have hmx : n ≤ 9223372036854775807 := by unfold maxLen at m1; omega
    have hmx3 : n3 ≤ 9223372036854775807 := by unfold maxLen at m3; omega
    obtain ⟨S2, hS2⟩ : ∃ S2, S2 = Dr.sameL Dr.sameI x.items y.items := ⟨_, rfl⟩
    obtain ⟨G, hG⟩ : ∃ G, G = (Dr.sameL (fun a b => decide (a = b)) x.decks y.decks && S2) := ⟨_, rfl⟩
    have hGs : Dr.same x y = G := by rw [hG, hS2]; rfl
    rw [hGs]
    have HS2 := Lib.hid hS2
    have HG := Lib.hid hG
    obtain ⟨w1, hw1⟩ : ∃ w1, w1 = (w.alloc (.cells #[.slice a1 n c1, .slice a3 n3 c3] 25)).alloc (.cells #[.slice a2 n c2, .slice a4 n3 c4] 25) := ⟨_, rfl⟩
    have B1 : Hid (Below w.heap.size w w1) := Lib.hid (by rw [hw1]; exact ((Below.refl _ w).alloc (Nat.le_refl _) _).alloc (by simp) _)
    have i1 : w1.heap[w.heap.size]? = some (.cells #[.slice a1 n c1, .slice a3 n3 c3] 25 (0, 0)) := by rw [hw1]; exact (heap_alloc_old _ _ (by simp)).trans (heap_alloc_new _ _)
    have i2 : w1.heap[w.heap.size + 1]? = some (.cells #[.slice a2 n c2, .slice a4 n3 c4] 25 (0, 0)) := by rw [hw1]; exact heap_two3 _ _ _
    have hs1 : w1.heap.size = w.heap.size + 1 + 1 := by rw [hw1]; simp
    have HI1 := Lib.hid i1
    have HI2 := Lib.hid i2
    have HW1 := Lib.hid hw1
    have HS1 := Lib.hid hs1
    have hnn : ((n : Int) != (n : Int)) = false := by simp
    have hnn3 : ((n3 : Int) != (n3 : Int)) = false := by simp
    clear hul hus hl hIs hvl hvs hl2 hIs2 hk hk2 hk3 hk4 hn hn3 i1 i2 m1 m2 m3 m4 hw1 hS2 hG hGs hlen1 hlen2 hvn hln hs1
    go_enter Tryz.func11, Tryz.ntmps11
    go_wp2_with fail
    rw [← HW1.out]
    go_loopw [5] (fun iv wr => ∃ k : Nat, k ≤ n ∧ iv = .int .i64 k ∧ Hid (G = (Dr.sameL (fun a b => decide (a = b)) (x.decks.drop k) (y.decks.drop k) && S2)) ∧ Hid (Below w1.heap.size w1 wr)) (fun iv _ => n - (intOf iv).toNat)
    case atStart => exact ⟨0, by omega, rfl, HG, Lib.hid (Below.refl _ _)⟩
    case round =>
      obtain ⟨k, hk, rfl, HR, HB⟩ := hrel
      have hws := HS1.out
      have hh1 := (HB.out.block w.heap.size (by omega)).trans HI1.out
      have hh2 := (HB.out.block (w.heap.size + 1) (by omega)).trans HI2.out
      have HWB := Lib.hid (B1.out.trans (HB.out.mono B1.out.size))
      have d0 : wr.cell? ⟨w.heap.size, 0, none⟩ = some (.slice a1 n c1) := cell_of_heap hh1 0 rfl
      have d1 : wr.cell? ⟨w.heap.size + 1, 0, none⟩ = some (.slice a2 n c2) := cell_of_heap hh2 0 rfl
      have e0 : wr.cell? ⟨w.heap.size, 1, none⟩ = some (.slice a3 n3 c3) := cell_of_heap hh1 1 rfl
      have e1 : wr.cell? ⟨w.heap.size + 1, 1, none⟩ = some (.slice a4 n3 c4) := cell_of_heap hh2 1 rfl
      have ls1 : w.heap.size < wr.heap.size := (Array.getElem?_eq_some_iff.1 hh1).1
      have ls2 : w.heap.size + 1 < wr.heap.size := (Array.getElem?_eq_some_iff.1 hh2).1
      clear hh1 hh2 hws
      by_cases hkn : k < n
      · have hx : k < x.decks.length := by have := HN.out; omega
        have hy : k < y.decks.length := by have := HN.out; omega
        have hku : k < us.length := by have := HN.out; omega
        have hkv : k < vs.length := by have := HN.out; omega
        obtain ⟨b1, o1, q1, g1⟩ := HX.out k hku
        obtain ⟨b2, o2, q2, g2⟩ := HX2.out k hkv
        subst q1 q2
        have s1 := US.out k hx hku
        have s2 := VS.out k hy hkv
        have hst := HR.out.trans (by rw [Dr.sameL_step _ _ _ k hx hy])
        obtain ⟨u, hu⟩ : ∃ u, u = us[k] := ⟨_, rfl⟩
        obtain ⟨v, hv⟩ : ∃ v, v = vs[k] := ⟨_, rfl⟩
        obtain ⟨rx, hrx⟩ : ∃ u, u = x.decks[k] := ⟨_, rfl⟩
        obtain ⟨ry, hry⟩ : ∃ u, u = y.decks[k] := ⟨_, rfl⟩
        rw [← hu] at g1 s1
        rw [← hv] at g2 s2
        rw [← hrx] at s1 hst
        rw [← hry] at s2 hst
        have lt1 := cell_block_lt g1
        have lt2 := cell_block_lt g2
        have j1 : wr.cell? ⟨b1, o1 + k, none⟩ = some u := (HWB.out.cell (p := ⟨b1, o1 + k, none⟩) lt1).trans g1
        have j2 : wr.cell? ⟨b2, o2 + k, none⟩ = some v := (HWB.out.cell (p := ⟨b2, o2 + k, none⟩) lt2).trans g2
        have lb1 : b1 < w.heap.size := lt1
        have lb2 : b2 < w.heap.size := lt2
        have lc1 : b1 < wr.heap.size := by omega
        have lc2 : b2 < wr.heap.size := by omega
        obtain ⟨ua, uc, rfl, -⟩ := s1.slice
        obtain ⟨va, vc, rfl, -⟩ := s2.slice
        have S1 := Lib.hid (s1.below HWB.out)
        have S2' := Lib.hid (s2.below HWB.out)
        obtain ⟨r, hr⟩ : ∃ r, r = decide (rx = ry) := ⟨_, rfl⟩
        rw [← hr] at hst
        have HST := Lib.hid hst
        have HRR := Lib.hid hr
        have kI0 : (0 : Int) ≤ (k : Int) := by omega
        have kI1 : (k : Int) < (n : Int) := by omega
        clear hst hr hu hv hrx hry s1 s2 g1 g2 lt1 lt2 e0 e1
        go_wp2_with fail
        go_region_held3 (fun w' => w'.cell? ⟨w.heap.size, 0, none⟩ = some (.slice (some ⟨b1, o1, none⟩) n c1) ∧ w'.cell? ⟨w.heap.size + 1, 0, none⟩ = some (.slice (some ⟨b2, o2, none⟩) n c2) ∧ w'.cell? ⟨b1, o1 + k, none⟩ = some (.slice ua (strs rx).length uc) ∧ w'.cell? ⟨b2, o2 + k, none⟩ = some (.slice va (strs ry).length vc)) (go_keep)
          ((go_at_call 27; refine (sameTexts_is _ _ rx ry r HRR.out _ (by exact S1.out.below (below_drewN _ _ _)) (by exact S2'.out.below (below_drewN _ _ _))).mono ?_; rintro e w3 ⟨rfl, b3⟩; have t0 := (b3.cell (p := ⟨w.heap.size, 0, none⟩) ls1).trans d0; have t1 := (b3.cell (p := ⟨w.heap.size + 1, 0, none⟩) ls2).trans d1; have t2 := (b3.cell (p := ⟨b1, o1 + k, none⟩) lc1).trans j1; have t3 := (b3.cell (p := ⟨b2, o2 + k, none⟩) lc2).trans j2))
        all_goals
          have HB2 := Lib.hid (HB.out.trans (((below_drewN _ _ _).trans b3).mono HB.out.size))
          clear b3 t0 t1 t2 t3
          cases r with
          | true =>
            have HS : Hid (G = (Dr.sameL (fun a b => decide (a = b)) (x.decks.drop (k + 1)) (y.decks.drop (k + 1)) && S2)) := Lib.hid (by rw [HST.out, Bool.true_and])
            go_wp2_with fail
            go_roundw
            case rel => exact ⟨k + 1, by omega, by go_num, HS, HB2⟩
            case measure => simp [intOf]; omega
          | false =>
            have HS : Hid (G = false) := Lib.hid (by rw [HST.out]; rfl)
            go_wp2_with fail
            go_ret
            exact ⟨by rw [HS.out]; rfl, B1.out.trans (HB2.out.mono B1.out.size)⟩
      · have HS : Hid (G = Dr.sameL Dr.sameI (x.items.drop 0) (y.items.drop 0)) := Lib.hid (by
          have hN := HN.out
          rw [HR.out, Dr.sameL_end _ _ _ k (by omega) (by omega), Bool.true_and, HS2.out, List.drop_zero, List.drop_zero])
        clear HR
        go_wp2_with fail
        clear d0 d1 e0 e1
        go_loopw [6] (fun iv wr => ∃ k : Nat, k ≤ n3 ∧ iv = .int .i64 k ∧ Hid (G = Dr.sameL Dr.sameI (x.items.drop k) (y.items.drop k)) ∧ Hid (Below w1.heap.size w1 wr)) (fun iv _ => n3 - (intOf iv).toNat)
        case atStart => exact ⟨0, by omega, rfl, HS, HB⟩
        case round =>
          obtain ⟨j, hj, rfl, HR, HB⟩ := hrel
          have hws := HS1.out
          have hh1 := (HB.out.block w.heap.size (by omega)).trans HI1.out
          have hh2 := (HB.out.block (w.heap.size + 1) (by omega)).trans HI2.out
          have HWB := Lib.hid (B1.out.trans (HB.out.mono B1.out.size))
          have e0 : wr.cell? ⟨w.heap.size, 1, none⟩ = some (.slice a3 n3 c3) := cell_of_heap hh1 1 rfl
          have e1 : wr.cell? ⟨w.heap.size + 1, 1, none⟩ = some (.slice a4 n3 c4) := cell_of_heap hh2 1 rfl
          have ls1 : w.heap.size < wr.heap.size := (Array.getElem?_eq_some_iff.1 hh1).1
          have ls2 : w.heap.size + 1 < wr.heap.size := (Array.getElem?_eq_some_iff.1 hh2).1
          have hlx : x.items.length = n3 := by rw [← HL.out, List.length_map]; have := HN3.out; omega
          have hly : y.items.length = n3 := by rw [← HL2.out, List.length_map]; have := HN3.out; omega
          clear hh1 hh2 hws
          by_cases hjn : j < n3
          · have hx : j < x.items.length := by omega
            have hy : j < y.items.length := by omega
            have hju : j < l.length := by have := HN3.out; omega
            have hjv : j < l2.length := by have := HN3.out; omega
            obtain ⟨b1, o1, q1, p0, p1, p2, p3, p4⟩ := HX3.out j hju
            obtain ⟨b2, o2, q2, r0, r1, r2, r3, r4⟩ := HX4.out j hjv
            subst q1 q2
            have s1 := (LS.out l[j] (List.getElem_mem hju)).1
            have s2 := (LS2.out l2[j] (List.getElem_mem hjv)).1
            have hxe : x.items[j] = l[j].1 := by
              have := HL.out
              simp only [← this, List.getElem_map]
            have hye : y.items[j] = l2[j].1 := by
              have := HL2.out
              simp only [← this, List.getElem_map]
            have hst := HR.out.trans (by rw [Dr.sameL_step _ _ _ j hx hy, hxe, hye])
            obtain ⟨⟨⟨kx, lx, nmx, otx, sx⟩, nx⟩, hu⟩ : ∃ u, u = l[j] := ⟨_, rfl⟩
            obtain ⟨⟨⟨ky, ly, nmy, oty, sy⟩, ny⟩, hv⟩ : ∃ u, u = l2[j] := ⟨_, rfl⟩
            rw [← hu] at p0 p1 p2 p3 p4 s1 hst
            rw [← hv] at r0 r1 r2 r3 r4 s2 hst
            dsimp only [Dr.sameI] at p0 p1 p2 p3 p4 s1 r0 r1 r2 r3 r4 s2 hst
            have lt1 : b1 < w.heap.size := cell_block_lt p0
            have lt2 : b2 < w.heap.size := cell_block_lt r0
            have p0 : wr.cell? ⟨b1, o1 + j * 5, none⟩ = _ := (HWB.out.cell (p := ⟨b1, o1 + j * 5, none⟩) lt1).trans p0
            have p1 : wr.cell? ⟨b1, o1 + j * 5 + 1, none⟩ = _ := (HWB.out.cell (p := ⟨b1, o1 + j * 5 + 1, none⟩) lt1).trans p1
            have p2 : wr.cell? ⟨b1, o1 + j * 5 + 2, none⟩ = _ := (HWB.out.cell (p := ⟨b1, o1 + j * 5 + 2, none⟩) lt1).trans p2
            have p3 : wr.cell? ⟨b1, o1 + j * 5 + 3, none⟩ = _ := (HWB.out.cell (p := ⟨b1, o1 + j * 5 + 3, none⟩) lt1).trans p3
            have p4 : wr.cell? ⟨b1, o1 + j * 5 + 4, none⟩ = _ := (HWB.out.cell (p := ⟨b1, o1 + j * 5 + 4, none⟩) lt1).trans p4
            have r0 : wr.cell? ⟨b2, o2 + j * 5, none⟩ = _ := (HWB.out.cell (p := ⟨b2, o2 + j * 5, none⟩) lt2).trans r0
            have r1 : wr.cell? ⟨b2, o2 + j * 5 + 1, none⟩ = _ := (HWB.out.cell (p := ⟨b2, o2 + j * 5 + 1, none⟩) lt2).trans r1
            have r2 : wr.cell? ⟨b2, o2 + j * 5 + 2, none⟩ = _ := (HWB.out.cell (p := ⟨b2, o2 + j * 5 + 2, none⟩) lt2).trans r2
            have r3 : wr.cell? ⟨b2, o2 + j * 5 + 3, none⟩ = _ := (HWB.out.cell (p := ⟨b2, o2 + j * 5 + 3, none⟩) lt2).trans r3
            have r4 : wr.cell? ⟨b2, o2 + j * 5 + 4, none⟩ = _ := (HWB.out.cell (p := ⟨b2, o2 + j * 5 + 4, none⟩) lt2).trans r4
            have lc1 : b1 < wr.heap.size := by omega
            have lc2 : b2 < wr.heap.size := by omega
            obtain ⟨ua, uc, rfl, -⟩ := s1.slice
            obtain ⟨va, vc, rfl, -⟩ := s2.slice
            have bA : Below wr.heap.size wr ((wr.alloc (.cells #[.int .i64 kx, .int .i64 lx, .string ⟨nmx.toArray⟩, .string ⟨otx.toArray⟩, .slice ua (ints sx).length uc] 34)).alloc (.cells #[.int .i64 ky, .int .i64 ly, .string ⟨nmy.toArray⟩, .string ⟨oty.toArray⟩, .slice va (ints sy).length vc] 34)) := ((Below.refl _ wr).alloc (Nat.le_refl _) _).alloc (by simp) _
            have T1 := Lib.hid ((s1.below HWB.out).below bA)
            have T2 := Lib.hid ((s2.below HWB.out).below bA)
            have HBA := Lib.hid (HB.out.trans (bA.mono HB.out.size))
            have HST := Lib.hid hst
            have jI0 : (0 : Int) ≤ (j : Int) := by omega
            have jI1 : (j : Int) < (n3 : Int) := by omega
            clear hst hu hv hxe hye s1 s2 hx hy hlx hly bA
            by_cases h1 : kx = ky
            · subst h1
              have hk1 : (kx != kx) = false := by simp
              by_cases h2 : nmx = nmy
              · subst h2
                have hk2 : (nmx == nmx) = true := by simp
                by_cases h3 : otx = oty
                · subst h3
                  have hk3 : (otx == otx) = true := by simp
                  obtain ⟨r, hr⟩ : ∃ r, r = decide (sx = sy) := ⟨_, rfl⟩
                  have HST2 : Hid (G = (r && Dr.sameL Dr.sameI (x.items.drop (j + 1)) (y.items.drop (j + 1)))) := Lib.hid (by rw [HST.out, hr]; simp)
                  have HRR := Lib.hid hr
                  clear hr
                  go_wp2_with fail
                  go_at_call 18; refine (SameInts_is _ _ sx sy r HRR.out _ T1.out T2.out).mono ?_; rintro e w3 ⟨rfl, b3⟩
                  have HB3 := Lib.hid (HBA.out.trans (b3.mono HBA.out.size))
                  clear b3
                  cases r with
                  | true =>
                    have HS3 : Hid (G = Dr.sameL Dr.sameI (x.items.drop (j + 1)) (y.items.drop (j + 1))) := Lib.hid (by rw [HST2.out, Bool.true_and])
                    go_wp2_with fail
                    go_roundw
                    case rel => exact ⟨j + 1, by omega, by go_num, HS3, HB3⟩
                    case measure => simp [intOf]; omega
                  | false =>
                    have HS3 : Hid (G = false) := Lib.hid (by rw [HST2.out]; rfl)
                    go_wp2_with fail
                    go_ret
                    exact ⟨by rw [HS3.out]; rfl, B1.out.trans (HB3.out.mono B1.out.size)⟩
                · have HF : Hid (G = false) := Lib.hid (by rw [HST.out, decide_eq_false h3]; simp)
                  have hk3 : (otx == oty) = false := by simpa using h3
                  go_wp2_with fail
                  go_ret
                  exact ⟨by rw [HF.out]; rfl, B1.out.trans (HBA.out.mono B1.out.size)⟩
              · have HF : Hid (G = false) := Lib.hid (by rw [HST.out, decide_eq_false h2]; simp)
                have hk2 : (nmx == nmy) = false := by simpa using h2
                go_wp2_with fail
                go_ret
                exact ⟨by rw [HF.out]; rfl, B1.out.trans (HBA.out.mono B1.out.size)⟩
            · have HF : Hid (G = false) := Lib.hid (by rw [HST.out, decide_eq_false h1]; simp)
              have hk1 : (kx != ky) = true := by simpa using h1
              go_wp2_with fail
              go_ret
              exact ⟨by rw [HF.out]; rfl, B1.out.trans (HBA.out.mono B1.out.size)⟩
          · have HF : Hid (G = true) := Lib.hid (by rw [HR.out, Dr.sameL_end _ _ _ j (by omega) (by omega)])
            have HBA := HB
            clear hlx hly
            go_wp2_with fail
            go_ret
            exact ⟨by rw [HF.out]; rfl, B1.out.trans (HBA.out.mono B1.out.size)⟩
  · have HF : Hid (Dr.same x y = false) := Lib.hid (by
      unfold Dr.same
      by_cases h1 : us.length = vs.length
      · have h2 : x.items.length ≠ y.items.length := by rw [← hl, ← hl2, List.length_map, List.length_map]; exact fun e => hlen ⟨h1, e⟩
        rw [Dr.sameL_len _ _ _ h2, Bool.and_false]
      · have h2 : x.decks.length ≠ y.decks.length := by omega
        rw [Dr.sameL_len _ _ _ h2, Bool.false_and])
    have B1 : Hid (Below w.heap.size w ((w.alloc (.cells #[.slice a1 us.length c1, .slice a3 l.length c3] 25)).alloc (.cells #[.slice a2 vs.length c2, .slice a4 l2.length c4] 25))) := Lib.hid (((Below.refl _ w).alloc (Nat.le_refl _) _).alloc (by simp) _)
    have hmx : us.length ≤ 9223372036854775807 ∧ vs.length ≤ 9223372036854775807 ∧ l.length ≤ 9223372036854775807 ∧ l2.length ≤ 9223372036854775807 := by unfold maxLen at m1 m2 m3 m4; omega
    obtain ⟨n, hn⟩ : ∃ n, n = us.length := ⟨_, rfl⟩
    obtain ⟨m, hm⟩ : ∃ n, n = vs.length := ⟨_, rfl⟩
    obtain ⟨n3, hn3⟩ : ∃ n, n = l.length := ⟨_, rfl⟩
    obtain ⟨m5, hm5⟩ : ∃ n, n = l2.length := ⟨_, rfl⟩
    rw [← hn, ← hm, ← hn3, ← hm5] at hlen hmx B1 ⊢
    obtain ⟨hx1, hx2, hx3, hx4⟩ := hmx
    clear hn hm hn3 hm5 hul hus hl hIs hvl hvs hl2 hIs2 hk hk2 hk3 hk4 m1 m2 m3 m4
    by_cases h1 : n = m
    · subst h1
      have h2 : ¬ n3 = m5 := fun e => hlen ⟨rfl, e⟩
      have hnn : ((n : Int) != (n : Int)) = false := by simp
      have hnn3 : ((n3 : Int) != (m5 : Int)) = true := by simp; omega
      clear hlen h2
      go_enter Tryz.func11, Tryz.ntmps11
      go_wp2_with fail
      go_ret
      exact ⟨by rw [HF.out]; rfl, B1.out⟩
    · have hnn : ((n : Int) != (m : Int)) = true := by simp; omega
      clear hlen h1
      go_enter Tryz.func11, Tryz.ntmps11
      go_wp2_with fail
      go_ret
      exact ⟨by rw [HF.out]; rfl, B1.out⟩
end Go.Proofs.YtnccndfffmaonaaGreatDoor
/- The statement DraftBack: plain laws, the walk. -/
namespace Go.Proofs.YtnccndfffmaonaaGreatDoor
set_option linter.unusedSimpArgs false
set_option linter.unusedVariables false
open Go.RowKit

theorem flatMap_len {α : Type} (f : α → List UInt8) (c : Nat) : ∀ l : List α, (∀ x ∈ l, (f x).length ≤ c) → (l.flatMap f).length ≤ l.length * c
  | [], _ => by simp
  | a :: l, h => by
    have h1 := h a (List.mem_cons_self ..)
    have h2 := flatMap_len f c l (fun x hx => h x (List.mem_cons_of_mem _ hx))
    rw [List.flatMap_cons, List.length_append, List.length_cons, Nat.add_mul, Nat.one_mul]; omega
theorem right_names {x : Dr.Item} (h : Dr.rightI x = true) : x.name.length ≤ 30 ∧ x.other.length ≤ 30 := by
  obtain ⟨-, -, -, -, -, hnm, hot⟩ := Dr.right_parts h
  constructor
  · unfold Dr.nameOk at hnm
    simp only [Bool.or_eq_true, Bool.and_eq_true, decide_eq_true_eq] at hnm
    rcases hnm with ⟨h, -⟩ | ⟨-, h⟩
    · rw [h]; simp
    · unfold Lx.word at h; simp only [Bool.and_eq_true, decide_eq_true_eq] at h; omega
  · unfold Dr.otherOk at hot
    simp only [Bool.or_eq_true, Bool.and_eq_true, decide_eq_true_eq] at hot
    rcases hot with ⟨h, -⟩ | ⟨-, h⟩
    · rw [h]; simp
    · unfold Lx.word at h; simp only [Bool.and_eq_true, decide_eq_true_eq] at h; omega
theorem line_len2 {x : Dr.Item} (h : Dr.rightI x = true) (hm : ∀ n ∈ x.n, n ≤ 9223372036854775807) : (Dr.lineB x).length ≤ 300 := by
  obtain ⟨h0, h6, hn0, -⟩ := Dr.right_parts h
  obtain ⟨w1, w2⟩ := right_names h
  have hk : x.kind.toNat < 6 := by omega
  have h1 : ∀ k, k < 6 → (Dr.wordOf k).length ≤ 30 ∧ (Dr.partsOf k).length ≤ 8 := by decide
  obtain ⟨h2, h3⟩ := h1 _ hk
  have h4 := outs_len (Dr.partsOf x.kind.toNat) [x.name, x.other] x.n
  have h5 := spaced_len (l := Dr.outs (Dr.partsOf x.kind.toNat) [x.name, x.other] x.n) (fun s hs => by
    refine outs_short _ _ _ ?_ (fun n h => ⟨by have := hn0 n h; omega, hm n h⟩) s hs
    intro nm h
    rcases List.mem_cons.1 h with rfl | h
    · exact w1
    · obtain rfl := List.mem_singleton.1 h; exact w2)
  unfold Dr.lineB
  rw [List.length_append, List.length_append, List.length_singleton]; omega
theorem body_len {d : Dr.Draft} (h : Dr.rightD d = true) (hm : ∀ x ∈ d.items, ∀ n ∈ x.n, n ≤ 9223372036854775807) : (Dr.bodyB d).length ≤ 1000000000 := by
  unfold Dr.rightD Dr.rightR at h
  simp only [Bool.and_eq_true, decide_eq_true_eq, List.all_eq_true] at h
  obtain ⟨h1, h2, h3, h4⟩ := h
  have hrow : ∀ rows ∈ d.decks, (Dr.deckB rows).length ≤ 67200000 := by
    intro rows hr
    obtain ⟨hl, hs⟩ := h1 rows hr
    have h5 := flatMap_len Dr.rowB 16400 rows (fun s h => by
      have := hs s h
      have h6 := qb_len s
      rw [rowB_len]; unfold quote; simp; omega)
    unfold Dr.deckB Dr.wDeck
    simp only [List.length_append, List.length_cons, List.length_nil]; omega
  have h5 := flatMap_len Dr.deckB 67200000 d.decks hrow
  have h6 := flatMap_len Dr.lineB 300 d.items (fun x hx => line_len2 (h4 x hx) (hm x hx))
  unfold Dr.bodyB
  rw [List.length_append]
  omega
theorem right_size {d : Dr.Draft} (h : Dr.rightD d = true) : DrSize d := by
  unfold Dr.rightD Dr.rightR at h
  simp only [Bool.and_eq_true, decide_eq_true_eq, List.all_eq_true] at h
  obtain ⟨h1, h2, h3, h4⟩ := h
  exact ⟨fun rows hr s hs => by have := (h1 rows hr).2 s hs; omega, fun x hx => by have := right_names (h4 x hx); omega⟩
/-- The values of a draft's numbers. -/
def DrNums (d : Dr.Draft) : Prop := ∀ x ∈ d.items, ∀ n ∈ x.n, n ≤ 9223372036854775807
theorem Print_any (va ia : Value) (d : Dr.Draft) (w : World) (hd : DV w va ia d) (hz : DrSize d) (hm : DrNums d) (hE : Env w) :
    Calls Tryz.prog 14 #[.agg #[va, ia]] w fun e w' => e = .returned (.string ⟨(Dr.printB d).toArray⟩) ∧ Below w.heap.size w w' := by
  cases hR : Dr.rightD d with
  | true => exact Print_yes va ia d w hd hz hR hm (body_len hR hm) hE
  | false => exact Print_no va ia d w hd hz hR
theorem Right_is (va ia : Value) (d : Dr.Draft) (r : Bool) (hr : Dr.rightD d = r) (w : World) (hd : DV w va ia d) (hz : DrSize d) :
    Calls Tryz.prog 12 #[.agg #[va, ia]] w fun e w' => e = .returned (.bool r) ∧ Below w.heap.size w w' := by
  rw [← hr]; exact Right_any va ia d w hd hz
theorem Print_is (va ia : Value) (d : Dr.Draft) (L : List UInt8) (hL : Dr.printB d = L) (w : World) (hd : DV w va ia d) (hz : DrSize d) (hm : DrNums d) (hE : Env w) :
    Calls Tryz.prog 14 #[.agg #[va, ia]] w fun e w' => e = .returned (.string ⟨L.toArray⟩) ∧ Below w.heap.size w w' := by
  rw [← hL]; exact Print_any va ia d w hd hz hm hE
theorem rSame_is (va ia vb ib : Value) (x y : Dr.Draft) (r : Bool) (hr : Dr.same x y = r) (w : World) (ha : DV w va ia x) (hb : DV w vb ib y) :
    Calls Tryz.prog 11 #[.agg #[va, ia], .agg #[vb, ib]] w fun e w' => e = .returned (.bool r) ∧ Below w.heap.size w w' := by
  rw [← hr]; exact rSame_any va ia vb ib x y w ha hb
theorem Few_is (va ia : Value) (d : Dr.Draft) (r : Bool) (hr : few d = r) (w : World) (hd : DV w va ia d) (hz : DrLens d) :
    Calls Tryz.prog 8 #[.agg #[va, ia]] w fun e w' => e = .returned (.bool r) ∧ Below w.heap.size w w' := by
  rw [← hr]; exact Few_any va ia d w hd hz
theorem sameL_bare : ∀ l m : List Dr.Item, m.map Dr.bare = l.map Dr.bare → Dr.sameL Dr.sameI l m = true
  | [], [], _ => rfl
  | [], _ :: _, h => by simp at h
  | _ :: _, [], h => by simp at h
  | a :: l, b :: m, h => by
    rw [List.map_cons, List.map_cons] at h
    injection h with h1 h2
    rw [Dr.sameL, sameL_bare l m h2, Bool.and_true]
    have e1 : b.kind = a.kind := by have h := congrArg Dr.Item.kind h1; exact h
    have e2 : b.name = a.name := by have h := congrArg Dr.Item.name h1; exact h
    have e3 : b.other = a.other := by have h := congrArg Dr.Item.other h1; exact h
    have e4 : b.n = a.n := by have h := congrArg Dr.Item.n h1; exact h
    unfold Dr.sameI
    simp [e1, e2, e3, e4]
/-- What is printed of a right draft is read as it was. -/
theorem print_read {d : Dr.Draft} (h : Dr.rightD d = true) (hm : DrNums d) : ∃ J, Dr.read (Dr.printB d) = .ok ⟨d.decks, J⟩ ∧ Dr.same d ⟨d.decks, J⟩ = true := by
  obtain ⟨ts, J, h1, h2, h3⟩ := Dr.print_back d h hm
  refine ⟨J, ?_, ?_⟩
  · have e : Dr.printB d = Dr.bodyB d := by unfold Dr.printB; rw [h]; rfl
    rw [e]; exact Dr.read_of h1 h2
  · unfold Dr.same
    rw [Dr.sameL_refl _ (fun a => by simp)]
    exact sameL_bare d.items J h3
theorem printB_empty (d : Dr.Draft) : Dr.rightD d = (!(Dr.printB d).isEmpty || (decide (d.decks.length = 0) && decide (d.items.length = 0))) := by
  cases hR : Dr.rightD d with
  | true =>
    have e : Dr.printB d = Dr.bodyB d := by unfold Dr.printB; rw [hR]; rfl
    rw [e]
    by_cases h : Dr.bodyB d = []
    · obtain ⟨h1, h2⟩ := (Dr.bodyB_nil d).1 h
      rw [h1, h2]; simp
    · have : (Dr.bodyB d).isEmpty = false := by cases hb : Dr.bodyB d with | nil => exact absurd hb h | cons _ _ => rfl
      rw [this]; rfl
  | false =>
    have e : Dr.printB d = [] := by unfold Dr.printB; rw [hR]; rfl
    rw [e]
    have hne : ¬ (d.decks.length = 0 ∧ d.items.length = 0) := by
      rintro ⟨h1, h2⟩
      have e1 := List.eq_nil_of_length_eq_zero h1
      have e2 := List.eq_nil_of_length_eq_zero h2
      unfold Dr.rightD at hR
      rw [e1, e2] at hR
      simp at hR
    by_cases h1 : d.decks.length = 0
    · have h2 : d.items.length ≠ 0 := fun h => hne ⟨h1, h⟩
      rw [decide_eq_false h2]; simp
    · rw [decide_eq_false h1]; rfl
theorem DrLens.of (d : Dr.Draft) (h : DrSize d) : DrLens d := ⟨fun rows hr s hs => by have := h.1 rows hr s hs; omega, fun x hx => by have := h.2 x hx; omega⟩
end Go.Proofs.YtnccndfffmaonaaGreatDoor
