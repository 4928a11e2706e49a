/- Parts Um, Uo, Up of this claim, laid one behind the other: walks and the plain laws behind them; each contract states its own conditions. -/
import Derived.Test.YtfcbcpfnaadpeaaGreatDoorPO
import Derived.Test.YtfcbcpfnaadpeaaGreatDoorZA
import Derived.Deep.MidRow
import Derived.Test.YtfcbcpfnaadpeaaGreatDoorPS
import Derived.Test.YtfcbcpfnaadpeaaGreatDoorPM
/- What the walk of VerifyRefuses wants: appends of structs, a struct put into a slice, and what Check answers to a wrong certificate. -/
namespace Go.Proofs.YtfcbcpfnaadpeaaGreatDoor
set_option linter.unusedSimpArgs false
set_option linter.unusedVariables false
open Go.RowKit

/-- Cells elsewhere stay: a slice of ints stays, where two cells that hold slices are written. -/
theorem Is.put2 {w W : World} {v : Value} {l : List Int} {p1 p2 : Addr} {x1 x2 : Value} (h : Is w v l) (hx1 : w.cell? p1 = some x1) (hx2 : w.cell? p2 = some x2) (hi1 : ∀ k, x1 ≠ .int .i64 k) (hi2 : ∀ k, x2 ≠ .int .i64 k) (hsame : ∀ p : Addr, p ≠ p1 → p ≠ p2 → p.block < w.heap.size → W.cell? p = w.cell? p) : Is W v l := by
  obtain ⟨a, cap, rfl, hm, hn, hc⟩ := h
  refine ⟨a, cap, rfl, hm, hn, fun i hi => ?_⟩
  obtain ⟨b, off, h1, h2⟩ := hc i hi
  refine ⟨b, off, h1, ?_⟩
  rw [hsame _ (fun e => ?_) (fun e => ?_) (cell_block_lt h2), h2]
  · rw [e, hx1] at h2
    injection h2 with h2
    exact hi1 (l[i]'(by rw [ints_len] at hi; exact hi)) (by rw [h2]; simp [ints])
  · rw [e, hx2] at h2
    injection h2 with h2
    exact hi2 (l[i]'(by rw [ints_len] at hi; exact hi)) (by rw [h2]; simp [ints])
theorem is_notint {w : World} {v : Value} {l : List Int} (h : Is w v l) : ∀ k, v ≠ .int .i64 k := by
  obtain ⟨a, cap, rfl, -⟩ := h
  intro k e; cases e
/-- A transition put into a slice of transitions. -/
theorem Tr.put {w W : World} {g n cap : Nat} {l : List (List Int × List Int)} (h : Tr w (.slice (some ⟨g, 0, none⟩) n cap) l) {i : Nat} (hi : i < l.length) {t : List Int × List Int} {u1 u2 : Value} (h1 : W.cell? ⟨g, i * 2, none⟩ = some u1) (h2 : W.cell? ⟨g, i * 2 + 1, none⟩ = some u2)
    (hsz : w.heap.size ≤ W.heap.size) (hsame : ∀ p : Addr, p ≠ ⟨g, i * 2, none⟩ → p ≠ ⟨g, i * 2 + 1, none⟩ → p.block < w.heap.size → W.cell? p = w.cell? p) (k1 : Is W u1 t.1) (k2 : Is W u2 t.2) : Tr W (.slice (some ⟨g, 0, none⟩) n cap) (l.set i t) := by
  obtain ⟨b0, o0, x1, x2, e0, -, hx1, hx2, hy1, hy2⟩ := h.cell i hi
  injection e0 with e0; injection e0 with e0 e1; subst e0 e1
  rw [Nat.zero_add] at hx1 hx2
  have hn1 := is_notint hy1
  have hn2 := is_notint hy2
  obtain ⟨q, hq, hr, hq2⟩ := h
  have hql : q.length = l.length := by rw [← hq]; simp
  refine ⟨q.set i (t, u1, u2), by rw [List.map_set, hq], ?_, ?_⟩
  · obtain ⟨a, c2, ea, hm, hn, hc⟩ := hr
    rw [List.length_map] at ea hm
    refine ⟨a, c2, by rw [List.length_map, List.length_set]; exact ea, by rw [List.length_map, List.length_set]; exact hm, hn, fun j hj => ?_⟩
    rw [List.length_map, List.length_set] at hj
    obtain ⟨b, off, e3, hlt, hcc⟩ := hc j (by rw [List.length_map]; exact hj)
    injection ea with ea1 ea2 ea3
    rw [e3] at ea1
    injection ea1 with ea1; injection ea1 with e4 e5; subst e4 e5
    refine ⟨_, _, e3, Nat.lt_of_lt_of_le hlt hsz, fun m hm2 => ?_⟩
    rw [List.getElem_map, List.getElem_set]
    have h9 := hcc m hm2
    rw [List.getElem_map] at h9
    by_cases e : i = j
    · subst e
      rw [if_pos rfl, Nat.zero_add]
      rcases (by omega : m = 0 ∨ m = 1) with rfl | rfl
      · exact h1
      · exact h2
    · rw [if_neg e, ← h9]
      refine hsame _ (fun e6 => ?_) (fun e6 => ?_) hlt
      · have : 0 + j * 2 + m = i * 2 := congrArg Addr.off e6
        omega
      · have : 0 + j * 2 + m = i * 2 + 1 := congrArg Addr.off e6
        omega
  · intro x hx
    rcases List.mem_or_eq_of_mem_set hx with h3 | h3
    · obtain ⟨k3, k4⟩ := hq2 x h3
      exact ⟨k3.put2 hx1 hx2 hn1 hn2 hsame, k4.put2 hx1 hx2 hn1 hn2 hsame⟩
    · subst h3; exact ⟨k1, k2⟩
/-- The first part of a slice. -/
theorem Sl.take {w : World} {a : Option Addr} {n c : Nat} {xs : List Value} (h : Sl w (.slice a n c) xs) (m : Nat) (hm : m ≤ n) : Sl w (.slice a m c) (xs.take m) := by
  obtain ⟨a2, c2, e, hx, hn, hc⟩ := h
  injection e with e1 e2 e3
  subst e1 e2 e3
  refine ⟨a, c, by rw [List.length_take, Nat.min_eq_left hm], by rw [List.length_take]; omega, hn, fun i hi => ?_⟩
  rw [List.length_take] at hi
  obtain ⟨b, off, h1, h2⟩ := hc i (by omega)
  exact ⟨b, off, h1, by rw [List.getElem_take]; exact h2⟩
theorem Is.take {w : World} {a : Option Addr} {n c : Nat} {l : List Int} (h : Is w (.slice a n c) l) (m : Nat) (hm : m ≤ n) : Is w (.slice a m c) (l.take m) := by
  have := Sl.take h m hm
  unfold ints at this
  rw [← List.map_take] at this
  exact this
theorem Ll.take {w : World} {a : Option Addr} {n c : Nat} {ll : List (List Int)} (h : Ll w (.slice a n c) ll) (m : Nat) (hm : m ≤ n) : Ll w (.slice a m c) (ll.take m) := by
  obtain ⟨q, h1, h2, h3⟩ := h
  refine ⟨q.take m, by rw [List.map_take, h1], ?_, fun x hx => h3 x (List.mem_of_mem_take hx)⟩
  have := Sl.take h2 m hm
  rw [← List.map_take] at this
  exact this
theorem Tr.take {w : World} {a : Option Addr} {n c : Nat} {l : List (List Int × List Int)} (h : Tr w (.slice a n c) l) (m : Nat) (hm : m ≤ n) : Tr w (.slice a m c) (l.take m) := by
  obtain ⟨q, h1, h2, h3⟩ := h
  refine ⟨q.take m, by rw [List.map_take, h1], ?_, fun x hx => h3 x (List.mem_of_mem_take hx)⟩
  have hl : m ≤ (q.map fun x : (List Int × List Int) × Value × Value => [x.2.1, x.2.2]).length := by
    obtain ⟨a2, c2, e, -⟩ := h2
    injection e with _ e2 _
    rw [← e2]; exact hm
  have := Rw.take h2 m hl
  rw [← List.map_take] at this
  exact this
/-- Rows read off a slice of transitions. -/
theorem Tr.rows {w : World} {v : Value} {l : List (List Int × List Int)} (h : Tr w v l) : ∃ us : List (Value × Value), us.length = l.length ∧ Rw w v 2 (us.map fun u => [u.1, u.2]) ∧ ∀ i (h1 : i < us.length) (h2 : i < l.length), Is w us[i].1 l[i].1 ∧ Is w us[i].2 l[i].2 := by
  obtain ⟨q, rfl, h2, h3⟩ := h
  refine ⟨q.map (·.2), by simp, by rw [List.map_map]; exact h2, fun i k1 k2 => ?_⟩
  simp only [List.getElem_map]
  exact h3 _ (List.getElem_mem _)
end Go.Proofs.YtfcbcpfnaadpeaaGreatDoor
/- Walks of package taquinref20: Few. -/
namespace Go.Proofs.YtfcbcpfnaadpeaaGreatDoor
set_option linter.unusedSimpArgs false
set_option linter.unusedVariables false
open Go.RowKit

set_option maxRecDepth 100000 in
set_option maxHeartbeats 32000000 in
theorem rFew20_any (c : Ve.Cert) (tv cv ke se : Value) (w : World) (h : CertV w tv cv ke se c) :
    Calls Tryz.prog 22 #[.agg (certA c tv cv ke se), .int .i64 100] w fun e w' => TruePost (Ve.Few c 100) e ∧ Below w.heap.size w w' := by
  obtain ⟨ta, tc, rfl, htm⟩ := h.tr.form
  obtain ⟨ca, cc, rfl, hcm⟩ := h.ca.form
  obtain ⟨ka, kc, rfl, hkm⟩ := h.ke.form
  obtain ⟨sa, sc, rfl, hsm⟩ := h.si.form
  have HFIN : Hid ((∀ t ∈ c.trans, t.1.length ≤ 100 ∧ t.2.length ≤ 100) → (∀ l ∈ c.sips, l.length ≤ 100) → c.trans.length ≤ 100 → c.caps.length ≤ 100 → c.keeps.length ≤ 100 → c.sips.length ≤ 100 → Ve.Few c 100) := Lib.hid (fun h1 h2 h3 h4 h5 h6 => ⟨h3, h1, h4, h5, h6, h2⟩)
  have HT0 := Lib.hid h.tr
  have HS0 := Lib.hid h.si
  unfold certA
  obtain ⟨P, hP⟩ : ∃ P, c.places = P := ⟨_, rfl⟩
  obtain ⟨R, hR⟩ : ∃ P, c.robots = P := ⟨_, rfl⟩
  obtain ⟨n1, hn1⟩ : ∃ P, c.trans.length = P := ⟨_, rfl⟩
  obtain ⟨n2, hn2⟩ : ∃ P, c.caps.length = P := ⟨_, rfl⟩
  obtain ⟨n3, hn3⟩ : ∃ P, c.keeps.length = P := ⟨_, rfl⟩
  obtain ⟨n4, hn4⟩ : ∃ P, c.sips.length = P := ⟨_, rfl⟩
  rw [hn1, hn2, hn3, hn4] at HFIN
  rw [hn1] at htm HT0
  rw [hn2] at hcm
  rw [hn3] at hkm
  rw [hn4] at hsm HS0
  rw [hP, hR, hn1, hn2, hn3, hn4]
  have HN1 := Lib.hid hn1
  have HN4 := Lib.hid hn4
  clear h hP hR hn1 hn2 hn3 hn4
  obtain ⟨W, hW⟩ : ∃ W, W = w.alloc (.cells #[.int .i64 P, .slice ta n1 tc, .slice ca n2 cc, .slice ka n3 kc, .int .i64 R, .slice sa n4 sc] 38) := ⟨_, rfl⟩
  have BW : Hid (Below w.heap.size w W) := Lib.hid (by rw [hW]; exact (Below.refl _ _).alloc (Nat.le_refl _) _)
  have IW : Hid (W.heap[w.heap.size]? = some (.cells #[.int .i64 P, .slice ta n1 tc, .slice ca n2 cc, .slice ka n3 kc, .int .i64 R, .slice sa n4 sc] 38 (0, 0))) := Lib.hid (by rw [hW]; exact heap_alloc_new _ _)
  have HW := Lib.hid hW
  have HTR := Lib.hid (HT0.out.keep BW.out)
  have HSI := Lib.hid (HS0.out.keep BW.out)
  clear hW
  go_enter Tryz.func22, Tryz.ntmps22
  go_upto_region 1 with fail
  rw [← HW.out]
  have F10 : Hid (∀ t ∈ c.trans.take 0, t.1.length ≤ 100 ∧ t.2.length ≤ 100) := Lib.hid (by simp)
  go_wp2_with fail
  go_loop [5] (fun iv => ∃ k : Nat, k ≤ n1 ∧ k ≤ 101 ∧ iv = .int .i64 k ∧ Hid (∀ t ∈ c.trans.take k, t.1.length ≤ 100 ∧ t.2.length ≤ 100)) (fun iv => n1 - (intOf iv).toNat)
  case atStart => exact ⟨0, by omega, by omega, rfl, F10⟩
  case round =>
    clear F10
    obtain ⟨k, hk, hk1, rfl, HF⟩ := hrel
    have x1 : W.cell? ⟨w.heap.size, 1, none⟩ = some (.slice ta n1 tc) := cell_of_heap IW.out 1 rfl
    by_cases hkn : k < n1
    · have k1 : (k : Int) < (n1 : Int) := by omega
      have d1 : decide ((k : Int) < (n1 : Int)) = true := by simp; omega
      have k0 : (0 : Int) ≤ (k : Int) := by omega
      by_cases hkc : k ≤ 100
      · have d2 : decide ((k : Int) ≤ 100) = true := by simp; omega
        have d2' : (k : Int) ≤ 100 := by omega
        have hkl : k < c.trans.length := by rw [HN1.out]; exact hkn
        obtain ⟨b, o, u1, u2, e1, hb, y1, y2, hu1, hu2⟩ := HTR.out.cell k hkl
        subst e1
        have HTK : Hid (c.trans.take (k + 1) = c.trans.take k ++ [c.trans[k]]) := Lib.hid (List.take_succ_eq_append_getElem hkl)
        obtain ⟨x, hx⟩ : ∃ x, c.trans[k] = x := ⟨_, rfl⟩
        rw [hx] at hu1 hu2 HTK
        obtain ⟨ux, uc, rfl, hum⟩ := hu1.form
        obtain ⟨ux2, uc2, rfl, hum2⟩ := hu2.form
        obtain ⟨m, hm⟩ : ∃ m, x.1.length = m := ⟨_, rfl⟩
        obtain ⟨m2, hm2⟩ : ∃ m, x.2.length = m := ⟨_, rfl⟩
        rw [hm] at y1 hum
        rw [hm2] at y2 hum2
        have HM := Lib.hid hm
        have HM2 := Lib.hid hm2
        clear hx hu1 hu2 hm hm2
        by_cases hm1 : m ≤ 100
        · have d3 : decide ((m : Int) > 100) = false := by simp; omega
          have d3' : ¬ (m : Int) > 100 := by omega
          by_cases hm3 : m2 ≤ 100
          · have d4 : decide ((m2 : Int) > 100) = false := by simp; omega
            have d4' : ¬ (m2 : Int) > 100 := by omega
            have HFN : Hid (∀ t ∈ c.trans.take (k + 1), t.1.length ≤ 100 ∧ t.2.length ≤ 100) := Lib.hid (by
              rw [HTK.out]
              intro l hl
              rcases List.mem_append.1 hl with h | h
              · exact HF.out l h
              · rw [List.mem_singleton] at h; subst h; rw [HM.out, HM2.out]; exact ⟨hm1, hm3⟩)
            clear hm1 hm3
            go_wp2_with fail
            go_round
            case rel => exact ⟨k + 1, by omega, by omega, by go_num, HFN⟩
            case measure => simp [intOf]; omega
          · have d4 : decide ((m2 : Int) > 100) = true := by simp; omega
            have d4' : (m2 : Int) > 100 := by omega
            clear hm1 hm3
            go_wp2_with fail
            go_ret
            exact ⟨TruePost.no _, BW.out⟩
        · have d3 : decide ((m : Int) > 100) = true := by simp; omega
          have d3' : (m : Int) > 100 := by omega
          clear hm1
          go_wp2_with fail
          go_ret
          exact ⟨TruePost.no _, BW.out⟩
      · have d2 : decide ((k : Int) ≤ 100) = false := by simp; omega
        have d2' : ¬ (k : Int) ≤ 100 := by omega
        have F1 : Hid (n1 ≤ 100 → ∀ t ∈ c.trans, t.1.length ≤ 100 ∧ t.2.length ≤ 100) := Lib.hid (fun h => by omega)
        have F20 : Hid (∀ l ∈ c.sips.take 0, l.length ≤ 100) := Lib.hid (by simp)
        go_wp2_with fail
        go_loop [6] (fun iv => ∃ k : Nat, k ≤ n4 ∧ k ≤ 101 ∧ iv = .int .i64 k ∧ Hid (∀ l ∈ c.sips.take k, l.length ≤ 100)) (fun iv => n4 - (intOf iv).toNat)
        case atStart => exact ⟨0, by omega, by omega, rfl, F20⟩
        case round =>
          clear F20
          obtain ⟨k, hk, hk1, rfl, HF⟩ := hrel
          have x5 : W.cell? ⟨w.heap.size, 5, none⟩ = some (.slice sa n4 sc) := cell_of_heap IW.out 5 rfl
          by_cases hkn : k < n4
          · have k1 : (k : Int) < (n4 : Int) := by omega
            have d1 : decide ((k : Int) < (n4 : Int)) = true := by simp; omega
            have k0 : (0 : Int) ≤ (k : Int) := by omega
            by_cases hkc : k ≤ 100
            · have d2 : decide ((k : Int) ≤ 100) = true := by simp; omega
              have d2' : (k : Int) ≤ 100 := by omega
              have hkl : k < c.sips.length := by rw [HN4.out]; exact hkn
              obtain ⟨b, o, u, e1, y1, hu⟩ := HSI.out.cell k hkl
              subst e1
              have HTK : Hid (c.sips.take (k + 1) = c.sips.take k ++ [c.sips[k]]) := Lib.hid (List.take_succ_eq_append_getElem hkl)
              obtain ⟨x, hx⟩ : ∃ x, c.sips[k] = x := ⟨_, rfl⟩
              rw [hx] at hu HTK
              obtain ⟨ux, uc, rfl, hum⟩ := hu.form
              obtain ⟨m, hm⟩ : ∃ m, x.length = m := ⟨_, rfl⟩
              rw [hm] at y1 hum
              have HM := Lib.hid hm
              clear hx hu hm
              by_cases hm1 : m ≤ 100
              · have d3 : decide ((m : Int) > 100) = false := by simp; omega
                have d3' : ¬ (m : Int) > 100 := by omega
                have HFN : Hid (∀ l ∈ c.sips.take (k + 1), l.length ≤ 100) := Lib.hid (by
                  rw [HTK.out]
                  intro l hl
                  rcases List.mem_append.1 hl with h | h
                  · exact HF.out l h
                  · rw [List.mem_singleton] at h; subst h; rw [HM.out]; exact hm1)
                clear hm1
                go_wp2_with fail
                go_round
                case rel => exact ⟨k + 1, by omega, by omega, by go_num, HFN⟩
                case measure => simp [intOf]; omega
              · have d3 : decide ((m : Int) > 100) = true := by simp; omega
                have d3' : (m : Int) > 100 := by omega
                clear hm1
                go_wp2_with fail
                go_ret
                exact ⟨TruePost.no _, BW.out⟩
            · have d2 : decide ((k : Int) ≤ 100) = false := by simp; omega
              have d2' : ¬ (k : Int) ≤ 100 := by omega
              have F2 : Hid (n4 ≤ 100 → ∀ l ∈ c.sips, l.length ≤ 100) := Lib.hid (fun h => by omega)
              obtain ⟨wr, hwr⟩ : ∃ x, x = W := ⟨_, rfl⟩
              subst hwr
              have IR := IW
              have BR := BW
              have c0 : wr.cell? ⟨w.heap.size, 1, none⟩ = some (.slice ta n1 tc) := cell_of_heap IR.out 1 rfl
              have c2 : wr.cell? ⟨w.heap.size, 2, none⟩ = some (.slice ca n2 cc) := cell_of_heap IR.out 2 rfl
              have c3 : wr.cell? ⟨w.heap.size, 3, none⟩ = some (.slice ka n3 kc) := cell_of_heap IR.out 3 rfl
              have c5 : wr.cell? ⟨w.heap.size, 5, none⟩ = some (.slice sa n4 sc) := cell_of_heap IR.out 5 rfl
              have t1 : decide ((n1 : Int) ≤ 100) = false := by simp; omega
              have t1' : ¬ (n1 : Int) ≤ 100 := by omega
              go_wp2_with fail
              go_ret
              exact ⟨TruePost.no _, BR.out⟩
          · obtain rfl : n4 = k := by omega
            have d1 : decide ((n4 : Int) < (n4 : Int)) = false := by simp
            have d1' : ¬ (n4 : Int) < (n4 : Int) := by omega
            have F2 : Hid (n4 ≤ 100 → ∀ l ∈ c.sips, l.length ≤ 100) := Lib.hid (fun h l hl => HF.out l (by rw [List.take_of_length_le (by rw [HN4.out]; exact Nat.le_refl _)]; exact hl))
            obtain ⟨wr, hwr⟩ : ∃ x, x = W := ⟨_, rfl⟩
            subst hwr
            have IR := IW
            have BR := BW
            have c0 : wr.cell? ⟨w.heap.size, 1, none⟩ = some (.slice ta n1 tc) := cell_of_heap IR.out 1 rfl
            have c2 : wr.cell? ⟨w.heap.size, 2, none⟩ = some (.slice ca n2 cc) := cell_of_heap IR.out 2 rfl
            have c3 : wr.cell? ⟨w.heap.size, 3, none⟩ = some (.slice ka n3 kc) := cell_of_heap IR.out 3 rfl
            have c5 : wr.cell? ⟨w.heap.size, 5, none⟩ = some (.slice sa n4 sc) := cell_of_heap IR.out 5 rfl
            have t1 : decide ((n1 : Int) ≤ 100) = false := by simp; omega
            have t1' : ¬ (n1 : Int) ≤ 100 := by omega
            go_wp2_with fail
            go_ret
            exact ⟨TruePost.no _, BR.out⟩
    · obtain rfl : n1 = k := by omega
      have d1 : decide ((n1 : Int) < (n1 : Int)) = false := by simp
      have d1' : ¬ (n1 : Int) < (n1 : Int) := by omega
      have F1 : Hid (n1 ≤ 100 → ∀ t ∈ c.trans, t.1.length ≤ 100 ∧ t.2.length ≤ 100) := Lib.hid (fun h l hl => HF.out l (by rw [List.take_of_length_le (by rw [HN1.out]; exact Nat.le_refl _)]; exact hl))
      have F20 : Hid (∀ l ∈ c.sips.take 0, l.length ≤ 100) := Lib.hid (by simp)
      go_wp2_with fail
      go_loop [6] (fun iv => ∃ k : Nat, k ≤ n4 ∧ k ≤ 101 ∧ iv = .int .i64 k ∧ Hid (∀ l ∈ c.sips.take k, l.length ≤ 100)) (fun iv => n4 - (intOf iv).toNat)
      case atStart => exact ⟨0, by omega, by omega, rfl, F20⟩
      case round =>
        clear F20
        obtain ⟨k, hk, hk1, rfl, HF⟩ := hrel
        have x5 : W.cell? ⟨w.heap.size, 5, none⟩ = some (.slice sa n4 sc) := cell_of_heap IW.out 5 rfl
        by_cases hkn : k < n4
        · have k1 : (k : Int) < (n4 : Int) := by omega
          have d1 : decide ((k : Int) < (n4 : Int)) = true := by simp; omega
          have k0 : (0 : Int) ≤ (k : Int) := by omega
          by_cases hkc : k ≤ 100
          · have d2 : decide ((k : Int) ≤ 100) = true := by simp; omega
            have d2' : (k : Int) ≤ 100 := by omega
            have hkl : k < c.sips.length := by rw [HN4.out]; exact hkn
            obtain ⟨b, o, u, e1, y1, hu⟩ := HSI.out.cell k hkl
            subst e1
            have HTK : Hid (c.sips.take (k + 1) = c.sips.take k ++ [c.sips[k]]) := Lib.hid (List.take_succ_eq_append_getElem hkl)
            obtain ⟨x, hx⟩ : ∃ x, c.sips[k] = x := ⟨_, rfl⟩
            rw [hx] at hu HTK
            obtain ⟨ux, uc, rfl, hum⟩ := hu.form
            obtain ⟨m, hm⟩ : ∃ m, x.length = m := ⟨_, rfl⟩
            rw [hm] at y1 hum
            have HM := Lib.hid hm
            clear hx hu hm
            by_cases hm1 : m ≤ 100
            · have d3 : decide ((m : Int) > 100) = false := by simp; omega
              have d3' : ¬ (m : Int) > 100 := by omega
              have HFN : Hid (∀ l ∈ c.sips.take (k + 1), l.length ≤ 100) := Lib.hid (by
                rw [HTK.out]
                intro l hl
                rcases List.mem_append.1 hl with h | h
                · exact HF.out l h
                · rw [List.mem_singleton] at h; subst h; rw [HM.out]; exact hm1)
              clear hm1
              go_wp2_with fail
              go_round
              case rel => exact ⟨k + 1, by omega, by omega, by go_num, HFN⟩
              case measure => simp [intOf]; omega
            · have d3 : decide ((m : Int) > 100) = true := by simp; omega
              have d3' : (m : Int) > 100 := by omega
              clear hm1
              go_wp2_with fail
              go_ret
              exact ⟨TruePost.no _, BW.out⟩
          · have d2 : decide ((k : Int) ≤ 100) = false := by simp; omega
            have d2' : ¬ (k : Int) ≤ 100 := by omega
            have F2 : Hid (n4 ≤ 100 → ∀ l ∈ c.sips, l.length ≤ 100) := Lib.hid (fun h => by omega)
            obtain ⟨wr, hwr⟩ : ∃ x, x = W := ⟨_, rfl⟩
            subst hwr
            have IR := IW
            have BR := BW
            have c0 : wr.cell? ⟨w.heap.size, 1, none⟩ = some (.slice ta n1 tc) := cell_of_heap IR.out 1 rfl
            have c2 : wr.cell? ⟨w.heap.size, 2, none⟩ = some (.slice ca n2 cc) := cell_of_heap IR.out 2 rfl
            have c3 : wr.cell? ⟨w.heap.size, 3, none⟩ = some (.slice ka n3 kc) := cell_of_heap IR.out 3 rfl
            have c5 : wr.cell? ⟨w.heap.size, 5, none⟩ = some (.slice sa n4 sc) := cell_of_heap IR.out 5 rfl
            by_cases g1 : n1 ≤ 100
            · have t1 : decide ((n1 : Int) ≤ 100) = true := by simp; omega
              have t1' : (n1 : Int) ≤ 100 := by omega
              by_cases g2 : n2 ≤ 100
              · have t2 : decide ((n2 : Int) ≤ 100) = true := by simp; omega
                have t2' : (n2 : Int) ≤ 100 := by omega
                by_cases g3 : n3 ≤ 100
                · have t3 : decide ((n3 : Int) ≤ 100) = true := by simp; omega
                  have t3' : (n3 : Int) ≤ 100 := by omega
                  have t4 : decide ((n4 : Int) ≤ 100) = false := by simp; omega
                  have t4' : ¬ (n4 : Int) ≤ 100 := by omega
                  go_wp2_with fail
                  go_ret
                  exact ⟨TruePost.no _, BR.out⟩
                · have t3 : decide ((n3 : Int) ≤ 100) = false := by simp; omega
                  have t3' : ¬ (n3 : Int) ≤ 100 := by omega
                  go_wp2_with fail
                  go_ret
                  exact ⟨TruePost.no _, BR.out⟩
              · have t2 : decide ((n2 : Int) ≤ 100) = false := by simp; omega
                have t2' : ¬ (n2 : Int) ≤ 100 := by omega
                go_wp2_with fail
                go_ret
                exact ⟨TruePost.no _, BR.out⟩
            · have t1 : decide ((n1 : Int) ≤ 100) = false := by simp; omega
              have t1' : ¬ (n1 : Int) ≤ 100 := by omega
              go_wp2_with fail
              go_ret
              exact ⟨TruePost.no _, BR.out⟩
        · obtain rfl : n4 = k := by omega
          have d1 : decide ((n4 : Int) < (n4 : Int)) = false := by simp
          have d1' : ¬ (n4 : Int) < (n4 : Int) := by omega
          have F2 : Hid (n4 ≤ 100 → ∀ l ∈ c.sips, l.length ≤ 100) := Lib.hid (fun h l hl => HF.out l (by rw [List.take_of_length_le (by rw [HN4.out]; exact Nat.le_refl _)]; exact hl))
          obtain ⟨wr, hwr⟩ : ∃ x, x = W := ⟨_, rfl⟩
          subst hwr
          have IR := IW
          have BR := BW
          have c0 : wr.cell? ⟨w.heap.size, 1, none⟩ = some (.slice ta n1 tc) := cell_of_heap IR.out 1 rfl
          have c2 : wr.cell? ⟨w.heap.size, 2, none⟩ = some (.slice ca n2 cc) := cell_of_heap IR.out 2 rfl
          have c3 : wr.cell? ⟨w.heap.size, 3, none⟩ = some (.slice ka n3 kc) := cell_of_heap IR.out 3 rfl
          have c5 : wr.cell? ⟨w.heap.size, 5, none⟩ = some (.slice sa n4 sc) := cell_of_heap IR.out 5 rfl
          by_cases g1 : n1 ≤ 100
          · have t1 : decide ((n1 : Int) ≤ 100) = true := by simp; omega
            have t1' : (n1 : Int) ≤ 100 := by omega
            by_cases g2 : n2 ≤ 100
            · have t2 : decide ((n2 : Int) ≤ 100) = true := by simp; omega
              have t2' : (n2 : Int) ≤ 100 := by omega
              by_cases g3 : n3 ≤ 100
              · have t3 : decide ((n3 : Int) ≤ 100) = true := by simp; omega
                have t3' : (n3 : Int) ≤ 100 := by omega
                by_cases g4 : n4 ≤ 100
                · have t4 : decide ((n4 : Int) ≤ 100) = true := by simp; omega
                  have t4' : (n4 : Int) ≤ 100 := by omega
                  have HP := Lib.hid (HFIN.out (F1.out g1) (F2.out g4) g1 g2 g3 g4)
                  go_wp2_with fail
                  go_ret
                  exact ⟨⟨_, rfl, fun _ => HP.out⟩, BR.out⟩
                · have t4 : decide ((n4 : Int) ≤ 100) = false := by simp; omega
                  have t4' : ¬ (n4 : Int) ≤ 100 := by omega
                  go_wp2_with fail
                  go_ret
                  exact ⟨TruePost.no _, BR.out⟩
              · have t3 : decide ((n3 : Int) ≤ 100) = false := by simp; omega
                have t3' : ¬ (n3 : Int) ≤ 100 := by omega
                go_wp2_with fail
                go_ret
                exact ⟨TruePost.no _, BR.out⟩
            · have t2 : decide ((n2 : Int) ≤ 100) = false := by simp; omega
              have t2' : ¬ (n2 : Int) ≤ 100 := by omega
              go_wp2_with fail
              go_ret
              exact ⟨TruePost.no _, BR.out⟩
          · have t1 : decide ((n1 : Int) ≤ 100) = false := by simp; omega
            have t1' : ¬ (n1 : Int) ≤ 100 := by omega
            go_wp2_with fail
            go_ret
            exact ⟨TruePost.no _, BR.out⟩
end Go.Proofs.YtfcbcpfnaadpeaaGreatDoor
/- The statement VerifyBuilds: the walk. -/
namespace Go.Proofs.YtfcbcpfnaadpeaaGreatDoor
set_option linter.unusedSimpArgs false
set_option linter.unusedVariables false
open Go.RowKit

theorem chk_ok (s : Si.Site) (c : Ve.Cert) (sl : List Nat) (kv ov zv av sv rv tv cv ke se : Value) (w : World) (h : SiV w kv ov zv av sv rv s) (hr : Si.Right s) (hk : Si.Ok s) (hc : CertV w tv cv ke se c) (hsl : Pt.Sips (Si.linked s) s.zones.length sl) (hp : Ve.part s sl c = -1) :
    Calls Tryz.prog 13 #[siV s kv ov zv av sv rv, .agg (certA c tv cv ke se)] w fun e w' => e = .returned (.tuple #[.int .i64 (-1), .int .i64 0]) ∧ Below w.heap.size w w' := by
  refine (Check_any s c sl kv ov zv av sv rv tv cv ke se w h hr hk hc hsl).mono ?_
  rintro e w' ⟨rfl, hb⟩
  rw [hp]
  exact ⟨rfl, hb⟩
theorem chk_no (s : Si.Site) (c : Ve.Cert) (sl : List Nat) (kv ov zv av sv rv tv cv ke se : Value) (w : World) (h : SiV w kv ov zv av sv rv s) (hr : Si.Right s) (hk : Si.Ok s) (hc : CertV w tv cv ke se c) (hsl : Pt.Sips (Si.linked s) s.zones.length sl) (hp : Ve.part s sl c ≠ -1) :
    Calls Tryz.prog 13 #[siV s kv ov zv av sv rv, .agg (certA c tv cv ke se)] w fun e w' => (∃ p : Int, p ≠ -1 ∧ e = .returned (.tuple #[.int .i64 p, .int .i64 25])) ∧ Below w.heap.size w w' := by
  refine (Check_any s c sl kv ov zv av sv rv tv cv ke se w h hr hk hc hsl).mono ?_
  rintro e w' ⟨rfl, hb⟩
  unfold Ve.errOf
  rw [if_neg hp]
  exact ⟨⟨_, hp, rfl⟩, hb⟩
theorem few_cs {c : Ve.Cert} (h : Ve.Few c 100) (k : Ve.Num c) : CS c where
  pl := k.pl
  rb := k.rb
  ca := ⟨by have := h.ca; omega, k.ca⟩
  ke := ⟨by have := h.ke; omega, k.ke⟩
  tl := by have := h.tl; omega
  tr := fun t ht => by
    obtain ⟨h1, h2⟩ := h.tr t ht
    exact ⟨⟨⟨by unfold Wr.Ln; omega, (k.tr t ht).1⟩, ⟨by unfold Wr.Ln; omega, (k.tr t ht).2⟩⟩, by omega, by omega⟩
  sn := by have := h.sn; omega
  si := fun l hl => ⟨⟨by have := h.si l hl; unfold Wr.Ln; omega, k.si l hl⟩, by have := h.si l hl; omega⟩
theorem right_cs {s : Si.Site} {sl : List Nat} (hk : Si.Ok s) (hz : s.zones.length ≤ 10) (hsl : Pt.Sips (Si.linked s) s.zones.length sl) : CS (Ve.right s sl) := by
  have hlen : sl.length ≤ 1024 := by
    have h2 := hsl.nd.length_le_of_subset (l₂ := List.range (2 ^ s.zones.length)) (fun x hx => List.mem_range.2 ((hsl.mem x).1 hx).1)
    rw [List.length_range] at h2
    have h3 : 2 ^ s.zones.length ≤ 2 ^ 10 := Nat.pow_le_pow_right (by omega) hz
    omega
  have hrn := hk.rn
  refine ⟨?_, ?_, ⟨?_, ?_⟩, ⟨?_, ?_⟩, ?_, ?_, ?_, ?_⟩
  · show Wr.I64 (s.zones.length : Int); exact ⟨by omega, by omega⟩
  · show Wr.I64 (s.robots.length : Int); exact ⟨by omega, by omega⟩
  · show (Si.capsL s).length ≤ _; rw [Si.capsL_len]; omega
  · intro x hx
    unfold Ve.right Si.capsL at hx
    obtain ⟨a, -, rfl⟩ := List.mem_map.1 hx
    have := capOf_le hk a
    exact ⟨by omega, by omega⟩
  · show (Ve.keepsL s).length ≤ _; rw [Ve.keepsL_len]; omega
  · intro x hx
    unfold Ve.right Ve.keepsL at hx
    obtain ⟨z, hz2, rfl⟩ := List.mem_map.1 hx
    have := hk.zk z hz2
    exact ⟨by omega, by omega⟩
  · show (Si.netT s).length ≤ _
    have h1 := pairs_len s (by omega) s.zones.length (by omega)
    have h2 := congrArg List.length (pairs_net s)
    rw [List.length_map] at h2
    omega
  · intro t ht
    obtain ⟨a, ha, b, hb, rfl⟩ : ∃ a, a < s.zones.length ∧ ∃ b, b < s.zones.length ∧ t = ([(b : Int)], [(a : Int)]) := by
      have ht : t ∈ Si.netT s := ht
      unfold Si.netT at ht
      rw [List.mem_flatMap] at ht
      obtain ⟨a, ha, ht⟩ := ht
      rw [List.mem_map] at ht
      obtain ⟨b, hb, rfl⟩ := ht
      exact ⟨a, List.mem_range.1 ha, b, (Si.mem_linksZ.1 hb).1, rfl⟩
    refine ⟨⟨⟨by unfold Wr.Ln; simp, fun x hx => ?_⟩, ⟨by unfold Wr.Ln; simp, fun x hx => ?_⟩⟩, by simp, by simp⟩
    · rw [List.mem_singleton] at hx; subst hx; exact ⟨by omega, by omega⟩
    · rw [List.mem_singleton] at hx; subst hx; exact ⟨by omega, by omega⟩
  · show (Ve.sipL sl).length ≤ _
    unfold Ve.sipL; rw [List.length_map]; omega
  · intro l hl
    have hl : l ∈ Ve.sipL sl := hl
    unfold Ve.sipL at hl
    obtain ⟨x, hx, rfl⟩ := List.mem_map.1 hl
    have h1 := listW_len x
    refine ⟨⟨by unfold Wr.Ln; rw [nn_len]; omega, fun y hy => ?_⟩, by rw [nn_len]; omega⟩
    unfold Si.nn at hy
    obtain ⟨j, hj, rfl⟩ := List.mem_map.1 hy
    have h2 := Pt.sip_lt (by omega) hsl hx hj
    exact ⟨by show _ ≤ (j : Int); omega, by show (j : Int) ≤ _; omega⟩
set_option maxRecDepth 100000 in
set_option maxHeartbeats 32000000 in
theorem VerifyBuilds_any (s : Si.Site) (c : Ve.Cert) (kv ov zv av sv rv tv cv ke se : Value) (w : World) (h : SiV w kv ov zv av sv rv s) (hc : CertV w tv cv ke se c) (hnum : Ve.Num c) (hE : Env w) (hT : PowT w) :
    Calls Tryz.prog 7 #[siV s kv ov zv av sv rv, .agg (certA c tv cv ke se)] w fun e w' => e = .returned (.bool true) ∧ Below w.heap.size w w' := by
  obtain ⟨a1, c1, a2, c2, a3, c3, a4, c4, a5, c5, a6, c6, rfl, rfl, rfl, rfl, rfl, rfl, m1', m2', m3', m4', m5', m6'⟩ := h.open
  obtain ⟨ta, tc, rfl, htm⟩ := hc.tr.form
  obtain ⟨ca, cc, rfl, hcm⟩ := hc.ca.form
  obtain ⟨ka, kc, rfl, hkm⟩ := hc.ke.form
  obtain ⟨sa, sc, rfl, hsm⟩ := hc.si.form
  have HE := Lib.hid hE
  have HSM := Lib.hid (fun W (hb : Below w.heap.size w W) => small20_any W (hE.below hb))
  have HFA := Lib.hid (fun W (hb : Below w.heap.size w W) => fair20_any s (.slice a1 s.floor.kind.length c1) (.slice a2 s.floor.out.length c2) (.slice a3 s.zones.length c3) (.slice a4 s.aparts.length c4) (.slice a5 s.shelves.length c5) (.slice a6 s.robots.length c6) W (h.keep hb))
  have HFW := Lib.hid (fun W (hb : Below w.heap.size w W) => rFew20_any c _ _ _ _ W (hc.keep hb))
  have HBU := Lib.hid (fun (hf : FairV s) W (hb : Below w.heap.size w W) => Build_any s (.slice a1 s.floor.kind.length c1) (.slice a2 s.floor.out.length c2) (.slice a3 s.zones.length c3) (.slice a4 s.aparts.length c4) (.slice a5 s.shelves.length c5) (.slice a6 s.robots.length c6) W (h.keep hb) hf.ok (by have := hf.zn; omega) (hE.below hb))
  have HC1 := Lib.hid (fun (hf : FairV s) sl W (hb : Below w.heap.size w W) hsl hp => chk_ok s c sl (.slice a1 s.floor.kind.length c1) (.slice a2 s.floor.out.length c2) (.slice a3 s.zones.length c3) (.slice a4 s.aparts.length c4) (.slice a5 s.shelves.length c5) (.slice a6 s.robots.length c6) _ _ _ _ W (h.keep hb) hf.right hf.ok (hc.keep hb) hsl hp)
  have HC2 := Lib.hid (fun (hf : FairV s) sl W (hb : Below w.heap.size w W) hsl hp => chk_no s c sl (.slice a1 s.floor.kind.length c1) (.slice a2 s.floor.out.length c2) (.slice a3 s.zones.length c3) (.slice a4 s.aparts.length c4) (.slice a5 s.shelves.length c5) (.slice a6 s.robots.length c6) _ _ _ _ W (h.keep hb) hf.right hf.ok (hc.keep hb) hsl hp)
  have HC3 := Lib.hid (fun (hf : FairV s) sl tv2 cv2 ke2 se2 W (hb : Below w.heap.size w W) (hcr : CertV W tv2 cv2 ke2 se2 (Ve.right s sl)) hsl hp => chk_ok s (Ve.right s sl) sl (.slice a1 s.floor.kind.length c1) (.slice a2 s.floor.out.length c2) (.slice a3 s.zones.length c3) (.slice a4 s.aparts.length c4) (.slice a5 s.shelves.length c5) (.slice a6 s.robots.length c6) tv2 cv2 ke2 se2 W (h.keep hb) hf.right hf.ok hcr hsl hp)
  have HSA := Lib.hid (fun (hf : FairV s) (hw : Ve.Few c 100) sl tv2 cv2 ke2 se2 W (hb : Below w.heap.size w W) (hcr : CertV W tv2 cv2 ke2 se2 (Ve.right s sl)) hsl => bSame_any (Ve.right s sl) c (right_cs hf.ok hf.zn hsl) (few_cs hw hnum) tv2 cv2 ke2 se2 _ _ _ _ W hcr (hc.keep hb) (hT.below hb))
  obtain ⟨l1, e1⟩ : ∃ n, s.floor.kind.length = n := ⟨_, rfl⟩
  obtain ⟨l2, e2⟩ : ∃ n, s.floor.out.length = n := ⟨_, rfl⟩
  obtain ⟨l3, e3⟩ : ∃ n, s.zones.length = n := ⟨_, rfl⟩
  obtain ⟨l4, e4⟩ : ∃ n, s.aparts.length = n := ⟨_, rfl⟩
  obtain ⟨l5, e5⟩ : ∃ n, s.shelves.length = n := ⟨_, rfl⟩
  obtain ⟨l6, e6⟩ : ∃ n, s.robots.length = n := ⟨_, rfl⟩
  unfold siV certA at *
  obtain ⟨P0, hP⟩ : ∃ P, c.places = P := ⟨_, rfl⟩
  obtain ⟨R0, hR⟩ : ∃ P, c.robots = P := ⟨_, rfl⟩
  obtain ⟨n1, hn1⟩ : ∃ P, c.trans.length = P := ⟨_, rfl⟩
  obtain ⟨n2, hn2⟩ : ∃ P, c.caps.length = P := ⟨_, rfl⟩
  obtain ⟨n3, hn3⟩ : ∃ P, c.keeps.length = P := ⟨_, rfl⟩
  obtain ⟨n4, hn4⟩ : ∃ P, c.sips.length = P := ⟨_, rfl⟩
  rw [e1, e2, e3, e4, e5, e6] at HFA HBU HC1 HC2 HC3
  rw [e3] at HSA
  rw [hP, hR, hn1, hn2, hn3, hn4] at HFW HC1 HC2 HSA
  rw [e1, e2, e3, e4, e5, e6, hP, hR, hn1, hn2, hn3, hn4]
  have E3 := Lib.hid e3
  have E6 := Lib.hid e6
  clear h hc hE hT hnum e1 e2 e3 e4 e5 e6 m1' m2' m3' m4' m5' m6' hP hR hn1 hn2 hn3 hn4
  obtain ⟨W, hW⟩ : ∃ W, W = (w.alloc (.cells #[.int .i64 s.floor.w, .int .i64 s.floor.h, .int .i64 s.floor.d, .slice a1 l1 c1, .slice a2 l2 c2, .slice a3 l3 c3, .slice a4 l4 c4, .slice a5 l5 c5, .slice a6 l6 c6] 30)).alloc (.cells #[.int .i64 P0, .slice ta n1 tc, .slice ca n2 cc, .slice ka n3 kc, .int .i64 R0, .slice sa n4 sc] 38) := ⟨_, rfl⟩
  have BW : Hid (Below w.heap.size w W) := Lib.hid (by rw [hW]; exact ((Below.refl _ _).alloc (Nat.le_refl _) _).alloc (by simp) _)
  have IW : Hid (W.heap[w.heap.size]? = some (.cells #[.int .i64 s.floor.w, .int .i64 s.floor.h, .int .i64 s.floor.d, .slice a1 l1 c1, .slice a2 l2 c2, .slice a3 l3 c3, .slice a4 l4 c4, .slice a5 l5 c5, .slice a6 l6 c6] 30 (0, 0))) := Lib.hid (by rw [hW]; exact heap_two0 _ _ _)
  have IC : Hid (W.heap[w.heap.size + 1]? = some (.cells #[.int .i64 P0, .slice ta n1 tc, .slice ca n2 cc, .slice ka n3 kc, .int .i64 R0, .slice sa n4 sc] 38 (0, 0))) := Lib.hid (by rw [hW]; exact heap_two3 _ _ _)
  have HW := Lib.hid hW
  clear hW
  go_enter Tryz.func7, Tryz.ntmps7
  go_upto_region 1 with fail
  rw [← HW.out]
  go_wp2_with fail
  go_at_call 10; refine (HSM.out W BW.out).mono ?_; rintro e w1 ⟨rfl, b1⟩
  have B1 := Lib.hid (BW.out.trans (b1.mono BW.out.size))
  have I1 := Lib.hid (keep_heap IW.out b1)
  have IC1 := Lib.hid (keep_heap IC.out b1)
  clear b1
  have p0 : w1.cell? ⟨w.heap.size, 0, none⟩ = some (.int .i64 s.floor.w) := cell_of_heap I1.out 0 rfl
  have p1 : w1.cell? ⟨w.heap.size, 1, none⟩ = some (.int .i64 s.floor.h) := cell_of_heap I1.out 1 rfl
  have p2 : w1.cell? ⟨w.heap.size, 2, none⟩ = some (.int .i64 s.floor.d) := cell_of_heap I1.out 2 rfl
  have p3 : w1.cell? ⟨w.heap.size, 3, none⟩ = some (.slice a1 l1 c1) := cell_of_heap I1.out 3 rfl
  have p4 : w1.cell? ⟨w.heap.size, 4, none⟩ = some (.slice a2 l2 c2) := cell_of_heap I1.out 4 rfl
  have p5 : w1.cell? ⟨w.heap.size, 5, none⟩ = some (.slice a3 l3 c3) := cell_of_heap I1.out 5 rfl
  have p6 : w1.cell? ⟨w.heap.size, 6, none⟩ = some (.slice a4 l4 c4) := cell_of_heap I1.out 6 rfl
  have p7 : w1.cell? ⟨w.heap.size, 7, none⟩ = some (.slice a5 l5 c5) := cell_of_heap I1.out 7 rfl
  have p8 : w1.cell? ⟨w.heap.size, 8, none⟩ = some (.slice a6 l6 c6) := cell_of_heap I1.out 8 rfl
  go_wp2_with fail
  go_at_call 11; refine (HFA.out w1 B1.out).mono ?_; rintro e w2 ⟨⟨rb, rfl, hrb⟩, b2⟩
  have HRB := Lib.hid hrb
  have B2 := Lib.hid (B1.out.trans (b2.mono B1.out.size))
  have I2 := Lib.hid (keep_heap I1.out b2)
  have IC2 := Lib.hid (keep_heap IC1.out b2)
  clear b2 hrb
  clear p0 p1 p2 p3 p4 p5 p6 p7 p8
  cases rb with
  | false =>
    go_wp2_with fail
    go_ret
    exact ⟨rfl, B2.out⟩
  | true =>
    have HF := Lib.hid (HRB.out rfl)
    clear HRB
    have q0 : w2.cell? ⟨w.heap.size + 1, 0, none⟩ = some (.int .i64 P0) := cell_of_heap IC2.out 0 rfl
    have q1 : w2.cell? ⟨w.heap.size + 1, 1, none⟩ = some (.slice ta n1 tc) := cell_of_heap IC2.out 1 rfl
    have q2 : w2.cell? ⟨w.heap.size + 1, 2, none⟩ = some (.slice ca n2 cc) := cell_of_heap IC2.out 2 rfl
    have q3 : w2.cell? ⟨w.heap.size + 1, 3, none⟩ = some (.slice ka n3 kc) := cell_of_heap IC2.out 3 rfl
    have q4 : w2.cell? ⟨w.heap.size + 1, 4, none⟩ = some (.int .i64 R0) := cell_of_heap IC2.out 4 rfl
    have q5 : w2.cell? ⟨w.heap.size + 1, 5, none⟩ = some (.slice sa n4 sc) := cell_of_heap IC2.out 5 rfl
    go_wp2_with fail
    go_at_call 22; refine (HFW.out w2 B2.out).mono ?_; rintro e w3 ⟨⟨rc, rfl, hrc⟩, b3⟩
    have HRC := Lib.hid hrc
    have B3 := Lib.hid (B2.out.trans (b3.mono B2.out.size))
    have I3 := Lib.hid (keep_heap I2.out b3)
    have IC3 := Lib.hid (keep_heap IC2.out b3)
    clear b3 hrc q0 q1 q2 q3 q4 q5
    cases rc with
    | false =>
      go_wp2_with fail
      go_ret
      exact ⟨rfl, B3.out⟩
    | true =>
      have HFE := Lib.hid (HRC.out rfl)
      clear HRC
      have p0 : w3.cell? ⟨w.heap.size, 0, none⟩ = some (.int .i64 s.floor.w) := cell_of_heap I3.out 0 rfl
      have p1 : w3.cell? ⟨w.heap.size, 1, none⟩ = some (.int .i64 s.floor.h) := cell_of_heap I3.out 1 rfl
      have p2 : w3.cell? ⟨w.heap.size, 2, none⟩ = some (.int .i64 s.floor.d) := cell_of_heap I3.out 2 rfl
      have p3 : w3.cell? ⟨w.heap.size, 3, none⟩ = some (.slice a1 l1 c1) := cell_of_heap I3.out 3 rfl
      have p4 : w3.cell? ⟨w.heap.size, 4, none⟩ = some (.slice a2 l2 c2) := cell_of_heap I3.out 4 rfl
      have p5 : w3.cell? ⟨w.heap.size, 5, none⟩ = some (.slice a3 l3 c3) := cell_of_heap I3.out 5 rfl
      have p6 : w3.cell? ⟨w.heap.size, 6, none⟩ = some (.slice a4 l4 c4) := cell_of_heap I3.out 6 rfl
      have p7 : w3.cell? ⟨w.heap.size, 7, none⟩ = some (.slice a5 l5 c5) := cell_of_heap I3.out 7 rfl
      have p8 : w3.cell? ⟨w.heap.size, 8, none⟩ = some (.slice a6 l6 c6) := cell_of_heap I3.out 8 rfl
      go_wp2_with fail
      go_at_call 12; refine (HBU.out HF.out w3 B3.out).mono ?_; intro e w4 hbp
      obtain ⟨b4, sl, hsl, hcase⟩ := build_cert (by have := HF.out.zn; omega) hbp
      have HSL : Hid (Pt.Sips (Si.linked s) l3 sl) := Lib.hid (by rw [← E3.out]; exact hsl)
      have B4 := Lib.hid (B3.out.trans (b4.mono B3.out.size))
      have I4 := Lib.hid (keep_heap I3.out b4)
      have IC4 := Lib.hid (keep_heap IC3.out b4)
      clear b4 hbp hsl
      clear p0 p1 p2 p3 p4 p5 p6 p7 p8
      rcases hcase with ⟨hno, rfl⟩ | ⟨hsafe, tv, cv, ke, sv, rfl, hcv, -⟩
      · have hpn : Ve.part s sl c ≠ -1 := fun h => by
          have h9 := (Ve.part_ok.1 h).2
          rw [hno] at h9; cases h9
        unfold certZero
        obtain ⟨V, hV⟩ : ∃ V, V = w4.alloc (.cells #[.int .i64 0, .slice none 0 0, .slice none 0 0, .slice none 0 0, .int .i64 0, .slice none 0 0] 38) := ⟨_, rfl⟩
        have BA : Hid (Below w4.heap.size w4 V) := Lib.hid (by rw [hV]; exact (Below.refl _ _).alloc (Nat.le_refl _) _)
        have BV := Lib.hid (B4.out.trans (BA.out.mono B4.out.size))
        have I5 := Lib.hid (keep_heap I4.out BA.out)
        have IC5 := Lib.hid (keep_heap IC4.out BA.out)
        have HV := Lib.hid hV
        have HCC := Lib.hid (HC2.out HF.out sl V BV.out HSL.out hpn)
        clear hV hno hpn
        go_upto_region 5 with fail
        rw [← HV.out]
        have p0 : V.cell? ⟨w.heap.size, 0, none⟩ = some (.int .i64 s.floor.w) := cell_of_heap I5.out 0 rfl
        have p1 : V.cell? ⟨w.heap.size, 1, none⟩ = some (.int .i64 s.floor.h) := cell_of_heap I5.out 1 rfl
        have p2 : V.cell? ⟨w.heap.size, 2, none⟩ = some (.int .i64 s.floor.d) := cell_of_heap I5.out 2 rfl
        have p3 : V.cell? ⟨w.heap.size, 3, none⟩ = some (.slice a1 l1 c1) := cell_of_heap I5.out 3 rfl
        have p4 : V.cell? ⟨w.heap.size, 4, none⟩ = some (.slice a2 l2 c2) := cell_of_heap I5.out 4 rfl
        have p5 : V.cell? ⟨w.heap.size, 5, none⟩ = some (.slice a3 l3 c3) := cell_of_heap I5.out 5 rfl
        have p6 : V.cell? ⟨w.heap.size, 6, none⟩ = some (.slice a4 l4 c4) := cell_of_heap I5.out 6 rfl
        have p7 : V.cell? ⟨w.heap.size, 7, none⟩ = some (.slice a5 l5 c5) := cell_of_heap I5.out 7 rfl
        have p8 : V.cell? ⟨w.heap.size, 8, none⟩ = some (.slice a6 l6 c6) := cell_of_heap I5.out 8 rfl
        have q0 : V.cell? ⟨w.heap.size + 1, 0, none⟩ = some (.int .i64 P0) := cell_of_heap IC5.out 0 rfl
        have q1 : V.cell? ⟨w.heap.size + 1, 1, none⟩ = some (.slice ta n1 tc) := cell_of_heap IC5.out 1 rfl
        have q2 : V.cell? ⟨w.heap.size + 1, 2, none⟩ = some (.slice ca n2 cc) := cell_of_heap IC5.out 2 rfl
        have q3 : V.cell? ⟨w.heap.size + 1, 3, none⟩ = some (.slice ka n3 kc) := cell_of_heap IC5.out 3 rfl
        have q4 : V.cell? ⟨w.heap.size + 1, 4, none⟩ = some (.int .i64 R0) := cell_of_heap IC5.out 4 rfl
        have q5 : V.cell? ⟨w.heap.size + 1, 5, none⟩ = some (.slice sa n4 sc) := cell_of_heap IC5.out 5 rfl
        go_wp2_with fail
        go_at_call 13; refine HCC.out.mono ?_; rintro e w6 ⟨⟨p, hp, rfl⟩, b6⟩
        have BE := Lib.hid (BV.out.trans (b6.mono BV.out.size))
        have tp : (p == -1) = false := by simpa using hp
        clear b6 hp q0 q1 q2 q3 q4 q5
        clear p0 p1 p2 p3 p4 p5 p6 p7 p8
        go_wp2_with fail
        go_ret
        exact ⟨rfl, BE.out⟩
      · obtain ⟨ta2, tc2, rfl, htm2⟩ := hcv.tr.form
        obtain ⟨ca2, cc2, rfl, hcm2⟩ := hcv.ca.form
        obtain ⟨ka2, kc2, rfl, hkm2⟩ := hcv.ke.form
        obtain ⟨sa2, sc2, rfl, hsm2⟩ := hcv.si.form
        have HCV := Lib.hid hcv
        have HC3' := Lib.hid (fun W hb hcr hsl hp => HC3.out HF.out sl (.slice ta2 (Ve.right s sl).trans.length tc2) (.slice ca2 (Ve.right s sl).caps.length cc2) (.slice ka2 (Ve.right s sl).keeps.length kc2) (.slice sa2 (Ve.right s sl).sips.length sc2) W hb hcr hsl hp)
        have HSA' := Lib.hid (fun W hb hcr hsl => HSA.out HF.out HFE.out sl (.slice ta2 (Ve.right s sl).trans.length tc2) (.slice ca2 (Ve.right s sl).caps.length cc2) (.slice ka2 (Ve.right s sl).keeps.length kc2) (.slice sa2 (Ve.right s sl).sips.length sc2) W hb hcr hsl)
        have g1 : (Ve.right s sl).caps.length = l3 := by show (Si.capsL s).length = l3; rw [Si.capsL_len]; exact E3.out
        have g2 : (Ve.right s sl).keeps.length = l3 := by show (Ve.keepsL s).length = l3; rw [Ve.keepsL_len]; exact E3.out
        obtain ⟨m1, g3⟩ : ∃ n, (Ve.right s sl).trans.length = n := ⟨_, rfl⟩
        obtain ⟨m4, g4⟩ : ∃ n, (Ve.right s sl).sips.length = n := ⟨_, rfl⟩
        have g5 : (Ve.right s sl).places = (l3 : Int) := by show (s.zones.length : Int) = l3; rw [E3.out]
        have g6 : (Ve.right s sl).robots = (l6 : Int) := by show (s.robots.length : Int) = l6; rw [E6.out]
        unfold certA at *
        rw [g1, g2, g3, g4, g5, g6]
        rw [g1, g2, g3, g4, g5, g6] at HC3' HSA'
        rw [g1, g2, g3, g4] at HCV
        have hright : Ve.part s sl (Ve.right s sl) = -1 := Ve.part_ok.2 ⟨rfl, hsafe⟩
        have HRI := Lib.hid hright
        obtain ⟨V, hV⟩ : ∃ V, V = w4.alloc (.cells #[.int .i64 (l3 : Int), .slice ta2 m1 tc2, .slice ca2 l3 cc2, .slice ka2 l3 kc2, .int .i64 (l6 : Int), .slice sa2 m4 sc2] 38) := ⟨_, rfl⟩
        have BA : Hid (Below w4.heap.size w4 V) := Lib.hid (by rw [hV]; exact (Below.refl _ _).alloc (Nat.le_refl _) _)
        have IR5 : Hid (V.heap[w4.heap.size]? = some (.cells #[.int .i64 (l3 : Int), .slice ta2 m1 tc2, .slice ca2 l3 cc2, .slice ka2 l3 kc2, .int .i64 (l6 : Int), .slice sa2 m4 sc2] 38 (0, 0))) := Lib.hid (by rw [hV]; exact heap_alloc_new _ _)
        have BV := Lib.hid (B4.out.trans (BA.out.mono B4.out.size))
        have I5 := Lib.hid (keep_heap I4.out BA.out)
        have IC5 := Lib.hid (keep_heap IC4.out BA.out)
        have HCV5 := Lib.hid (HCV.out.keep BA.out)
        have HV := Lib.hid hV
        clear hV hcv htm2 hcm2 hkm2 hsm2 g1 g2 g3 g4 g5 g6 hright
        go_upto_region 5 with fail
        rw [← HV.out]
        by_cases hpe : Ve.part s sl c = -1
        · have HCC := Lib.hid (HC1.out HF.out sl V BV.out HSL.out hpe)
          have HDE : Hid (decide (Ve.right s sl = c) = true) := Lib.hid (decide_eq_true (Ve.part_ok.1 hpe).1.symm)
          clear hpe hsafe
          have p0 : V.cell? ⟨w.heap.size, 0, none⟩ = some (.int .i64 s.floor.w) := cell_of_heap I5.out 0 rfl
          have p1 : V.cell? ⟨w.heap.size, 1, none⟩ = some (.int .i64 s.floor.h) := cell_of_heap I5.out 1 rfl
          have p2 : V.cell? ⟨w.heap.size, 2, none⟩ = some (.int .i64 s.floor.d) := cell_of_heap I5.out 2 rfl
          have p3 : V.cell? ⟨w.heap.size, 3, none⟩ = some (.slice a1 l1 c1) := cell_of_heap I5.out 3 rfl
          have p4 : V.cell? ⟨w.heap.size, 4, none⟩ = some (.slice a2 l2 c2) := cell_of_heap I5.out 4 rfl
          have p5 : V.cell? ⟨w.heap.size, 5, none⟩ = some (.slice a3 l3 c3) := cell_of_heap I5.out 5 rfl
          have p6 : V.cell? ⟨w.heap.size, 6, none⟩ = some (.slice a4 l4 c4) := cell_of_heap I5.out 6 rfl
          have p7 : V.cell? ⟨w.heap.size, 7, none⟩ = some (.slice a5 l5 c5) := cell_of_heap I5.out 7 rfl
          have p8 : V.cell? ⟨w.heap.size, 8, none⟩ = some (.slice a6 l6 c6) := cell_of_heap I5.out 8 rfl
          have q0 : V.cell? ⟨w.heap.size + 1, 0, none⟩ = some (.int .i64 P0) := cell_of_heap IC5.out 0 rfl
          have q1 : V.cell? ⟨w.heap.size + 1, 1, none⟩ = some (.slice ta n1 tc) := cell_of_heap IC5.out 1 rfl
          have q2 : V.cell? ⟨w.heap.size + 1, 2, none⟩ = some (.slice ca n2 cc) := cell_of_heap IC5.out 2 rfl
          have q3 : V.cell? ⟨w.heap.size + 1, 3, none⟩ = some (.slice ka n3 kc) := cell_of_heap IC5.out 3 rfl
          have q4 : V.cell? ⟨w.heap.size + 1, 4, none⟩ = some (.int .i64 R0) := cell_of_heap IC5.out 4 rfl
          have q5 : V.cell? ⟨w.heap.size + 1, 5, none⟩ = some (.slice sa n4 sc) := cell_of_heap IC5.out 5 rfl
          go_wp2_with fail
          go_at_call 13; refine HCC.out.mono ?_; rintro e w6 ⟨rfl, b6⟩
          have B6 := Lib.hid (BV.out.trans (b6.mono BV.out.size))
          have I6 := Lib.hid (keep_heap I5.out b6)
          have IC6 := Lib.hid (keep_heap IC5.out b6)
          have IR6 := Lib.hid (keep_heap IR5.out b6)
          have HCV6 := Lib.hid (HCV5.out.keep b6)
          have HSS := Lib.hid (HSA'.out w6 B6.out HCV6.out HSL.out)
          rw [HDE.out] at HSS
          clear b6 q0 q1 q2 q3 q4 q5
          clear p0 p1 p2 p3 p4 p5 p6 p7 p8
          have q0 : w6.cell? ⟨w.heap.size + 1, 0, none⟩ = some (.int .i64 P0) := cell_of_heap IC6.out 0 rfl
          have q1 : w6.cell? ⟨w.heap.size + 1, 1, none⟩ = some (.slice ta n1 tc) := cell_of_heap IC6.out 1 rfl
          have q2 : w6.cell? ⟨w.heap.size + 1, 2, none⟩ = some (.slice ca n2 cc) := cell_of_heap IC6.out 2 rfl
          have q3 : w6.cell? ⟨w.heap.size + 1, 3, none⟩ = some (.slice ka n3 kc) := cell_of_heap IC6.out 3 rfl
          have q4 : w6.cell? ⟨w.heap.size + 1, 4, none⟩ = some (.int .i64 R0) := cell_of_heap IC6.out 4 rfl
          have q5 : w6.cell? ⟨w.heap.size + 1, 5, none⟩ = some (.slice sa n4 sc) := cell_of_heap IC6.out 5 rfl
          have r0 : w6.cell? ⟨w4.heap.size, 0, none⟩ = some (.int .i64 (l3 : Int)) := cell_of_heap IR6.out 0 rfl
          have r1 : w6.cell? ⟨w4.heap.size, 1, none⟩ = some (.slice ta2 m1 tc2) := cell_of_heap IR6.out 1 rfl
          have r2 : w6.cell? ⟨w4.heap.size, 2, none⟩ = some (.slice ca2 l3 cc2) := cell_of_heap IR6.out 2 rfl
          have r3 : w6.cell? ⟨w4.heap.size, 3, none⟩ = some (.slice ka2 l3 kc2) := cell_of_heap IR6.out 3 rfl
          have r4 : w6.cell? ⟨w4.heap.size, 4, none⟩ = some (.int .i64 (l6 : Int)) := cell_of_heap IR6.out 4 rfl
          have r5 : w6.cell? ⟨w4.heap.size, 5, none⟩ = some (.slice sa2 m4 sc2) := cell_of_heap IR6.out 5 rfl
          go_wp2_with fail
          go_at_call 36; refine HSS.out.mono ?_; rintro e w7 ⟨rfl, b7⟩
          have B7 := Lib.hid (B6.out.trans (b7.mono B6.out.size))
          have I7 := Lib.hid (keep_heap I6.out b7)
          have IR7 := Lib.hid (keep_heap IR6.out b7)
          have HCV7 := Lib.hid (HCV6.out.keep b7)
          have HCR := Lib.hid (HC3'.out w7 B7.out HCV7.out HSL.out HRI.out)
          clear b7 q0 q1 q2 q3 q4 q5 r0 r1 r2 r3 r4 r5
          have p0 : w7.cell? ⟨w.heap.size, 0, none⟩ = some (.int .i64 s.floor.w) := cell_of_heap I7.out 0 rfl
          have p1 : w7.cell? ⟨w.heap.size, 1, none⟩ = some (.int .i64 s.floor.h) := cell_of_heap I7.out 1 rfl
          have p2 : w7.cell? ⟨w.heap.size, 2, none⟩ = some (.int .i64 s.floor.d) := cell_of_heap I7.out 2 rfl
          have p3 : w7.cell? ⟨w.heap.size, 3, none⟩ = some (.slice a1 l1 c1) := cell_of_heap I7.out 3 rfl
          have p4 : w7.cell? ⟨w.heap.size, 4, none⟩ = some (.slice a2 l2 c2) := cell_of_heap I7.out 4 rfl
          have p5 : w7.cell? ⟨w.heap.size, 5, none⟩ = some (.slice a3 l3 c3) := cell_of_heap I7.out 5 rfl
          have p6 : w7.cell? ⟨w.heap.size, 6, none⟩ = some (.slice a4 l4 c4) := cell_of_heap I7.out 6 rfl
          have p7 : w7.cell? ⟨w.heap.size, 7, none⟩ = some (.slice a5 l5 c5) := cell_of_heap I7.out 7 rfl
          have p8 : w7.cell? ⟨w.heap.size, 8, none⟩ = some (.slice a6 l6 c6) := cell_of_heap I7.out 8 rfl
          have r0 : w7.cell? ⟨w4.heap.size, 0, none⟩ = some (.int .i64 (l3 : Int)) := cell_of_heap IR7.out 0 rfl
          have r1 : w7.cell? ⟨w4.heap.size, 1, none⟩ = some (.slice ta2 m1 tc2) := cell_of_heap IR7.out 1 rfl
          have r2 : w7.cell? ⟨w4.heap.size, 2, none⟩ = some (.slice ca2 l3 cc2) := cell_of_heap IR7.out 2 rfl
          have r3 : w7.cell? ⟨w4.heap.size, 3, none⟩ = some (.slice ka2 l3 kc2) := cell_of_heap IR7.out 3 rfl
          have r4 : w7.cell? ⟨w4.heap.size, 4, none⟩ = some (.int .i64 (l6 : Int)) := cell_of_heap IR7.out 4 rfl
          have r5 : w7.cell? ⟨w4.heap.size, 5, none⟩ = some (.slice sa2 m4 sc2) := cell_of_heap IR7.out 5 rfl
          go_wp2_with fail
          go_at_call 13; refine HCR.out.mono ?_; rintro e w8 ⟨rfl, b8⟩
          have BE := Lib.hid (B7.out.trans (b8.mono B7.out.size))
          clear b8 r0 r1 r2 r3 r4 r5
          clear p0 p1 p2 p3 p4 p5 p6 p7 p8
          go_wp2_with fail
          go_ret
          exact ⟨rfl, BE.out⟩
        · have HCC := Lib.hid (HC2.out HF.out sl V BV.out HSL.out hpe)
          have HDE : Hid (decide (Ve.right s sl = c) = false) := Lib.hid (decide_eq_false (fun h => hpe (Ve.part_ok.2 ⟨h.symm, hsafe⟩)))
          clear hpe hsafe
          have p0 : V.cell? ⟨w.heap.size, 0, none⟩ = some (.int .i64 s.floor.w) := cell_of_heap I5.out 0 rfl
          have p1 : V.cell? ⟨w.heap.size, 1, none⟩ = some (.int .i64 s.floor.h) := cell_of_heap I5.out 1 rfl
          have p2 : V.cell? ⟨w.heap.size, 2, none⟩ = some (.int .i64 s.floor.d) := cell_of_heap I5.out 2 rfl
          have p3 : V.cell? ⟨w.heap.size, 3, none⟩ = some (.slice a1 l1 c1) := cell_of_heap I5.out 3 rfl
          have p4 : V.cell? ⟨w.heap.size, 4, none⟩ = some (.slice a2 l2 c2) := cell_of_heap I5.out 4 rfl
          have p5 : V.cell? ⟨w.heap.size, 5, none⟩ = some (.slice a3 l3 c3) := cell_of_heap I5.out 5 rfl
          have p6 : V.cell? ⟨w.heap.size, 6, none⟩ = some (.slice a4 l4 c4) := cell_of_heap I5.out 6 rfl
          have p7 : V.cell? ⟨w.heap.size, 7, none⟩ = some (.slice a5 l5 c5) := cell_of_heap I5.out 7 rfl
          have p8 : V.cell? ⟨w.heap.size, 8, none⟩ = some (.slice a6 l6 c6) := cell_of_heap I5.out 8 rfl
          have q0 : V.cell? ⟨w.heap.size + 1, 0, none⟩ = some (.int .i64 P0) := cell_of_heap IC5.out 0 rfl
          have q1 : V.cell? ⟨w.heap.size + 1, 1, none⟩ = some (.slice ta n1 tc) := cell_of_heap IC5.out 1 rfl
          have q2 : V.cell? ⟨w.heap.size + 1, 2, none⟩ = some (.slice ca n2 cc) := cell_of_heap IC5.out 2 rfl
          have q3 : V.cell? ⟨w.heap.size + 1, 3, none⟩ = some (.slice ka n3 kc) := cell_of_heap IC5.out 3 rfl
          have q4 : V.cell? ⟨w.heap.size + 1, 4, none⟩ = some (.int .i64 R0) := cell_of_heap IC5.out 4 rfl
          have q5 : V.cell? ⟨w.heap.size + 1, 5, none⟩ = some (.slice sa n4 sc) := cell_of_heap IC5.out 5 rfl
          go_wp2_with fail
          go_at_call 13; refine HCC.out.mono ?_; rintro e w6 ⟨⟨p, hp, rfl⟩, b6⟩
          have tp : (p == -1) = false := by simpa using hp
          have B6 := Lib.hid (BV.out.trans (b6.mono BV.out.size))
          have I6 := Lib.hid (keep_heap I5.out b6)
          have IC6 := Lib.hid (keep_heap IC5.out b6)
          have IR6 := Lib.hid (keep_heap IR5.out b6)
          have HCV6 := Lib.hid (HCV5.out.keep b6)
          have HSS := Lib.hid (HSA'.out w6 B6.out HCV6.out HSL.out)
          rw [HDE.out] at HSS
          clear b6 hp q0 q1 q2 q3 q4 q5
          clear p0 p1 p2 p3 p4 p5 p6 p7 p8
          have q0 : w6.cell? ⟨w.heap.size + 1, 0, none⟩ = some (.int .i64 P0) := cell_of_heap IC6.out 0 rfl
          have q1 : w6.cell? ⟨w.heap.size + 1, 1, none⟩ = some (.slice ta n1 tc) := cell_of_heap IC6.out 1 rfl
          have q2 : w6.cell? ⟨w.heap.size + 1, 2, none⟩ = some (.slice ca n2 cc) := cell_of_heap IC6.out 2 rfl
          have q3 : w6.cell? ⟨w.heap.size + 1, 3, none⟩ = some (.slice ka n3 kc) := cell_of_heap IC6.out 3 rfl
          have q4 : w6.cell? ⟨w.heap.size + 1, 4, none⟩ = some (.int .i64 R0) := cell_of_heap IC6.out 4 rfl
          have q5 : w6.cell? ⟨w.heap.size + 1, 5, none⟩ = some (.slice sa n4 sc) := cell_of_heap IC6.out 5 rfl
          have r0 : w6.cell? ⟨w4.heap.size, 0, none⟩ = some (.int .i64 (l3 : Int)) := cell_of_heap IR6.out 0 rfl
          have r1 : w6.cell? ⟨w4.heap.size, 1, none⟩ = some (.slice ta2 m1 tc2) := cell_of_heap IR6.out 1 rfl
          have r2 : w6.cell? ⟨w4.heap.size, 2, none⟩ = some (.slice ca2 l3 cc2) := cell_of_heap IR6.out 2 rfl
          have r3 : w6.cell? ⟨w4.heap.size, 3, none⟩ = some (.slice ka2 l3 kc2) := cell_of_heap IR6.out 3 rfl
          have r4 : w6.cell? ⟨w4.heap.size, 4, none⟩ = some (.int .i64 (l6 : Int)) := cell_of_heap IR6.out 4 rfl
          have r5 : w6.cell? ⟨w4.heap.size, 5, none⟩ = some (.slice sa2 m4 sc2) := cell_of_heap IR6.out 5 rfl
          go_wp2_with fail
          go_at_call 36; refine HSS.out.mono ?_; rintro e w7 ⟨rfl, b7⟩
          have B7 := Lib.hid (B6.out.trans (b7.mono B6.out.size))
          have I7 := Lib.hid (keep_heap I6.out b7)
          have IR7 := Lib.hid (keep_heap IR6.out b7)
          have HCV7 := Lib.hid (HCV6.out.keep b7)
          have HCR := Lib.hid (HC3'.out w7 B7.out HCV7.out HSL.out HRI.out)
          clear b7 q0 q1 q2 q3 q4 q5 r0 r1 r2 r3 r4 r5
          have p0 : w7.cell? ⟨w.heap.size, 0, none⟩ = some (.int .i64 s.floor.w) := cell_of_heap I7.out 0 rfl
          have p1 : w7.cell? ⟨w.heap.size, 1, none⟩ = some (.int .i64 s.floor.h) := cell_of_heap I7.out 1 rfl
          have p2 : w7.cell? ⟨w.heap.size, 2, none⟩ = some (.int .i64 s.floor.d) := cell_of_heap I7.out 2 rfl
          have p3 : w7.cell? ⟨w.heap.size, 3, none⟩ = some (.slice a1 l1 c1) := cell_of_heap I7.out 3 rfl
          have p4 : w7.cell? ⟨w.heap.size, 4, none⟩ = some (.slice a2 l2 c2) := cell_of_heap I7.out 4 rfl
          have p5 : w7.cell? ⟨w.heap.size, 5, none⟩ = some (.slice a3 l3 c3) := cell_of_heap I7.out 5 rfl
          have p6 : w7.cell? ⟨w.heap.size, 6, none⟩ = some (.slice a4 l4 c4) := cell_of_heap I7.out 6 rfl
          have p7 : w7.cell? ⟨w.heap.size, 7, none⟩ = some (.slice a5 l5 c5) := cell_of_heap I7.out 7 rfl
          have p8 : w7.cell? ⟨w.heap.size, 8, none⟩ = some (.slice a6 l6 c6) := cell_of_heap I7.out 8 rfl
          have r0 : w7.cell? ⟨w4.heap.size, 0, none⟩ = some (.int .i64 (l3 : Int)) := cell_of_heap IR7.out 0 rfl
          have r1 : w7.cell? ⟨w4.heap.size, 1, none⟩ = some (.slice ta2 m1 tc2) := cell_of_heap IR7.out 1 rfl
          have r2 : w7.cell? ⟨w4.heap.size, 2, none⟩ = some (.slice ca2 l3 cc2) := cell_of_heap IR7.out 2 rfl
          have r3 : w7.cell? ⟨w4.heap.size, 3, none⟩ = some (.slice ka2 l3 kc2) := cell_of_heap IR7.out 3 rfl
          have r4 : w7.cell? ⟨w4.heap.size, 4, none⟩ = some (.int .i64 (l6 : Int)) := cell_of_heap IR7.out 4 rfl
          have r5 : w7.cell? ⟨w4.heap.size, 5, none⟩ = some (.slice sa2 m4 sc2) := cell_of_heap IR7.out 5 rfl
          go_wp2_with fail
          go_at_call 13; refine HCR.out.mono ?_; rintro e w8 ⟨rfl, b8⟩
          have BE := Lib.hid (B7.out.trans (b8.mono B7.out.size))
          clear b8 r0 r1 r2 r3 r4 r5
          clear p0 p1 p2 p3 p4 p5 p6 p7 p8
          go_wp2_with fail
          go_ret
          exact ⟨rfl, BE.out⟩
end Go.Proofs.YtfcbcpfnaadpeaaGreatDoor
