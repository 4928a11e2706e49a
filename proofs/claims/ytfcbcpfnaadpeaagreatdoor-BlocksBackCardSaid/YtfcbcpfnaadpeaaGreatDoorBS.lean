/- Parts RdH of this claim, laid one behind the other: walks and the plain laws behind them; each contract states its own conditions. -/
import Derived.Test.YtfcbcpfnaadpeaaGreatDoorBR
import Derived.Test.YtfcbcpfnaadpeaaGreatDoorBC
/- Walks of packages taquinref18, taquinref19: Few. -/
namespace Go.Proofs.YtfcbcpfnaadpeaaGreatDoor
set_option linter.unusedSimpArgs false
set_option linter.unusedVariables false
open Go.RowKit

structure Few18 (P : Int) (T : List Wr.Tn) : Prop where
  tl : T.length ≤ 20
  tr : ∀ t ∈ T, t.1.length ≤ 20 ∧ t.2.length ≤ 20
set_option maxRecDepth 100000 in
set_option maxHeartbeats 16000000 in
theorem few18_any (P : Int) (tv : Value) (T : List Wr.Tn) (w : World) (h : Tr w tv T) :
    Calls Tryz.prog 83 #[.agg #[.int .i64 P, tv], .int .i64 20, .int .i64 20] w fun e w' => TruePost (Few18 P T) e ∧ Below w.heap.size w w' := by
  obtain ⟨ta, tc, rfl, htm⟩ := h.form
  obtain ⟨n, hn⟩ : ∃ n, T.length = n := ⟨_, rfl⟩
  have HN := Lib.hid hn
  obtain ⟨w1, hw1⟩ : ∃ W, W = w.alloc (.cells #[.int .i64 P, .slice ta n tc] 35) := ⟨_, rfl⟩
  have B1 : Hid (Below w.heap.size w w1) := Lib.hid (by rw [hw1]; exact (Below.refl _ _).alloc (Nat.le_refl _) _)
  have I1 : Hid (w1.heap[w.heap.size]? = some (.cells #[.int .i64 P, .slice ta n tc] 35 (0, 0))) := Lib.hid (by rw [hw1]; exact heap_alloc_new _ _)
  have HW1 := Lib.hid hw1
  have H := Lib.hid (h.keep B1.out)
  rw [hn] at H htm ⊢
  have F0 : Hid (∀ t ∈ T.take 0, t.1.length ≤ 20 ∧ t.2.length ≤ 20) := Lib.hid (by simp)
  have HFN : Hid ((∀ t ∈ T.take n, t.1.length ≤ 20 ∧ t.2.length ≤ 20) → n ≤ 20 → Few18 P T) := Lib.hid (fun a b => ⟨by rw [HN.out]; exact b, by rw [← HN.out, List.take_length] at a; exact a⟩)
  have p0 : w1.cell? ⟨w.heap.size, 0, none⟩ = some (.int .i64 P) := cell_of_heap I1.out 0 rfl
  have p1 : w1.cell? ⟨w.heap.size, 1, none⟩ = some (.slice ta n tc) := cell_of_heap I1.out 1 rfl
  clear h hn hw1
  go_enter Tryz.func83, Tryz.ntmps83
  go_upto_region 1 with fail
  rw [← HW1.out]
  go_wp2_with fail
  go_loop [7] (fun iv => ∃ k : Nat, k ≤ n ∧ k ≤ 21 ∧ iv = .int .i64 k ∧ Hid (∀ t ∈ T.take k, t.1.length ≤ 20 ∧ t.2.length ≤ 20)) (fun iv => n - (intOf iv).toNat)
  case atStart => exact ⟨0, by omega, by omega, rfl, F0⟩
  case round =>
    clear F0
    obtain ⟨k, hk, hk1, rfl, HF⟩ := hrel
    by_cases hkn : k < n
    · have k1 : (k : Int) < (n : Int) := by omega
      have d1 : decide ((k : Int) < (n : Int)) = true := by simp; omega
      have k0 : (0 : Int) ≤ (k : Int) := by omega
      by_cases hkc : k ≤ 20
      · have d2 : decide ((k : Int) ≤ 20) = true := by simp; omega
        have d2' : (k : Int) ≤ 20 := by omega
        have hkl : k < T.length := by rw [HN.out]; exact hkn
        obtain ⟨b, o, u1, u2, e1, hbl, y1, y2, i1, i2⟩ := H.out.cell k hkl
        subst e1
        have HTK : Hid (T.take (k + 1) = T.take k ++ [T[k]]) := Lib.hid (List.take_succ_eq_append_getElem hkl)
        obtain ⟨x, hx⟩ : ∃ x, T[k] = x := ⟨_, rfl⟩
        rw [hx] at i1 i2 HTK
        obtain ⟨xa, xc, rfl, -⟩ := i1.form
        obtain ⟨ya, yc, rfl, -⟩ := i2.form
        obtain ⟨m1, hm1⟩ : ∃ m, x.1.length = m := ⟨_, rfl⟩
        obtain ⟨m2, hm2⟩ : ∃ m, x.2.length = m := ⟨_, rfl⟩
        rw [hm1] at y1
        rw [hm2] at y2
        have HM1 := Lib.hid hm1
        have HM2 := Lib.hid hm2
        clear hx i1 i2 hm1 hm2 hkl
        by_cases g1 : m1 ≤ 20
        · have d3 : decide ((m1 : Int) > 20) = false := by simp; omega
          by_cases g2 : m2 ≤ 20
          · have d4 : decide ((m2 : Int) > 20) = false := by simp; omega
            have HFN2 : Hid (∀ t ∈ T.take (k + 1), t.1.length ≤ 20 ∧ t.2.length ≤ 20) := Lib.hid (by
              rw [HTK.out]
              intro l hl
              rcases List.mem_append.1 hl with h9 | h9
              · exact HF.out l h9
              · rw [List.mem_singleton] at h9; subst h9; rw [HM1.out, HM2.out]; exact ⟨g1, g2⟩)
            clear HF g1 g2
            go_wp2_with fail
            go_round
            case rel => exact ⟨k + 1, by omega, by omega, by go_num, HFN2⟩
            case measure => simp [intOf]; omega
          · have d4 : decide ((m2 : Int) > 20) = true := by simp; omega
            clear g2
            go_wp2_with fail
            go_ret
            exact ⟨TruePost.no _, B1.out⟩
        · have d3 : decide ((m1 : Int) > 20) = true := by simp; omega
          clear g1
          go_wp2_with fail
          go_ret
          exact ⟨TruePost.no _, B1.out⟩
      · have d2 : decide ((k : Int) ≤ 20) = false := by simp; omega
        have d2' : ¬ (k : Int) ≤ 20 := by omega
        have d5 : decide ((n : Int) ≤ 20) = false := by simp; omega
        have d5' : ¬ (n : Int) ≤ 20 := by omega
        by_cases hP : P ≤ 20
        · have d6 : decide (P ≤ 20) = true := decide_eq_true hP
          go_wp2_with fail
          go_ret
          exact ⟨TruePost.no _, B1.out⟩
        · have d6 : decide (P ≤ 20) = false := decide_eq_false hP
          go_wp2_with fail
          go_ret
          exact ⟨TruePost.no _, B1.out⟩
    · obtain rfl : k = n := by omega
      have d1 : decide ((k : Int) < (k : Int)) = false := by simp
      by_cases hP : P ≤ 20
      · have d6 : decide (P ≤ 20) = true := decide_eq_true hP
        by_cases hn2 : k ≤ 20
        · have d5 : decide ((k : Int) ≤ 20) = true := by simp; omega
          have d5' : (k : Int) ≤ 20 := by omega
          have HFF := Lib.hid (HFN.out HF.out hn2)
          go_wp2_with fail
          go_ret
          exact ⟨⟨_, rfl, fun _ => HFF.out⟩, B1.out⟩
        · have d5 : decide ((k : Int) ≤ 20) = false := by simp; omega
          have d5' : ¬ (k : Int) ≤ 20 := by omega
          go_wp2_with fail
          go_ret
          exact ⟨TruePost.no _, B1.out⟩
      · have d6 : decide (P ≤ 20) = false := decide_eq_false hP
        go_wp2_with fail
        go_ret
        exact ⟨TruePost.no _, B1.out⟩
set_option maxRecDepth 100000 in
set_option maxHeartbeats 16000000 in
theorem rFew19_any (c : Ve.Cert) (tv cv ke se : Value) (w : World) (h : CertV w tv cv ke se c) :
    Calls Tryz.prog 32 #[.agg (certA c tv cv ke se), .int .i64 20] w fun e w' => TruePost (Ve.Few c 20) e ∧ Below w.heap.size w w' := by
  obtain ⟨ta, tc, rfl, htm⟩ := h.tr.form
  obtain ⟨ca, cc, rfl, hcm⟩ := h.ca.form
  obtain ⟨ka, kc, rfl, hkm⟩ := h.ke.form
  obtain ⟨sa, sc, rfl, hsm⟩ := h.si.form
  unfold certA
  have HFU := Lib.hid (fun W (hW : Below w.heap.size w W) => few18_any c.places (.slice ta c.trans.length tc) c.trans W (h.tr.keep hW))
  have HSI := Lib.hid (fun W (hW : Below w.heap.size w W) => h.si.keep hW)
  have HFIN : Hid (Few18 c.places c.trans → (∀ l ∈ c.sips.take c.sips.length, l.length ≤ 20) → c.caps.length ≤ 20 → c.keeps.length ≤ 20 → c.sips.length ≤ 20 → Ve.Few c 20) := Lib.hid (fun h1 h2 h3 h4 h5 => ⟨h1.tl, h1.tr, h3, h4, h5, by rw [List.take_length] at h2; exact h2⟩)
  obtain ⟨P, hP⟩ : ∃ P, c.places = P := ⟨_, rfl⟩
  obtain ⟨R, hR⟩ : ∃ P, c.robots = P := ⟨_, rfl⟩
  obtain ⟨n1, hn1⟩ : ∃ P, c.trans.length = P := ⟨_, rfl⟩
  obtain ⟨n2, hn2⟩ : ∃ P, c.caps.length = P := ⟨_, rfl⟩
  obtain ⟨n3, hn3⟩ : ∃ P, c.keeps.length = P := ⟨_, rfl⟩
  obtain ⟨n4, hn4⟩ : ∃ P, c.sips.length = P := ⟨_, rfl⟩
  have HN4 := Lib.hid hn4
  obtain ⟨FP, hFP⟩ : ∃ p, p = Few18 c.places c.trans := ⟨_, rfl⟩
  rw [← hFP] at HFU HFIN
  rw [hP, hn1] at HFU
  rw [hn4] at HSI
  rw [hn2, hn3, hn4] at HFIN
  rw [hP, hR, hn1, hn2, hn3, hn4]
  obtain ⟨w1, hw1⟩ : ∃ W, W = w.alloc (.cells #[.int .i64 P, .slice ta n1 tc, .slice ca n2 cc, .slice ka n3 kc, .int .i64 R, .slice sa n4 sc] 38) := ⟨_, rfl⟩
  have B1 : Hid (Below w.heap.size w w1) := Lib.hid (by rw [hw1]; exact (Below.refl _ _).alloc (Nat.le_refl _) _)
  have I1 : Hid (w1.heap[w.heap.size]? = some (.cells #[.int .i64 P, .slice ta n1 tc, .slice ca n2 cc, .slice ka n3 kc, .int .i64 R, .slice sa n4 sc] 38 (0, 0))) := Lib.hid (by rw [hw1]; exact heap_alloc_new _ _)
  have HW1 := Lib.hid hw1
  have H := Lib.hid (HSI.out w1 B1.out)
  have HC := Lib.hid (HFU.out w1 B1.out)
  have F0 : Hid (∀ l ∈ c.sips.take 0, l.length ≤ 20) := Lib.hid (by simp)
  have p0 : w1.cell? ⟨w.heap.size, 0, none⟩ = some (.int .i64 P) := cell_of_heap I1.out 0 rfl
  have p1 : w1.cell? ⟨w.heap.size, 1, none⟩ = some (.slice ta n1 tc) := cell_of_heap I1.out 1 rfl
  have p5 : w1.cell? ⟨w.heap.size, 5, none⟩ = some (.slice sa n4 sc) := cell_of_heap I1.out 5 rfl
  clear h hP hR hn1 hn2 hn3 hn4 htm hcm hkm hw1 HFU HSI hFP
  go_enter Tryz.func32, Tryz.ntmps32
  go_upto_region 1 with fail
  rw [← HW1.out]
  go_wp2_with fail
  go_loop [5] (fun iv => ∃ k : Nat, k ≤ n4 ∧ k ≤ 21 ∧ iv = .int .i64 k ∧ Hid (∀ l ∈ c.sips.take k, l.length ≤ 20)) (fun iv => n4 - (intOf iv).toNat)
  case atStart => exact ⟨0, by omega, by omega, rfl, F0⟩
  case round =>
    clear F0
    obtain ⟨k, hk, hk1, rfl, HF⟩ := hrel
    by_cases hkn : k < n4
    · have k1 : (k : Int) < (n4 : Int) := by omega
      have d1 : decide ((k : Int) < (n4 : Int)) = true := by simp; omega
      have k0 : (0 : Int) ≤ (k : Int) := by omega
      by_cases hkc : k ≤ 20
      · have d2 : decide ((k : Int) ≤ 20) = true := by simp; omega
        have d2' : (k : Int) ≤ 20 := by omega
        have hkl : k < c.sips.length := by rw [HN4.out]; exact hkn
        obtain ⟨b, o, u, e1, y1, hu⟩ := H.out.cell k hkl
        subst e1
        have HTK : Hid (c.sips.take (k + 1) = c.sips.take k ++ [c.sips[k]]) := Lib.hid (List.take_succ_eq_append_getElem hkl)
        obtain ⟨x, hx⟩ : ∃ x, c.sips[k] = x := ⟨_, rfl⟩
        rw [hx] at hu HTK
        obtain ⟨ux, uc, rfl, hum⟩ := hu.form
        obtain ⟨m, hm⟩ : ∃ m, x.length = m := ⟨_, rfl⟩
        rw [hm] at y1 hum
        have HM := Lib.hid hm
        clear hx hu hm hkl
        by_cases hm1 : m ≤ 20
        · have d3 : decide ((m : Int) > 20) = false := by simp; omega
          have HFN2 : Hid (∀ l ∈ c.sips.take (k + 1), l.length ≤ 20) := Lib.hid (by
            rw [HTK.out]
            intro l hl
            rcases List.mem_append.1 hl with h9 | h9
            · exact HF.out l h9
            · rw [List.mem_singleton] at h9; subst h9; rw [HM.out]; exact hm1)
          clear HF hm1
          go_wp2_with fail
          go_round
          case rel => exact ⟨k + 1, by omega, by omega, by go_num, HFN2⟩
          case measure => simp [intOf]; omega
        · have d3 : decide ((m : Int) > 20) = true := by simp; omega
          clear hm1
          go_wp2_with fail
          go_ret
          exact ⟨TruePost.no _, B1.out⟩
      · have d2 : decide ((k : Int) ≤ 20) = false := by simp; omega
        have d2' : ¬ (k : Int) ≤ 20 := by omega
        go_wp2_with fail
        go_at_call 83; refine HC.out.mono ?_; rintro e w2 ⟨⟨r, rfl, hr⟩, b2⟩
        have B2 := Lib.hid (B1.out.trans (b2.mono B1.out.size))
        have I2 := Lib.hid (keep_heap I1.out b2)
        clear b2 hr HC p0 p1 p5
        cases r with
        | false =>
          go_wp2_with fail
          go_ret
          exact ⟨TruePost.no _, B2.out⟩
        | true =>
          have c2 : w2.cell? ⟨w.heap.size, 2, none⟩ = some (.slice ca n2 cc) := cell_of_heap I2.out 2 rfl
          have c3 : w2.cell? ⟨w.heap.size, 3, none⟩ = some (.slice ka n3 kc) := cell_of_heap I2.out 3 rfl
          have c5 : w2.cell? ⟨w.heap.size, 5, none⟩ = some (.slice sa n4 sc) := cell_of_heap I2.out 5 rfl
          have d4 : decide ((n4 : Int) ≤ 20) = false := by simp; omega
          have d4' : ¬ (n4 : Int) ≤ 20 := by omega
          obtain ⟨b3, hb3⟩ : ∃ x, decide ((n2 : Int) ≤ 20) = x := ⟨_, rfl⟩
          obtain ⟨b4, hb4⟩ : ∃ x, decide ((n3 : Int) ≤ 20) = x := ⟨_, rfl⟩
          cases b3 with
          | false =>
            have hb3' : ¬ (n2 : Int) ≤ 20 := of_decide_eq_false hb3
            go_wp2_with fail
            go_ret
            exact ⟨TruePost.no _, B2.out⟩
          | true =>
            have hb3' : (n2 : Int) ≤ 20 := of_decide_eq_true hb3
            cases b4 with
            | false =>
              have hb4' : ¬ (n3 : Int) ≤ 20 := of_decide_eq_false hb4
              go_wp2_with fail
              go_ret
              exact ⟨TruePost.no _, B2.out⟩
            | true =>
              have hb4' : (n3 : Int) ≤ 20 := of_decide_eq_true hb4
              go_wp2_with fail
              go_ret
              exact ⟨TruePost.no _, B2.out⟩
    · obtain rfl : k = n4 := by omega
      have d1 : decide ((k : Int) < (k : Int)) = false := by simp
      go_wp2_with fail
      go_at_call 83; refine HC.out.mono ?_; rintro e w2 ⟨⟨r, rfl, hr⟩, b2⟩
      have B2 := Lib.hid (B1.out.trans (b2.mono B1.out.size))
      have I2 := Lib.hid (keep_heap I1.out b2)
      have HRR := Lib.hid hr
      clear b2 hr HC p0 p1 p5
      cases r with
      | false =>
        go_wp2_with fail
        go_ret
        exact ⟨TruePost.no _, B2.out⟩
      | true =>
        have c2 : w2.cell? ⟨w.heap.size, 2, none⟩ = some (.slice ca n2 cc) := cell_of_heap I2.out 2 rfl
        have c3 : w2.cell? ⟨w.heap.size, 3, none⟩ = some (.slice ka n3 kc) := cell_of_heap I2.out 3 rfl
        have c5 : w2.cell? ⟨w.heap.size, 5, none⟩ = some (.slice sa k sc) := cell_of_heap I2.out 5 rfl
        by_cases g2 : n2 ≤ 20
        · have t2 : decide ((n2 : Int) ≤ 20) = true := by simp; omega
          have t2' : (n2 : Int) ≤ 20 := by omega
          by_cases g3 : n3 ≤ 20
          · have t3 : decide ((n3 : Int) ≤ 20) = true := by simp; omega
            have t3' : (n3 : Int) ≤ 20 := by omega
            by_cases g4 : k ≤ 20
            · have t4 : decide ((k : Int) ≤ 20) = true := by simp; omega
              have t4' : (k : Int) ≤ 20 := by omega
              have HFF := Lib.hid (HFIN.out (HRR.out rfl) HF.out g2 g3 g4)
              go_wp2_with fail
              go_ret
              exact ⟨⟨_, rfl, fun _ => HFF.out⟩, B2.out⟩
            · have t4 : decide ((k : Int) ≤ 20) = false := by simp; omega
              have t4' : ¬ (k : Int) ≤ 20 := by omega
              go_wp2_with fail
              go_ret
              exact ⟨TruePost.no _, B2.out⟩
          · have t3 : decide ((n3 : Int) ≤ 20) = false := by simp; omega
            have t3' : ¬ (n3 : Int) ≤ 20 := by omega
            go_wp2_with fail
            go_ret
            exact ⟨TruePost.no _, B2.out⟩
        · have t2 : decide ((n2 : Int) ≤ 20) = false := by simp; omega
          have t2' : ¬ (n2 : Int) ≤ 20 := by omega
          go_wp2_with fail
          go_ret
          exact ⟨TruePost.no _, B2.out⟩
end Go.Proofs.YtfcbcpfnaadpeaaGreatDoor
