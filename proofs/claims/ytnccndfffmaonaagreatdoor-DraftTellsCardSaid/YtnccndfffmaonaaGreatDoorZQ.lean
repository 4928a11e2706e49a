/- Parts DsJ of this claim, laid one behind the other: walks and the plain laws behind them; each contract states its own conditions. -/
import Derived.Test.YtnccndfffmaonaaGreatDoorZP
/- The statement DraftBack: the walk. -/
namespace Go.Proofs.YtnccndfffmaonaaGreatDoor
set_option linter.unusedSimpArgs false
set_option linter.unusedVariables false
open Go.RowKit

theorem dv_form2 {w : World} {dv iv : Value} {d : Dr.Draft} (h : DV w dv iv d) : ∃ a1 c1 a3 c3, dv = .slice a1 d.decks.length c1 ∧ iv = .slice a3 d.items.length c3 ∧ d.decks.length ≤ 9223372036854775807 ∧ d.items.length ≤ 9223372036854775807 := by
  obtain ⟨⟨us, h1, h2, -⟩, hI⟩ := h
  obtain ⟨a, c, rfl, hm⟩ := h1.slice
  obtain ⟨a3, c3, rfl, hm3, -⟩ := hI.lines
  exact ⟨a, c, a3, c3, by rw [h2], rfl, by unfold maxLen at hm; omega, hm3⟩
set_option maxRecDepth 100000 in
set_option maxHeartbeats 32000000 in
theorem DraftBack_out (va ia : Value) (a : Dr.Draft) (src : ByteArray) (w : World) (hE : Env w) (ha : DV w va ia a) (hz : DrLens a) (h : 5000 < src.size ∨ (src.size ≤ 5000 ∧ few a = false)) :
    Calls Tryz.prog 4 #[.agg #[va, ia], .string src] w fun e w' => e = .returned (.bool true) ∧ Below w.heap.size w w' := by
  obtain ⟨a1, c1, a3, c3, rfl, rfl, hn1, hn2⟩ := dv_form2 ha
  obtain ⟨n, hn⟩ : ∃ n, n = a.decks.length := ⟨_, rfl⟩
  obtain ⟨m, hm⟩ : ∃ n, n = a.items.length := ⟨_, rfl⟩
  rw [← hn, ← hm] at ha
  rw [← hn] at hn1
  rw [← hm] at hn2
  rw [← hn, ← hm]
  clear hn hm
  have bA := (Below.refl _ w).alloc (Nat.le_refl _) (.cells #[.slice a1 n c1, .slice a3 m c3] 25)
  have HA := Lib.hid ha
  have HZ := Lib.hid hz
  have HE := Lib.hid (hE.below bA)
  have BA := Lib.hid bA
  clear ha hz hE bA
  rcases h with h | ⟨h, hf⟩
  · have e1 : (5000 : Int) < (src.size : Int) := by omega
    go_enter Tryz.func4, Tryz.ntmps4
    go_wp2_with fail
    go_at_call 7; refine (small_any_dr _ HE.out).mono ?_; rintro e w1 ⟨rfl, b1⟩
    have B1 := Lib.hid (BA.out.trans (b1.mono BA.out.size))
    clear b1
    go_wp2_with fail
    go_ret
    exact ⟨rfl, B1.out⟩
  · have e1 : (src.size : Int) ≤ 5000 := by omega
    have HF := Lib.hid hf
    clear hf
    go_enter Tryz.func4, Tryz.ntmps4
    go_wp2_with fail
    go_at_call 7; refine (small_any_dr _ HE.out).mono ?_; rintro e w1 ⟨rfl, b1⟩
    have B1 := Lib.hid (BA.out.trans (b1.mono BA.out.size))
    have i1 := (b1.block w.heap.size (by simp)).trans (heap_alloc_new _ _)
    have d0 : w1.cell? ⟨w.heap.size, 0, none⟩ = some (.slice a1 n c1) := cell_of_heap i1 0 rfl
    have d1 : w1.cell? ⟨w.heap.size, 1, none⟩ = some (.slice a3 m c3) := cell_of_heap i1 1 rfl
    clear b1 i1
    go_wp2_with fail
    go_at_call 8; refine (Few_is _ _ a false HF.out _ (HA.out.keep B1.out) HZ.out).mono ?_; rintro e w2 ⟨rfl, b2⟩
    have B2 := Lib.hid (B1.out.trans (b2.mono B1.out.size))
    clear b2
    go_wp2_with fail
    go_ret
    exact ⟨rfl, B2.out⟩

/-- The second half: what is read of the string. -/
def BackEnd (w : World) (e : Ending) (w' : World) : Prop := e = .returned (.bool true) ∧ Below w.heap.size w w'
set_option maxRecDepth 100000 in
set_option maxHeartbeats 64000000 in
theorem DraftBack_in (va ia : Value) (a : Dr.Draft) (src : ByteArray) (w : World) (hE : Env w) (ha : DV w va ia a) (hz : DrSize a) (hnm : DrNums a) (hs : src.size ≤ 5000) (hf : few a = true) :
    Calls Tryz.prog 4 #[.agg #[va, ia], .string src] w fun e w' => e = .returned (.bool true) ∧ Below w.heap.size w w' := by
  obtain ⟨a1, c1, a3, c3, rfl, rfl, hn1, hn2⟩ := dv_form2 ha
  have hemp := printB_empty a
  obtain ⟨n, hn⟩ : ∃ n, n = a.decks.length := ⟨_, rfl⟩
  obtain ⟨m, hm⟩ : ∃ n, n = a.items.length := ⟨_, rfl⟩
  rw [← hn, ← hm] at ha hemp
  rw [← hn] at hn1
  rw [← hm] at hn2
  rw [← hn, ← hm]
  have bA := (Below.refl _ w).alloc (Nat.le_refl _) (.cells #[.slice a1 n c1, .slice a3 m c3] 25)
  obtain ⟨L, hL⟩ : ∃ L, Dr.printB a = L := ⟨_, rfl⟩
  obtain ⟨R, hR⟩ : ∃ R, Dr.rightD a = R := ⟨_, rfl⟩
  rw [hL, hR] at hemp
  have HPR : Hid (R = true → L.length ≤ 20000 → ∃ b : Dr.Draft, Dr.read (bs ⟨L.toArray⟩) = .ok b ∧ Dr.same a b = true) := Lib.hid (fun h1 h2 => by
    rw [← hR] at h1
    obtain ⟨J, h3, h4⟩ := print_read h1 hnm
    rw [hL] at h3
    exact ⟨_, by rw [bs_lit0]; exact h3, h4⟩)
  have HLL : Hid (L.length ≤ 1000000000) := Lib.hid (by
    cases hR2 : Dr.rightD a with
    | true => have := body_len hR2 hnm; rw [← hL]; unfold Dr.printB; rw [hR2]; exact this
    | false => rw [← hL]; unfold Dr.printB; rw [hR2]; simp)
  have hll := HLL.out
  have HA := Lib.hid ha
  have HZ := Lib.hid hz
  have HNM := Lib.hid hnm
  have HE := Lib.hid (hE.below bA)
  have BA := Lib.hid bA
  have HF := Lib.hid hf
  have HL := Lib.hid hL
  have HR := Lib.hid hR
  have HEM := Lib.hid hemp
  have e1 : (src.size : Int) ≤ 5000 := by omega
  clear ha hz hE bA hf hL hR hnm hn hm hemp
  go_enter Tryz.func4, Tryz.ntmps4
  go_wp2_with fail
  go_at_call 7; refine (small_any_dr _ HE.out).mono ?_; rintro e w1 ⟨rfl, b1⟩
  have B1 := Lib.hid (BA.out.trans (b1.mono BA.out.size))
  have E1 := Lib.hid (HE.out.below b1)
  have i1 := (b1.block w.heap.size (by simp)).trans (heap_alloc_new _ _)
  have I1 := Lib.hid i1
  have d0 : w1.cell? ⟨w.heap.size, 0, none⟩ = some (.slice a1 n c1) := cell_of_heap i1 0 rfl
  have d1 : w1.cell? ⟨w.heap.size, 1, none⟩ = some (.slice a3 m c3) := cell_of_heap i1 1 rfl
  clear b1 i1 HE
  go_wp2_with fail
  go_at_call 8; refine (Few_is _ _ a true HF.out _ (HA.out.keep B1.out) (DrLens.of a HZ.out)).mono ?_; rintro e w2 ⟨rfl, b2⟩
  have B2 := Lib.hid (B1.out.trans (b2.mono B1.out.size))
  have E2 := Lib.hid (E1.out.below b2)
  have I2 := Lib.hid ((b2.block w.heap.size (Array.getElem?_eq_some_iff.1 I1.out).1).trans I1.out)
  clear b2 d0 d1 B1 E1 I1
  have d0 : w2.cell? ⟨w.heap.size, 0, none⟩ = some (.slice a1 n c1) := cell_of_heap I2.out 0 rfl
  have d1 : w2.cell? ⟨w.heap.size, 1, none⟩ = some (.slice a3 m c3) := cell_of_heap I2.out 1 rfl
  go_wp2_with fail
  go_at_call 14; refine (Print_is _ _ a L HL.out _ (HA.out.keep B2.out) HZ.out HNM.out E2.out).mono ?_; rintro e w3 ⟨rfl, b3⟩
  have B3 := Lib.hid (B2.out.trans (b3.mono B2.out.size))
  have E3 := Lib.hid (E2.out.below b3)
  have I3 := Lib.hid ((b3.block w.heap.size (Array.getElem?_eq_some_iff.1 I2.out).1).trans I2.out)
  clear b3 d0 d1 B2 E2 I2
  have d0 : w3.cell? ⟨w.heap.size, 0, none⟩ = some (.slice a1 n c1) := cell_of_heap I3.out 0 rfl
  have d1 : w3.cell? ⟨w.heap.size, 1, none⟩ = some (.slice a3 m c3) := cell_of_heap I3.out 1 rfl
  obtain ⟨N0, hN0⟩ : ∃ N0, decide (n = 0) = N0 := ⟨_, rfl⟩
  obtain ⟨M0, hM0⟩ : ∃ M0, decide (m = 0) = M0 := ⟨_, rfl⟩
  obtain ⟨L0, hL0⟩ : ∃ L0, L.isEmpty = L0 := ⟨_, rfl⟩
  have HEM2 : Hid (R = (!L0 || (N0 && M0))) := Lib.hid (by rw [HEM.out, hN0, hM0, hL0])
  go_upto_region 5 with fail
  go_cut [7] (fun v wx => v = .bool (N0 && M0) ∧ wx = w3)
  case first =>
    by_cases hn : n = 0
    · have k1 : ((n : Int) == 0) = true := beq_iff_eq.2 (by omega)
      by_cases hm : m = 0
      · have k2 : ((m : Int) == 0) = true := beq_iff_eq.2 (by omega)
        have HV : Hid ((N0 && M0) = true) := Lib.hid (by rw [← hN0, ← hM0, hn, hm]; rfl)
        clear hN0 hM0 hL0 hn hm
        go_wp2_with fail
        go_meet
        exact ⟨by rw [HV.out], rfl⟩
      · have k2 : ((m : Int) == 0) = false := beq_eq_false_iff_ne.2 (by omega)
        have HV : Hid ((N0 && M0) = false) := Lib.hid (by rw [← hM0, decide_eq_false hm, Bool.and_false])
        clear hN0 hM0 hL0 hn hm
        go_wp2_with fail
        go_meet
        exact ⟨by rw [HV.out], rfl⟩
    · have k1 : ((n : Int) == 0) = false := beq_eq_false_iff_ne.2 (by omega)
      have HV : Hid ((N0 && M0) = false) := Lib.hid (by rw [← hN0, decide_eq_false hn, Bool.false_and])
      clear hN0 hM0 hL0 hn
      go_wp2_with fail
      go_meet
      exact ⟨by rw [HV.out], rfl⟩
  case rest =>
    obtain ⟨rfl, rfl⟩ := hcut
    obtain ⟨w3, rfl⟩ : ∃ w3 : World, w3 = wc := ⟨_, rfl⟩
    have HL0 := Lib.hid hL0
    obtain ⟨V0, hV0⟩ : ∃ V0, (N0 && M0) = V0 := ⟨_, rfl⟩
    rw [hV0] at HEM2 ⊢
    have hl0 : (L == []) = L0 := by rw [← HL0.out]; cases L <;> rfl
    clear hN0 hM0 hL0 hV0
    go_upto_region 6 with fail
    go_cut [47] (fun v wx => v = .bool false ∧ Hid (Below w3.heap.size w3 wx))
    case first =>
      go_wp2_with fail
      go_at_call 12; refine (Right_is _ _ a R HR.out _ (HA.out.keep B3.out) HZ.out).mono ?_; rintro e w4 ⟨rfl, b4⟩
      have B4 := Lib.hid b4
      clear b4
      have hem := HEM2.out
      cases L0 with
      | true =>
        cases V0 with
        | true =>
          obtain rfl : R = true := hem
          go_wp2_with fail
          go_meet
          exact ⟨rfl, B4⟩
        | false =>
          obtain rfl : R = false := hem
          go_wp2_with fail
          go_meet
          exact ⟨rfl, B4⟩
      | false =>
        obtain rfl : R = true := hem
        go_wp2_with fail
        go_meet
        exact ⟨rfl, B4⟩
    case rest =>
      obtain ⟨rfl, b4⟩ := hcut
      obtain ⟨w4, rfl⟩ : ∃ w4 : World, w4 = wc := ⟨_, rfl⟩
      have B4 := Lib.hid (B3.out.trans (b4.out.mono B3.out.size))
      have E4 := Lib.hid (E3.out.below b4.out)
      have I4 := Lib.hid ((b4.out.block w.heap.size (Array.getElem?_eq_some_iff.1 I3.out).1).trans I3.out)
      clear b4 d0 d1 B3 E3 I3 HEM2
      have d0 : w4.cell? ⟨w.heap.size, 0, none⟩ = some (.slice a1 n c1) := cell_of_heap I4.out 0 rfl
      have d1 : w4.cell? ⟨w.heap.size, 1, none⟩ = some (.slice a3 m c3) := cell_of_heap I4.out 1 rfl
      obtain ⟨T, hT⟩ : ∃ T, T = (R && decide (L.length ≤ 20000)) := ⟨_, rfl⟩
      have HT := Lib.hid hT
      clear hT
      go_upto_region 8 with fail
      go_cut [54] (fun v wx => v = .bool T ∧ Hid (Below w4.heap.size w4 wx))
      case first =>
        go_wp2_with fail
        go_at_call 12; refine (Right_is _ _ a R HR.out _ (HA.out.keep B4.out) HZ.out).mono ?_; rintro e w5 ⟨rfl, b5⟩
        have B5 := Lib.hid b5
        clear b5
        have hT := HT.out
        cases R with
        | true =>
          by_cases h2 : L.length ≤ 20000
          · have h2I : (L.length : Int) ≤ 20000 := by omega
            obtain rfl : T = true := by rw [hT, decide_eq_true h2]; rfl
            clear hT
            go_wp2_with fail
            go_meet
            exact ⟨rfl, B5⟩
          · have h2I : (20000 : Int) < (L.length : Int) := by omega
            obtain rfl : T = false := by rw [hT, decide_eq_false h2]; rfl
            clear hT
            go_wp2_with fail
            go_meet
            exact ⟨congrArg Value.bool (decide_eq_false (by omega)), B5⟩
        | false =>
          obtain rfl : T = false := hT
          go_wp2_with fail
          go_meet
          exact ⟨rfl, B5⟩
      case rest =>
        obtain ⟨rfl, b5⟩ := hcut
        obtain ⟨w5, rfl⟩ : ∃ w5 : World, w5 = wc := ⟨_, rfl⟩
        have B5 := Lib.hid (B4.out.trans (b5.out.mono B4.out.size))
        have E5 := Lib.hid (E4.out.below b5.out)
        have I5 := Lib.hid ((b5.out.block w.heap.size (Array.getElem?_eq_some_iff.1 I4.out).1).trans I4.out)
        clear b5 d0 d1 B4 E4 I4
        have d0 : w5.cell? ⟨w.heap.size, 0, none⟩ = some (.slice a1 n c1) := cell_of_heap I5.out 0 rfl
        have d1 : w5.cell? ⟨w.heap.size, 1, none⟩ = some (.slice a3 m c3) := cell_of_heap I5.out 1 rfl
        have ls : w.heap.size < w5.heap.size := (Array.getElem?_eq_some_iff.1 I5.out).1
        go_upto_if 54 with (fail)
        go_cut [] (fun wx => Hid (Below w5.heap.size w5 wx))
        case first =>
          cases hTv : T with
          | true =>
            have hT := HT.out
            rw [hTv] at hT
            have hT2 := hT.symm
            rw [Bool.and_eq_true, decide_eq_true_eq] at hT2
            obtain ⟨b, hb1, hb2⟩ := HPR.out hT2.1 hT2.2
            have hbl : (⟨L.toArray⟩ : ByteArray).size ≤ 20000 := by rw [← bs_len, bs_lit0]; exact hT2.2
            have HB1 := Lib.hid hb1
            have HB2 := Lib.hid hb2
            subst hTv
            clear hT hT2 hb1 hb2
            go_wp2_with fail
            go_at_call 9; refine (Parse_ok _ b HB1.out _ E5.out hbl).mono ?_; rintro e w6 ⟨dv, iv, rfl, D6, b6⟩
            obtain ⟨a5, c5, a7, c7, rfl, rfl, hy1, hy2⟩ := dv_form2 D6
            have B6 := Lib.hid b6
            have D6 := Lib.hid D6
            have I6 := Lib.hid ((b6.block w.heap.size ls).trans I5.out)
            clear b6 d0 d1
            have d0 : w6.cell? ⟨w.heap.size, 0, none⟩ = some (.slice a1 n c1) := cell_of_heap I6.out 0 rfl
            have d1 : w6.cell? ⟨w.heap.size, 1, none⟩ = some (.slice a3 m c3) := cell_of_heap I6.out 1 rfl
            have ls6 : w.heap.size < w6.heap.size := (Array.getElem?_eq_some_iff.1 I6.out).1
            have A6 := Lib.hid ((HA.out.keep B5.out).keep B6.out)
            go_wp2_with fail
            have bA := (Below.refl _ w6).alloc (Nat.le_refl _) (.cells #[.slice a5 b.decks.length c5, .slice a7 b.items.length c7] 25)
            go_at_call 11; refine (rSame_is _ _ _ _ a b true HB2.out _ (by exact A6.out.keep bA) (by exact D6.out.keep bA)).mono ?_; rintro e w7 ⟨rfl, b7⟩
            have bB := bA.trans (b7.mono bA.size)
            have B7 := Lib.hid (B6.out.trans (bB.mono B6.out.size))
            have A7 := Lib.hid (A6.out.keep bB)
            have D7 := Lib.hid (D6.out.keep bB)
            have i7 := (bB.block w.heap.size ls6).trans I6.out
            have j7 := (b7.block w6.heap.size (by simp)).trans (heap_alloc_new w6 (.cells #[.slice a5 b.decks.length c5, .slice a7 b.items.length c7] 25))
            clear d0 d1 bA b7 bB
            have d0 : w7.cell? ⟨w.heap.size, 0, none⟩ = some (.slice a1 n c1) := cell_of_heap i7 0 rfl
            have d1 : w7.cell? ⟨w.heap.size, 1, none⟩ = some (.slice a3 m c3) := cell_of_heap i7 1 rfl
            have d2 : w7.cell? ⟨w6.heap.size, 0, none⟩ = some (.slice a5 b.decks.length c5) := cell_of_heap j7 0 rfl
            have d3 : w7.cell? ⟨w6.heap.size, 1, none⟩ = some (.slice a7 b.items.length c7) := cell_of_heap j7 1 rfl
            clear i7 j7
            go_wp2_with fail
            go_at_call 16; refine (Same_is _ _ _ _ a b true HB2.out _ A7.out D7.out).mono ?_; rintro e w8 ⟨rfl, b8⟩
            have B8 := Lib.hid (B7.out.trans (b8.mono B7.out.size))
            clear b8
            go_wp2_with fail
            go_meet
            exact B8
          | false =>
            subst hTv
            go_wp2_with fail
            go_meet
            exact Lib.hid (Below.refl _ _)
        case rest =>
          obtain ⟨w6, rfl⟩ : ∃ w6 : World, w6 = wc := ⟨_, rfl⟩
          have B6 := Lib.hid (B5.out.trans (hcut.out.mono B5.out.size))
          have E6 := Lib.hid (E5.out.below hcut.out)
          clear hcut B5 E5 I5 d0 d1 ls HT HPR
          cases hG : Dr.read (bs src) with
          | error x =>
            obtain ⟨z, ln⟩ := x
            have HRD := Lib.hid hG
            have hz := Dr.read_code hG
            have hz2 : ((z : Int) != 0) = true := by simp; omega
            have hln : (0 : Int) ≤ (ln : Int) := by omega
            clear hG hz
            go_wp2_with fail
            go_at_call 9; refine (Parse_bad src z ln HRD.out _ E6.out (by omega)).mono ?_; rintro e w7 ⟨rfl, b7⟩
            have B7 := Lib.hid (B6.out.trans (b7.mono B6.out.size))
            clear b7
            go_wp2_with fail
            go_ret
            exact ⟨rfl, B7.out.alloc B7.out.size _⟩
          | ok d =>
            obtain ⟨ts, hl, hp⟩ := Dr.read_parts hG
            obtain ⟨hrd, hnd⟩ := Dr.read_right hl hp
            have HRD := Lib.hid hG
            have HRT := Lib.hid hrd
            have HND : Hid (DrNums d) := Lib.hid hnd
            have HDZ := Lib.hid (right_size hrd)
            obtain ⟨K, hK⟩ : ∃ K, Dr.printB d = K := ⟨_, rfl⟩
            obtain ⟨J, hJ1, hJ2⟩ := print_read hrd hnd
            have hkl := body_len hrd hnd
            have hkk : Dr.printB d = Dr.bodyB d := by unfold Dr.printB; rw [hrd]; rfl
            rw [← hkk, hK] at hkl
            rw [hK] at hJ1
            have HK := Lib.hid hK
            have HJ1 : Hid (Dr.read (bs ⟨K.toArray⟩) = .ok ⟨d.decks, J⟩) := Lib.hid (by rw [bs_lit0]; exact hJ1)
            have HJ2 := Lib.hid hJ2
            clear hG ts hl hp hrd hnd hK hJ1 hJ2 hkk
            go_wp2_with fail
            go_at_call 9; refine (Parse_ok src d HRD.out _ E6.out (by omega)).mono ?_; rintro e w7 ⟨dv, iv, rfl, D7, b7⟩
            obtain ⟨a5, c5, a7, c7, rfl, rfl, hy1, hy2⟩ := dv_form2 D7
            have B7 := Lib.hid (B6.out.trans (b7.mono B6.out.size))
            have E7 := Lib.hid (E6.out.below b7)
            have D7 := Lib.hid D7
            clear b7 B6 E6
            go_wp2_with fail
            have bA := (Below.refl _ w7).alloc (Nat.le_refl _) (.cells #[.slice a5 d.decks.length c5, .slice a7 d.items.length c7] 25)
            go_at_call 14; refine (Print_is _ _ d K HK.out _ (by exact D7.out.keep bA) HDZ.out HND.out (by exact E7.out.below bA)).mono ?_; rintro e w8 ⟨rfl, b8⟩
            have bB := bA.trans (b8.mono bA.size)
            have B8 := Lib.hid (B7.out.trans (bB.mono B7.out.size))
            have E8 := Lib.hid (E7.out.below bB)
            have D8 := Lib.hid (D7.out.keep bB)
            have I8 : Hid (w8.heap[w7.heap.size]? = some (.cells #[.slice a5 d.decks.length c5, .slice a7 d.items.length c7] 25 (0, 0))) := Lib.hid ((b8.block w7.heap.size (by simp)).trans (heap_alloc_new _ _))
            clear bA b8 bB B7 E7 D7
            have d0 : w8.cell? ⟨w7.heap.size, 0, none⟩ = some (.slice a5 d.decks.length c5) := cell_of_heap I8.out 0 rfl
            have d1 : w8.cell? ⟨w7.heap.size, 1, none⟩ = some (.slice a7 d.items.length c7) := cell_of_heap I8.out 1 rfl
            go_wp2_with fail
            go_at_call 12; refine (Right_is _ _ d true HRT.out _ D8.out HDZ.out).mono ?_; rintro e w9 ⟨rfl, b9⟩
            have B9 := Lib.hid (B8.out.trans (b9.mono B8.out.size))
            have E9 := Lib.hid (E8.out.below b9)
            have D9 := Lib.hid (D8.out.keep b9)
            have I9 := Lib.hid ((b9.block w7.heap.size (Array.getElem?_eq_some_iff.1 I8.out).1).trans I8.out)
            have ls9 : w7.heap.size < w9.heap.size := (Array.getElem?_eq_some_iff.1 I9.out).1
            clear b9 d0 d1 B8 E8 D8 I8
            have d0 : w9.cell? ⟨w7.heap.size, 0, none⟩ = some (.slice a5 d.decks.length c5) := cell_of_heap I9.out 0 rfl
            have d1 : w9.cell? ⟨w7.heap.size, 1, none⟩ = some (.slice a7 d.items.length c7) := cell_of_heap I9.out 1 rfl
            by_cases h2 : K.length ≤ 20000
            · have h2I : (K.length : Int) ≤ 20000 := by omega
              have hbl : (⟨K.toArray⟩ : ByteArray).size ≤ 20000 := by rw [← bs_len, bs_lit0]; exact h2
              go_wp2_with fail
              go_at_call 9; refine (Parse_ok _ _ HJ1.out _ E9.out hbl).mono ?_; rintro e w10 ⟨dv, iv, rfl, D10, b10⟩
              obtain ⟨a9, c9, a11, c11, rfl, rfl, hv1, hv2⟩ := dv_form2 D10
              have B10 := Lib.hid (B9.out.trans (b10.mono B9.out.size))
              have D9' := Lib.hid (D9.out.keep b10)
              have D10 := Lib.hid D10
              have I10 := Lib.hid ((b10.block w7.heap.size ls9).trans I9.out)
              have ls10 : w7.heap.size < w10.heap.size := (Array.getElem?_eq_some_iff.1 I10.out).1
              clear b10 d0 d1 B9 E9 D9 I9
              have d0 : w10.cell? ⟨w7.heap.size, 0, none⟩ = some (.slice a5 d.decks.length c5) := cell_of_heap I10.out 0 rfl
              have d1 : w10.cell? ⟨w7.heap.size, 1, none⟩ = some (.slice a7 d.items.length c7) := cell_of_heap I10.out 1 rfl
              go_wp2_with fail
              go_at_call 16; refine (Same_is _ _ _ _ d _ true HJ2.out _ (by exact D9'.out.keep ((Below.refl _ w10).alloc (Nat.le_refl _) _)) (by exact D10.out.keep ((Below.refl _ w10).alloc (Nat.le_refl _) _))).mono ?_; rintro e w11 ⟨rfl, b11⟩
              have B11 := Lib.hid ((B10.out.alloc B10.out.size _).trans (b11.mono (B10.out.alloc B10.out.size _).size))
              clear b11
              go_wp2_with fail
              go_ret
              exact ⟨rfl, B11.out⟩
            · have h2I : (20000 : Int) < (K.length : Int) := by omega
              go_wp2_with fail
              go_ret
              exact ⟨rfl, B9.out⟩
theorem DraftBack_any (va ia : Value) (a : Dr.Draft) (src : ByteArray) (w : World) (hE : Env w) (ha : DV w va ia a) (hz : DrLens a) (hnm : DrNums a) :
    Calls Tryz.prog 4 #[.agg #[va, ia], .string src] w fun e w' => e = .returned (.bool true) ∧ Below w.heap.size w w' := by
  by_cases hs : src.size ≤ 5000
  · cases hf : few a with
    | true => exact DraftBack_in va ia a src w hE ha (few_size hf) hnm hs hf
    | false => exact DraftBack_out va ia a src w hE ha hz (.inr ⟨hs, hf⟩)
  · exact DraftBack_out va ia a src w hE ha hz (.inl (by omega))
end Go.Proofs.YtnccndfffmaonaaGreatDoor
