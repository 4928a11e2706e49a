/- Parts DrH, DrO of this claim, laid one behind the other: walks and the plain laws behind them; each contract states its own conditions. -/
import Derived.Test.YtnccndfffmaonaaGreatDoorZJ
import Derived.Deep.DeepCutAuto
/- Walks of package draft: right, of a known kind. -/
namespace Go.Proofs.YtnccndfffmaonaaGreatDoor
set_option linter.unusedSimpArgs false
set_option linter.unusedVariables false
open Go.RowKit Go.Maps

theorem index_has (l : List UInt8) (c : UInt8) : decide (0 ≤ Lib.indexByte l c) = l.contains c := by
  induction l with
  | nil => rfl
  | cons a l ih =>
    rw [List.contains_cons, Lib.indexByte]
    by_cases h : a = c
    · subst h; simp
    · have h2 : ¬ c = a := fun e => h e.symm
      rw [if_neg (by simpa using h)]
      have hge := Lib.indexByte_ge l c
      rw [← ih]
      by_cases h3 : Lib.indexByte l c = -1
      · rw [if_pos (by simpa using h3), h3]; simp [h2]
      · rw [if_neg (by simpa using h3), show (c == a) = false from beq_eq_false_iff_ne.2 h2, Bool.false_or]
        exact decide_eq_decide.2 (by omega)
set_option maxRecDepth 100000 in
set_option maxHeartbeats 64000000 in
theorem right_in (x : Dr.Item) (k : Nat) (hk : k < 6) (hxk : x.kind = (k : Int)) (nv : Value) (w : World) (hn : Sl w nv (ints x.n)) (hl1 : x.name.length ≤ 140737488355328) (hl2 : x.other.length ≤ 140737488355328) :
    Calls Tryz.prog 31 #[itemV x nv] w fun e w' => e = .returned (.bool (Dr.rightI x)) ∧ Below w.heap.size w w' := by
  obtain ⟨na, nc, rfl, hnm⟩ := hn.slice
  obtain ⟨L, hL⟩ : ∃ L, (ints x.n).length = L := ⟨_, rfl⟩
  have HL : Hid (x.n.length = L) := Lib.hid (by rw [← hL, ints_len])
  rw [hL] at hn hnm ⊢
  have hnm2 : L ≤ 9223372036854775807 := by unfold maxLen at hnm; omega
  have B1 := Lib.hid (((Below.refl _ w).alloc (Nat.le_refl _) (.cells #[.int .i64 k, .int .i64 x.line, .string ⟨x.name.toArray⟩, .string ⟨x.other.toArray⟩, .slice na L nc] 34)).alloc (by simp) (.cells formsC.toArray 86))
  have HN := Lib.hid hn
  have HN1 := Lib.hid (hn.below B1.out)
  obtain ⟨Q, hQ⟩ : ∃ Q, Dr.partsOf k = Q := ⟨_, rfl⟩
  have hfc := forms_cell k hk
  rw [hQ] at hfc
  obtain ⟨P, hP⟩ : ∃ P : ByteArray, P = ⟨Q.toArray⟩ := ⟨_, rfl⟩
  rw [← hP] at hfc
  have HP : Hid (P.data.toList = Q) := Lib.hid (by rw [hP])
  have HQ := Lib.hid hQ
  have HK := Lib.hid hxk
  have hd : decide ((k : Int) < 0) = false := decide_eq_false (by omega)
  have hd2 : decide (6 ≤ (k : Int)) = false := decide_eq_false (by omega)
  have kI0 : (0 : Int) ≤ (k : Int) := by omega
  have kI1 : (k : Int) < 6 := by omega
  have kI2 : (k : Int).toNat = k := by omega
  unfold itemV
  rw [hxk]
  obtain ⟨p8, -, -⟩ := parts_four k hk
  rw [hQ] at p8
  obtain ⟨W, hW⟩ : ∃ W, Q.count 119 = W := ⟨_, rfl⟩
  obtain ⟨n1, hn1⟩ : ∃ n1, Q.count 110 = n1 := ⟨_, rfl⟩
  obtain ⟨n2, hn2⟩ : ∃ n2, Q.count 100 = n2 := ⟨_, rfl⟩
  obtain ⟨O, hO⟩ : ∃ O, Q.contains 111 = O := ⟨_, rfl⟩
  have W8 : W ≤ 8 := by have := List.count_le_length (a := (119 : UInt8)) (l := Q); omega
  have n18 : n1 ≤ 8 := by have := List.count_le_length (a := (110 : UInt8)) (l := Q); omega
  have n28 : n2 ≤ 8 := by have := List.count_le_length (a := (100 : UInt8)) (l := Q); omega
  obtain ⟨m, hm⟩ : ∃ m, n1 + n2 = m := ⟨_, rfl⟩
  have HM : Hid (Dr.nums x.kind.toNat = m) := Lib.hid (by rw [hxk, kI2]; unfold Dr.nums; rw [hQ, hn1, hn2, hm])
  have HWK : Hid (Dr.words x.kind.toNat = W) := Lib.hid (by rw [hxk, kI2]; unfold Dr.words; rw [hQ, hW])
  have HOK : Hid ((Dr.partsOf x.kind.toNat).contains 111 = O) := Lib.hid (by rw [hxk, kI2, hQ, hO])
  have hsum : IntKind.i64.wrap ((n1 : Int) + (n2 : Int)) = (m : Int) := by
    rw [IntWalk.i64_in _ (by omega)]; omega
  have hcb : ∀ c : UInt8, Lib.countByte P.data.toList c = Q.count c := fun c => by rw [HP.out]; rfl
  have HCW : Hid (Lib.countByte P.data.toList 119 = W) := Lib.hid ((hcb 119).trans hW)
  have HC1 : Hid (Lib.countByte P.data.toList 110 = n1) := Lib.hid ((hcb 110).trans hn1)
  have HC2 : Hid (Lib.countByte P.data.toList 100 = n2) := Lib.hid ((hcb 100).trans hn2)
  have HCO : Hid (decide (0 ≤ Lib.indexByte P.data.toList 111) = O) := Lib.hid (by rw [HP.out, ← hO, ← index_has])
  obtain ⟨NW, hNW⟩ : ∃ NW, Lx.word x.name = NW := ⟨_, rfl⟩
  obtain ⟨OW, hOW⟩ : ∃ OW, Lx.word x.other = OW := ⟨_, rfl⟩
  have HNW : Hid (Lx.word (bs ⟨x.name.toArray⟩) = NW) := Lib.hid (by rw [bs_lit0]; exact hNW)
  have HOW : Hid (Lx.word (bs ⟨x.other.toArray⟩) = OW) := Lib.hid (by rw [bs_lit0]; exact hOW)
  have HNS : Hid ((⟨x.name.toArray⟩ : ByteArray).size ≤ 140737488355328) := Lib.hid (by rw [← bs_len, bs_lit0]; exact hl1)
  have HOS : Hid ((⟨x.other.toArray⟩ : ByteArray).size ≤ 140737488355328) := Lib.hid (by rw [← bs_len, bs_lit0]; exact hl2)
  obtain ⟨A, hA⟩ : ∃ A, Dr.nameOk x = A := ⟨_, rfl⟩
  obtain ⟨B, hB⟩ : ∃ B, Dr.otherOk x = B := ⟨_, rfl⟩
  have HA : Hid (A = ((decide (x.name = []) && decide (W = 0)) || ((decide (0 < W) || O) && NW))) := Lib.hid (by rw [← hA]; unfold Dr.nameOk; rw [HWK.out, HOK.out, hNW])
  have HB : Hid (B = ((decide (x.other = []) && decide (W < 2)) || (decide (W = 2) && OW))) := Lib.hid (by rw [← hB]; unfold Dr.otherOk; rw [HWK.out, hOW])
  have HAB : Hid (Dr.nameOk x = A ∧ Dr.otherOk x = B) := Lib.hid ⟨hA, hB⟩
  clear hQ hP hn hxk hL hW hn1 hn2 hO hm hcb hNW hOW hA hB hl1 hl2 p8
  obtain ⟨G, hneg⟩ : ∃ G, x.n.any (fun n => decide (n < 0)) = G := ⟨_, rfl⟩
  have HG := Lib.hid hneg
  clear hneg
  go_enter Tryz.func31, Tryz.ntmps31
  go_upto_region 1 with fail
  go_cut [22] (fun v wx => v = .bool G ∧ Hid (wx.heap[w.heap.size]? = some (.cells #[.int .i64 k, .int .i64 x.line, .string ⟨x.name.toArray⟩, .string ⟨x.other.toArray⟩, .slice na L nc] 34 (0, 0))) ∧ Hid (Below w.heap.size w wx))
  case first =>
    first
      | (go_region_with (first | (go_at_call 48; refine (forms_any _).mono ?_; rintro e w3 ⟨rfl, rfl⟩) | (go_at_call 56; refine (neg_contains _ x.n _ (by exact HN1.out)).mono ?_; rintro e w4 ⟨rfl, b4⟩; rw [HG.out])))
      | fail
    all_goals
      have B2 := Lib.hid (B1.out.drew.trans (b4.mono B1.out.size))
      have i0 : w4.heap[w.heap.size]? = some (.cells #[.int .i64 k, .int .i64 x.line, .string ⟨x.name.toArray⟩, .string ⟨x.other.toArray⟩, .slice na L nc] 34 (0, 0)) := (b4.block w.heap.size (by simp; omega)).trans ((heap_alloc_old _ _ (by simp)).trans (heap_alloc_new _ _))
      have I0 := Lib.hid i0
      clear b4 i0
      go_wp2_with fail
      go_meet
      exact ⟨rfl, I0, B2⟩
  case rest =>
    obtain ⟨rfl, I0, B2⟩ := hcut
    clear HN1 B1
    cases hG2 : G with
    | true =>
      have HR := Lib.hid (rightI_any x (HG.out.trans hG2))
      subst hG2
      go_wp2_with fail
      go_ret
      exact ⟨by rw [HR.out]; rfl, B2.out⟩
    | false =>
      subst hG2
      have c0 : wc.cell? ⟨w.heap.size, 0, none⟩ = some (.int .i64 k) := cell_of_heap I0.out 0 rfl
      have hsz : w.heap.size < wc.heap.size := (Array.getElem?_eq_some_iff.1 I0.out).1
      go_upto_region 3 with fail
      go_cut [3] (fun v wx => v = .string P ∧ Hid (wx.heap[w.heap.size]? = some (.cells #[.int .i64 k, .int .i64 x.line, .string ⟨x.name.toArray⟩, .string ⟨x.other.toArray⟩, .slice na L nc] 34 (0, 0))) ∧ Hid (Below w.heap.size w wx))
      case first =>
        first
          | (go_region_with ((go_at_call 48; refine (forms_any _).mono ?_; rintro e w3 ⟨rfl, rfl⟩)))
          | fail
        all_goals
          go_wp2_with fail
          go_meet
          exact ⟨rfl, Lib.hid ((heap_alloc_old _ _ hsz).trans I0.out), Lib.hid (B2.out.alloc (by omega) _).drew⟩
      case rest =>
        obtain ⟨rfl, I1, B3⟩ := hcut
        have S3 := Lib.hid (HN.out.below B3.out)
        clear c0 hsz I0 B2
        have c0 : wc.cell? ⟨w.heap.size, 0, none⟩ = some (.int .i64 k) := cell_of_heap I1.out 0 rfl
        have c2 : wc.cell? ⟨w.heap.size, 2, none⟩ = some (.string ⟨x.name.toArray⟩) := cell_of_heap I1.out 2 rfl
        have c3 : wc.cell? ⟨w.heap.size, 3, none⟩ = some (.string ⟨x.other.toArray⟩) := cell_of_heap I1.out 3 rfl
        have c4 : wc.cell? ⟨w.heap.size, 4, none⟩ = some (.slice na L nc) := cell_of_heap I1.out 4 rfl
        have hsz : w.heap.size < wc.heap.size := (Array.getElem?_eq_some_iff.1 I1.out).1
        go_wp2_with (go_at_call 58; refine (Tryz.strings_Count_one P 119 _).mono ?_; rintro e w3 ⟨rfl, rfl⟩; rw [HCW.out])
        first
          | (go_region_held3 (fun w' => w'.cell? ⟨w.heap.size, 4, none⟩ = some (.slice na L nc)) (go_keep) (first | (go_at_call 58; with_reducible refine (Tryz.strings_Count_one P 110 _).mono ?_; rintro e w3 ⟨rfl, rfl⟩; rw [HC1.out]) | (go_at_call 58; with_reducible refine (Tryz.strings_Count_one P 100 _).mono ?_; rintro e w3 ⟨rfl, rfl⟩; rw [HC2.out])))
          | fail
        by_cases hlm : L = m
        · have e5 : ((L : Int) != (m : Int)) = false := by rw [hlm]; simp
          obtain ⟨D, hD⟩ : ∃ D, decide (x.kind = 2 ∧ 6 ≤ x.n.getD 3 0) = D := ⟨_, rfl⟩
          have HD := Lib.hid hD
          clear hD
          go_upto_region 7 with fail
          go_cut [49] (fun v wx => v = .bool D ∧ wx = w3.drew)
          case first =>
            by_cases hk2 : k = 2
            · have hm4 : m = 4 := by have := HM.out; rw [HK.out, hk2] at this; exact this.symm
              obtain ⟨nb, no, nc', e1, -, hcs⟩ := S3.out.some (by rw [ints_len, HL.out]; omega)
              have hx3 : 3 < x.n.length := by rw [HL.out]; omega
              obtain ⟨v, hv⟩ : ∃ v, x.n.getD 3 0 = v := ⟨_, rfl⟩
              have hc3 : w3.cell? ⟨nb, no + 3, none⟩ = some (.int .i64 v) := by
                rw [hcs 3 (by rw [ints_len]; exact hx3), ← hv]
                simp [ints, hx3]
              injection e1 with e1 e2 e3
              subst e1
              have HV : Hid (decide (6 ≤ v) = D) := Lib.hid (by rw [← HD.out, HK.out, hk2, hv]; simp)
              have hL4 : (3 : Int) < (L : Int) := by omega
              have hL5 : 3 < L := by omega
              subst hk2
              clear hcs hv e2 e3 hx3 hm4 hlm
              go_wp2_with fail
              go_meet
              exact ⟨by rw [← HV.out], rfl⟩
            · have e2 : ((k : Int) == 2) = false := beq_eq_false_iff_ne.2 (by omega)
              have HV : Hid (false = D) := Lib.hid (by rw [← HD.out, HK.out, decide_eq_false (by omega)])
              go_wp2_with fail
              go_meet
              exact ⟨by rw [← HV.out], rfl⟩
          case rest =>
            obtain ⟨rfl, rfl⟩ := hcut
            cases hDv : D with
            | true =>
              have HR := Lib.hid (rightI_dir x (by have := HD.out; rw [hDv] at this; exact of_decide_eq_true this))
              subst hDv
              go_wp2_with fail
              go_ret
              exact ⟨by rw [HR.out]; rfl, B3.out.drew⟩
            | false =>
              have HR : Hid (Dr.rightI x = (A && B)) := Lib.hid (by
                rw [rightI_rest x (by rw [HK.out]; omega) (by rw [HK.out]; omega) HG.out (by rw [HL.out, HM.out]; exact hlm) (by have := HD.out; rw [hDv] at this; exact of_decide_eq_false this), HAB.out.1, HAB.out.2])
              subst hDv
              go_upto_region 10 with (go_at_call 59; with_reducible refine (Tryz.strings_Contains_one P 111 _).mono ?_; rintro e w4 ⟨rfl, rfl⟩; rw [HCO.out])
              go_cut [6] (fun v wx => v = .bool A ∧ wx = w3.drew)
              case first =>
                have hw : W = 0 ∨ 0 < W := by omega
                by_cases hx : x.name = []
                · have hx1 : (x.name == []) = true := by rw [hx]; rfl
                  have HX := Lib.hid hx
                  clear hx
                  rcases hw with hw | hw
                  · have HW := Lib.hid hw
                    have w1 : ((W : Int) == 0) = true := beq_iff_eq.2 (by omega)
                    clear hw
                    go_wp2_with fail
                    go_meet
                    exact ⟨congrArg Value.bool (by rw [HA.out]; simp [HX.out, HW.out]), rfl⟩
                  · have w1 : ((W : Int) == 0) = false := beq_eq_false_iff_ne.2 (by omega)
                    have w2 : decide ((0 : Int) < (W : Int)) = true := decide_eq_true (by omega)
                    go_wp2_with (go_at_call 60; refine (Word_any ⟨x.name.toArray⟩ NW HNW.out _ HNS.out).mono ?_; rintro e w5 ⟨rfl, rfl⟩)
                    go_meet
                    exact ⟨congrArg Value.bool (by rw [HA.out]; simp [HX.out, hw, show ¬ W = 0 by omega]), rfl⟩
                · have hx1 : (x.name == []) = false := by simpa using hx
                  have HX := Lib.hid hx
                  clear hx
                  rcases hw with hw | hw
                  · subst hw
                    cases hO : O with
                    | true =>
                      subst hO
                      go_wp2_with (go_at_call 60; refine (Word_any ⟨x.name.toArray⟩ NW HNW.out _ HNS.out).mono ?_; rintro e w5 ⟨rfl, rfl⟩)
                      go_meet
                      exact ⟨congrArg Value.bool (by rw [HA.out]; simp [HX.out]), rfl⟩
                    | false =>
                      subst hO
                      go_wp2_with fail
                      go_meet
                      exact ⟨congrArg Value.bool (by rw [HA.out]; simp [HX.out]), rfl⟩
                  · have w1 : ((W : Int) == 0) = false := beq_eq_false_iff_ne.2 (by omega)
                    have w2 : decide ((0 : Int) < (W : Int)) = true := decide_eq_true (by omega)
                    go_wp2_with (go_at_call 60; refine (Word_any ⟨x.name.toArray⟩ NW HNW.out _ HNS.out).mono ?_; rintro e w5 ⟨rfl, rfl⟩)
                    go_meet
                    exact ⟨congrArg Value.bool (by rw [HA.out]; simp [HX.out, hw, show ¬ W = 0 by omega]), rfl⟩
              case rest =>
                obtain ⟨rfl, rfl⟩ := hcut
                go_upto_region 11 with fail
                go_cut [7] (fun v wx => v = .bool B ∧ wx = w3.drew)
                case first =>
                  have hw : W = 0 ∨ W = 1 ∨ W = 2 ∨ 2 < W := by omega
                  by_cases hx : x.other = []
                  · have hx1 : (x.other == []) = true := by rw [hx]; rfl
                    have HX := Lib.hid hx
                    clear hx
                    rcases hw with hw | hw | hw | hw
                    · subst hw
                      go_wp2_with fail
                      go_meet
                      exact ⟨congrArg Value.bool (by rw [HB.out]; simp [HX.out]), rfl⟩
                    · subst hw
                      go_wp2_with fail
                      go_meet
                      exact ⟨congrArg Value.bool (by rw [HB.out]; simp [HX.out]), rfl⟩
                    · subst hw
                      go_wp2_with (go_at_call 60; refine (Word_any ⟨x.other.toArray⟩ OW HOW.out _ HOS.out).mono ?_; rintro e w5 ⟨rfl, rfl⟩)
                      go_meet
                      exact ⟨congrArg Value.bool (by rw [HB.out]; simp [HX.out]), rfl⟩
                    · have w1 : decide ((W : Int) < 2) = false := decide_eq_false (by omega)
                      have w2 : ((W : Int) == 2) = false := beq_eq_false_iff_ne.2 (by omega)
                      go_wp2_with fail
                      go_meet
                      exact ⟨congrArg Value.bool (by rw [HB.out]; simp [HX.out, show ¬ W < 2 by omega, show ¬ W = 2 by omega]), rfl⟩
                  · have hx1 : (x.other == []) = false := by simpa using hx
                    have HX := Lib.hid hx
                    clear hx
                    by_cases hw2 : W = 2
                    · subst hw2
                      go_wp2_with (go_at_call 60; refine (Word_any ⟨x.other.toArray⟩ OW HOW.out _ HOS.out).mono ?_; rintro e w5 ⟨rfl, rfl⟩)
                      go_meet
                      exact ⟨congrArg Value.bool (by rw [HB.out]; simp [HX.out]), rfl⟩
                    · have w2 : ((W : Int) == 2) = false := beq_eq_false_iff_ne.2 (by omega)
                      have HW2 := Lib.hid hw2
                      clear hw2
                      go_wp2_with fail
                      go_meet
                      exact ⟨congrArg Value.bool (by rw [HB.out]; simp [HX.out, HW2.out]), rfl⟩
                case rest =>
                  obtain ⟨rfl, rfl⟩ := hcut
                  cases hAv : A with
                  | true =>
                    have HR2 : Hid (Dr.rightI x = B) := Lib.hid (by rw [HR.out, hAv, Bool.true_and])
                    subst hAv
                    go_wp2_with fail
                    go_ret
                    exact ⟨by rw [HR2.out]; rfl, B3.out.drew⟩
                  | false =>
                    have HR2 : Hid (Dr.rightI x = false) := Lib.hid (by rw [HR.out, hAv, Bool.false_and])
                    subst hAv
                    go_wp2_with fail
                    go_ret
                    exact ⟨by rw [HR2.out]; rfl, B3.out.drew⟩
        · have e5 : ((L : Int) != (m : Int)) = true := by simp; omega
          have HR := Lib.hid (rightI_len x (by rw [HL.out, HM.out]; exact hlm))
          go_wp2_with fail
          go_ret
          exact ⟨by rw [HR.out]; rfl, B3.out.drew⟩
end Go.Proofs.YtnccndfffmaonaaGreatDoor
/- Walks of package draft: Right. -/
namespace Go.Proofs.YtnccndfffmaonaaGreatDoor
set_option linter.unusedSimpArgs false
set_option linter.unusedVariables false
open Go.RowKit Go.Maps

theorem right_any (x : Dr.Item) (nv : Value) (w : World) (hn : Sl w nv (ints x.n)) (hl1 : x.name.length ≤ 140737488355328) (hl2 : x.other.length ≤ 140737488355328) :
    Calls Tryz.prog 31 #[itemV x nv] w fun e w' => e = .returned (.bool (Dr.rightI x)) ∧ Below w.heap.size w w' := by
  by_cases h : x.kind < 0 ∨ 6 ≤ x.kind
  · exact right_out x nv w h
  · exact right_in x x.kind.toNat (by omega) (by omega) nv w hn hl1 hl2
set_option maxHeartbeats 2000000 in
theorem Right2_any (x : Dr.Item) (nv : Value) (w : World) (hn : Sl w nv (ints x.n)) (hl1 : x.name.length ≤ 140737488355328) (hl2 : x.other.length ≤ 140737488355328) :
    Calls Tryz.prog 30 #[itemV x nv] w fun e w' => e = .returned (.bool (!Dr.rightI x)) ∧ Below w.heap.size w w' := by
  have B1 := Lib.hid ((Below.refl _ w).alloc (Nat.le_refl _) (.cells #[.int .i64 x.kind, .int .i64 x.line, .string ⟨x.name.toArray⟩, .string ⟨x.other.toArray⟩, nv] 34))
  have HC := Lib.hid (right_any x nv _ (hn.below B1.out) hl1 hl2)
  obtain ⟨xa, xc, rfl, -⟩ := hn.slice
  clear hn hl1 hl2
  obtain ⟨r, hr⟩ : ∃ r, Dr.rightI x = r := ⟨_, rfl⟩
  rw [hr] at HC ⊢
  clear hr
  unfold itemV
  go_enter Tryz.func30, Tryz.ntmps30
  go_wp2_with fail
  go_at_call 31; refine HC.out.mono ?_; rintro e w2 ⟨rfl, b2⟩
  have B2 := Lib.hid (B1.out.trans (b2.mono B1.out.size))
  clear b2
  go_wp2_with fail
  go_ret
  exact ⟨rfl, B2.out⟩

set_option maxRecDepth 100000 in
set_option maxHeartbeats 8000000 in
theorem wrong_index (v : Value) (xs : List Dr.Item) (w : World) (ha : DVi w v xs) (hsd : ∀ x ∈ xs, x.name.length ≤ 140737488355328 ∧ x.other.length ≤ 140737488355328) :
    Calls Tryz.prog 61 #[v, .func (.func 30) #[] #[]] w fun e w' => (∃ r : Int, e = .returned (.int .i64 r) ∧ ((xs.any (fun x => !Dr.rightI x) = true ∧ 0 ≤ r) ∨ (xs.any (fun x => !Dr.rightI x) = false ∧ r = -1))) ∧ Below w.heap.size w w' := by
  obtain ⟨us, rfl, hu, hus⟩ := ha
  obtain ⟨a, c, rfl, hm, -, hk⟩ := hu
  have hmx : us.length ≤ 9223372036854775807 := by unfold maxLen at hm; omega
  have HX := Lib.hid hk
  have US := Lib.hid hus
  have HSD := Lib.hid hsd
  obtain ⟨G, hG⟩ : ∃ G, G = (us.map (·.1)).any (fun x => !Dr.rightI x) := ⟨_, rfl⟩
  rw [← hG]
  have HG := Lib.hid hG
  obtain ⟨n, hn⟩ : ∃ n, n = us.length := ⟨_, rfl⟩
  have HN := Lib.hid hn
  rw [← hn] at hm hmx ⊢
  clear hk hus hsd hG hn
  go_enter Tryz.func61, Tryz.ntmps61
  go_wp2_with fail
  go_loopw [8] (fun iv wr => ∃ k : Nat, k ≤ n ∧ iv = .int .i64 k ∧ Hid (G = ((us.map (·.1)).drop k).any (fun x => !Dr.rightI x)) ∧ Hid (Below w.heap.size w wr)) (fun iv _ => n - (intOf iv).toNat)
  case atStart => exact ⟨0, by omega, rfl, HG, Lib.hid (Below.refl _ _)⟩
  case round =>
    obtain ⟨k, hk, rfl, HR, HB⟩ := hrel
    by_cases hkn : k < n
    · have hku : k < us.length := by rw [← HN.out]; exact hkn
      have hkm : k < (us.map (·.1)).length := by rw [List.length_map]; exact hku
      obtain ⟨b, off, e1, p0, p1, p2, p3, p4⟩ := HX.out k hku
      subst e1
      have s1 := (US.out us[k] (List.getElem_mem hku)).1
      have hst := HR.out.trans (any_drop (fun x => !Dr.rightI x) _ k hkm)
      have hsz := HSD.out us[k].1 (List.mem_map.2 ⟨_, List.getElem_mem hku, rfl⟩)
      rw [List.getElem_map] at hst
      obtain ⟨⟨x, nx⟩, hx⟩ : ∃ u, u = us[k] := ⟨_, rfl⟩
      rw [← hx] at p0 p1 p2 p3 p4 s1 hst hsz
      dsimp only at p0 p1 p2 p3 p4 s1 hst hsz
      have lt1 := cell_block_lt p0
      have p0 : wr.cell? ⟨b, off + k * 5, none⟩ = _ := (HB.out.cell (p := ⟨b, off + k * 5, none⟩) lt1).trans p0
      have p1 : wr.cell? ⟨b, off + k * 5 + 1, none⟩ = _ := (HB.out.cell (p := ⟨b, off + k * 5 + 1, none⟩) lt1).trans p1
      have p2 : wr.cell? ⟨b, off + k * 5 + 2, none⟩ = _ := (HB.out.cell (p := ⟨b, off + k * 5 + 2, none⟩) lt1).trans p2
      have p3 : wr.cell? ⟨b, off + k * 5 + 3, none⟩ = _ := (HB.out.cell (p := ⟨b, off + k * 5 + 3, none⟩) lt1).trans p3
      have p4 : wr.cell? ⟨b, off + k * 5 + 4, none⟩ = _ := (HB.out.cell (p := ⟨b, off + k * 5 + 4, none⟩) lt1).trans p4
      have kI0 : (0 : Int) ≤ (k : Int) := by omega
      have kI1 : (k : Int) < (n : Int) := by omega
      obtain ⟨ua, uc, rfl, -⟩ := s1.slice
      have S1 := Lib.hid (s1.below HB.out)
      have HS := Lib.hid hst
      have HZ := Lib.hid hsz
      clear hst hx s1 lt1 hsz
      cases hq : Dr.rightI x with
      | true =>
        have HQ := Lib.hid hq
        clear hq
        have HS2 : Hid (G = ((us.map (·.1)).drop (k + 1)).any (fun x => !Dr.rightI x)) := Lib.hid (by rw [HS.out, HQ.out]; rfl)
        go_wp2_with fail
        go_at_call 30; refine (Right2_any x _ _ S1.out HZ.out.1 HZ.out.2).mono ?_; rintro e w2 ⟨rfl, b2⟩; rw [HQ.out]
        have HB2 := Lib.hid (HB.out.trans (b2.mono HB.out.size))
        clear b2
        go_wp2_with fail
        go_roundw
        case rel => exact ⟨k + 1, by omega, by go_num, HS2, HB2⟩
        case measure => simp [intOf]; omega
      | false =>
        have HQ := Lib.hid hq
        clear hq
        have HS2 : Hid (G = true) := Lib.hid (by rw [HS.out, HQ.out]; rfl)
        go_wp2_with fail
        go_at_call 30; refine (Right2_any x _ _ S1.out HZ.out.1 HZ.out.2).mono ?_; rintro e w2 ⟨rfl, b2⟩; rw [HQ.out]
        have HB2 := Lib.hid (HB.out.trans (b2.mono HB.out.size))
        clear b2
        go_wp2_with fail
        go_ret
        exact ⟨⟨_, rfl, .inl ⟨HS2.out, by omega⟩⟩, HB2.out⟩
    · have hS := HR.out.trans (show ((us.map (·.1)).drop k).any (fun x => !Dr.rightI x) = false from by rw [List.drop_eq_nil_of_le (by rw [List.length_map, ← HN.out]; omega)]; rfl)
      have HS := Lib.hid hS
      clear hS
      go_wp2_with fail
      go_ret
      exact ⟨⟨_, rfl, .inr ⟨HS.out, rfl⟩⟩, HB.out⟩

set_option maxHeartbeats 2000000 in
theorem wrong_contains (v : Value) (xs : List Dr.Item) (w : World) (ha : DVi w v xs) (hsd : ∀ x ∈ xs, x.name.length ≤ 140737488355328 ∧ x.other.length ≤ 140737488355328) :
    Calls Tryz.prog 32 #[v, .func (.func 30) #[] #[]] w fun e w' => e = .returned (.bool (!xs.all Dr.rightI)) ∧ Below w.heap.size w w' := by
  have HC := Lib.hid (wrong_index v xs w ha hsd)
  have HE : Hid (xs.any (fun x => !Dr.rightI x) = !xs.all Dr.rightI) := Lib.hid (by rw [List.not_all_eq_any_not])
  obtain ⟨a, n, c, rfl⟩ : ∃ a n c, v = .slice a n c := by obtain ⟨l, -, ⟨a, c, rfl, -⟩, -⟩ := ha; exact ⟨_, _, _, rfl⟩
  clear ha
  go_enter Tryz.func32, Tryz.ntmps32
  go_wp2_with fail
  go_at_call 61; refine HC.out.mono ?_; rintro e w2 ⟨⟨r, rfl, hr⟩, b2⟩
  rcases hr with ⟨h1, h2⟩ | ⟨h1, rfl⟩
  · have H1 := Lib.hid h1
    clear h1
    go_wp2_with fail
    go_ret
    exact ⟨by rw [← HE.out, H1.out]; simp [h2], b2⟩
  · have H1 := Lib.hid h1
    clear h1
    go_wp2_with fail
    go_ret
    exact ⟨by rw [← HE.out, H1.out]; rfl, b2⟩

/-- The texts of a draft are not too long to be read. -/
def DrSize (d : Dr.Draft) : Prop := (∀ rows ∈ d.decks, ∀ s ∈ rows, s.length ≤ 140737488355328) ∧ ∀ x ∈ d.items, x.name.length ≤ 140737488355328 ∧ x.other.length ≤ 140737488355328
theorem all_drop {α : Type} (p : α → Bool) (xs : List α) (k : Nat) (h : k < xs.length) : (xs.drop k).all p = (p xs[k] && (xs.drop (k + 1)).all p) := by
  rw [List.drop_eq_getElem_cons h, List.all_cons]
theorem rightR_long (rows : List (List UInt8)) : Dr.rightR rows = (decide (rows.length ≤ 4096) && !rows.any (fun t => decide (4096 < t.length))) := by
  unfold Dr.rightR
  rw [List.not_any_eq_all_not]
  congr 2
  funext t
  rw [← decide_not]
  exact decide_eq_decide.2 (by omega)
set_option maxRecDepth 100000 in
set_option maxHeartbeats 16000000 in
theorem Right_any (va ia : Value) (d : Dr.Draft) (w : World) (hd : DV w va ia d) (hz : DrSize d) :
    Calls Tryz.prog 12 #[.agg #[va, ia]] w fun e w' => e = .returned (.bool (Dr.rightD d)) ∧ Below w.heap.size w w' := by
  obtain ⟨⟨dvs, hu, hul, hus⟩, hI⟩ := hd
  obtain ⟨a1, c1, rfl, m1, -, hk⟩ := hu
  obtain ⟨a3, n3, c3, rfl, hn3⟩ : ∃ a n c, ia = .slice a n c ∧ d.items.length = n := by obtain ⟨l, hl, ⟨a, c, rfl, -⟩, -⟩ := hI; exact ⟨_, _, _, rfl, by rw [← hl, List.length_map]⟩
  have hmx : dvs.length ≤ 9223372036854775807 := by unfold maxLen at m1; omega
  have hmx3 : n3 ≤ 9223372036854775807 := by obtain ⟨l, -, ⟨a, c, e, m, -⟩, -⟩ := hI; injection e with e1 e2 e3; unfold maxLen at m; omega
  have HX := Lib.hid hk
  have US := Lib.hid hus
  have HI := Lib.hid hI
  have HZ := Lib.hid hz
  have HN3 := Lib.hid hn3
  obtain ⟨R, hR⟩ : ∃ R, R = (decide (d.decks.length ≤ 4) && (decide (d.items.length ≤ 5000) && d.items.all Dr.rightI)) := ⟨_, rfl⟩
  have HRR := Lib.hid hR
  obtain ⟨G, hG⟩ : ∃ G, G = (d.decks.all Dr.rightR && R) := ⟨_, rfl⟩
  have hGd : Dr.rightD d = G := by rw [hG, hR]; rfl
  rw [hGd]
  have HG := Lib.hid hG
  obtain ⟨n, hn⟩ : ∃ n, n = dvs.length := ⟨_, rfl⟩
  have HN := Lib.hid hn
  have HUL := Lib.hid hul
  rw [← hn] at m1 hmx ⊢
  have B1 := Lib.hid ((Below.refl _ w).alloc (Nat.le_refl _) (.cells #[.slice a1 n c1, .slice a3 n3 c3] 25))
  obtain ⟨w1, hw1⟩ : ∃ w1, w1 = w.alloc (.cells #[.slice a1 n c1, .slice a3 n3 c3] 25) := ⟨_, rfl⟩
  have i1 : w1.heap[w.heap.size]? = some (.cells #[.slice a1 n c1, .slice a3 n3 c3] 25 (0, 0)) := by rw [hw1]; exact heap_alloc_new _ _
  have s1 : w.heap.size < w1.heap.size := by rw [hw1]; simp
  have I1 := Lib.hid i1
  rw [← hw1] at B1
  have HW1 := Lib.hid hw1
  clear hk hus hG hn hR hGd hI hz hn3 hul i1 hw1
  go_enter Tryz.func12, Tryz.ntmps12
  go_wp2_with fail
  rw [← HW1.out]
  go_loopw [9] (fun iv wr => ∃ k : Nat, k ≤ n ∧ iv = .int .i64 k ∧ Hid (G = ((d.decks.drop k).all Dr.rightR && R)) ∧ Hid (Below w1.heap.size w1 wr)) (fun iv _ => n - (intOf iv).toNat)
  case atStart => exact ⟨0, by omega, rfl, HG, Lib.hid (Below.refl _ _)⟩
  case round =>
    obtain ⟨k, hk, rfl, HR, HB⟩ := hrel
    by_cases hkn : k < n
    · have hku : k < dvs.length := by rw [← HN.out]; exact hkn
      have hkd : k < d.decks.length := by rw [← HUL.out, ← HN.out]; exact hkn
      obtain ⟨b, off, e1, p0⟩ := HX.out k hku
      subst e1
      have sk := US.out k hkd hku
      have hst := HR.out.trans (by rw [all_drop Dr.rightR _ k hkd, rightR_long])
      have hsz := HZ.out.1 _ (List.getElem_mem hkd)
      obtain ⟨u, hu⟩ : ∃ u, u = dvs[k] := ⟨_, rfl⟩
      obtain ⟨rows, hx⟩ : ∃ x, x = d.decks[k] := ⟨_, rfl⟩
      rw [← hu] at p0 sk
      rw [← hx] at sk hst hsz
      have lt1 := cell_block_lt p0
      have p0 : wr.cell? ⟨b, off + k, none⟩ = _ := (HB.out.cell (p := ⟨b, off + k, none⟩) (by have := B1.out.size; have h : b < w.heap.size := lt1; show b < w1.heap.size; omega)).trans ((B1.out.cell (p := ⟨b, off + k, none⟩) lt1).trans p0)
      have kI0 : (0 : Int) ≤ (k : Int) := by omega
      have kI1 : (k : Int) < (n : Int) := by omega
      have S1 := Lib.hid ((sk.below B1.out).below HB.out)
      obtain ⟨ua, uc, rfl, hml⟩ := sk.slice
      rw [strs_len2] at hml p0 S1
      obtain ⟨m, hm⟩ : ∃ m, m = rows.length := ⟨_, rfl⟩
      rw [← hm] at p0 S1 hst hml
      have hmm : m ≤ 9223372036854775807 := by unfold maxLen at hml; omega
      have HS := Lib.hid hst
      have HZ2 := Lib.hid hsz
      clear hst hx hu sk lt1 hsz hm
      by_cases hm4 : m ≤ 4096
      · have HS1 : Hid (G = ((!rows.any (fun t => decide (4096 < t.length)) && (d.decks.drop (k + 1)).all Dr.rightR) && R)) := Lib.hid (by rw [HS.out, decide_eq_true hm4, Bool.true_and])
        cases hq : rows.any (fun t => decide (4096 < t.length)) with
        | true =>
          have HQ := Lib.hid hq
          clear hq
          have HS2 : Hid (G = false) := Lib.hid (by rw [HS1.out, HQ.out]; rfl)
          go_wp2_with fail
          go_at_call 28; refine (long_contains _ rows _ S1.out HZ2.out).mono ?_; rintro e w2 ⟨rfl, b2⟩; rw [HQ.out]
          have HB2 := Lib.hid (HB.out.trans (b2.mono HB.out.size))
          clear b2
          go_wp2_with fail
          go_ret
          exact ⟨by rw [HS2.out]; rfl, B1.out.trans (HB2.out.mono B1.out.size)⟩
        | false =>
          have HQ := Lib.hid hq
          clear hq
          have HS2 : Hid (G = ((d.decks.drop (k + 1)).all Dr.rightR && R)) := Lib.hid (by rw [HS1.out, HQ.out]; rfl)
          go_wp2_with fail
          go_at_call 28; refine (long_contains _ rows _ S1.out HZ2.out).mono ?_; rintro e w2 ⟨rfl, b2⟩; rw [HQ.out]
          have HB2 := Lib.hid (HB.out.trans (b2.mono HB.out.size))
          clear b2
          go_wp2_with fail
          go_roundw
          case rel => exact ⟨k + 1, by omega, by go_num, HS2, HB2⟩
          case measure => simp [intOf]; omega
      · have HS2 : Hid (G = false) := Lib.hid (by rw [HS.out, decide_eq_false hm4]; rfl)
        have hm5 : (4096 : Int) < (m : Int) := by omega
        go_wp2_with fail
        go_ret
        exact ⟨by rw [HS2.out]; rfl, B1.out.trans (HB.out.mono B1.out.size)⟩
    · have hS := HR.out.trans (show ((d.decks.drop k).all Dr.rightR && R) = R from by rw [List.drop_eq_nil_of_le (by rw [← HUL.out, ← HN.out]; omega)]; rfl)
      have HS := Lib.hid (hS.trans HRR.out)
      have hsr := HB.out.size
      have hh := (HB.out.block w.heap.size s1).trans I1.out
      have d0 : wr.cell? ⟨w.heap.size, 0, none⟩ = some (.slice a1 n c1) := cell_of_heap hh 0 rfl
      have d1 : wr.cell? ⟨w.heap.size, 1, none⟩ = some (.slice a3 n3 c3) := cell_of_heap hh 1 rfl
      have HB3 := Lib.hid (B1.out.trans (HB.out.mono B1.out.size))
      clear hS hh
      by_cases h4 : n ≤ 4
      · have HS1 : Hid (G = (decide (d.items.length ≤ 5000) && d.items.all Dr.rightI)) := Lib.hid (by rw [HS.out, decide_eq_true (by rw [← HUL.out, ← HN.out]; exact h4), Bool.true_and])
        by_cases h5 : n3 ≤ 5000
        · have HS2 : Hid (G = d.items.all Dr.rightI) := Lib.hid (by rw [HS1.out, decide_eq_true (by rw [HN3.out]; exact h5), Bool.true_and])
          obtain ⟨q, hq⟩ : ∃ q, q = d.items.all Dr.rightI := ⟨_, rfl⟩
          have HQ := Lib.hid hq
          clear hq
          go_wp2_with fail
          go_at_call 32; refine (wrong_contains _ d.items _ (HI.out.keep HB3.out) HZ.out.2).mono ?_; rintro e w2 ⟨rfl, b2⟩; rw [← HQ.out]
          have HB4 := Lib.hid (HB3.out.trans (b2.mono HB3.out.size))
          clear b2
          go_wp2_with fail
          go_ret
          exact ⟨by rw [HS2.out, ← HQ.out]; first | rfl | simp, HB4.out⟩
        · have HS2 : Hid (G = false) := Lib.hid (by rw [HS1.out, decide_eq_false (by rw [HN3.out]; exact h5)]; rfl)
          go_wp2_with fail
          go_ret
          exact ⟨by rw [HS2.out]; first | rfl | simp [h5], HB3.out⟩
      · have HS1 : Hid (G = false) := Lib.hid (by rw [HS.out, decide_eq_false (by rw [← HUL.out, ← HN.out]; exact h4)]; rfl)
        go_wp2_with fail
        go_ret
        exact ⟨by rw [HS1.out]; first | rfl | simp [h4], HB3.out⟩
end Go.Proofs.YtnccndfffmaonaaGreatDoor
