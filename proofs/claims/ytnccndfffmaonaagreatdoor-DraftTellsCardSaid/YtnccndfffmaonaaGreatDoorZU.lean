/- Parts DtB of this claim, laid one behind the other: walks and the plain laws behind them; each contract states its own conditions. -/
import Derived.Test.YtnccndfffmaonaaGreatDoorZT
/- The reference of layer 10: RightItem. PRINTED by wip/tools/mk_dtb.py. -/
namespace Go.Proofs.YtnccndfffmaonaaGreatDoor
set_option linter.unusedSimpArgs false
set_option linter.unusedVariables false
open Go.RowKit

theorem FormL_0 (w : World) : Calls Tryz.prog 24 #[.int .i64 0] w fun e w' => e = .returned (.tuple #[.string ⟨#[122, 111, 110, 101]⟩, .int .i64 7, .int .i64 1, .bool false]) ∧ w = w' := Form_0 w
theorem FormL_1 (w : World) : Calls Tryz.prog 24 #[.int .i64 1] w fun e w' => e = .returned (.tuple #[.string ⟨#[115, 104, 105, 102, 116]⟩, .int .i64 2, .int .i64 1, .bool false]) ∧ w = w' := Form_1 w
theorem FormL_2 (w : World) : Calls Tryz.prog 24 #[.int .i64 2] w fun e w' => e = .returned (.tuple #[.string ⟨#[111, 110, 101, 119, 97, 121]⟩, .int .i64 4, .int .i64 0, .bool false]) ∧ w = w' := Form_2 w
theorem FormL_3 (w : World) : Calls Tryz.prog 24 #[.int .i64 3] w fun e w' => e = .returned (.tuple #[.string ⟨#[97, 112, 97, 114, 116]⟩, .int .i64 0, .int .i64 2, .bool false]) ∧ w = w' := Form_3 w
theorem FormL_4 (w : World) : Calls Tryz.prog 24 #[.int .i64 4] w fun e w' => e = .returned (.tuple #[.string ⟨#[115, 104, 101, 108, 102]⟩, .int .i64 3, .int .i64 0, .bool true]) ∧ w = w' := Form_4 w
theorem FormL_5 (w : World) : Calls Tryz.prog 24 #[.int .i64 5] w fun e w' => e = .returned (.tuple #[.string ⟨#[114, 111, 98, 111, 116]⟩, .int .i64 4, .int .i64 0, .bool false]) ∧ w = w' := Form_5 w
set_option maxRecDepth 100000 in
set_option maxHeartbeats 32000000 in
theorem RightItem_0 (x : Dr.Item) (hx : x.kind = 0) (nv : Value) (w : World) (hn : Sl w nv (ints x.n)) (hl1 : x.name.length ≤ 140737488355328) (hl2 : x.other.length ≤ 140737488355328) :
    Calls Tryz.prog 33 #[itemV x nv] w fun e w' => e = .returned (.bool (Dr.rightI x)) ∧ Below w.heap.size w w' := by
  have hN := hn
  obtain ⟨na, nc, rfl, hnm⟩ := hn.slice
  rw [ints_len] at hnm hN ⊢
  obtain ⟨L, hL⟩ : ∃ L, x.n.length = L := ⟨_, rfl⟩
  obtain ⟨G, hG⟩ : ∃ G, Dr.rightI x = G := ⟨_, rfl⟩
  have href := Dr.refI_eq x 0 (by omega) hx
  unfold Dr.refI at href
  rw [hG, show Dr.words 0 = 1 by decide, show (Dr.partsOf 0).contains 111 = false by decide, show Dr.nums 0 = 7 by decide, hL] at href
  rw [hG]
  rw [hL] at hnm hN ⊢
  have hmx : L ≤ 9223372036854775807 := by unfold maxLen at hnm; omega
  have HL := Lib.hid hL
  have HS := Lib.hid hN
  have HG := Lib.hid href
  have B1 := Lib.hid ((Below.refl _ w).alloc (Nat.le_refl _) (.cells #[.int .i64 0, .int .i64 x.line, .string ⟨x.name.toArray⟩, .string ⟨x.other.toArray⟩, .slice na L nc] 34))
  obtain ⟨NW, hNW⟩ : ∃ NW, Lx.word x.name = NW := ⟨_, rfl⟩
  obtain ⟨OW, hOW⟩ : ∃ OW, Lx.word x.other = OW := ⟨_, rfl⟩
  rw [hNW, hOW] at HG
  have HNW : Hid (Lx.word (bs ⟨x.name.toArray⟩) = NW) := Lib.hid (by rw [bs_lit0]; exact hNW)
  have HOW : Hid (Lx.word (bs ⟨x.other.toArray⟩) = OW) := Lib.hid (by rw [bs_lit0]; exact hOW)
  have HNS : Hid ((⟨x.name.toArray⟩ : ByteArray).size ≤ 140737488355328) := Lib.hid (by rw [← bs_len, bs_lit0]; exact hl1)
  have HOS : Hid ((⟨x.other.toArray⟩ : ByteArray).size ≤ 140737488355328) := Lib.hid (by rw [← bs_len, bs_lit0]; exact hl2)
  unfold itemV
  rw [hx]
  clear hn hL hG href hN hNW hOW hl1 hl2 hnm hx
  by_cases hlen : L = 7
  · have HG2 := HG
    rw [decide_eq_true hlen, Bool.true_and] at HG2
    clear HG
    have HG := HG2
    subst hlen
    by_cases hother : x.other = []
    · have e1other : (x.other == []) = true := by rw [hother]; rfl
      have HXother := Lib.hid hother
      have HGother := HG
      rw [decide_eq_true hother] at HGother
      clear hother HG
      have HG := HGother
      cases NW with
      | true =>
        have HC : Hid (G = Dr.chkL 0 0 (x.n.drop 0)) := Lib.hid (by rw [HG.out, List.drop_zero]; simp)
        clear HG
        go_enter Tryz.func33, Tryz.ntmps33
        go_wp2_with (first | (go_at_call 24; refine (FormL_0 _).mono ?_; rintro e w2 ⟨rfl, rfl⟩) | (go_at_call 62; with_reducible refine (r9Word_any ⟨x.name.toArray⟩ _ HNW.out _ HNS.out).mono ?_; rintro e w5 ⟨rfl, rfl⟩) | (go_at_call 62; with_reducible refine (r9Word_any ⟨x.other.toArray⟩ _ HOW.out _ HOS.out).mono ?_; rintro e w5 ⟨rfl, rfl⟩))
        go_loop [7] (fun iv => ∃ i : Nat, i ≤ 7 ∧ iv = .int .i64 i ∧ Hid (G = Dr.chkL 0 i (x.n.drop i))) (fun iv => 7 - (intOf iv).toNat)
        case atStart => exact ⟨0, by omega, rfl, HC⟩
        case round =>
          obtain ⟨i, hi, rfl, HR⟩ := hrel
          by_cases him : i < 7
          · have hil : i < x.n.length := by rw [HL.out]; exact him
            obtain ⟨nb, no, nc2, en, -, hcs⟩ := HS.out.some (by rw [ints_len]; omega)
            injection en with en1 en2 en3
            subst en1
            obtain ⟨v, hv⟩ : ∃ v, v = x.n[i] := ⟨_, rfl⟩
            have c0 : w.cell? ⟨nb, no + i, none⟩ = some (.int .i64 v) := (hcs i (by rw [ints_len]; exact hil)).trans (by rw [hv]; simp [ints])
            have lb : nb < w.heap.size := cell_block_lt c0
            have hst := HR.out.trans (Dr.chkL_step 0 i x.n hil)
            rw [← hv] at hst
            have HST := Lib.hid hst
            have iI0 : (0 : Int) ≤ (i : Int) := by omega
            have iI1 : (i : Int) < 7 := by omega
            clear hcs en2 en3 hv hst HR
            by_cases hneg : v < 0
            · have HF : Hid (G = false) := Lib.hid (by rw [HST.out]; unfold Dr.chk; rw [decide_eq_false (show ¬ 0 ≤ v by omega)]; rfl)
              go_wp2_with fail
              go_ret
              exact ⟨by rw [HF.out]; first | rfl | simp [hneg], B1.out⟩
            · have hpos : 0 ≤ v := by omega
              have HR : Hid (G = Dr.chkL 0 (i + 1) (x.n.drop (i + 1))) := Lib.hid (by rw [HST.out, Dr.chk_other 0 i v (.inl (by decide)), decide_eq_true hpos, Bool.true_and])
              clear hneg
              go_wp2_with fail
              go_round
              case rel => exact ⟨i + 1, by omega, by go_num, HR⟩
              case measure => simp [intOf]; omega
          · have HF : Hid (G = true) := Lib.hid (by rw [HR.out, List.drop_eq_nil_of_le (by rw [HL.out]; omega)]; rfl)
            obtain rfl : i = 7 := by omega
            go_wp2_with fail
            go_ret
            exact ⟨by rw [HF.out]; rfl, B1.out⟩
      | false =>
        have HF : Hid (G = false) := Lib.hid (by rw [HG.out]; simp)
        clear HG
        go_enter Tryz.func33, Tryz.ntmps33
        go_wp2_with (first | (go_at_call 24; refine (FormL_0 _).mono ?_; rintro e w2 ⟨rfl, rfl⟩) | (go_at_call 62; with_reducible refine (r9Word_any ⟨x.name.toArray⟩ _ HNW.out _ HNS.out).mono ?_; rintro e w5 ⟨rfl, rfl⟩) | (go_at_call 62; with_reducible refine (r9Word_any ⟨x.other.toArray⟩ _ HOW.out _ HOS.out).mono ?_; rintro e w5 ⟨rfl, rfl⟩))
        go_ret
        exact ⟨by rw [HF.out]; rfl, B1.out⟩
    · have e1other : (x.other == []) = false := by simpa using hother
      have HF : Hid (G = false) := Lib.hid (by rw [HG.out, decide_eq_false hother]; simp)
      clear hother HG
      go_enter Tryz.func33, Tryz.ntmps33
      go_wp2_with (first | (go_at_call 24; refine (FormL_0 _).mono ?_; rintro e w2 ⟨rfl, rfl⟩) | (go_at_call 62; with_reducible refine (r9Word_any ⟨x.name.toArray⟩ _ HNW.out _ HNS.out).mono ?_; rintro e w5 ⟨rfl, rfl⟩) | (go_at_call 62; with_reducible refine (r9Word_any ⟨x.other.toArray⟩ _ HOW.out _ HOS.out).mono ?_; rintro e w5 ⟨rfl, rfl⟩))
      go_ret
      exact ⟨by rw [HF.out]; rfl, B1.out⟩
  · have HF : Hid (G = false) := Lib.hid (by rw [HG.out, decide_eq_false hlen]; rfl)
    have hne : ((L : Int) != 7) = true := by simp; omega
    clear HG
    go_enter Tryz.func33, Tryz.ntmps33
    go_wp2_with (first | (go_at_call 24; refine (FormL_0 _).mono ?_; rintro e w2 ⟨rfl, rfl⟩) | (go_at_call 62; with_reducible refine (r9Word_any ⟨x.name.toArray⟩ _ HNW.out _ HNS.out).mono ?_; rintro e w5 ⟨rfl, rfl⟩) | (go_at_call 62; with_reducible refine (r9Word_any ⟨x.other.toArray⟩ _ HOW.out _ HOS.out).mono ?_; rintro e w5 ⟨rfl, rfl⟩))
    go_ret
    exact ⟨by rw [HF.out]; rfl, B1.out⟩
set_option maxRecDepth 100000 in
set_option maxHeartbeats 32000000 in
theorem RightItem_1 (x : Dr.Item) (hx : x.kind = 1) (nv : Value) (w : World) (hn : Sl w nv (ints x.n)) (hl1 : x.name.length ≤ 140737488355328) (hl2 : x.other.length ≤ 140737488355328) :
    Calls Tryz.prog 33 #[itemV x nv] w fun e w' => e = .returned (.bool (Dr.rightI x)) ∧ Below w.heap.size w w' := by
  have hN := hn
  obtain ⟨na, nc, rfl, hnm⟩ := hn.slice
  rw [ints_len] at hnm hN ⊢
  obtain ⟨L, hL⟩ : ∃ L, x.n.length = L := ⟨_, rfl⟩
  obtain ⟨G, hG⟩ : ∃ G, Dr.rightI x = G := ⟨_, rfl⟩
  have href := Dr.refI_eq x 1 (by omega) hx
  unfold Dr.refI at href
  rw [hG, show Dr.words 1 = 1 by decide, show (Dr.partsOf 1).contains 111 = false by decide, show Dr.nums 1 = 2 by decide, hL] at href
  rw [hG]
  rw [hL] at hnm hN ⊢
  have hmx : L ≤ 9223372036854775807 := by unfold maxLen at hnm; omega
  have HL := Lib.hid hL
  have HS := Lib.hid hN
  have HG := Lib.hid href
  have B1 := Lib.hid ((Below.refl _ w).alloc (Nat.le_refl _) (.cells #[.int .i64 1, .int .i64 x.line, .string ⟨x.name.toArray⟩, .string ⟨x.other.toArray⟩, .slice na L nc] 34))
  obtain ⟨NW, hNW⟩ : ∃ NW, Lx.word x.name = NW := ⟨_, rfl⟩
  obtain ⟨OW, hOW⟩ : ∃ OW, Lx.word x.other = OW := ⟨_, rfl⟩
  rw [hNW, hOW] at HG
  have HNW : Hid (Lx.word (bs ⟨x.name.toArray⟩) = NW) := Lib.hid (by rw [bs_lit0]; exact hNW)
  have HOW : Hid (Lx.word (bs ⟨x.other.toArray⟩) = OW) := Lib.hid (by rw [bs_lit0]; exact hOW)
  have HNS : Hid ((⟨x.name.toArray⟩ : ByteArray).size ≤ 140737488355328) := Lib.hid (by rw [← bs_len, bs_lit0]; exact hl1)
  have HOS : Hid ((⟨x.other.toArray⟩ : ByteArray).size ≤ 140737488355328) := Lib.hid (by rw [← bs_len, bs_lit0]; exact hl2)
  unfold itemV
  rw [hx]
  clear hn hL hG href hN hNW hOW hl1 hl2 hnm hx
  by_cases hlen : L = 2
  · have HG2 := HG
    rw [decide_eq_true hlen, Bool.true_and] at HG2
    clear HG
    have HG := HG2
    subst hlen
    by_cases hother : x.other = []
    · have e1other : (x.other == []) = true := by rw [hother]; rfl
      have HXother := Lib.hid hother
      have HGother := HG
      rw [decide_eq_true hother] at HGother
      clear hother HG
      have HG := HGother
      cases NW with
      | true =>
        have HC : Hid (G = Dr.chkL 1 0 (x.n.drop 0)) := Lib.hid (by rw [HG.out, List.drop_zero]; simp)
        clear HG
        go_enter Tryz.func33, Tryz.ntmps33
        go_wp2_with (first | (go_at_call 24; refine (FormL_1 _).mono ?_; rintro e w2 ⟨rfl, rfl⟩) | (go_at_call 62; with_reducible refine (r9Word_any ⟨x.name.toArray⟩ _ HNW.out _ HNS.out).mono ?_; rintro e w5 ⟨rfl, rfl⟩) | (go_at_call 62; with_reducible refine (r9Word_any ⟨x.other.toArray⟩ _ HOW.out _ HOS.out).mono ?_; rintro e w5 ⟨rfl, rfl⟩))
        go_loop [7] (fun iv => ∃ i : Nat, i ≤ 2 ∧ iv = .int .i64 i ∧ Hid (G = Dr.chkL 1 i (x.n.drop i))) (fun iv => 2 - (intOf iv).toNat)
        case atStart => exact ⟨0, by omega, rfl, HC⟩
        case round =>
          obtain ⟨i, hi, rfl, HR⟩ := hrel
          by_cases him : i < 2
          · have hil : i < x.n.length := by rw [HL.out]; exact him
            obtain ⟨nb, no, nc2, en, -, hcs⟩ := HS.out.some (by rw [ints_len]; omega)
            injection en with en1 en2 en3
            subst en1
            obtain ⟨v, hv⟩ : ∃ v, v = x.n[i] := ⟨_, rfl⟩
            have c0 : w.cell? ⟨nb, no + i, none⟩ = some (.int .i64 v) := (hcs i (by rw [ints_len]; exact hil)).trans (by rw [hv]; simp [ints])
            have lb : nb < w.heap.size := cell_block_lt c0
            have hst := HR.out.trans (Dr.chkL_step 1 i x.n hil)
            rw [← hv] at hst
            have HST := Lib.hid hst
            have iI0 : (0 : Int) ≤ (i : Int) := by omega
            have iI1 : (i : Int) < 2 := by omega
            clear hcs en2 en3 hv hst HR
            by_cases hneg : v < 0
            · have HF : Hid (G = false) := Lib.hid (by rw [HST.out]; unfold Dr.chk; rw [decide_eq_false (show ¬ 0 ≤ v by omega)]; rfl)
              go_wp2_with fail
              go_ret
              exact ⟨by rw [HF.out]; first | rfl | simp [hneg], B1.out⟩
            · have hpos : 0 ≤ v := by omega
              have HR : Hid (G = Dr.chkL 1 (i + 1) (x.n.drop (i + 1))) := Lib.hid (by rw [HST.out, Dr.chk_other 1 i v (.inl (by decide)), decide_eq_true hpos, Bool.true_and])
              clear hneg
              go_wp2_with fail
              go_round
              case rel => exact ⟨i + 1, by omega, by go_num, HR⟩
              case measure => simp [intOf]; omega
          · have HF : Hid (G = true) := Lib.hid (by rw [HR.out, List.drop_eq_nil_of_le (by rw [HL.out]; omega)]; rfl)
            obtain rfl : i = 2 := by omega
            go_wp2_with fail
            go_ret
            exact ⟨by rw [HF.out]; rfl, B1.out⟩
      | false =>
        have HF : Hid (G = false) := Lib.hid (by rw [HG.out]; simp)
        clear HG
        go_enter Tryz.func33, Tryz.ntmps33
        go_wp2_with (first | (go_at_call 24; refine (FormL_1 _).mono ?_; rintro e w2 ⟨rfl, rfl⟩) | (go_at_call 62; with_reducible refine (r9Word_any ⟨x.name.toArray⟩ _ HNW.out _ HNS.out).mono ?_; rintro e w5 ⟨rfl, rfl⟩) | (go_at_call 62; with_reducible refine (r9Word_any ⟨x.other.toArray⟩ _ HOW.out _ HOS.out).mono ?_; rintro e w5 ⟨rfl, rfl⟩))
        go_ret
        exact ⟨by rw [HF.out]; rfl, B1.out⟩
    · have e1other : (x.other == []) = false := by simpa using hother
      have HF : Hid (G = false) := Lib.hid (by rw [HG.out, decide_eq_false hother]; simp)
      clear hother HG
      go_enter Tryz.func33, Tryz.ntmps33
      go_wp2_with (first | (go_at_call 24; refine (FormL_1 _).mono ?_; rintro e w2 ⟨rfl, rfl⟩) | (go_at_call 62; with_reducible refine (r9Word_any ⟨x.name.toArray⟩ _ HNW.out _ HNS.out).mono ?_; rintro e w5 ⟨rfl, rfl⟩) | (go_at_call 62; with_reducible refine (r9Word_any ⟨x.other.toArray⟩ _ HOW.out _ HOS.out).mono ?_; rintro e w5 ⟨rfl, rfl⟩))
      go_ret
      exact ⟨by rw [HF.out]; rfl, B1.out⟩
  · have HF : Hid (G = false) := Lib.hid (by rw [HG.out, decide_eq_false hlen]; rfl)
    have hne : ((L : Int) != 2) = true := by simp; omega
    clear HG
    go_enter Tryz.func33, Tryz.ntmps33
    go_wp2_with (first | (go_at_call 24; refine (FormL_1 _).mono ?_; rintro e w2 ⟨rfl, rfl⟩) | (go_at_call 62; with_reducible refine (r9Word_any ⟨x.name.toArray⟩ _ HNW.out _ HNS.out).mono ?_; rintro e w5 ⟨rfl, rfl⟩) | (go_at_call 62; with_reducible refine (r9Word_any ⟨x.other.toArray⟩ _ HOW.out _ HOS.out).mono ?_; rintro e w5 ⟨rfl, rfl⟩))
    go_ret
    exact ⟨by rw [HF.out]; rfl, B1.out⟩
set_option maxRecDepth 100000 in
set_option maxHeartbeats 32000000 in
theorem RightItem_2 (x : Dr.Item) (hx : x.kind = 2) (nv : Value) (w : World) (hn : Sl w nv (ints x.n)) (hl1 : x.name.length ≤ 140737488355328) (hl2 : x.other.length ≤ 140737488355328) :
    Calls Tryz.prog 33 #[itemV x nv] w fun e w' => e = .returned (.bool (Dr.rightI x)) ∧ Below w.heap.size w w' := by
  have hN := hn
  obtain ⟨na, nc, rfl, hnm⟩ := hn.slice
  rw [ints_len] at hnm hN ⊢
  obtain ⟨L, hL⟩ : ∃ L, x.n.length = L := ⟨_, rfl⟩
  obtain ⟨G, hG⟩ : ∃ G, Dr.rightI x = G := ⟨_, rfl⟩
  have href := Dr.refI_eq x 2 (by omega) hx
  unfold Dr.refI at href
  rw [hG, show Dr.words 2 = 0 by decide, show (Dr.partsOf 2).contains 111 = false by decide, show Dr.nums 2 = 4 by decide, hL] at href
  rw [hG]
  rw [hL] at hnm hN ⊢
  have hmx : L ≤ 9223372036854775807 := by unfold maxLen at hnm; omega
  have HL := Lib.hid hL
  have HS := Lib.hid hN
  have HG := Lib.hid href
  have B1 := Lib.hid ((Below.refl _ w).alloc (Nat.le_refl _) (.cells #[.int .i64 2, .int .i64 x.line, .string ⟨x.name.toArray⟩, .string ⟨x.other.toArray⟩, .slice na L nc] 34))
  obtain ⟨NW, hNW⟩ : ∃ NW, Lx.word x.name = NW := ⟨_, rfl⟩
  obtain ⟨OW, hOW⟩ : ∃ OW, Lx.word x.other = OW := ⟨_, rfl⟩
  rw [hNW, hOW] at HG
  have HNW : Hid (Lx.word (bs ⟨x.name.toArray⟩) = NW) := Lib.hid (by rw [bs_lit0]; exact hNW)
  have HOW : Hid (Lx.word (bs ⟨x.other.toArray⟩) = OW) := Lib.hid (by rw [bs_lit0]; exact hOW)
  have HNS : Hid ((⟨x.name.toArray⟩ : ByteArray).size ≤ 140737488355328) := Lib.hid (by rw [← bs_len, bs_lit0]; exact hl1)
  have HOS : Hid ((⟨x.other.toArray⟩ : ByteArray).size ≤ 140737488355328) := Lib.hid (by rw [← bs_len, bs_lit0]; exact hl2)
  unfold itemV
  rw [hx]
  clear hn hL hG href hN hNW hOW hl1 hl2 hnm hx
  by_cases hlen : L = 4
  · have HG2 := HG
    rw [decide_eq_true hlen, Bool.true_and] at HG2
    clear HG
    have HG := HG2
    subst hlen
    by_cases hother : x.other = []
    · have e1other : (x.other == []) = true := by rw [hother]; rfl
      have HXother := Lib.hid hother
      have HGother := HG
      rw [decide_eq_true hother] at HGother
      clear hother HG
      have HG := HGother
      by_cases hname : x.name = []
      · have e1name : (x.name == []) = true := by rw [hname]; rfl
        have HXname := Lib.hid hname
        have HGname := HG
        rw [decide_eq_true hname] at HGname
        clear hname HG
        have HG := HGname
        have HC : Hid (G = Dr.chkL 2 0 (x.n.drop 0)) := Lib.hid (by rw [HG.out, List.drop_zero]; simp)
        clear HG
        go_enter Tryz.func33, Tryz.ntmps33
        go_wp2_with (first | (go_at_call 24; refine (FormL_2 _).mono ?_; rintro e w2 ⟨rfl, rfl⟩) | (go_at_call 62; with_reducible refine (r9Word_any ⟨x.name.toArray⟩ _ HNW.out _ HNS.out).mono ?_; rintro e w5 ⟨rfl, rfl⟩) | (go_at_call 62; with_reducible refine (r9Word_any ⟨x.other.toArray⟩ _ HOW.out _ HOS.out).mono ?_; rintro e w5 ⟨rfl, rfl⟩))
        go_loop [7] (fun iv => ∃ i : Nat, i ≤ 4 ∧ iv = .int .i64 i ∧ Hid (G = Dr.chkL 2 i (x.n.drop i))) (fun iv => 4 - (intOf iv).toNat)
        case atStart => exact ⟨0, by omega, rfl, HC⟩
        case round =>
          obtain ⟨i, hi, rfl, HR⟩ := hrel
          by_cases him : i < 4
          · have hil : i < x.n.length := by rw [HL.out]; exact him
            obtain ⟨nb, no, nc2, en, -, hcs⟩ := HS.out.some (by rw [ints_len]; omega)
            injection en with en1 en2 en3
            subst en1
            obtain ⟨v, hv⟩ : ∃ v, v = x.n[i] := ⟨_, rfl⟩
            have c0 : w.cell? ⟨nb, no + i, none⟩ = some (.int .i64 v) := (hcs i (by rw [ints_len]; exact hil)).trans (by rw [hv]; simp [ints])
            have lb : nb < w.heap.size := cell_block_lt c0
            have hst := HR.out.trans (Dr.chkL_step 2 i x.n hil)
            rw [← hv] at hst
            have HST := Lib.hid hst
            have iI0 : (0 : Int) ≤ (i : Int) := by omega
            have iI1 : (i : Int) < 4 := by omega
            clear hcs en2 en3 hv hst HR
            by_cases hneg : v < 0
            · have HF : Hid (G = false) := Lib.hid (by rw [HST.out]; unfold Dr.chk; rw [decide_eq_false (show ¬ 0 ≤ v by omega)]; rfl)
              go_wp2_with fail
              go_ret
              exact ⟨by rw [HF.out]; first | rfl | simp [hneg], B1.out⟩
            · have hpos : 0 ≤ v := by omega
              by_cases hi3 : i = 3
              · by_cases h5 : v ≤ 5
                · have HR : Hid (G = Dr.chkL 2 (i + 1) (x.n.drop (i + 1))) := Lib.hid (by rw [HST.out]; unfold Dr.chk; rw [decide_eq_true hpos, decide_eq_false (show ¬ 5 < v by omega)]; simp)
                  have e3 : ((i : Int) == 3) = true := beq_iff_eq.2 (by omega)
                  clear hi3 hneg
                  go_wp2_with fail
                  go_round
                  case rel => exact ⟨i + 1, by omega, by go_num, HR⟩
                  case measure => simp [intOf]; omega
                · have h5' : 5 < v := by omega
                  have HF : Hid (G = false) := Lib.hid (by rw [HST.out]; unfold Dr.chk; rw [decide_eq_true h5', decide_eq_true hi3]; simp)
                  have e3 : ((i : Int) == 3) = true := beq_iff_eq.2 (by omega)
                  clear hi3 hneg h5
                  go_wp2_with fail
                  go_ret
                  exact ⟨by rw [HF.out]; first | rfl | simp [h5'], B1.out⟩
              · have HR : Hid (G = Dr.chkL 2 (i + 1) (x.n.drop (i + 1))) := Lib.hid (by rw [HST.out, Dr.chk_other 2 i v (.inr hi3), decide_eq_true hpos, Bool.true_and])
                have e3 : ((i : Int) == 3) = false := beq_eq_false_iff_ne.2 (by omega)
                clear hi3 hneg
                go_wp2_with fail
                go_round
                case rel => exact ⟨i + 1, by omega, by go_num, HR⟩
                case measure => simp [intOf]; omega
          · have HF : Hid (G = true) := Lib.hid (by rw [HR.out, List.drop_eq_nil_of_le (by rw [HL.out]; omega)]; rfl)
            obtain rfl : i = 4 := by omega
            go_wp2_with fail
            go_ret
            exact ⟨by rw [HF.out]; rfl, B1.out⟩
      · have e1name : (x.name == []) = false := by simpa using hname
        have HF : Hid (G = false) := Lib.hid (by rw [HG.out, decide_eq_false hname]; simp)
        clear hname HG
        go_enter Tryz.func33, Tryz.ntmps33
        go_wp2_with (first | (go_at_call 24; refine (FormL_2 _).mono ?_; rintro e w2 ⟨rfl, rfl⟩) | (go_at_call 62; with_reducible refine (r9Word_any ⟨x.name.toArray⟩ _ HNW.out _ HNS.out).mono ?_; rintro e w5 ⟨rfl, rfl⟩) | (go_at_call 62; with_reducible refine (r9Word_any ⟨x.other.toArray⟩ _ HOW.out _ HOS.out).mono ?_; rintro e w5 ⟨rfl, rfl⟩))
        go_ret
        exact ⟨by rw [HF.out]; rfl, B1.out⟩
    · have e1other : (x.other == []) = false := by simpa using hother
      have HF : Hid (G = false) := Lib.hid (by rw [HG.out, decide_eq_false hother]; simp)
      clear hother HG
      go_enter Tryz.func33, Tryz.ntmps33
      go_wp2_with (first | (go_at_call 24; refine (FormL_2 _).mono ?_; rintro e w2 ⟨rfl, rfl⟩) | (go_at_call 62; with_reducible refine (r9Word_any ⟨x.name.toArray⟩ _ HNW.out _ HNS.out).mono ?_; rintro e w5 ⟨rfl, rfl⟩) | (go_at_call 62; with_reducible refine (r9Word_any ⟨x.other.toArray⟩ _ HOW.out _ HOS.out).mono ?_; rintro e w5 ⟨rfl, rfl⟩))
      go_ret
      exact ⟨by rw [HF.out]; rfl, B1.out⟩
  · have HF : Hid (G = false) := Lib.hid (by rw [HG.out, decide_eq_false hlen]; rfl)
    have hne : ((L : Int) != 4) = true := by simp; omega
    clear HG
    go_enter Tryz.func33, Tryz.ntmps33
    go_wp2_with (first | (go_at_call 24; refine (FormL_2 _).mono ?_; rintro e w2 ⟨rfl, rfl⟩) | (go_at_call 62; with_reducible refine (r9Word_any ⟨x.name.toArray⟩ _ HNW.out _ HNS.out).mono ?_; rintro e w5 ⟨rfl, rfl⟩) | (go_at_call 62; with_reducible refine (r9Word_any ⟨x.other.toArray⟩ _ HOW.out _ HOS.out).mono ?_; rintro e w5 ⟨rfl, rfl⟩))
    go_ret
    exact ⟨by rw [HF.out]; rfl, B1.out⟩
set_option maxRecDepth 100000 in
set_option maxHeartbeats 32000000 in
theorem RightItem_3 (x : Dr.Item) (hx : x.kind = 3) (nv : Value) (w : World) (hn : Sl w nv (ints x.n)) (hl1 : x.name.length ≤ 140737488355328) (hl2 : x.other.length ≤ 140737488355328) :
    Calls Tryz.prog 33 #[itemV x nv] w fun e w' => e = .returned (.bool (Dr.rightI x)) ∧ Below w.heap.size w w' := by
  have hN := hn
  obtain ⟨na, nc, rfl, hnm⟩ := hn.slice
  rw [ints_len] at hnm hN ⊢
  obtain ⟨L, hL⟩ : ∃ L, x.n.length = L := ⟨_, rfl⟩
  obtain ⟨G, hG⟩ : ∃ G, Dr.rightI x = G := ⟨_, rfl⟩
  have href := Dr.refI_eq x 3 (by omega) hx
  unfold Dr.refI at href
  rw [hG, show Dr.words 3 = 2 by decide, show (Dr.partsOf 3).contains 111 = false by decide, show Dr.nums 3 = 0 by decide, hL] at href
  rw [hG]
  rw [hL] at hnm hN ⊢
  have hmx : L ≤ 9223372036854775807 := by unfold maxLen at hnm; omega
  have HL := Lib.hid hL
  have HS := Lib.hid hN
  have HG := Lib.hid href
  have B1 := Lib.hid ((Below.refl _ w).alloc (Nat.le_refl _) (.cells #[.int .i64 3, .int .i64 x.line, .string ⟨x.name.toArray⟩, .string ⟨x.other.toArray⟩, .slice na L nc] 34))
  obtain ⟨NW, hNW⟩ : ∃ NW, Lx.word x.name = NW := ⟨_, rfl⟩
  obtain ⟨OW, hOW⟩ : ∃ OW, Lx.word x.other = OW := ⟨_, rfl⟩
  rw [hNW, hOW] at HG
  have HNW : Hid (Lx.word (bs ⟨x.name.toArray⟩) = NW) := Lib.hid (by rw [bs_lit0]; exact hNW)
  have HOW : Hid (Lx.word (bs ⟨x.other.toArray⟩) = OW) := Lib.hid (by rw [bs_lit0]; exact hOW)
  have HNS : Hid ((⟨x.name.toArray⟩ : ByteArray).size ≤ 140737488355328) := Lib.hid (by rw [← bs_len, bs_lit0]; exact hl1)
  have HOS : Hid ((⟨x.other.toArray⟩ : ByteArray).size ≤ 140737488355328) := Lib.hid (by rw [← bs_len, bs_lit0]; exact hl2)
  unfold itemV
  rw [hx]
  clear hn hL hG href hN hNW hOW hl1 hl2 hnm hx
  by_cases hlen : L = 0
  · have HG2 := HG
    rw [decide_eq_true hlen, Bool.true_and] at HG2
    clear HG
    have HG := HG2
    subst hlen
    cases NW with
    | true =>
      cases OW with
      | true =>
        have HC : Hid (G = Dr.chkL 3 0 (x.n.drop 0)) := Lib.hid (by rw [HG.out, List.drop_zero]; simp)
        clear HG
        go_enter Tryz.func33, Tryz.ntmps33
        go_wp2_with (first | (go_at_call 24; refine (FormL_3 _).mono ?_; rintro e w2 ⟨rfl, rfl⟩) | (go_at_call 62; with_reducible refine (r9Word_any ⟨x.name.toArray⟩ _ HNW.out _ HNS.out).mono ?_; rintro e w5 ⟨rfl, rfl⟩) | (go_at_call 62; with_reducible refine (r9Word_any ⟨x.other.toArray⟩ _ HOW.out _ HOS.out).mono ?_; rintro e w5 ⟨rfl, rfl⟩))
        go_loop [7] (fun iv => ∃ i : Nat, i ≤ 0 ∧ iv = .int .i64 i ∧ Hid (G = Dr.chkL 3 i (x.n.drop i))) (fun iv => 0 - (intOf iv).toNat)
        case atStart => exact ⟨0, by omega, rfl, HC⟩
        case round =>
          obtain ⟨i, hi, rfl, HR⟩ := hrel
          obtain rfl : i = 0 := by omega
          have HF : Hid (G = true) := Lib.hid (by rw [HR.out, List.drop_eq_nil_of_le (by rw [HL.out]; omega)]; rfl)
          clear HR
          go_wp2_with fail
          go_ret
          exact ⟨by rw [HF.out]; rfl, B1.out⟩
      | false =>
        have HF : Hid (G = false) := Lib.hid (by rw [HG.out]; simp)
        clear HG
        go_enter Tryz.func33, Tryz.ntmps33
        go_wp2_with (first | (go_at_call 24; refine (FormL_3 _).mono ?_; rintro e w2 ⟨rfl, rfl⟩) | (go_at_call 62; with_reducible refine (r9Word_any ⟨x.name.toArray⟩ _ HNW.out _ HNS.out).mono ?_; rintro e w5 ⟨rfl, rfl⟩) | (go_at_call 62; with_reducible refine (r9Word_any ⟨x.other.toArray⟩ _ HOW.out _ HOS.out).mono ?_; rintro e w5 ⟨rfl, rfl⟩))
        go_ret
        exact ⟨by rw [HF.out]; rfl, B1.out⟩
    | false =>
      have HF : Hid (G = false) := Lib.hid (by rw [HG.out]; simp)
      clear HG
      go_enter Tryz.func33, Tryz.ntmps33
      go_wp2_with (first | (go_at_call 24; refine (FormL_3 _).mono ?_; rintro e w2 ⟨rfl, rfl⟩) | (go_at_call 62; with_reducible refine (r9Word_any ⟨x.name.toArray⟩ _ HNW.out _ HNS.out).mono ?_; rintro e w5 ⟨rfl, rfl⟩) | (go_at_call 62; with_reducible refine (r9Word_any ⟨x.other.toArray⟩ _ HOW.out _ HOS.out).mono ?_; rintro e w5 ⟨rfl, rfl⟩))
      go_ret
      exact ⟨by rw [HF.out]; rfl, B1.out⟩
  · have HF : Hid (G = false) := Lib.hid (by rw [HG.out, decide_eq_false hlen]; rfl)
    have hne : ((L : Int) != 0) = true := by simp; omega
    clear HG
    go_enter Tryz.func33, Tryz.ntmps33
    go_wp2_with (first | (go_at_call 24; refine (FormL_3 _).mono ?_; rintro e w2 ⟨rfl, rfl⟩) | (go_at_call 62; with_reducible refine (r9Word_any ⟨x.name.toArray⟩ _ HNW.out _ HNS.out).mono ?_; rintro e w5 ⟨rfl, rfl⟩) | (go_at_call 62; with_reducible refine (r9Word_any ⟨x.other.toArray⟩ _ HOW.out _ HOS.out).mono ?_; rintro e w5 ⟨rfl, rfl⟩))
    go_ret
    exact ⟨by rw [HF.out]; rfl, B1.out⟩
set_option maxRecDepth 100000 in
set_option maxHeartbeats 32000000 in
theorem RightItem_4 (x : Dr.Item) (hx : x.kind = 4) (nv : Value) (w : World) (hn : Sl w nv (ints x.n)) (hl1 : x.name.length ≤ 140737488355328) (hl2 : x.other.length ≤ 140737488355328) :
    Calls Tryz.prog 33 #[itemV x nv] w fun e w' => e = .returned (.bool (Dr.rightI x)) ∧ Below w.heap.size w w' := by
  have hN := hn
  obtain ⟨na, nc, rfl, hnm⟩ := hn.slice
  rw [ints_len] at hnm hN ⊢
  obtain ⟨L, hL⟩ : ∃ L, x.n.length = L := ⟨_, rfl⟩
  obtain ⟨G, hG⟩ : ∃ G, Dr.rightI x = G := ⟨_, rfl⟩
  have href := Dr.refI_eq x 4 (by omega) hx
  unfold Dr.refI at href
  rw [hG, show Dr.words 4 = 0 by decide, show (Dr.partsOf 4).contains 111 = true by decide, show Dr.nums 4 = 3 by decide, hL] at href
  rw [hG]
  rw [hL] at hnm hN ⊢
  have hmx : L ≤ 9223372036854775807 := by unfold maxLen at hnm; omega
  have HL := Lib.hid hL
  have HS := Lib.hid hN
  have HG := Lib.hid href
  have B1 := Lib.hid ((Below.refl _ w).alloc (Nat.le_refl _) (.cells #[.int .i64 4, .int .i64 x.line, .string ⟨x.name.toArray⟩, .string ⟨x.other.toArray⟩, .slice na L nc] 34))
  obtain ⟨NW, hNW⟩ : ∃ NW, Lx.word x.name = NW := ⟨_, rfl⟩
  obtain ⟨OW, hOW⟩ : ∃ OW, Lx.word x.other = OW := ⟨_, rfl⟩
  rw [hNW, hOW] at HG
  have HNW : Hid (Lx.word (bs ⟨x.name.toArray⟩) = NW) := Lib.hid (by rw [bs_lit0]; exact hNW)
  have HOW : Hid (Lx.word (bs ⟨x.other.toArray⟩) = OW) := Lib.hid (by rw [bs_lit0]; exact hOW)
  have HNS : Hid ((⟨x.name.toArray⟩ : ByteArray).size ≤ 140737488355328) := Lib.hid (by rw [← bs_len, bs_lit0]; exact hl1)
  have HOS : Hid ((⟨x.other.toArray⟩ : ByteArray).size ≤ 140737488355328) := Lib.hid (by rw [← bs_len, bs_lit0]; exact hl2)
  unfold itemV
  rw [hx]
  clear hn hL hG href hN hNW hOW hl1 hl2 hnm hx
  by_cases hlen : L = 3
  · have HG2 := HG
    rw [decide_eq_true hlen, Bool.true_and] at HG2
    clear HG
    have HG := HG2
    subst hlen
    by_cases hother : x.other = []
    · have e1other : (x.other == []) = true := by rw [hother]; rfl
      have HXother := Lib.hid hother
      have HGother := HG
      rw [decide_eq_true hother] at HGother
      clear hother HG
      have HG := HGother
      by_cases hname : x.name = []
      · have e1name : (x.name == []) = true := by rw [hname]; rfl
        have HX := Lib.hid hname
        have HG2 := HG
        rw [decide_eq_true hname] at HG2
        clear hname HG
        have HG := HG2
        have HC : Hid (G = Dr.chkL 4 0 (x.n.drop 0)) := Lib.hid (by rw [HG.out, List.drop_zero]; simp)
        clear HG
        go_enter Tryz.func33, Tryz.ntmps33
        go_wp2_with (first | (go_at_call 24; refine (FormL_4 _).mono ?_; rintro e w2 ⟨rfl, rfl⟩) | (go_at_call 62; with_reducible refine (r9Word_any ⟨x.name.toArray⟩ _ HNW.out _ HNS.out).mono ?_; rintro e w5 ⟨rfl, rfl⟩) | (go_at_call 62; with_reducible refine (r9Word_any ⟨x.other.toArray⟩ _ HOW.out _ HOS.out).mono ?_; rintro e w5 ⟨rfl, rfl⟩))
        go_loop [7] (fun iv => ∃ i : Nat, i ≤ 3 ∧ iv = .int .i64 i ∧ Hid (G = Dr.chkL 4 i (x.n.drop i))) (fun iv => 3 - (intOf iv).toNat)
        case atStart => exact ⟨0, by omega, rfl, HC⟩
        case round =>
          obtain ⟨i, hi, rfl, HR⟩ := hrel
          by_cases him : i < 3
          · have hil : i < x.n.length := by rw [HL.out]; exact him
            obtain ⟨nb, no, nc2, en, -, hcs⟩ := HS.out.some (by rw [ints_len]; omega)
            injection en with en1 en2 en3
            subst en1
            obtain ⟨v, hv⟩ : ∃ v, v = x.n[i] := ⟨_, rfl⟩
            have c0 : w.cell? ⟨nb, no + i, none⟩ = some (.int .i64 v) := (hcs i (by rw [ints_len]; exact hil)).trans (by rw [hv]; simp [ints])
            have lb : nb < w.heap.size := cell_block_lt c0
            have hst := HR.out.trans (Dr.chkL_step 4 i x.n hil)
            rw [← hv] at hst
            have HST := Lib.hid hst
            have iI0 : (0 : Int) ≤ (i : Int) := by omega
            have iI1 : (i : Int) < 3 := by omega
            clear hcs en2 en3 hv hst HR
            by_cases hneg : v < 0
            · have HF : Hid (G = false) := Lib.hid (by rw [HST.out]; unfold Dr.chk; rw [decide_eq_false (show ¬ 0 ≤ v by omega)]; rfl)
              go_wp2_with fail
              go_ret
              exact ⟨by rw [HF.out]; first | rfl | simp [hneg], B1.out⟩
            · have hpos : 0 ≤ v := by omega
              have HR : Hid (G = Dr.chkL 4 (i + 1) (x.n.drop (i + 1))) := Lib.hid (by rw [HST.out, Dr.chk_other 4 i v (.inl (by decide)), decide_eq_true hpos, Bool.true_and])
              clear hneg
              go_wp2_with fail
              go_round
              case rel => exact ⟨i + 1, by omega, by go_num, HR⟩
              case measure => simp [intOf]; omega
          · have HF : Hid (G = true) := Lib.hid (by rw [HR.out, List.drop_eq_nil_of_le (by rw [HL.out]; omega)]; rfl)
            obtain rfl : i = 3 := by omega
            go_wp2_with fail
            go_ret
            exact ⟨by rw [HF.out]; rfl, B1.out⟩
      · have e1name : (x.name == []) = false := by simpa using hname
        have HG2 := HG
        rw [decide_eq_false hname] at HG2
        have HX := Lib.hid hname
        clear hname HG
        have HG := HG2
        cases NW with
        | true =>
          have HC : Hid (G = Dr.chkL 4 0 (x.n.drop 0)) := Lib.hid (by rw [HG.out, List.drop_zero]; simp)
          clear HG
          go_enter Tryz.func33, Tryz.ntmps33
          go_wp2_with (first | (go_at_call 24; refine (FormL_4 _).mono ?_; rintro e w2 ⟨rfl, rfl⟩) | (go_at_call 62; with_reducible refine (r9Word_any ⟨x.name.toArray⟩ _ HNW.out _ HNS.out).mono ?_; rintro e w5 ⟨rfl, rfl⟩) | (go_at_call 62; with_reducible refine (r9Word_any ⟨x.other.toArray⟩ _ HOW.out _ HOS.out).mono ?_; rintro e w5 ⟨rfl, rfl⟩))
          go_loop [7] (fun iv => ∃ i : Nat, i ≤ 3 ∧ iv = .int .i64 i ∧ Hid (G = Dr.chkL 4 i (x.n.drop i))) (fun iv => 3 - (intOf iv).toNat)
          case atStart => exact ⟨0, by omega, rfl, HC⟩
          case round =>
            obtain ⟨i, hi, rfl, HR⟩ := hrel
            by_cases him : i < 3
            · have hil : i < x.n.length := by rw [HL.out]; exact him
              obtain ⟨nb, no, nc2, en, -, hcs⟩ := HS.out.some (by rw [ints_len]; omega)
              injection en with en1 en2 en3
              subst en1
              obtain ⟨v, hv⟩ : ∃ v, v = x.n[i] := ⟨_, rfl⟩
              have c0 : w.cell? ⟨nb, no + i, none⟩ = some (.int .i64 v) := (hcs i (by rw [ints_len]; exact hil)).trans (by rw [hv]; simp [ints])
              have lb : nb < w.heap.size := cell_block_lt c0
              have hst := HR.out.trans (Dr.chkL_step 4 i x.n hil)
              rw [← hv] at hst
              have HST := Lib.hid hst
              have iI0 : (0 : Int) ≤ (i : Int) := by omega
              have iI1 : (i : Int) < 3 := by omega
              clear hcs en2 en3 hv hst HR
              by_cases hneg : v < 0
              · have HF : Hid (G = false) := Lib.hid (by rw [HST.out]; unfold Dr.chk; rw [decide_eq_false (show ¬ 0 ≤ v by omega)]; rfl)
                go_wp2_with fail
                go_ret
                exact ⟨by rw [HF.out]; first | rfl | simp [hneg], B1.out⟩
              · have hpos : 0 ≤ v := by omega
                have HR : Hid (G = Dr.chkL 4 (i + 1) (x.n.drop (i + 1))) := Lib.hid (by rw [HST.out, Dr.chk_other 4 i v (.inl (by decide)), decide_eq_true hpos, Bool.true_and])
                clear hneg
                go_wp2_with fail
                go_round
                case rel => exact ⟨i + 1, by omega, by go_num, HR⟩
                case measure => simp [intOf]; omega
            · have HF : Hid (G = true) := Lib.hid (by rw [HR.out, List.drop_eq_nil_of_le (by rw [HL.out]; omega)]; rfl)
              obtain rfl : i = 3 := by omega
              go_wp2_with fail
              go_ret
              exact ⟨by rw [HF.out]; rfl, B1.out⟩
        | false =>
          have HF : Hid (G = false) := Lib.hid (by rw [HG.out]; simp)
          clear HG
          go_enter Tryz.func33, Tryz.ntmps33
          go_wp2_with (first | (go_at_call 24; refine (FormL_4 _).mono ?_; rintro e w2 ⟨rfl, rfl⟩) | (go_at_call 62; with_reducible refine (r9Word_any ⟨x.name.toArray⟩ _ HNW.out _ HNS.out).mono ?_; rintro e w5 ⟨rfl, rfl⟩) | (go_at_call 62; with_reducible refine (r9Word_any ⟨x.other.toArray⟩ _ HOW.out _ HOS.out).mono ?_; rintro e w5 ⟨rfl, rfl⟩))
          go_ret
          exact ⟨by rw [HF.out]; rfl, B1.out⟩
    · have e1other : (x.other == []) = false := by simpa using hother
      have HF : Hid (G = false) := Lib.hid (by rw [HG.out, decide_eq_false hother]; simp)
      clear hother HG
      go_enter Tryz.func33, Tryz.ntmps33
      go_wp2_with (first | (go_at_call 24; refine (FormL_4 _).mono ?_; rintro e w2 ⟨rfl, rfl⟩) | (go_at_call 62; with_reducible refine (r9Word_any ⟨x.name.toArray⟩ _ HNW.out _ HNS.out).mono ?_; rintro e w5 ⟨rfl, rfl⟩) | (go_at_call 62; with_reducible refine (r9Word_any ⟨x.other.toArray⟩ _ HOW.out _ HOS.out).mono ?_; rintro e w5 ⟨rfl, rfl⟩))
      go_ret
      exact ⟨by rw [HF.out]; rfl, B1.out⟩
  · have HF : Hid (G = false) := Lib.hid (by rw [HG.out, decide_eq_false hlen]; rfl)
    have hne : ((L : Int) != 3) = true := by simp; omega
    clear HG
    go_enter Tryz.func33, Tryz.ntmps33
    go_wp2_with (first | (go_at_call 24; refine (FormL_4 _).mono ?_; rintro e w2 ⟨rfl, rfl⟩) | (go_at_call 62; with_reducible refine (r9Word_any ⟨x.name.toArray⟩ _ HNW.out _ HNS.out).mono ?_; rintro e w5 ⟨rfl, rfl⟩) | (go_at_call 62; with_reducible refine (r9Word_any ⟨x.other.toArray⟩ _ HOW.out _ HOS.out).mono ?_; rintro e w5 ⟨rfl, rfl⟩))
    go_ret
    exact ⟨by rw [HF.out]; rfl, B1.out⟩
set_option maxRecDepth 100000 in
set_option maxHeartbeats 32000000 in
theorem RightItem_5 (x : Dr.Item) (hx : x.kind = 5) (nv : Value) (w : World) (hn : Sl w nv (ints x.n)) (hl1 : x.name.length ≤ 140737488355328) (hl2 : x.other.length ≤ 140737488355328) :
    Calls Tryz.prog 33 #[itemV x nv] w fun e w' => e = .returned (.bool (Dr.rightI x)) ∧ Below w.heap.size w w' := by
  have hN := hn
  obtain ⟨na, nc, rfl, hnm⟩ := hn.slice
  rw [ints_len] at hnm hN ⊢
  obtain ⟨L, hL⟩ : ∃ L, x.n.length = L := ⟨_, rfl⟩
  obtain ⟨G, hG⟩ : ∃ G, Dr.rightI x = G := ⟨_, rfl⟩
  have href := Dr.refI_eq x 5 (by omega) hx
  unfold Dr.refI at href
  rw [hG, show Dr.words 5 = 0 by decide, show (Dr.partsOf 5).contains 111 = false by decide, show Dr.nums 5 = 4 by decide, hL] at href
  rw [hG]
  rw [hL] at hnm hN ⊢
  have hmx : L ≤ 9223372036854775807 := by unfold maxLen at hnm; omega
  have HL := Lib.hid hL
  have HS := Lib.hid hN
  have HG := Lib.hid href
  have B1 := Lib.hid ((Below.refl _ w).alloc (Nat.le_refl _) (.cells #[.int .i64 5, .int .i64 x.line, .string ⟨x.name.toArray⟩, .string ⟨x.other.toArray⟩, .slice na L nc] 34))
  obtain ⟨NW, hNW⟩ : ∃ NW, Lx.word x.name = NW := ⟨_, rfl⟩
  obtain ⟨OW, hOW⟩ : ∃ OW, Lx.word x.other = OW := ⟨_, rfl⟩
  rw [hNW, hOW] at HG
  have HNW : Hid (Lx.word (bs ⟨x.name.toArray⟩) = NW) := Lib.hid (by rw [bs_lit0]; exact hNW)
  have HOW : Hid (Lx.word (bs ⟨x.other.toArray⟩) = OW) := Lib.hid (by rw [bs_lit0]; exact hOW)
  have HNS : Hid ((⟨x.name.toArray⟩ : ByteArray).size ≤ 140737488355328) := Lib.hid (by rw [← bs_len, bs_lit0]; exact hl1)
  have HOS : Hid ((⟨x.other.toArray⟩ : ByteArray).size ≤ 140737488355328) := Lib.hid (by rw [← bs_len, bs_lit0]; exact hl2)
  unfold itemV
  rw [hx]
  clear hn hL hG href hN hNW hOW hl1 hl2 hnm hx
  by_cases hlen : L = 4
  · have HG2 := HG
    rw [decide_eq_true hlen, Bool.true_and] at HG2
    clear HG
    have HG := HG2
    subst hlen
    by_cases hother : x.other = []
    · have e1other : (x.other == []) = true := by rw [hother]; rfl
      have HXother := Lib.hid hother
      have HGother := HG
      rw [decide_eq_true hother] at HGother
      clear hother HG
      have HG := HGother
      by_cases hname : x.name = []
      · have e1name : (x.name == []) = true := by rw [hname]; rfl
        have HXname := Lib.hid hname
        have HGname := HG
        rw [decide_eq_true hname] at HGname
        clear hname HG
        have HG := HGname
        have HC : Hid (G = Dr.chkL 5 0 (x.n.drop 0)) := Lib.hid (by rw [HG.out, List.drop_zero]; simp)
        clear HG
        go_enter Tryz.func33, Tryz.ntmps33
        go_wp2_with (first | (go_at_call 24; refine (FormL_5 _).mono ?_; rintro e w2 ⟨rfl, rfl⟩) | (go_at_call 62; with_reducible refine (r9Word_any ⟨x.name.toArray⟩ _ HNW.out _ HNS.out).mono ?_; rintro e w5 ⟨rfl, rfl⟩) | (go_at_call 62; with_reducible refine (r9Word_any ⟨x.other.toArray⟩ _ HOW.out _ HOS.out).mono ?_; rintro e w5 ⟨rfl, rfl⟩))
        go_loop [7] (fun iv => ∃ i : Nat, i ≤ 4 ∧ iv = .int .i64 i ∧ Hid (G = Dr.chkL 5 i (x.n.drop i))) (fun iv => 4 - (intOf iv).toNat)
        case atStart => exact ⟨0, by omega, rfl, HC⟩
        case round =>
          obtain ⟨i, hi, rfl, HR⟩ := hrel
          by_cases him : i < 4
          · have hil : i < x.n.length := by rw [HL.out]; exact him
            obtain ⟨nb, no, nc2, en, -, hcs⟩ := HS.out.some (by rw [ints_len]; omega)
            injection en with en1 en2 en3
            subst en1
            obtain ⟨v, hv⟩ : ∃ v, v = x.n[i] := ⟨_, rfl⟩
            have c0 : w.cell? ⟨nb, no + i, none⟩ = some (.int .i64 v) := (hcs i (by rw [ints_len]; exact hil)).trans (by rw [hv]; simp [ints])
            have lb : nb < w.heap.size := cell_block_lt c0
            have hst := HR.out.trans (Dr.chkL_step 5 i x.n hil)
            rw [← hv] at hst
            have HST := Lib.hid hst
            have iI0 : (0 : Int) ≤ (i : Int) := by omega
            have iI1 : (i : Int) < 4 := by omega
            clear hcs en2 en3 hv hst HR
            by_cases hneg : v < 0
            · have HF : Hid (G = false) := Lib.hid (by rw [HST.out]; unfold Dr.chk; rw [decide_eq_false (show ¬ 0 ≤ v by omega)]; rfl)
              go_wp2_with fail
              go_ret
              exact ⟨by rw [HF.out]; first | rfl | simp [hneg], B1.out⟩
            · have hpos : 0 ≤ v := by omega
              have HR : Hid (G = Dr.chkL 5 (i + 1) (x.n.drop (i + 1))) := Lib.hid (by rw [HST.out, Dr.chk_other 5 i v (.inl (by decide)), decide_eq_true hpos, Bool.true_and])
              clear hneg
              go_wp2_with fail
              go_round
              case rel => exact ⟨i + 1, by omega, by go_num, HR⟩
              case measure => simp [intOf]; omega
          · have HF : Hid (G = true) := Lib.hid (by rw [HR.out, List.drop_eq_nil_of_le (by rw [HL.out]; omega)]; rfl)
            obtain rfl : i = 4 := by omega
            go_wp2_with fail
            go_ret
            exact ⟨by rw [HF.out]; rfl, B1.out⟩
      · have e1name : (x.name == []) = false := by simpa using hname
        have HF : Hid (G = false) := Lib.hid (by rw [HG.out, decide_eq_false hname]; simp)
        clear hname HG
        go_enter Tryz.func33, Tryz.ntmps33
        go_wp2_with (first | (go_at_call 24; refine (FormL_5 _).mono ?_; rintro e w2 ⟨rfl, rfl⟩) | (go_at_call 62; with_reducible refine (r9Word_any ⟨x.name.toArray⟩ _ HNW.out _ HNS.out).mono ?_; rintro e w5 ⟨rfl, rfl⟩) | (go_at_call 62; with_reducible refine (r9Word_any ⟨x.other.toArray⟩ _ HOW.out _ HOS.out).mono ?_; rintro e w5 ⟨rfl, rfl⟩))
        go_ret
        exact ⟨by rw [HF.out]; rfl, B1.out⟩
    · have e1other : (x.other == []) = false := by simpa using hother
      have HF : Hid (G = false) := Lib.hid (by rw [HG.out, decide_eq_false hother]; simp)
      clear hother HG
      go_enter Tryz.func33, Tryz.ntmps33
      go_wp2_with (first | (go_at_call 24; refine (FormL_5 _).mono ?_; rintro e w2 ⟨rfl, rfl⟩) | (go_at_call 62; with_reducible refine (r9Word_any ⟨x.name.toArray⟩ _ HNW.out _ HNS.out).mono ?_; rintro e w5 ⟨rfl, rfl⟩) | (go_at_call 62; with_reducible refine (r9Word_any ⟨x.other.toArray⟩ _ HOW.out _ HOS.out).mono ?_; rintro e w5 ⟨rfl, rfl⟩))
      go_ret
      exact ⟨by rw [HF.out]; rfl, B1.out⟩
  · have HF : Hid (G = false) := Lib.hid (by rw [HG.out, decide_eq_false hlen]; rfl)
    have hne : ((L : Int) != 4) = true := by simp; omega
    clear HG
    go_enter Tryz.func33, Tryz.ntmps33
    go_wp2_with (first | (go_at_call 24; refine (FormL_5 _).mono ?_; rintro e w2 ⟨rfl, rfl⟩) | (go_at_call 62; with_reducible refine (r9Word_any ⟨x.name.toArray⟩ _ HNW.out _ HNS.out).mono ?_; rintro e w5 ⟨rfl, rfl⟩) | (go_at_call 62; with_reducible refine (r9Word_any ⟨x.other.toArray⟩ _ HOW.out _ HOS.out).mono ?_; rintro e w5 ⟨rfl, rfl⟩))
    go_ret
    exact ⟨by rw [HF.out]; rfl, B1.out⟩
end Go.Proofs.YtnccndfffmaonaaGreatDoor
