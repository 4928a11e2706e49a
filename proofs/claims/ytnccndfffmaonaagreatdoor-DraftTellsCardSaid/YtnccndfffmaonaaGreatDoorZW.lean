/- Parts DtD of this claim, laid one behind the other: walks and the plain laws behind them; each contract states its own conditions. -/
import Derived.Test.YtnccndfffmaonaaGreatDoorZV
import Derived.Test.YtnccndfffmaonaaGreatDoorZS
/- The reference of layer 10: Line. PRINTED by wip/tools/mk_dtd.py. -/
namespace Go.Proofs.YtnccndfffmaonaaGreatDoor
set_option linter.unusedSimpArgs false
set_option linter.unusedVariables false
open Go.RowKit

set_option maxRecDepth 100000 in
set_option maxHeartbeats 32000000 in
theorem Line_0 (x : Dr.Item) (hx : x.kind = 0) (hr : Dr.rightI x = true) (nv : Value) (w : World) (hn : Sl w nv (ints x.n)) (hv : ∀ n ∈ x.n, n ≤ 9223372036854775807) (S : ByteArray) (hS : bs S = Dr.lineB x) (hL : S.size ≤ 1000000000) :
    Calls Tryz.prog 39 #[itemV x nv] w fun e w' => e = .returned (.string S) ∧ Below w.heap.size w w' := by
  have hE := Dr.lineR_eq hr
  obtain ⟨-, -, hpos, hlen, hdir, -, -⟩ := Dr.right_parts hr
  rw [hx, show ((0 : Int)).toNat = 0 from rfl] at hE hlen
  rw [show Dr.nums 0 = 7 by decide] at hlen
  unfold Dr.lineR at hE
  rw [show Dr.words 0 = 1 by decide, show Dr.wordOf 0 = [122, 111, 110, 101] by decide] at hE
  obtain ⟨POST, hPOST⟩ : ∃ P, P = (if (1 : Nat) = 0 ∧ x.name ≠ [] then 32 :: x.name else []) ++ [10] := ⟨_, rfl⟩
  rw [← hPOST] at hE
  have HG : Hid (bs S = _) := Lib.hid (hS.trans hE)
  obtain ⟨NA, hNA⟩ : ∃ NA : ByteArray, NA = ⟨x.name.toArray⟩ := ⟨_, rfl⟩
  obtain ⟨OA, hOA⟩ : ∃ OA : ByteArray, OA = ⟨x.other.toArray⟩ := ⟨_, rfl⟩
  have HNA : Hid (bs NA = x.name) := Lib.hid (by rw [hNA, bs_lit0])
  have HOA : Hid (bs OA = x.other) := Lib.hid (by rw [hOA, bs_lit0])
  have HP : Hid (POST = [10]) := Lib.hid (by rw [hPOST]; rfl)
  have HSA : Hid (bs (⟨#[122, 111, 110, 101]⟩ ++ ⟨#[32]⟩ ++ NA) ++ (Dr.numsT 0 0 (x.n.drop 0) ++ POST) = bs S) := Lib.hid (by
    rw [HG.out, List.drop_zero]
    simp only [bs_app3, HNA.out, HOA.out, bs_lit]
    simp)
  have hsz : (bs S).length ≤ 1000000000 := by rw [bs_len]; exact hL
  have HSZ := Lib.hid hsz
  have hns : NA.size ≤ 1000000000 := by
    have h := congrArg List.length HG.out
    have h2 : NA.size = x.name.length := by rw [← bs_len, HNA.out]
    simp at h
    omega
  have HS := Lib.hid hn
  have HLEN := Lib.hid hlen
  have HV := Lib.hid hv
  have HPOS := Lib.hid hpos
  obtain ⟨na, nc, rfl, hnm⟩ := hn.slice
  rw [ints_len, hlen] at hnm HS ⊢
  obtain ⟨w1, hw1⟩ : ∃ w1, w1 = w.alloc (.cells #[.int .i64 0, .int .i64 x.line, .string NA, .string OA, .slice na 7 nc] 34) := ⟨_, rfl⟩
  have B1 : Hid (Below w.heap.size w w1) := Lib.hid (by rw [hw1]; exact (Below.refl _ w).alloc (Nat.le_refl _) _)
  have i1 : w1.heap[w.heap.size]? = some (.cells #[.int .i64 0, .int .i64 x.line, .string NA, .string OA, .slice na 7 nc] 34 (0, 0)) := by rw [hw1]; exact heap_alloc_new _ _
  have s1w : w.heap.size < w1.heap.size := by rw [hw1]; simp
  have I1 := Lib.hid i1
  have HW1 := Lib.hid hw1
  unfold itemV
  rw [hx, ← hNA, ← hOA]
  clear hn hlen hv hpos hdir hnm hx hr hE hPOST hNA hOA hw1 i1 hS hL hsz HG
  go_enter Tryz.func39, Tryz.ntmps39
  go_wp2_with (first | (go_at_call 24; refine (FormL_0 _).mono ?_; rintro e w2 ⟨rfl, rfl⟩))
  rw [← HW1.out]
  go_loopw [3, 7] (fun sv iv wr => ∃ (i : Nat) (A : ByteArray), i ≤ 7 ∧ sv = .string A ∧ iv = .int .i64 i ∧ Hid (bs A ++ (Dr.numsT 0 i (x.n.drop i) ++ POST) = bs S) ∧ Hid (Below w1.heap.size w1 wr)) (fun _ iv _ => 7 - (intOf iv).toNat)
  case atStart => exact ⟨0, _, by omega, rfl, rfl, HSA, Lib.hid (Below.refl _ _)⟩
  case round =>
    obtain ⟨i, A, hi, rfl, rfl, HR, HB⟩ := hrel
    have hA : A.size ≤ 1000000000 := by
      have h := congrArg List.length HR.out
      have h2 := HSZ.out
      rw [List.length_append, bs_len] at h
      omega
    have hh := (HB.out.block w.heap.size s1w).trans I1.out
    have hsr := HB.out.size
    have d0 : wr.cell? ⟨w.heap.size, 0, none⟩ = some (.int .i64 0) := cell_of_heap hh 0 rfl
    have d2 : wr.cell? ⟨w.heap.size, 2, none⟩ = some (.string NA) := cell_of_heap hh 2 rfl
    have d4 : wr.cell? ⟨w.heap.size, 4, none⟩ = some (.slice na 7 nc) := cell_of_heap hh 4 rfl
    have HB3 := Lib.hid (B1.out.trans (HB.out.mono B1.out.size))
    clear hh
    by_cases him : i < 7
    · have hil : i < x.n.length := by rw [HLEN.out]; exact him
      obtain ⟨nb, no, nc2, en, -, hcs⟩ := HS.out.some (by rw [ints_len, HLEN.out]; omega)
      injection en with en1 en2 en3
      subst en1
      obtain ⟨v, hv⟩ : ∃ v, v = x.n[i] := ⟨_, rfl⟩
      have c0 : w.cell? ⟨nb, no + i, none⟩ = some (.int .i64 v) := (hcs i (by rw [ints_len]; exact hil)).trans (by rw [hv]; simp [ints])
      have lb : nb < w.heap.size := cell_block_lt c0
      have c1 : wr.cell? ⟨nb, no + i, none⟩ = some (.int .i64 v) := (HB3.out.cell (p := ⟨nb, no + i, none⟩) lb).trans c0
      have hst := HR.out
      rw [Dr.numsT_step 0 i x.n hil, ← hv] at hst
      have HST := Lib.hid hst
      have v0 : 0 ≤ v := by rw [hv]; exact HPOS.out _ (List.getElem_mem hil)
      have v1 : v ≤ 9223372036854775807 := by rw [hv]; exact HV.out _ (List.getElem_mem hil)
      have iI0 : (0 : Int) ≤ (i : Int) := by omega
      have iI1 : (i : Int) < 7 := by omega
      clear hcs en2 en3 hv hst HR c0
      go_wp2_with fail
      go_at_call 69; refine (rDec_any _ v _ (Nat.le_refl _) (by omega) (by omega)).mono ?_; rintro e w2 ⟨D, d, rfl, b⟩
      have hD := dec_size (by omega) (by omega) d
      have HD : Hid (bs D = Dr.numT 0 i v) := Lib.hid (by rw [d]; unfold Dr.numT; rw [if_neg (by omega)])
      clear d
      have HA2 : Hid (bs (A ++ ⟨#[32]⟩ ++ D) ++ (Dr.numsT 0 (i + 1) (x.n.drop (i + 1)) ++ POST) = bs S) := Lib.hid (by
        rw [← HST.out, bs_app3, bs_app3, show bs ⟨#[32]⟩ = [32] from rfl, HD.out]; simp)
      have HB2 := Lib.hid (HB.out.trans (b.mono HB.out.size))
      clear b
      go_wp2_with fail
      go_roundw
      case rel => exact ⟨i + 1, _, by omega, rfl, by go_num, HA2, HB2⟩
      case measure => simp [intOf]; omega
    · obtain rfl : i = 7 := by omega
      have HX : Hid (bs A ++ POST = bs S) := Lib.hid (by rw [← HR.out, List.drop_eq_nil_of_le (by rw [HLEN.out]; omega)]; rfl)
      clear HR
      have HF : Hid (S = A ++ ⟨#[10]⟩) := Lib.hid (bs_inj' (by rw [← HX.out, HP.out, bs_app3]; rfl))
      go_wp2_with fail
      go_ret
      exact ⟨by rw [HF.out]; rfl, HB3.out⟩
set_option maxRecDepth 100000 in
set_option maxHeartbeats 32000000 in
theorem Line_1 (x : Dr.Item) (hx : x.kind = 1) (hr : Dr.rightI x = true) (nv : Value) (w : World) (hn : Sl w nv (ints x.n)) (hv : ∀ n ∈ x.n, n ≤ 9223372036854775807) (S : ByteArray) (hS : bs S = Dr.lineB x) (hL : S.size ≤ 1000000000) :
    Calls Tryz.prog 39 #[itemV x nv] w fun e w' => e = .returned (.string S) ∧ Below w.heap.size w w' := by
  have hE := Dr.lineR_eq hr
  obtain ⟨-, -, hpos, hlen, hdir, -, -⟩ := Dr.right_parts hr
  rw [hx, show ((1 : Int)).toNat = 1 from rfl] at hE hlen
  rw [show Dr.nums 1 = 2 by decide] at hlen
  unfold Dr.lineR at hE
  rw [show Dr.words 1 = 1 by decide, show Dr.wordOf 1 = [115, 104, 105, 102, 116] by decide] at hE
  obtain ⟨POST, hPOST⟩ : ∃ P, P = (if (1 : Nat) = 0 ∧ x.name ≠ [] then 32 :: x.name else []) ++ [10] := ⟨_, rfl⟩
  rw [← hPOST] at hE
  have HG : Hid (bs S = _) := Lib.hid (hS.trans hE)
  obtain ⟨NA, hNA⟩ : ∃ NA : ByteArray, NA = ⟨x.name.toArray⟩ := ⟨_, rfl⟩
  obtain ⟨OA, hOA⟩ : ∃ OA : ByteArray, OA = ⟨x.other.toArray⟩ := ⟨_, rfl⟩
  have HNA : Hid (bs NA = x.name) := Lib.hid (by rw [hNA, bs_lit0])
  have HOA : Hid (bs OA = x.other) := Lib.hid (by rw [hOA, bs_lit0])
  have HP : Hid (POST = [10]) := Lib.hid (by rw [hPOST]; rfl)
  have HSA : Hid (bs (⟨#[115, 104, 105, 102, 116]⟩ ++ ⟨#[32]⟩ ++ NA) ++ (Dr.numsT 1 0 (x.n.drop 0) ++ POST) = bs S) := Lib.hid (by
    rw [HG.out, List.drop_zero]
    simp only [bs_app3, HNA.out, HOA.out, bs_lit]
    simp)
  have hsz : (bs S).length ≤ 1000000000 := by rw [bs_len]; exact hL
  have HSZ := Lib.hid hsz
  have hns : NA.size ≤ 1000000000 := by
    have h := congrArg List.length HG.out
    have h2 : NA.size = x.name.length := by rw [← bs_len, HNA.out]
    simp at h
    omega
  have HS := Lib.hid hn
  have HLEN := Lib.hid hlen
  have HV := Lib.hid hv
  have HPOS := Lib.hid hpos
  obtain ⟨na, nc, rfl, hnm⟩ := hn.slice
  rw [ints_len, hlen] at hnm HS ⊢
  obtain ⟨w1, hw1⟩ : ∃ w1, w1 = w.alloc (.cells #[.int .i64 1, .int .i64 x.line, .string NA, .string OA, .slice na 2 nc] 34) := ⟨_, rfl⟩
  have B1 : Hid (Below w.heap.size w w1) := Lib.hid (by rw [hw1]; exact (Below.refl _ w).alloc (Nat.le_refl _) _)
  have i1 : w1.heap[w.heap.size]? = some (.cells #[.int .i64 1, .int .i64 x.line, .string NA, .string OA, .slice na 2 nc] 34 (0, 0)) := by rw [hw1]; exact heap_alloc_new _ _
  have s1w : w.heap.size < w1.heap.size := by rw [hw1]; simp
  have I1 := Lib.hid i1
  have HW1 := Lib.hid hw1
  unfold itemV
  rw [hx, ← hNA, ← hOA]
  clear hn hlen hv hpos hdir hnm hx hr hE hPOST hNA hOA hw1 i1 hS hL hsz HG
  go_enter Tryz.func39, Tryz.ntmps39
  go_wp2_with (first | (go_at_call 24; refine (FormL_1 _).mono ?_; rintro e w2 ⟨rfl, rfl⟩))
  rw [← HW1.out]
  go_loopw [3, 7] (fun sv iv wr => ∃ (i : Nat) (A : ByteArray), i ≤ 2 ∧ sv = .string A ∧ iv = .int .i64 i ∧ Hid (bs A ++ (Dr.numsT 1 i (x.n.drop i) ++ POST) = bs S) ∧ Hid (Below w1.heap.size w1 wr)) (fun _ iv _ => 2 - (intOf iv).toNat)
  case atStart => exact ⟨0, _, by omega, rfl, rfl, HSA, Lib.hid (Below.refl _ _)⟩
  case round =>
    obtain ⟨i, A, hi, rfl, rfl, HR, HB⟩ := hrel
    have hA : A.size ≤ 1000000000 := by
      have h := congrArg List.length HR.out
      have h2 := HSZ.out
      rw [List.length_append, bs_len] at h
      omega
    have hh := (HB.out.block w.heap.size s1w).trans I1.out
    have hsr := HB.out.size
    have d0 : wr.cell? ⟨w.heap.size, 0, none⟩ = some (.int .i64 1) := cell_of_heap hh 0 rfl
    have d2 : wr.cell? ⟨w.heap.size, 2, none⟩ = some (.string NA) := cell_of_heap hh 2 rfl
    have d4 : wr.cell? ⟨w.heap.size, 4, none⟩ = some (.slice na 2 nc) := cell_of_heap hh 4 rfl
    have HB3 := Lib.hid (B1.out.trans (HB.out.mono B1.out.size))
    clear hh
    by_cases him : i < 2
    · have hil : i < x.n.length := by rw [HLEN.out]; exact him
      obtain ⟨nb, no, nc2, en, -, hcs⟩ := HS.out.some (by rw [ints_len, HLEN.out]; omega)
      injection en with en1 en2 en3
      subst en1
      obtain ⟨v, hv⟩ : ∃ v, v = x.n[i] := ⟨_, rfl⟩
      have c0 : w.cell? ⟨nb, no + i, none⟩ = some (.int .i64 v) := (hcs i (by rw [ints_len]; exact hil)).trans (by rw [hv]; simp [ints])
      have lb : nb < w.heap.size := cell_block_lt c0
      have c1 : wr.cell? ⟨nb, no + i, none⟩ = some (.int .i64 v) := (HB3.out.cell (p := ⟨nb, no + i, none⟩) lb).trans c0
      have hst := HR.out
      rw [Dr.numsT_step 1 i x.n hil, ← hv] at hst
      have HST := Lib.hid hst
      have v0 : 0 ≤ v := by rw [hv]; exact HPOS.out _ (List.getElem_mem hil)
      have v1 : v ≤ 9223372036854775807 := by rw [hv]; exact HV.out _ (List.getElem_mem hil)
      have iI0 : (0 : Int) ≤ (i : Int) := by omega
      have iI1 : (i : Int) < 2 := by omega
      clear hcs en2 en3 hv hst HR c0
      go_wp2_with fail
      go_at_call 69; refine (rDec_any _ v _ (Nat.le_refl _) (by omega) (by omega)).mono ?_; rintro e w2 ⟨D, d, rfl, b⟩
      have hD := dec_size (by omega) (by omega) d
      have HD : Hid (bs D = Dr.numT 1 i v) := Lib.hid (by rw [d]; unfold Dr.numT; rw [if_neg (by omega)])
      clear d
      have HA2 : Hid (bs (A ++ ⟨#[32]⟩ ++ D) ++ (Dr.numsT 1 (i + 1) (x.n.drop (i + 1)) ++ POST) = bs S) := Lib.hid (by
        rw [← HST.out, bs_app3, bs_app3, show bs ⟨#[32]⟩ = [32] from rfl, HD.out]; simp)
      have HB2 := Lib.hid (HB.out.trans (b.mono HB.out.size))
      clear b
      go_wp2_with fail
      go_roundw
      case rel => exact ⟨i + 1, _, by omega, rfl, by go_num, HA2, HB2⟩
      case measure => simp [intOf]; omega
    · obtain rfl : i = 2 := by omega
      have HX : Hid (bs A ++ POST = bs S) := Lib.hid (by rw [← HR.out, List.drop_eq_nil_of_le (by rw [HLEN.out]; omega)]; rfl)
      clear HR
      have HF : Hid (S = A ++ ⟨#[10]⟩) := Lib.hid (bs_inj' (by rw [← HX.out, HP.out, bs_app3]; rfl))
      go_wp2_with fail
      go_ret
      exact ⟨by rw [HF.out]; rfl, HB3.out⟩
set_option maxRecDepth 100000 in
set_option maxHeartbeats 32000000 in
theorem Line_2 (x : Dr.Item) (hx : x.kind = 2) (hr : Dr.rightI x = true) (nv : Value) (w : World) (hn : Sl w nv (ints x.n)) (hv : ∀ n ∈ x.n, n ≤ 9223372036854775807) (S : ByteArray) (hS : bs S = Dr.lineB x) (hL : S.size ≤ 1000000000) :
    Calls Tryz.prog 39 #[itemV x nv] w fun e w' => e = .returned (.string S) ∧ Below w.heap.size w w' := by
  have hE := Dr.lineR_eq hr
  obtain ⟨-, -, hpos, hlen, hdir, -, -⟩ := Dr.right_parts hr
  rw [hx, show ((2 : Int)).toNat = 2 from rfl] at hE hlen
  rw [show Dr.nums 2 = 4 by decide] at hlen
  unfold Dr.lineR at hE
  rw [show Dr.words 2 = 0 by decide, show Dr.wordOf 2 = [111, 110, 101, 119, 97, 121] by decide] at hE
  obtain ⟨POST, hPOST⟩ : ∃ P, P = (if (0 : Nat) = 0 ∧ x.name ≠ [] then 32 :: x.name else []) ++ [10] := ⟨_, rfl⟩
  rw [← hPOST] at hE
  have HG : Hid (bs S = _) := Lib.hid (hS.trans hE)
  obtain ⟨NA, hNA⟩ : ∃ NA : ByteArray, NA = ⟨x.name.toArray⟩ := ⟨_, rfl⟩
  obtain ⟨OA, hOA⟩ : ∃ OA : ByteArray, OA = ⟨x.other.toArray⟩ := ⟨_, rfl⟩
  have HNA : Hid (bs NA = x.name) := Lib.hid (by rw [hNA, bs_lit0])
  have HOA : Hid (bs OA = x.other) := Lib.hid (by rw [hOA, bs_lit0])
  have hnm : x.name = [] := by
    have hh := Dr.right_shape hr
    cases hh <;> first | rfl | (dsimp only at hx; omega)
  have HP : Hid (POST = [10]) := Lib.hid (by rw [hPOST, hnm]; rfl)
  have e1n : (NA.toList == []) = true := by rw [toList_bs, HNA.out, hnm]; rfl
  clear hnm
  have HSA : Hid (bs (⟨#[111, 110, 101, 119, 97, 121]⟩) ++ (Dr.numsT 2 0 (x.n.drop 0) ++ POST) = bs S) := Lib.hid (by
    rw [HG.out, List.drop_zero]
    simp only [bs_app3, HNA.out, HOA.out, bs_lit]
    simp)
  have hsz : (bs S).length ≤ 1000000000 := by rw [bs_len]; exact hL
  have HSZ := Lib.hid hsz
  have HS := Lib.hid hn
  have HLEN := Lib.hid hlen
  have HV := Lib.hid hv
  have HPOS := Lib.hid hpos
  have HDIR := Lib.hid (hdir hx)
  obtain ⟨na, nc, rfl, hnm⟩ := hn.slice
  rw [ints_len, hlen] at hnm HS ⊢
  obtain ⟨w1, hw1⟩ : ∃ w1, w1 = w.alloc (.cells #[.int .i64 2, .int .i64 x.line, .string NA, .string OA, .slice na 4 nc] 34) := ⟨_, rfl⟩
  have B1 : Hid (Below w.heap.size w w1) := Lib.hid (by rw [hw1]; exact (Below.refl _ w).alloc (Nat.le_refl _) _)
  have i1 : w1.heap[w.heap.size]? = some (.cells #[.int .i64 2, .int .i64 x.line, .string NA, .string OA, .slice na 4 nc] 34 (0, 0)) := by rw [hw1]; exact heap_alloc_new _ _
  have s1w : w.heap.size < w1.heap.size := by rw [hw1]; simp
  have I1 := Lib.hid i1
  have HW1 := Lib.hid hw1
  unfold itemV
  rw [hx, ← hNA, ← hOA]
  clear hn hlen hv hpos hdir hnm hx hr hE hPOST hNA hOA hw1 i1 hS hL hsz HG
  go_enter Tryz.func39, Tryz.ntmps39
  go_wp2_with (first | (go_at_call 24; refine (FormL_2 _).mono ?_; rintro e w2 ⟨rfl, rfl⟩))
  rw [← HW1.out]
  go_loopw [3, 7] (fun sv iv wr => ∃ (i : Nat) (A : ByteArray), i ≤ 4 ∧ sv = .string A ∧ iv = .int .i64 i ∧ Hid (bs A ++ (Dr.numsT 2 i (x.n.drop i) ++ POST) = bs S) ∧ Hid (Below w1.heap.size w1 wr)) (fun _ iv _ => 4 - (intOf iv).toNat)
  case atStart => exact ⟨0, _, by omega, rfl, rfl, HSA, Lib.hid (Below.refl _ _)⟩
  case round =>
    obtain ⟨i, A, hi, rfl, rfl, HR, HB⟩ := hrel
    have hA : A.size ≤ 1000000000 := by
      have h := congrArg List.length HR.out
      have h2 := HSZ.out
      rw [List.length_append, bs_len] at h
      omega
    have hh := (HB.out.block w.heap.size s1w).trans I1.out
    have hsr := HB.out.size
    have d0 : wr.cell? ⟨w.heap.size, 0, none⟩ = some (.int .i64 2) := cell_of_heap hh 0 rfl
    have d2 : wr.cell? ⟨w.heap.size, 2, none⟩ = some (.string NA) := cell_of_heap hh 2 rfl
    have d4 : wr.cell? ⟨w.heap.size, 4, none⟩ = some (.slice na 4 nc) := cell_of_heap hh 4 rfl
    have HB3 := Lib.hid (B1.out.trans (HB.out.mono B1.out.size))
    clear hh
    by_cases him : i < 4
    · have hil : i < x.n.length := by rw [HLEN.out]; exact him
      obtain ⟨nb, no, nc2, en, -, hcs⟩ := HS.out.some (by rw [ints_len, HLEN.out]; omega)
      injection en with en1 en2 en3
      subst en1
      obtain ⟨v, hv⟩ : ∃ v, v = x.n[i] := ⟨_, rfl⟩
      have c0 : w.cell? ⟨nb, no + i, none⟩ = some (.int .i64 v) := (hcs i (by rw [ints_len]; exact hil)).trans (by rw [hv]; simp [ints])
      have lb : nb < w.heap.size := cell_block_lt c0
      have c1 : wr.cell? ⟨nb, no + i, none⟩ = some (.int .i64 v) := (HB3.out.cell (p := ⟨nb, no + i, none⟩) lb).trans c0
      have hst := HR.out
      rw [Dr.numsT_step 2 i x.n hil, ← hv] at hst
      have HST := Lib.hid hst
      have v0 : 0 ≤ v := by rw [hv]; exact HPOS.out _ (List.getElem_mem hil)
      have v1 : v ≤ 9223372036854775807 := by rw [hv]; exact HV.out _ (List.getElem_mem hil)
      have iI0 : (0 : Int) ≤ (i : Int) := by omega
      have iI1 : (i : Int) < 4 := by omega
      by_cases hi3 : i = 3
      · have v5 : v < 6 := by
          have h := HDIR.out
          subst hi3
          rw [List.getD_eq_getElem?_getD, List.getElem?_eq_getElem hil, Option.getD_some, ← hv] at h
          exact h
        obtain ⟨j, rfl⟩ : ∃ j : Nat, v = (j : Int) := ⟨v.toNat, by omega⟩
        have e3 : ((i : Int) == 3) = true := beq_iff_eq.2 (by omega)
        obtain ⟨D, hDe⟩ : ∃ D : ByteArray, D = ⟨(Dr.dirs.getD j []).toArray⟩ := ⟨_, rfl⟩
        have HD : Hid (bs D = Dr.numT 2 i (j : Int)) := Lib.hid (by rw [hDe, bs_lit0]; unfold Dr.numT; rw [if_pos ⟨rfl, hi3⟩]; rfl)
        have hD : D.size ≤ 5 := by
          rw [hDe, ← bs_len, bs_lit0]
          have h6 : ∀ k, k < 6 → (Dr.dirs.getD k []).length ≤ 5 := by decide
          exact h6 j (by omega)
        have HDD := Lib.hid (fun w0 => Direction_any j (by omega) w0)
        rw [← hDe] at HDD
        clear hcs en2 en3 hv hst HR c0 hi3 hDe v5
        go_wp2_with fail
        go_at_call 68; refine (HDD.out _).mono ?_; rintro e w2 ⟨rfl, b⟩
        have HA2 : Hid (bs (A ++ ⟨#[32]⟩ ++ D) ++ (Dr.numsT 2 (i + 1) (x.n.drop (i + 1)) ++ POST) = bs S) := Lib.hid (by
          rw [← HST.out, bs_app3, bs_app3, show bs ⟨#[32]⟩ = [32] from rfl, HD.out]; simp)
        have HB2 := Lib.hid (HB.out.trans (b.mono HB.out.size))
        clear b
        go_wp2_with fail
        go_roundw
        case rel => exact ⟨i + 1, _, by omega, rfl, by go_num, HA2, HB2⟩
        case measure => simp [intOf]; omega
      · have e3 : ((i : Int) == 3) = false := beq_eq_false_iff_ne.2 (by omega)
        clear hcs en2 en3 hv hst HR c0
        go_wp2_with fail
        go_at_call 69; refine (rDec_any _ v _ (Nat.le_refl _) (by omega) (by omega)).mono ?_; rintro e w2 ⟨D, d, rfl, b⟩
        have hD := dec_size (by omega) (by omega) d
        have HD : Hid (bs D = Dr.numT 2 i v) := Lib.hid (by rw [d]; unfold Dr.numT; rw [if_neg (by omega)])
        clear d
        have HA2 : Hid (bs (A ++ ⟨#[32]⟩ ++ D) ++ (Dr.numsT 2 (i + 1) (x.n.drop (i + 1)) ++ POST) = bs S) := Lib.hid (by
          rw [← HST.out, bs_app3, bs_app3, show bs ⟨#[32]⟩ = [32] from rfl, HD.out]; simp)
        have HB2 := Lib.hid (HB.out.trans (b.mono HB.out.size))
        clear b
        go_wp2_with fail
        go_roundw
        case rel => exact ⟨i + 1, _, by omega, rfl, by go_num, HA2, HB2⟩
        case measure => simp [intOf]; omega
    · obtain rfl : i = 4 := by omega
      have HX : Hid (bs A ++ POST = bs S) := Lib.hid (by rw [← HR.out, List.drop_eq_nil_of_le (by rw [HLEN.out]; omega)]; rfl)
      clear HR
      have HF : Hid (S = A ++ ⟨#[10]⟩) := Lib.hid (bs_inj' (by rw [← HX.out, HP.out, bs_app3]; rfl))
      go_wp2_with fail
      go_ret
      exact ⟨by rw [HF.out]; rfl, HB3.out⟩
set_option maxRecDepth 100000 in
set_option maxHeartbeats 32000000 in
theorem Line_3 (x : Dr.Item) (hx : x.kind = 3) (hr : Dr.rightI x = true) (nv : Value) (w : World) (hn : Sl w nv (ints x.n)) (hv : ∀ n ∈ x.n, n ≤ 9223372036854775807) (S : ByteArray) (hS : bs S = Dr.lineB x) (hL : S.size ≤ 1000000000) :
    Calls Tryz.prog 39 #[itemV x nv] w fun e w' => e = .returned (.string S) ∧ Below w.heap.size w w' := by
  have hE := Dr.lineR_eq hr
  obtain ⟨-, -, hpos, hlen, hdir, -, -⟩ := Dr.right_parts hr
  rw [hx, show ((3 : Int)).toNat = 3 from rfl] at hE hlen
  rw [show Dr.nums 3 = 0 by decide] at hlen
  unfold Dr.lineR at hE
  rw [show Dr.words 3 = 2 by decide, show Dr.wordOf 3 = [97, 112, 97, 114, 116] by decide] at hE
  obtain ⟨POST, hPOST⟩ : ∃ P, P = (if (2 : Nat) = 0 ∧ x.name ≠ [] then 32 :: x.name else []) ++ [10] := ⟨_, rfl⟩
  rw [← hPOST] at hE
  have HG : Hid (bs S = _) := Lib.hid (hS.trans hE)
  obtain ⟨NA, hNA⟩ : ∃ NA : ByteArray, NA = ⟨x.name.toArray⟩ := ⟨_, rfl⟩
  obtain ⟨OA, hOA⟩ : ∃ OA : ByteArray, OA = ⟨x.other.toArray⟩ := ⟨_, rfl⟩
  have HNA : Hid (bs NA = x.name) := Lib.hid (by rw [hNA, bs_lit0])
  have HOA : Hid (bs OA = x.other) := Lib.hid (by rw [hOA, bs_lit0])
  have HP : Hid (POST = [10]) := Lib.hid (by rw [hPOST]; rfl)
  have HSA : Hid (bs (⟨#[97, 112, 97, 114, 116]⟩ ++ ⟨#[32]⟩ ++ NA ++ ⟨#[32]⟩ ++ OA) ++ (Dr.numsT 3 0 (x.n.drop 0) ++ POST) = bs S) := Lib.hid (by
    rw [HG.out, List.drop_zero]
    simp only [bs_app3, HNA.out, HOA.out, bs_lit]
    simp)
  have hsz : (bs S).length ≤ 1000000000 := by rw [bs_len]; exact hL
  have HSZ := Lib.hid hsz
  have hns : NA.size ≤ 1000000000 := by
    have h := congrArg List.length HG.out
    have h2 : NA.size = x.name.length := by rw [← bs_len, HNA.out]
    simp at h
    omega
  have hos : OA.size ≤ 1000000000 := by
    have h := congrArg List.length HG.out
    have h2 : OA.size = x.other.length := by rw [← bs_len, HOA.out]
    simp at h
    omega
  have HS := Lib.hid hn
  have HLEN := Lib.hid hlen
  have HV := Lib.hid hv
  have HPOS := Lib.hid hpos
  obtain ⟨na, nc, rfl, hnm⟩ := hn.slice
  rw [ints_len, hlen] at hnm HS ⊢
  obtain ⟨w1, hw1⟩ : ∃ w1, w1 = w.alloc (.cells #[.int .i64 3, .int .i64 x.line, .string NA, .string OA, .slice na 0 nc] 34) := ⟨_, rfl⟩
  have B1 : Hid (Below w.heap.size w w1) := Lib.hid (by rw [hw1]; exact (Below.refl _ w).alloc (Nat.le_refl _) _)
  have i1 : w1.heap[w.heap.size]? = some (.cells #[.int .i64 3, .int .i64 x.line, .string NA, .string OA, .slice na 0 nc] 34 (0, 0)) := by rw [hw1]; exact heap_alloc_new _ _
  have s1w : w.heap.size < w1.heap.size := by rw [hw1]; simp
  have I1 := Lib.hid i1
  have HW1 := Lib.hid hw1
  unfold itemV
  rw [hx, ← hNA, ← hOA]
  clear hn hlen hv hpos hdir hnm hx hr hE hPOST hNA hOA hw1 i1 hS hL hsz HG
  go_enter Tryz.func39, Tryz.ntmps39
  go_wp2_with (first | (go_at_call 24; refine (FormL_3 _).mono ?_; rintro e w2 ⟨rfl, rfl⟩))
  rw [← HW1.out]
  go_loopw [3, 7] (fun sv iv wr => ∃ (i : Nat) (A : ByteArray), i ≤ 0 ∧ sv = .string A ∧ iv = .int .i64 i ∧ Hid (bs A ++ (Dr.numsT 3 i (x.n.drop i) ++ POST) = bs S) ∧ Hid (Below w1.heap.size w1 wr)) (fun _ iv _ => 0 - (intOf iv).toNat)
  case atStart => exact ⟨0, _, by omega, rfl, rfl, HSA, Lib.hid (Below.refl _ _)⟩
  case round =>
    obtain ⟨i, A, hi, rfl, rfl, HR, HB⟩ := hrel
    have hA : A.size ≤ 1000000000 := by
      have h := congrArg List.length HR.out
      have h2 := HSZ.out
      rw [List.length_append, bs_len] at h
      omega
    have hh := (HB.out.block w.heap.size s1w).trans I1.out
    have hsr := HB.out.size
    have d0 : wr.cell? ⟨w.heap.size, 0, none⟩ = some (.int .i64 3) := cell_of_heap hh 0 rfl
    have d2 : wr.cell? ⟨w.heap.size, 2, none⟩ = some (.string NA) := cell_of_heap hh 2 rfl
    have d4 : wr.cell? ⟨w.heap.size, 4, none⟩ = some (.slice na 0 nc) := cell_of_heap hh 4 rfl
    have HB3 := Lib.hid (B1.out.trans (HB.out.mono B1.out.size))
    clear hh
    obtain rfl : i = 0 := by omega
    have HX : Hid (bs A ++ POST = bs S) := Lib.hid (by rw [← HR.out, List.drop_eq_nil_of_le (by rw [HLEN.out]; omega)]; rfl)
    clear HR
    have HF : Hid (S = A ++ ⟨#[10]⟩) := Lib.hid (bs_inj' (by rw [← HX.out, HP.out, bs_app3]; rfl))
    go_wp2_with fail
    go_ret
    exact ⟨by rw [HF.out]; rfl, HB3.out⟩
set_option maxRecDepth 100000 in
set_option maxHeartbeats 32000000 in
theorem Line_4 (x : Dr.Item) (hx : x.kind = 4) (hr : Dr.rightI x = true) (nv : Value) (w : World) (hn : Sl w nv (ints x.n)) (hv : ∀ n ∈ x.n, n ≤ 9223372036854775807) (S : ByteArray) (hS : bs S = Dr.lineB x) (hL : S.size ≤ 1000000000) :
    Calls Tryz.prog 39 #[itemV x nv] w fun e w' => e = .returned (.string S) ∧ Below w.heap.size w w' := by
  have hE := Dr.lineR_eq hr
  obtain ⟨-, -, hpos, hlen, hdir, -, -⟩ := Dr.right_parts hr
  rw [hx, show ((4 : Int)).toNat = 4 from rfl] at hE hlen
  rw [show Dr.nums 4 = 3 by decide] at hlen
  unfold Dr.lineR at hE
  rw [show Dr.words 4 = 0 by decide, show Dr.wordOf 4 = [115, 104, 101, 108, 102] by decide] at hE
  obtain ⟨POST, hPOST⟩ : ∃ P, P = (if (0 : Nat) = 0 ∧ x.name ≠ [] then 32 :: x.name else []) ++ [10] := ⟨_, rfl⟩
  rw [← hPOST] at hE
  have HG : Hid (bs S = _) := Lib.hid (hS.trans hE)
  obtain ⟨NA, hNA⟩ : ∃ NA : ByteArray, NA = ⟨x.name.toArray⟩ := ⟨_, rfl⟩
  obtain ⟨OA, hOA⟩ : ∃ OA : ByteArray, OA = ⟨x.other.toArray⟩ := ⟨_, rfl⟩
  have HNA : Hid (bs NA = x.name) := Lib.hid (by rw [hNA, bs_lit0])
  have HOA : Hid (bs OA = x.other) := Lib.hid (by rw [hOA, bs_lit0])
  have HP : Hid (POST = (if x.name ≠ [] then 32 :: x.name else []) ++ [10]) := Lib.hid (by rw [hPOST]; simp)
  have HSA : Hid (bs (⟨#[115, 104, 101, 108, 102]⟩) ++ (Dr.numsT 4 0 (x.n.drop 0) ++ POST) = bs S) := Lib.hid (by
    rw [HG.out, List.drop_zero]
    simp only [bs_app3, HNA.out, HOA.out, bs_lit]
    simp)
  have hsz : (bs S).length ≤ 1000000000 := by rw [bs_len]; exact hL
  have HSZ := Lib.hid hsz
  have HS := Lib.hid hn
  have HLEN := Lib.hid hlen
  have HV := Lib.hid hv
  have HPOS := Lib.hid hpos
  obtain ⟨na, nc, rfl, hnm⟩ := hn.slice
  rw [ints_len, hlen] at hnm HS ⊢
  obtain ⟨w1, hw1⟩ : ∃ w1, w1 = w.alloc (.cells #[.int .i64 4, .int .i64 x.line, .string NA, .string OA, .slice na 3 nc] 34) := ⟨_, rfl⟩
  have B1 : Hid (Below w.heap.size w w1) := Lib.hid (by rw [hw1]; exact (Below.refl _ w).alloc (Nat.le_refl _) _)
  have i1 : w1.heap[w.heap.size]? = some (.cells #[.int .i64 4, .int .i64 x.line, .string NA, .string OA, .slice na 3 nc] 34 (0, 0)) := by rw [hw1]; exact heap_alloc_new _ _
  have s1w : w.heap.size < w1.heap.size := by rw [hw1]; simp
  have I1 := Lib.hid i1
  have HW1 := Lib.hid hw1
  unfold itemV
  rw [hx, ← hNA, ← hOA]
  clear hn hlen hv hpos hdir hnm hx hr hE hPOST hNA hOA hw1 i1 hS hL hsz HG
  go_enter Tryz.func39, Tryz.ntmps39
  go_wp2_with (first | (go_at_call 24; refine (FormL_4 _).mono ?_; rintro e w2 ⟨rfl, rfl⟩))
  rw [← HW1.out]
  go_loopw [3, 7] (fun sv iv wr => ∃ (i : Nat) (A : ByteArray), i ≤ 3 ∧ sv = .string A ∧ iv = .int .i64 i ∧ Hid (bs A ++ (Dr.numsT 4 i (x.n.drop i) ++ POST) = bs S) ∧ Hid (Below w1.heap.size w1 wr)) (fun _ iv _ => 3 - (intOf iv).toNat)
  case atStart => exact ⟨0, _, by omega, rfl, rfl, HSA, Lib.hid (Below.refl _ _)⟩
  case round =>
    obtain ⟨i, A, hi, rfl, rfl, HR, HB⟩ := hrel
    have hA : A.size ≤ 1000000000 := by
      have h := congrArg List.length HR.out
      have h2 := HSZ.out
      rw [List.length_append, bs_len] at h
      omega
    have hh := (HB.out.block w.heap.size s1w).trans I1.out
    have hsr := HB.out.size
    have d0 : wr.cell? ⟨w.heap.size, 0, none⟩ = some (.int .i64 4) := cell_of_heap hh 0 rfl
    have d2 : wr.cell? ⟨w.heap.size, 2, none⟩ = some (.string NA) := cell_of_heap hh 2 rfl
    have d4 : wr.cell? ⟨w.heap.size, 4, none⟩ = some (.slice na 3 nc) := cell_of_heap hh 4 rfl
    have HB3 := Lib.hid (B1.out.trans (HB.out.mono B1.out.size))
    clear hh
    by_cases him : i < 3
    · have hil : i < x.n.length := by rw [HLEN.out]; exact him
      obtain ⟨nb, no, nc2, en, -, hcs⟩ := HS.out.some (by rw [ints_len, HLEN.out]; omega)
      injection en with en1 en2 en3
      subst en1
      obtain ⟨v, hv⟩ : ∃ v, v = x.n[i] := ⟨_, rfl⟩
      have c0 : w.cell? ⟨nb, no + i, none⟩ = some (.int .i64 v) := (hcs i (by rw [ints_len]; exact hil)).trans (by rw [hv]; simp [ints])
      have lb : nb < w.heap.size := cell_block_lt c0
      have c1 : wr.cell? ⟨nb, no + i, none⟩ = some (.int .i64 v) := (HB3.out.cell (p := ⟨nb, no + i, none⟩) lb).trans c0
      have hst := HR.out
      rw [Dr.numsT_step 4 i x.n hil, ← hv] at hst
      have HST := Lib.hid hst
      have v0 : 0 ≤ v := by rw [hv]; exact HPOS.out _ (List.getElem_mem hil)
      have v1 : v ≤ 9223372036854775807 := by rw [hv]; exact HV.out _ (List.getElem_mem hil)
      have iI0 : (0 : Int) ≤ (i : Int) := by omega
      have iI1 : (i : Int) < 3 := by omega
      clear hcs en2 en3 hv hst HR c0
      go_wp2_with fail
      go_at_call 69; refine (rDec_any _ v _ (Nat.le_refl _) (by omega) (by omega)).mono ?_; rintro e w2 ⟨D, d, rfl, b⟩
      have hD := dec_size (by omega) (by omega) d
      have HD : Hid (bs D = Dr.numT 4 i v) := Lib.hid (by rw [d]; unfold Dr.numT; rw [if_neg (by omega)])
      clear d
      have HA2 : Hid (bs (A ++ ⟨#[32]⟩ ++ D) ++ (Dr.numsT 4 (i + 1) (x.n.drop (i + 1)) ++ POST) = bs S) := Lib.hid (by
        rw [← HST.out, bs_app3, bs_app3, show bs ⟨#[32]⟩ = [32] from rfl, HD.out]; simp)
      have HB2 := Lib.hid (HB.out.trans (b.mono HB.out.size))
      clear b
      go_wp2_with fail
      go_roundw
      case rel => exact ⟨i + 1, _, by omega, rfl, by go_num, HA2, HB2⟩
      case measure => simp [intOf]; omega
    · obtain rfl : i = 3 := by omega
      have HX : Hid (bs A ++ POST = bs S) := Lib.hid (by rw [← HR.out, List.drop_eq_nil_of_le (by rw [HLEN.out]; omega)]; rfl)
      clear HR
      by_cases hname : x.name = []
      · have e1n : (NA.toList == []) = true := by rw [toList_bs, HNA.out, hname]; rfl
        have HF : Hid (S = A ++ ⟨#[10]⟩) := Lib.hid (bs_inj' (by rw [← HX.out, HP.out, hname, bs_app3]; rfl))
        clear hname
        go_wp2_with fail
        go_ret
        exact ⟨by rw [HF.out]; rfl, HB3.out⟩
      · have e1n : (NA.toList == []) = false := by rw [toList_bs, HNA.out]; simpa using hname
        have hns : NA.size ≤ 1000000000 := by
          have h := congrArg List.length HX.out
          have h3 := HSZ.out
          have h2 : NA.size = x.name.length := by rw [← bs_len, HNA.out]
          rw [HP.out, if_pos hname, List.length_append, List.length_append, List.length_cons] at h
          omega
        have HF : Hid (S = A ++ ⟨#[32]⟩ ++ NA ++ ⟨#[10]⟩) := Lib.hid (bs_inj' (by rw [← HX.out, HP.out, if_pos hname, bs_app3, bs_app3, bs_app3, HNA.out, show bs ⟨#[32]⟩ = [32] from rfl, show bs ⟨#[10]⟩ = [10] from rfl]; simp))
        clear hname
        go_wp2_with fail
        go_ret
        exact ⟨by rw [HF.out]; rfl, HB3.out⟩
set_option maxRecDepth 100000 in
set_option maxHeartbeats 32000000 in
theorem Line_5 (x : Dr.Item) (hx : x.kind = 5) (hr : Dr.rightI x = true) (nv : Value) (w : World) (hn : Sl w nv (ints x.n)) (hv : ∀ n ∈ x.n, n ≤ 9223372036854775807) (S : ByteArray) (hS : bs S = Dr.lineB x) (hL : S.size ≤ 1000000000) :
    Calls Tryz.prog 39 #[itemV x nv] w fun e w' => e = .returned (.string S) ∧ Below w.heap.size w w' := by
  have hE := Dr.lineR_eq hr
  obtain ⟨-, -, hpos, hlen, hdir, -, -⟩ := Dr.right_parts hr
  rw [hx, show ((5 : Int)).toNat = 5 from rfl] at hE hlen
  rw [show Dr.nums 5 = 4 by decide] at hlen
  unfold Dr.lineR at hE
  rw [show Dr.words 5 = 0 by decide, show Dr.wordOf 5 = [114, 111, 98, 111, 116] by decide] at hE
  obtain ⟨POST, hPOST⟩ : ∃ P, P = (if (0 : Nat) = 0 ∧ x.name ≠ [] then 32 :: x.name else []) ++ [10] := ⟨_, rfl⟩
  rw [← hPOST] at hE
  have HG : Hid (bs S = _) := Lib.hid (hS.trans hE)
  obtain ⟨NA, hNA⟩ : ∃ NA : ByteArray, NA = ⟨x.name.toArray⟩ := ⟨_, rfl⟩
  obtain ⟨OA, hOA⟩ : ∃ OA : ByteArray, OA = ⟨x.other.toArray⟩ := ⟨_, rfl⟩
  have HNA : Hid (bs NA = x.name) := Lib.hid (by rw [hNA, bs_lit0])
  have HOA : Hid (bs OA = x.other) := Lib.hid (by rw [hOA, bs_lit0])
  have hnm : x.name = [] := by
    have hh := Dr.right_shape hr
    cases hh <;> first | rfl | (dsimp only at hx; omega)
  have HP : Hid (POST = [10]) := Lib.hid (by rw [hPOST, hnm]; rfl)
  have e1n : (NA.toList == []) = true := by rw [toList_bs, HNA.out, hnm]; rfl
  clear hnm
  have HSA : Hid (bs (⟨#[114, 111, 98, 111, 116]⟩) ++ (Dr.numsT 5 0 (x.n.drop 0) ++ POST) = bs S) := Lib.hid (by
    rw [HG.out, List.drop_zero]
    simp only [bs_app3, HNA.out, HOA.out, bs_lit]
    simp)
  have hsz : (bs S).length ≤ 1000000000 := by rw [bs_len]; exact hL
  have HSZ := Lib.hid hsz
  have HS := Lib.hid hn
  have HLEN := Lib.hid hlen
  have HV := Lib.hid hv
  have HPOS := Lib.hid hpos
  obtain ⟨na, nc, rfl, hnm⟩ := hn.slice
  rw [ints_len, hlen] at hnm HS ⊢
  obtain ⟨w1, hw1⟩ : ∃ w1, w1 = w.alloc (.cells #[.int .i64 5, .int .i64 x.line, .string NA, .string OA, .slice na 4 nc] 34) := ⟨_, rfl⟩
  have B1 : Hid (Below w.heap.size w w1) := Lib.hid (by rw [hw1]; exact (Below.refl _ w).alloc (Nat.le_refl _) _)
  have i1 : w1.heap[w.heap.size]? = some (.cells #[.int .i64 5, .int .i64 x.line, .string NA, .string OA, .slice na 4 nc] 34 (0, 0)) := by rw [hw1]; exact heap_alloc_new _ _
  have s1w : w.heap.size < w1.heap.size := by rw [hw1]; simp
  have I1 := Lib.hid i1
  have HW1 := Lib.hid hw1
  unfold itemV
  rw [hx, ← hNA, ← hOA]
  clear hn hlen hv hpos hdir hnm hx hr hE hPOST hNA hOA hw1 i1 hS hL hsz HG
  go_enter Tryz.func39, Tryz.ntmps39
  go_wp2_with (first | (go_at_call 24; refine (FormL_5 _).mono ?_; rintro e w2 ⟨rfl, rfl⟩))
  rw [← HW1.out]
  go_loopw [3, 7] (fun sv iv wr => ∃ (i : Nat) (A : ByteArray), i ≤ 4 ∧ sv = .string A ∧ iv = .int .i64 i ∧ Hid (bs A ++ (Dr.numsT 5 i (x.n.drop i) ++ POST) = bs S) ∧ Hid (Below w1.heap.size w1 wr)) (fun _ iv _ => 4 - (intOf iv).toNat)
  case atStart => exact ⟨0, _, by omega, rfl, rfl, HSA, Lib.hid (Below.refl _ _)⟩
  case round =>
    obtain ⟨i, A, hi, rfl, rfl, HR, HB⟩ := hrel
    have hA : A.size ≤ 1000000000 := by
      have h := congrArg List.length HR.out
      have h2 := HSZ.out
      rw [List.length_append, bs_len] at h
      omega
    have hh := (HB.out.block w.heap.size s1w).trans I1.out
    have hsr := HB.out.size
    have d0 : wr.cell? ⟨w.heap.size, 0, none⟩ = some (.int .i64 5) := cell_of_heap hh 0 rfl
    have d2 : wr.cell? ⟨w.heap.size, 2, none⟩ = some (.string NA) := cell_of_heap hh 2 rfl
    have d4 : wr.cell? ⟨w.heap.size, 4, none⟩ = some (.slice na 4 nc) := cell_of_heap hh 4 rfl
    have HB3 := Lib.hid (B1.out.trans (HB.out.mono B1.out.size))
    clear hh
    by_cases him : i < 4
    · have hil : i < x.n.length := by rw [HLEN.out]; exact him
      obtain ⟨nb, no, nc2, en, -, hcs⟩ := HS.out.some (by rw [ints_len, HLEN.out]; omega)
      injection en with en1 en2 en3
      subst en1
      obtain ⟨v, hv⟩ : ∃ v, v = x.n[i] := ⟨_, rfl⟩
      have c0 : w.cell? ⟨nb, no + i, none⟩ = some (.int .i64 v) := (hcs i (by rw [ints_len]; exact hil)).trans (by rw [hv]; simp [ints])
      have lb : nb < w.heap.size := cell_block_lt c0
      have c1 : wr.cell? ⟨nb, no + i, none⟩ = some (.int .i64 v) := (HB3.out.cell (p := ⟨nb, no + i, none⟩) lb).trans c0
      have hst := HR.out
      rw [Dr.numsT_step 5 i x.n hil, ← hv] at hst
      have HST := Lib.hid hst
      have v0 : 0 ≤ v := by rw [hv]; exact HPOS.out _ (List.getElem_mem hil)
      have v1 : v ≤ 9223372036854775807 := by rw [hv]; exact HV.out _ (List.getElem_mem hil)
      have iI0 : (0 : Int) ≤ (i : Int) := by omega
      have iI1 : (i : Int) < 4 := by omega
      clear hcs en2 en3 hv hst HR c0
      go_wp2_with fail
      go_at_call 69; refine (rDec_any _ v _ (Nat.le_refl _) (by omega) (by omega)).mono ?_; rintro e w2 ⟨D, d, rfl, b⟩
      have hD := dec_size (by omega) (by omega) d
      have HD : Hid (bs D = Dr.numT 5 i v) := Lib.hid (by rw [d]; unfold Dr.numT; rw [if_neg (by omega)])
      clear d
      have HA2 : Hid (bs (A ++ ⟨#[32]⟩ ++ D) ++ (Dr.numsT 5 (i + 1) (x.n.drop (i + 1)) ++ POST) = bs S) := Lib.hid (by
        rw [← HST.out, bs_app3, bs_app3, show bs ⟨#[32]⟩ = [32] from rfl, HD.out]; simp)
      have HB2 := Lib.hid (HB.out.trans (b.mono HB.out.size))
      clear b
      go_wp2_with fail
      go_roundw
      case rel => exact ⟨i + 1, _, by omega, rfl, by go_num, HA2, HB2⟩
      case measure => simp [intOf]; omega
    · obtain rfl : i = 4 := by omega
      have HX : Hid (bs A ++ POST = bs S) := Lib.hid (by rw [← HR.out, List.drop_eq_nil_of_le (by rw [HLEN.out]; omega)]; rfl)
      clear HR
      have HF : Hid (S = A ++ ⟨#[10]⟩) := Lib.hid (bs_inj' (by rw [← HX.out, HP.out, bs_app3]; rfl))
      go_wp2_with fail
      go_ret
      exact ⟨by rw [HF.out]; rfl, HB3.out⟩
theorem Line_any (x : Dr.Item) (hr : Dr.rightI x = true) (nv : Value) (w : World) (hn : Sl w nv (ints x.n)) (hv : ∀ n ∈ x.n, n ≤ 9223372036854775807) (S : ByteArray) (hS : bs S = Dr.lineB x) (hL : S.size ≤ 1000000000) :
    Calls Tryz.prog 39 #[itemV x nv] w fun e w' => e = .returned (.string S) ∧ Below w.heap.size w w' := by
  obtain ⟨h0, h1, -⟩ := Dr.right_parts hr
  have hk : x.kind = 0 ∨ x.kind = 1 ∨ x.kind = 2 ∨ x.kind = 3 ∨ x.kind = 4 ∨ x.kind = 5 := by omega
  rcases hk with hk | hk | hk | hk | hk | hk
  · exact Line_0 x hk hr nv w hn hv S hS hL
  · exact Line_1 x hk hr nv w hn hv S hS hL
  · exact Line_2 x hk hr nv w hn hv S hS hL
  · exact Line_3 x hk hr nv w hn hv S hS hL
  · exact Line_4 x hk hr nv w hn hv S hS hL
  · exact Line_5 x hk hr nv w hn hv S hS hL
end Go.Proofs.YtnccndfffmaonaaGreatDoor
