/- Parts DtX of this claim, laid one behind the other: walks and the plain laws behind them; each contract states its own conditions. -/
import Derived.Test.YtnccndfffmaonaaGreatDoorZQ
import Derived.Test.YtnccndfffmaonaaGreatDoorZN
import Derived.Test.YtnccndfffmaonaaGreatDoorZX
import Derived.Test.YtnccndfffmaonaaGreatDoorZZ
/- The statement DraftTells: the walk. -/
namespace Go.Proofs.YtnccndfffmaonaaGreatDoor
set_option linter.unusedSimpArgs false
set_option linter.unusedVariables false
open Go.RowKit

theorem rParse_yes (src : ByteArray) (d : Dr.Draft) (h : Dr.read (bs src) = .ok d) (w : World) (hs : src.size ≤ 20000) :
    Calls Tryz.prog 10 #[.string src] w fun e w' => ∃ dv iv, e = .returned (.tuple #[.agg #[dv, iv], .int .i64 0, .int .i64 0]) ∧ DV w' dv iv d ∧ Below w.heap.size w w' := by
  have h1 := rParse_any src w hs
  rw [h] at h1; exact h1
theorem rParse_no (src : ByteArray) (z ln : Nat) (h : Dr.read (bs src) = .error (z, ln)) (w : World) (hs : src.size ≤ 20000) :
    Calls Tryz.prog 10 #[.string src] w fun e w' => e = .returned (.tuple #[.agg #[.slice none 0 0, .slice none 0 0], .int .i64 z, .int .i64 ln]) ∧ Below w.heap.size w w' := by
  have h1 := rParse_any src w hs
  rw [h] at h1; exact h1
theorem rRight_is (va ia : Value) (d : Dr.Draft) (r : Bool) (hr : Dr.rightD d = r) (w : World) (hd : DV w va ia d) (hz : DrSize d) :
    Calls Tryz.prog 13 #[.agg #[va, ia]] w fun e w' => e = .returned (.bool r) ∧ Below w.heap.size w w' := by
  rw [← hr]; exact rRight_any va ia d w hd hz
theorem DV_none (w : World) : DV w (.slice none 0 0) (.slice none 0 0) .none := by
  refine ⟨⟨[], ⟨none, 0, rfl, by unfold maxLen; simp, by simp, fun k hk => by simp at hk⟩, rfl, fun i hi => by simp [Dr.Draft.none] at hi⟩, [], rfl, ⟨none, 0, rfl, by unfold maxLen; simp, by simp, fun k hk => by simp at hk⟩, fun x hx => by cases hx⟩
set_option maxRecDepth 100000 in
set_option maxHeartbeats 32000000 in
theorem DraftTells_out (src : ByteArray) (va ia : Value) (a : Dr.Draft) (vb ib : Value) (b : Dr.Draft) (w : World) (hE : Env w) (ha : DV w va ia a) (hza : DrLens a) (hb : DV w vb ib b) (hzb : DrLens b)
    (h : 5000 < src.size ∨ (src.size ≤ 5000 ∧ few a = false) ∨ (src.size ≤ 5000 ∧ few a = true ∧ few b = false)) :
    Calls Tryz.prog 3 #[.string src, .agg #[va, ia], .agg #[vb, ib]] w fun e w' => e = .returned (.bool true) ∧ Below w.heap.size w w' := by
  obtain ⟨a1, c1, a3, c3, rfl, rfl, hn1, hn2⟩ := dv_form2 ha
  obtain ⟨a5, c5, a7, c7, rfl, rfl, hn3, hn4⟩ := dv_form2 hb
  obtain ⟨n, hn⟩ : ∃ n, n = a.decks.length := ⟨_, rfl⟩
  obtain ⟨m, hm⟩ : ∃ n, n = a.items.length := ⟨_, rfl⟩
  obtain ⟨n5, hn5⟩ : ∃ n, n = b.decks.length := ⟨_, rfl⟩
  obtain ⟨m5, hm5⟩ : ∃ n, n = b.items.length := ⟨_, rfl⟩
  rw [← hn, ← hm] at ha
  rw [← hn] at hn1
  rw [← hm] at hn2
  rw [← hn5, ← hm5] at hb
  rw [← hn5] at hn3
  rw [← hm5] at hn4
  rw [← hn, ← hm, ← hn5, ← hm5]
  clear hn hm hn5 hm5
  have bA := ((Below.refl _ w).alloc (Nat.le_refl _) (.cells #[.slice a1 n c1, .slice a3 m c3] 25)).alloc (by simp) (.cells #[.slice a5 n5 c5, .slice a7 m5 c7] 25)
  have HA := Lib.hid ha
  have HZ := Lib.hid hza
  have HB := Lib.hid hb
  have HZB := Lib.hid hzb
  have HE := Lib.hid (hE.below bA)
  have BA := Lib.hid bA
  have I0 := Lib.hid (heap_alloc_old (w.alloc (.cells #[.slice a1 n c1, .slice a3 m c3] 25)) (.cells #[.slice a5 n5 c5, .slice a7 m5 c7] 25) (by simp) |>.trans (heap_alloc_new _ _))
  have J0 := Lib.hid (heap_two3 w (.cells #[.slice a1 n c1, .slice a3 m c3] 25) (.cells #[.slice a5 n5 c5, .slice a7 m5 c7] 25))
  clear ha hza hE bA hb hzb
  rcases h with h | ⟨h, hf⟩ | ⟨h, hf, hf2⟩
  · have e1 : (5000 : Int) < (src.size : Int) := by omega
    go_enter Tryz.func3, Tryz.ntmps3
    go_wp2_with fail
    go_at_call 7; refine (small_any_dr _ HE.out).mono ?_; rintro e w1 ⟨rfl, b1⟩
    have B1 := Lib.hid (BA.out.trans (b1.mono BA.out.size))
    clear b1
    go_wp2_with fail
    go_ret
    exact ⟨rfl, B1.out⟩
  · have e1 : (src.size : Int) ≤ 5000 := by omega
    have HF := Lib.hid hf
    clear hf
    go_enter Tryz.func3, Tryz.ntmps3
    go_wp2_with fail
    go_at_call 7; refine (small_any_dr _ HE.out).mono ?_; rintro e w1 ⟨rfl, b1⟩
    have B1 := Lib.hid (BA.out.trans (b1.mono BA.out.size))
    have i1 := (b1.block w.heap.size (by simp; omega)).trans I0.out
    have d0 : w1.cell? ⟨w.heap.size, 0, none⟩ = some (.slice a1 n c1) := cell_of_heap i1 0 rfl
    have d1 : w1.cell? ⟨w.heap.size, 1, none⟩ = some (.slice a3 m c3) := cell_of_heap i1 1 rfl
    clear b1 i1
    go_wp2_with fail
    go_at_call 8; refine (Few_is _ _ a false HF.out _ (HA.out.keep B1.out) HZ.out).mono ?_; rintro e w2 ⟨rfl, b2⟩
    have B2 := Lib.hid (B1.out.trans (b2.mono B1.out.size))
    clear b2
    go_wp2_with fail
    go_ret
    exact ⟨rfl, B2.out⟩
  · have e1 : (src.size : Int) ≤ 5000 := by omega
    have HF := Lib.hid hf
    have HF2 := Lib.hid hf2
    clear hf hf2
    go_enter Tryz.func3, Tryz.ntmps3
    go_wp2_with fail
    go_at_call 7; refine (small_any_dr _ HE.out).mono ?_; rintro e w1 ⟨rfl, b1⟩
    have B1 := Lib.hid (BA.out.trans (b1.mono BA.out.size))
    have i1 := (b1.block w.heap.size (by simp; omega)).trans I0.out
    have I1 := Lib.hid i1
    have J1 := Lib.hid ((b1.block (w.heap.size + 1) (by simp)).trans J0.out)
    have d0 : w1.cell? ⟨w.heap.size, 0, none⟩ = some (.slice a1 n c1) := cell_of_heap i1 0 rfl
    have d1 : w1.cell? ⟨w.heap.size, 1, none⟩ = some (.slice a3 m c3) := cell_of_heap i1 1 rfl
    clear b1 i1
    go_wp2_with fail
    go_at_call 8; refine (Few_is _ _ a true HF.out _ (HA.out.keep B1.out) HZ.out).mono ?_; rintro e w2 ⟨rfl, b2⟩
    have B2 := Lib.hid (B1.out.trans (b2.mono B1.out.size))
    have J2 := (b2.block (w.heap.size + 1) (Array.getElem?_eq_some_iff.1 J1.out).1).trans J1.out
    clear b2 d0 d1
    have d0 : w2.cell? ⟨w.heap.size + 1, 0, none⟩ = some (.slice a5 n5 c5) := cell_of_heap J2 0 rfl
    have d1 : w2.cell? ⟨w.heap.size + 1, 1, none⟩ = some (.slice a7 m5 c7) := cell_of_heap J2 1 rfl
    clear J2
    go_wp2_with fail
    go_at_call 8; refine (Few_is _ _ b false HF2.out _ (HB.out.keep B2.out) HZB.out).mono ?_; rintro e w3 ⟨rfl, b3⟩
    have B3 := Lib.hid (B2.out.trans (b3.mono B2.out.size))
    clear b3
    go_wp2_with fail
    go_ret
    exact ⟨rfl, B3.out⟩

theorem few_body {d : Dr.Draft} (hf : few d = true) (h : Dr.rightD d = true) (hm : DrNums d) : (Dr.bodyB d).length ≤ 100000000 := by
  obtain ⟨f1, -, f3, f4⟩ := few_parts hf
  unfold Dr.rightD Dr.rightR at h
  simp only [Bool.and_eq_true, decide_eq_true_eq, List.all_eq_true] at h
  obtain ⟨h1, h2, h3, h4⟩ := h
  have hrow : ∀ rows ∈ d.decks, (Dr.deckB rows).length ≤ 10000 := by
    intro rows hr
    obtain ⟨hl, hs⟩ := f1 rows hr
    have h5 := flatMap_len Dr.rowB 400 rows (fun s h => by
      have := hs s h
      have h6 := qb_len s
      rw [rowB_len]; unfold quote; simp; omega)
    unfold Dr.deckB Dr.wDeck
    simp only [List.length_append, List.length_cons, List.length_nil]; omega
  have h5 := flatMap_len Dr.deckB 10000 d.decks hrow
  have h6 := flatMap_len Dr.lineB 300 d.items (fun x hx => line_len2 (h4 x hx) (hm x hx))
  unfold Dr.bodyB
  rw [List.length_append]
  omega
theorem rPrint_is (va ia : Value) (d : Dr.Draft) (L : List UInt8) (hL : Dr.printB d = L) (w : World) (hd : DV w va ia d) (hf : few d = true) (hm : DrNums d) :
    Calls Tryz.prog 15 #[.agg #[va, ia]] w fun e w' => e = .returned (.string ⟨L.toArray⟩) ∧ Below w.heap.size w w' := by
  rw [← hL]
  cases hR : Dr.rightD d with
  | false => exact rPrint_no va ia d w hd (few_size hf) hR
  | true => exact rPrint_yes va ia d w hd (few_size hf) hR hm (few_body hf hR hm)
/-- What Parse returns: the draft, the error, the line. -/
def outD : Except (Nat × Nat) Dr.Draft → Dr.Draft
  | .ok d => d
  | .error _ => .none
def outE : Except (Nat × Nat) Dr.Draft → Nat
  | .ok _ => 0
  | .error x => x.1
def outL : Except (Nat × Nat) Dr.Draft → Nat
  | .ok _ => 0
  | .error x => x.2
theorem Parse_all (src : ByteArray) (G : Except (Nat × Nat) Dr.Draft) (h : Dr.read (bs src) = G) (w : World) (hE : Env w) (hs : src.size ≤ 20000) :
    Calls Tryz.prog 9 #[.string src] w fun e w' => ∃ dv iv, e = .returned (.tuple #[.agg #[dv, iv], .int .i64 (outE G), .int .i64 (outL G)]) ∧ DV w' dv iv (outD G) ∧ Below w.heap.size w w' := by
  cases G with
  | ok d => exact Parse_ok src d h w hE hs
  | error x => exact (Parse_bad src x.1 x.2 h w hE hs).mono fun e w' ⟨h1, h2⟩ => ⟨_, _, h1, DV_none _, h2⟩
theorem rParse_all (src : ByteArray) (G : Except (Nat × Nat) Dr.Draft) (h : Dr.read (bs src) = G) (w : World) (hs : src.size ≤ 20000) :
    Calls Tryz.prog 10 #[.string src] w fun e w' => ∃ dv iv, e = .returned (.tuple #[.agg #[dv, iv], .int .i64 (outE G), .int .i64 (outL G)]) ∧ DV w' dv iv (outD G) ∧ Below w.heap.size w w' := by
  cases G with
  | ok d => exact rParse_yes src d h w hs
  | error x => exact (rParse_no src x.1 x.2 h w hs).mono fun e w' ⟨h1, h2⟩ => ⟨_, _, h1, DV_none _, h2⟩
theorem same_self (d : Dr.Draft) : Dr.same d d = true := by
  unfold Dr.same
  rw [Dr.sameL_refl _ (fun a => by simp), Dr.sameL_refl _ (fun x => by simp [Dr.sameI])]
  rfl
set_option maxRecDepth 100000 in
set_option maxHeartbeats 64000000 in
theorem DraftTells_in (src : ByteArray) (va ia : Value) (a : Dr.Draft) (vb ib : Value) (b : Dr.Draft) (w : World) (hE : Env w) (ha : DV w va ia a) (hb : DV w vb ib b) (hs : src.size ≤ 5000) (hfa : few a = true) (hfb : few b = true) (hnm : DrNums a) :
    Calls Tryz.prog 3 #[.string src, .agg #[va, ia], .agg #[vb, ib]] w fun e w' => e = .returned (.bool true) ∧ Below w.heap.size w w' := by
  obtain ⟨a1, c1, a3, c3, rfl, rfl, hn1, hn2⟩ := dv_form2 ha
  obtain ⟨a5, c5, a7, c7, rfl, rfl, hn3, hn4⟩ := dv_form2 hb
  obtain ⟨n, hn⟩ : ∃ n, n = a.decks.length := ⟨_, rfl⟩
  obtain ⟨m, hm⟩ : ∃ n, n = a.items.length := ⟨_, rfl⟩
  obtain ⟨n5, hn5⟩ : ∃ n, n = b.decks.length := ⟨_, rfl⟩
  obtain ⟨m5, hm5⟩ : ∃ n, n = b.items.length := ⟨_, rfl⟩
  rw [← hn, ← hm] at ha
  rw [← hn] at hn1
  rw [← hm] at hn2
  rw [← hn5, ← hm5] at hb
  rw [← hn5] at hn3
  rw [← hm5] at hn4
  rw [← hn, ← hm, ← hn5, ← hm5]
  clear hn hm hn5 hm5
  have bA := ((Below.refl _ w).alloc (Nat.le_refl _) (.cells #[.slice a1 n c1, .slice a3 m c3] 25)).alloc (by simp) (.cells #[.slice a5 n5 c5, .slice a7 m5 c7] 25)
  obtain ⟨L, hL⟩ : ∃ L, Dr.printB a = L := ⟨_, rfl⟩
  obtain ⟨R, hR⟩ : ∃ R, Dr.rightD a = R := ⟨_, rfl⟩
  obtain ⟨S, hS⟩ : ∃ S, Dr.same a b = S := ⟨_, rfl⟩
  obtain ⟨G, hG⟩ : ∃ G, Dr.read (bs src) = G := ⟨_, rfl⟩
  obtain ⟨D, hD⟩ : ∃ D, outD G = D := ⟨_, rfl⟩
  obtain ⟨E, hE2⟩ : ∃ E, outE G = E := ⟨_, rfl⟩
  obtain ⟨Ln, hLn⟩ : ∃ Ln, outL G = Ln := ⟨_, rfl⟩
  have HP1 := Lib.hid (fun W hE => Parse_all src G hG W hE (by omega))
  have HP2 := Lib.hid (fun W => rParse_all src G hG W (by omega))
  rw [hD, hE2, hLn] at HP1 HP2
  have HSD := Lib.hid (same_self D)
  have HA := Lib.hid ha
  have HB := Lib.hid hb
  have HE := Lib.hid (hE.below bA)
  have BA := Lib.hid bA
  have HF := Lib.hid hfa
  have HF2 := Lib.hid hfb
  have HL := Lib.hid hL
  have HR := Lib.hid hR
  have HS := Lib.hid hS
  have HNM := Lib.hid hnm
  have hll : L.length ≤ 1000000000 := by
    cases hR2 : Dr.rightD a with
    | true => have := body_len hR2 hnm; rw [← hL]; unfold Dr.printB; rw [hR2]; exact this
    | false => rw [← hL]; unfold Dr.printB; rw [hR2]; simp
  have I0 := Lib.hid (heap_alloc_old (w.alloc (.cells #[.slice a1 n c1, .slice a3 m c3] 25)) (.cells #[.slice a5 n5 c5, .slice a7 m5 c7] 25) (by simp) |>.trans (heap_alloc_new _ _))
  have J0 := Lib.hid (heap_two3 w (.cells #[.slice a1 n c1, .slice a3 m c3] 25) (.cells #[.slice a5 n5 c5, .slice a7 m5 c7] 25))
  have e1 : (src.size : Int) ≤ 5000 := by omega
  clear ha hE bA hb hfa hfb hL hR hS hG hD hE2 hLn hnm
  go_enter Tryz.func3, Tryz.ntmps3
  go_wp2_with fail
  go_at_call 7; refine (small_any_dr _ HE.out).mono ?_; rintro e w1 ⟨rfl, b1⟩
  have B1 := Lib.hid (BA.out.trans (b1.mono BA.out.size))
  have E1 := Lib.hid (HE.out.below b1)
  have i1 := (b1.block w.heap.size (by simp; omega)).trans I0.out
  have I1 := Lib.hid i1
  have J1 := Lib.hid ((b1.block (w.heap.size + 1) (by simp)).trans J0.out)
  have d0 : w1.cell? ⟨w.heap.size, 0, none⟩ = some (.slice a1 n c1) := cell_of_heap i1 0 rfl
  have d1 : w1.cell? ⟨w.heap.size, 1, none⟩ = some (.slice a3 m c3) := cell_of_heap i1 1 rfl
  clear b1 i1 I0 J0 BA HE
  go_wp2_with fail
  go_at_call 8; refine (Few_is _ _ a true HF.out _ (HA.out.keep B1.out) (DrLens.of a (few_size HF.out))).mono ?_; rintro e w2 ⟨rfl, b2⟩
  have B2 := Lib.hid (B1.out.trans (b2.mono B1.out.size))
  have E2 := Lib.hid (E1.out.below b2)
  have I2 := Lib.hid ((b2.block w.heap.size (Array.getElem?_eq_some_iff.1 I1.out).1).trans I1.out)
  have J2 := Lib.hid ((b2.block (w.heap.size + 1) (Array.getElem?_eq_some_iff.1 J1.out).1).trans J1.out)
  clear b2 d0 d1 B1 E1 I1 J1
  have d0 : w2.cell? ⟨w.heap.size + 1, 0, none⟩ = some (.slice a5 n5 c5) := cell_of_heap J2.out 0 rfl
  have d1 : w2.cell? ⟨w.heap.size + 1, 1, none⟩ = some (.slice a7 m5 c7) := cell_of_heap J2.out 1 rfl
  go_wp2_with fail
  go_at_call 8; refine (Few_is _ _ b true HF2.out _ (HB.out.keep B2.out) (DrLens.of b (few_size HF2.out))).mono ?_; rintro e w3 ⟨rfl, b3⟩
  have B3 := Lib.hid (B2.out.trans (b3.mono B2.out.size))
  have E3 := Lib.hid (E2.out.below b3)
  have I3 := Lib.hid ((b3.block w.heap.size (Array.getElem?_eq_some_iff.1 I2.out).1).trans I2.out)
  have J3 := Lib.hid ((b3.block (w.heap.size + 1) (Array.getElem?_eq_some_iff.1 J2.out).1).trans J2.out)
  clear b3 d0 d1 B2 E2 I2 J2
  go_wp2_with fail
  go_at_call 9; refine (HP1.out _ E3.out).mono ?_; rintro e w4 ⟨dv, iv, rfl, D4, b4⟩
  obtain ⟨x1, y1, x3, y3, rfl, rfl, hx1, hx2⟩ := dv_form2 D4
  have B4 := Lib.hid (B3.out.trans (b4.mono B3.out.size))
  have E4 := Lib.hid (E3.out.below b4)
  have I4 := Lib.hid ((b4.block w.heap.size (Array.getElem?_eq_some_iff.1 I3.out).1).trans I3.out)
  have J4 := Lib.hid ((b4.block (w.heap.size + 1) (Array.getElem?_eq_some_iff.1 J3.out).1).trans J3.out)
  obtain ⟨N, hN⟩ : ∃ N, D.items.length = N := ⟨_, rfl⟩
  obtain ⟨M, hM⟩ : ∃ N, D.decks.length = N := ⟨_, rfl⟩
  rw [hN, hM] at D4 ⊢
  rw [hN] at hx2
  rw [hM] at hx1
  have HN := Lib.hid hN
  have HM := Lib.hid hM
  have D4 := Lib.hid D4
  have l4 : w.heap.size + 1 < w4.heap.size := (Array.getElem?_eq_some_iff.1 J4.out).1
  clear b4 B3 E3 I3 J3 hN hM
  go_wp2_with fail
  have bP := (Below.refl _ w4).alloc (Nat.le_refl _) (.cells #[.slice x1 M y1, .slice x3 N y3] 25)
  go_at_call 10; refine (HP2.out _).mono ?_; rintro e w5 ⟨dv, iv, rfl, D5, b5⟩
  obtain ⟨x5, y5, x7, y7, rfl, rfl, hx5, hx6⟩ := dv_form2 D5
  rw [HN.out, HM.out] at D5 ⊢
  have bQ := bP.trans (b5.mono bP.size)
  have B5 := Lib.hid (B4.out.trans (bQ.mono B4.out.size))
  have E5 := Lib.hid (E4.out.below bQ)
  have I5' := Lib.hid ((bQ.block w.heap.size (by omega)).trans I4.out)
  have J5 := Lib.hid ((bQ.block (w.heap.size + 1) l4).trans J4.out)
  have K5 : Hid (w5.heap[w4.heap.size]? = some (.cells #[.slice x1 M y1, .slice x3 N y3] 25 (0, 0))) := Lib.hid ((b5.block w4.heap.size (by simp)).trans (heap_alloc_new _ _))
  have D4' := Lib.hid (D4.out.keep bQ)
  have D5 := Lib.hid D5
  have k0 : w5.cell? ⟨w4.heap.size, 0, none⟩ = some (.slice x1 M y1) := cell_of_heap K5.out 0 rfl
  have k1 : w5.cell? ⟨w4.heap.size, 1, none⟩ = some (.slice x3 N y3) := cell_of_heap K5.out 1 rfl
  have l5 : w4.heap.size < w5.heap.size := (Array.getElem?_eq_some_iff.1 K5.out).1
  have ee : ((E : Int) != (E : Int)) = false := by simp
  have el : ((Ln : Int) != (Ln : Int)) = false := by simp
  clear b5 bP bQ B4 E4 I4 J4 D4 hx5 hx6
  go_wp2_with fail
  have bR := (Below.refl _ w5).alloc (Nat.le_refl _) (.cells #[.slice x5 M y5, .slice x7 N y7] 25)
  go_at_call 11; refine (rSame_is _ _ _ _ D D true HSD.out _ (by exact D4'.out.keep bR) (by exact D5.out.keep bR)).mono ?_; rintro e w6 ⟨rfl, b6⟩
  have bS := bR.trans (b6.mono bR.size)
  have B6 := Lib.hid (B5.out.trans (bS.mono B5.out.size))
  have E6 := Lib.hid (E5.out.below bS)
  have I6 := Lib.hid ((bS.block w.heap.size (Array.getElem?_eq_some_iff.1 I5'.out).1).trans I5'.out)
  have J6 := Lib.hid ((bS.block (w.heap.size + 1) (Array.getElem?_eq_some_iff.1 J5.out).1).trans J5.out)
  have K6 := Lib.hid ((bS.block w4.heap.size l5).trans K5.out)
  have L6 : Hid (w6.heap[w5.heap.size]? = some (.cells #[.slice x5 M y5, .slice x7 N y7] 25 (0, 0))) := Lib.hid ((b6.block w5.heap.size (by simp)).trans (heap_alloc_new _ _))
  have D6 := Lib.hid (D4'.out.keep bS)
  have D7 := Lib.hid (D5.out.keep bS)
  clear b6 bR bS B5 E5 I5' J5 K5 D4' D5 k0 k1 l5 ee el
  go_wp2_with fail
  go_loopw [14] (fun iv wr => ∃ q : Nat, q ≤ N ∧ iv = .int .i64 q ∧ Hid (Below w6.heap.size w6 wr)) (fun iv _ => N - (intOf iv).toNat)
  case atStart => exact ⟨0, by omega, rfl, Lib.hid (Below.refl _ _)⟩
  case round =>
    obtain ⟨q, hq, rfl, HBR⟩ := hrel
    have g1 : wr.cell? ⟨w4.heap.size, 1, none⟩ = some (.slice x3 N y3) := cell_of_heap ((HBR.out.block _ (Array.getElem?_eq_some_iff.1 K6.out).1).trans K6.out) 1 rfl
    have g3 : wr.cell? ⟨w5.heap.size, 1, none⟩ = some (.slice x7 N y7) := cell_of_heap ((HBR.out.block _ (Array.getElem?_eq_some_iff.1 L6.out).1).trans L6.out) 1 rfl
    by_cases hqN : q < N
    · have hqd : q < D.items.length := by rw [HN.out]; exact hqN
      obtain ⟨a8, c8, e1, -, hx⟩ := (D6.out.keep HBR.out).2.lines
      obtain ⟨b8, o8, rfl, p1⟩ := hx q hqd
      injection e1 with e1 e2 e3
      subst e1
      obtain ⟨a9, c9, e1, -, hx9⟩ := (D7.out.keep HBR.out).2.lines
      obtain ⟨b9, o9, rfl, p2⟩ := hx9 q hqd
      injection e1 with e1 e4 e5
      subst e1
      obtain ⟨ln, hln⟩ : ∃ ln, ln = D.items[q].line := ⟨_, rfl⟩
      rw [← hln] at p1 p2
      have qI0 : (0 : Int) ≤ (q : Int) := by omega
      have qI1 : (q : Int) < (N : Int) := by omega
      have hne : (ln != ln) = false := by simp
      have hw3 : IntKind.i64.wrap (q : Int) = (q : Int) := IntWalk.i64_in _ (by omega)
      clear hx hx9 e2 e3 e4 e5 hln hqd
      go_wp2_with fail
      go_quiet (fail)
      all_goals
        go_wp2_with fail
        go_roundw
        case rel => exact ⟨q + 1, by omega, by go_num, Lib.hid (HBR.out.trans (below_drewN _ _ _))⟩
        case measure => simp [intOf]; omega
    · obtain rfl : q = N := by omega
      obtain ⟨wo, rfl⟩ : ∃ wo : World, wo = wr := ⟨_, rfl⟩
      have B7 := Lib.hid (B6.out.trans (HBR.out.mono B6.out.size))
      have E7 := Lib.hid (E6.out.below HBR.out)
      have I7 := (HBR.out.block w.heap.size (Array.getElem?_eq_some_iff.1 I6.out).1).trans I6.out
      have J7 := (HBR.out.block (w.heap.size + 1) (Array.getElem?_eq_some_iff.1 J6.out).1).trans J6.out
      have i0 : wo.cell? ⟨w.heap.size, 0, none⟩ = some (.slice a1 n c1) := cell_of_heap I7 0 rfl
      have i1 : wo.cell? ⟨w.heap.size, 1, none⟩ = some (.slice a3 m c3) := cell_of_heap I7 1 rfl
      have j0 : wo.cell? ⟨w.heap.size + 1, 0, none⟩ = some (.slice a5 n5 c5) := cell_of_heap J7 0 rfl
      have j1 : wo.cell? ⟨w.heap.size + 1, 1, none⟩ = some (.slice a7 m5 c7) := cell_of_heap J7 1 rfl
      have l7 : w.heap.size + 1 < wo.heap.size := (Array.getElem?_eq_some_iff.1 J7).1
      clear I7 J7
      have HZA := Lib.hid (few_size HF.out)
      have l7a : w.heap.size < wo.heap.size := by omega
      clear E6 B6 I6 J6 K6 L6 D6 D7 HSD HN HM
      go_wp2_with fail
      go_region_held3 (fun w' => w'.cell? ⟨w.heap.size, 0, none⟩ = some (.slice a1 n c1) ∧ w'.cell? ⟨w.heap.size, 1, none⟩ = some (.slice a3 m c3) ∧ w'.cell? ⟨w.heap.size + 1, 0, none⟩ = some (.slice a5 n5 c5) ∧ w'.cell? ⟨w.heap.size + 1, 1, none⟩ = some (.slice a7 m5 c7)) (go_keep)
        (first
          | (go_at_call 12; refine (Right_is _ _ a R HR.out _ (by exact HA.out.keep B7.out.drew) HZA.out).mono ?_; rintro e w8 ⟨rfl, b8⟩; have lt8 : w.heap.size < w8.heap.size := Nat.lt_of_lt_of_le (by simpa using l7a) b8.size; have ltt8 : w.heap.size + 1 < w8.heap.size := Nat.lt_of_lt_of_le (by simpa using l7) b8.size; have i0_8 := (b8.cell (p := ⟨w.heap.size, 0, none⟩) (by simpa using l7a)).trans i0; have i1_8 := (b8.cell (p := ⟨w.heap.size, 1, none⟩) (by simpa using l7a)).trans i1; have j0_8 := (b8.cell (p := ⟨w.heap.size + 1, 0, none⟩) (by simpa using l7)).trans j0; have j1_8 := (b8.cell (p := ⟨w.heap.size + 1, 1, none⟩) (by simpa using l7)).trans j1; have B8 : Hid (Below w.heap.size w w8) := Lib.hid (Below.trans (by exact B7.out.drew) (b8.mono (by exact (B7.out.drew).size))); have E8 : Hid (Env w8) := Lib.hid (Env.below (by exact (E7.out.below ((Below.refl _ _).drew))) b8); clear b8)
          | (go_at_call 13; refine (rRight_is _ _ a R HR.out _ (by exact HA.out.keep B8.out) HZA.out).mono ?_; rintro e w9 ⟨rfl, b9⟩; have lt9 : w.heap.size < w9.heap.size := Nat.lt_of_lt_of_le lt8 b9.size; have ltt9 : w.heap.size + 1 < w9.heap.size := Nat.lt_of_lt_of_le ltt8 b9.size; have i0_9 := (b9.cell (p := ⟨w.heap.size, 0, none⟩) lt8).trans i0_8; have i1_9 := (b9.cell (p := ⟨w.heap.size, 1, none⟩) lt8).trans i1_8; have j0_9 := (b9.cell (p := ⟨w.heap.size + 1, 0, none⟩) ltt8).trans j0_8; have j1_9 := (b9.cell (p := ⟨w.heap.size + 1, 1, none⟩) ltt8).trans j1_8; have B9 : Hid (Below w.heap.size w w9) := Lib.hid (Below.trans (by exact B8.out) (b9.mono (by exact (B8.out).size))); have E9 : Hid (Env w9) := Lib.hid (Env.below (by exact E8.out) b9); clear b9)
          | (go_at_call 14; refine (Print_is _ _ a L HL.out _ (by exact HA.out.keep B9.out) HZA.out HNM.out (by exact E9.out)).mono ?_; rintro e w10 ⟨rfl, b10⟩; have lt10 : w.heap.size < w10.heap.size := Nat.lt_of_lt_of_le lt9 b10.size; have ltt10 : w.heap.size + 1 < w10.heap.size := Nat.lt_of_lt_of_le ltt9 b10.size; have i0_10 := (b10.cell (p := ⟨w.heap.size, 0, none⟩) lt9).trans i0_9; have i1_10 := (b10.cell (p := ⟨w.heap.size, 1, none⟩) lt9).trans i1_9; have j0_10 := (b10.cell (p := ⟨w.heap.size + 1, 0, none⟩) ltt9).trans j0_9; have j1_10 := (b10.cell (p := ⟨w.heap.size + 1, 1, none⟩) ltt9).trans j1_9; have B10 : Hid (Below w.heap.size w w10) := Lib.hid (Below.trans (by exact B9.out) (b10.mono (by exact (B9.out).size))); have E10 : Hid (Env w10) := Lib.hid (Env.below (by exact E9.out) b10); clear b10)
          | (go_at_call 15; refine (rPrint_is _ _ a L HL.out _ (by exact HA.out.keep B10.out) HF.out HNM.out).mono ?_; rintro e w11 ⟨rfl, b11⟩; have lt11 : w.heap.size < w11.heap.size := Nat.lt_of_lt_of_le lt10 b11.size; have ltt11 : w.heap.size + 1 < w11.heap.size := Nat.lt_of_lt_of_le ltt10 b11.size; have i0_11 := (b11.cell (p := ⟨w.heap.size, 0, none⟩) lt10).trans i0_10; have i1_11 := (b11.cell (p := ⟨w.heap.size, 1, none⟩) lt10).trans i1_10; have j0_11 := (b11.cell (p := ⟨w.heap.size + 1, 0, none⟩) ltt10).trans j0_10; have j1_11 := (b11.cell (p := ⟨w.heap.size + 1, 1, none⟩) ltt10).trans j1_10; have B11 : Hid (Below w.heap.size w w11) := Lib.hid (Below.trans (by exact B10.out) (b11.mono (by exact (B10.out).size))); have E11 : Hid (Env w11) := Lib.hid (Env.below (by exact E10.out) b11); clear b11)
          | (go_at_call 16; refine (Same_is _ _ _ _ a b S HS.out _ (by exact HA.out.keep B11.out) (by exact HB.out.keep B11.out)).mono ?_; rintro e w12 ⟨rfl, b12⟩; have lt12 : w.heap.size < w12.heap.size := Nat.lt_of_lt_of_le lt11 b12.size; have ltt12 : w.heap.size + 1 < w12.heap.size := Nat.lt_of_lt_of_le ltt11 b12.size; have i0_12 := (b12.cell (p := ⟨w.heap.size, 0, none⟩) lt11).trans i0_11; have i1_12 := (b12.cell (p := ⟨w.heap.size, 1, none⟩) lt11).trans i1_11; have j0_12 := (b12.cell (p := ⟨w.heap.size + 1, 0, none⟩) ltt11).trans j0_11; have j1_12 := (b12.cell (p := ⟨w.heap.size + 1, 1, none⟩) ltt11).trans j1_11; have B12 : Hid (Below w.heap.size w w12) := Lib.hid (Below.trans (by exact B11.out) (b12.mono (by exact (B11.out).size))); have E12 : Hid (Env w12) := Lib.hid (Env.below (by exact E11.out) b12); clear b12)
          | (go_at_call 11; refine (rSame_is _ _ _ _ a b S HS.out _ (by exact HA.out.keep B12.out) (by exact HB.out.keep B12.out)).mono ?_; rintro e w13 ⟨rfl, b13⟩; have lt13 : w.heap.size < w13.heap.size := Nat.lt_of_lt_of_le lt12 b13.size; have ltt13 : w.heap.size + 1 < w13.heap.size := Nat.lt_of_lt_of_le ltt12 b13.size; have i0_13 := (b13.cell (p := ⟨w.heap.size, 0, none⟩) lt12).trans i0_12; have i1_13 := (b13.cell (p := ⟨w.heap.size, 1, none⟩) lt12).trans i1_12; have j0_13 := (b13.cell (p := ⟨w.heap.size + 1, 0, none⟩) ltt12).trans j0_12; have j1_13 := (b13.cell (p := ⟨w.heap.size + 1, 1, none⟩) ltt12).trans j1_12; have B13 : Hid (Below w.heap.size w w13) := Lib.hid (Below.trans (by exact B12.out) (b13.mono (by exact (B12.out).size))); have E13 : Hid (Env w13) := Lib.hid (Env.below (by exact E12.out) b13); clear b13))
      all_goals
        go_wp2_with fail
        go_ret
        exact ⟨rfl, B13.out⟩
/-- DraftTells, for every string and every two drafts. -/
theorem DraftTells_any (src : ByteArray) (va ia : Value) (a : Dr.Draft) (vb ib : Value) (b : Dr.Draft) (w : World) (hE : Env w) (ha : DV w va ia a) (hza : DrLens a) (hb : DV w vb ib b) (hzb : DrLens b) (hnm : DrNums a) :
    Calls Tryz.prog 3 #[.string src, .agg #[va, ia], .agg #[vb, ib]] w fun e w' => e = .returned (.bool true) ∧ Below w.heap.size w w' := by
  by_cases h : 5000 < src.size
  · exact DraftTells_out src va ia a vb ib b w hE ha hza hb hzb (.inl h)
  · cases hf : few a with
    | false => exact DraftTells_out src va ia a vb ib b w hE ha hza hb hzb (.inr (.inl ⟨by omega, hf⟩))
    | true =>
      cases hf2 : few b with
      | false => exact DraftTells_out src va ia a vb ib b w hE ha hza hb hzb (.inr (.inr ⟨by omega, hf, hf2⟩))
      | true => exact DraftTells_in src va ia a vb ib b w hE ha hb (by omega) hf hf2 hnm
end Go.Proofs.YtnccndfffmaonaaGreatDoor
