/- Parts RdC, RdD, RdE of this claim, laid one behind the other: walks and the plain laws behind them; each contract states its own conditions. -/
import Derived.Test.YtfcbcpfnaadpeaaGreatDoorBM
import Derived.Test.YtfcbcpfnaadpeaaGreatDoorBH
import Derived.Test.YtfcbcpfnaadpeaaGreatDoorBI
/- Walks of package wire: Open, Int, Num, Left, Done, Text. -/
namespace Go.Proofs.YtfcbcpfnaadpeaaGreatDoor
set_option linter.unusedSimpArgs false
set_option linter.unusedVariables false
open Go.RowKit

set_option maxRecDepth 100000 in
set_option maxHeartbeats 4000000 in
theorem rdOpen_any (D : ByteArray) (w : World) :
    Calls Tryz.prog 84 #[.string D] w fun e w' => e = .returned (.pointer (some ⟨w.heap.size, 0, none⟩)) ∧ Below w.heap.size w w' ∧ w.heap.size < w'.heap.size ∧ Rd w' w.heap.size D false := by
  have H0 := Lib.hid (heap_alloc_new w (.cells #[.string D, .bool false] 192))
  have B0 : Hid (Below w.heap.size w (w.alloc (.cells #[.string D, .bool false] 192))) := Lib.hid ((Below.refl _ w).alloc (Nat.le_refl _) _)
  go_enter Tryz.func84, Tryz.ntmps84
  go_wp2_with fail
  go_ret
  exact ⟨rfl, B0.out, heap_lt H0.out, H0.out⟩
set_option maxRecDepth 100000 in
set_option maxHeartbeats 4000000 in
theorem rdInt_any (b : Nat) (s : Wr.St) (w : World) (h : RdS w b s) (hE : EnvR w) (hl : s.1.length ≤ 1000000000) :
    Calls Tryz.prog 88 #[.pointer (some ⟨b, 0, none⟩)] w fun r w' => r = .returned (.int .i64 (Wr.intS s).1) ∧ NB b w w' ∧ RdS w' b (Wr.intS s).2 := by
  have HC := Lib.hid (rdNumber_any b 59 59 (-9223372036854775808) rfl s w h hE hl (by omega))
  unfold Wr.intS
  clear h hE hl
  go_enter Tryz.func88, Tryz.ntmps88
  go_wp2_with fail
  go_at_call 158; refine HC.out.mono ?_; rintro e w1 ⟨rfl, n1, r1⟩
  go_wp2_with fail
  go_ret
  exact ⟨rfl, n1, r1⟩
set_option maxRecDepth 100000 in
set_option maxHeartbeats 4000000 in
theorem rdNat_any (b : Nat) (s : Wr.St) (w : World) (h : RdS w b s) (hE : EnvR w) (hl : s.1.length ≤ 1000000000) :
    Calls Tryz.prog 89 #[.pointer (some ⟨b, 0, none⟩)] w fun r w' => r = .returned (.int .i64 (Wr.natS s).1) ∧ NB b w w' ∧ RdS w' b (Wr.natS s).2 := by
  have HC := Lib.hid (rdNumber_any b 59 59 0 rfl s w h hE hl (by omega))
  unfold Wr.natS
  clear h hE hl
  go_enter Tryz.func89, Tryz.ntmps89
  go_wp2_with fail
  go_at_call 158; refine HC.out.mono ?_; rintro e w1 ⟨rfl, n1, r1⟩
  go_wp2_with fail
  go_ret
  exact ⟨rfl, n1, r1⟩
set_option maxRecDepth 100000 in
set_option maxHeartbeats 4000000 in
theorem rdLeft_any (b : Nat) (s : Wr.St) (w : World) (h : RdS w b s) (hl : s.1.length ≤ 1000000000) :
    Calls Tryz.prog 156 #[.pointer (some ⟨b, 0, none⟩)] w fun r w' => r = .returned (.int .i64 (s.1.length : Int)) ∧ w' = w := by
  obtain ⟨l, bad⟩ := s
  obtain ⟨D, hD, hR⟩ := h
  simp only at hD hR hl ⊢
  have hDs : D.size = l.length := by rw [← bs_len, hD]
  have c0 : w.cell? ⟨b, 0, none⟩ = some (.string D) := cell_of_heap hR 0 rfl
  rw [← hDs] at hl ⊢
  clear hD hR hDs
  go_enter Tryz.func156, Tryz.ntmps156
  go_wp2_with fail
  go_ret
  exact ⟨rfl, rfl⟩
set_option maxRecDepth 100000 in
set_option maxHeartbeats 4000000 in
theorem rdDone_any (b : Nat) (s : Wr.St) (w : World) (h : RdS w b s) :
    Calls Tryz.prog 157 #[.pointer (some ⟨b, 0, none⟩)] w fun r w' => r = .returned (.bool (decide (s = ([], false)))) ∧ w' = w := by
  obtain ⟨l, bad⟩ := s
  obtain ⟨D, hD, hR⟩ := h
  simp only at hD hR
  have c0 : w.cell? ⟨b, 0, none⟩ = some (.string D) := cell_of_heap hR 0 rfl
  have c1 : w.cell? ⟨b, 1, none⟩ = some (.bool bad) := cell_of_heap hR 1 rfl
  cases bad with
  | true =>
    rw [show decide ((l, true) = (([], false) : Wr.St)) = false by simp]
    clear hD hR
    go_enter Tryz.func157, Tryz.ntmps157
    go_wp2_with fail
    go_ret
    exact ⟨rfl, rfl⟩
  | false =>
    obtain ⟨x, hx⟩ : ∃ x, (D.toList == []) = x := ⟨_, rfl⟩
    have hd : decide ((l, false) = (([], false) : Wr.St)) = x := by
      rw [← hx, ← hD]
      have : D.toList = bs D := by
        obtain ⟨⟨m⟩⟩ := D
        simp [bs]
      rw [this]
      cases bs D <;> simp
    rw [hd]
    clear hD hR hd
    go_enter Tryz.func157, Tryz.ntmps157
    go_wp2_with fail
    go_ret
    exact ⟨rfl, rfl⟩
theorem textS_long {s : Wr.St} (h : (Wr.numS 58 0 s).1 > ((Wr.numS 58 0 s).2.1.length : Int)) : Wr.textS s = ([], Wr.fail) := by
  unfold Wr.textS; simp only; rw [if_pos h]
theorem textS_bad {s : Wr.St} (h : ¬ (Wr.numS 58 0 s).1 > ((Wr.numS 58 0 s).2.1.length : Int)) (k : (Wr.closeS 44 ((Wr.numS 58 0 s).2.1.drop (Wr.numS 58 0 s).1.toNat, (Wr.numS 58 0 s).2.2)).2 = true) :
    Wr.textS s = ([], Wr.closeS 44 ((Wr.numS 58 0 s).2.1.drop (Wr.numS 58 0 s).1.toNat, (Wr.numS 58 0 s).2.2)) := by
  unfold Wr.textS; simp only; rw [if_neg h, if_pos k]
theorem textS_yes {s : Wr.St} (h : ¬ (Wr.numS 58 0 s).1 > ((Wr.numS 58 0 s).2.1.length : Int)) (k : (Wr.closeS 44 ((Wr.numS 58 0 s).2.1.drop (Wr.numS 58 0 s).1.toNat, (Wr.numS 58 0 s).2.2)).2 = false) :
    Wr.textS s = ((Wr.numS 58 0 s).2.1.take (Wr.numS 58 0 s).1.toNat, Wr.closeS 44 ((Wr.numS 58 0 s).2.1.drop (Wr.numS 58 0 s).1.toNat, (Wr.numS 58 0 s).2.2)) := by
  unfold Wr.textS; simp only; rw [if_neg h, if_neg (by rw [k]; simp)]
set_option maxRecDepth 100000 in
set_option maxHeartbeats 8000000 in
theorem rdText_any (b : Nat) (s : Wr.St) (w : World) (h : RdS w b s) (hE : EnvR w) (hl : s.1.length ≤ 1000000000) :
    Calls Tryz.prog 86 #[.pointer (some ⟨b, 0, none⟩)] w fun r w' => (∃ D : ByteArray, bs D = (Wr.textS s).1 ∧ r = .returned (.string D)) ∧ NB b w w' ∧ RdS w' b (Wr.textS s).2 := by
  have HC := Lib.hid (rdNumber_any b 58 58 0 rfl s w h hE hl (by omega))
  have hle := Wr.numS_le (e := 58) (s := s)
  have hrs := (Wr.numS_rest (e := 58) (least := 0) (s := s)).1
  have T1 := Lib.hid (textS_long (s := s))
  have T2 := Lib.hid (textS_bad (s := s))
  have T3 := Lib.hid (textS_yes (s := s))
  obtain ⟨N, hN⟩ : ∃ n, (Wr.numS 58 0 s).1 = n := ⟨_, rfl⟩
  obtain ⟨t, ht⟩ : ∃ t, (Wr.numS 58 0 s).2 = t := ⟨_, rfl⟩
  obtain ⟨X, hX⟩ : ∃ t, Wr.textS s = t := ⟨_, rfl⟩
  rw [hN, ht] at HC T1 T2 T3
  rw [hX] at T1 T2 T3 ⊢
  rw [hN] at hle
  rw [ht] at hrs
  obtain ⟨n, rfl⟩ := Int.eq_ofNat_of_zero_le hle
  rw [Int.toNat_natCast] at T2 T3
  obtain ⟨l, bad⟩ := t
  simp only at T1 T2 T3 hrs
  have hll : l.length ≤ 1000000000 := by omega
  clear h hE hl hle hN ht hX hrs
  go_enter Tryz.func86, Tryz.ntmps86
  go_wp2_with fail
  go_at_call 158; refine HC.out.mono ?_; rintro e w1 ⟨rfl, n1, D, hD, r1⟩
  simp only at hD r1
  have N1 := Lib.hid n1
  have R1 := Lib.hid r1
  have hDs : D.size = l.length := by rw [← bs_len, hD]
  have hlt := heap_lt r1
  have c0 : w1.cell? ⟨b, 0, none⟩ = some (.string D) := cell_of_heap r1 0 rfl
  have f0 : w1.frozen? ⟨b, 0, none⟩ = false := free_of_heap r1 0
  have HD := Lib.hid hD
  clear n1 r1 HC hD
  by_cases hg : (n : Int) > (l.length : Int)
  · have hg2 : (D.size : Int) < (n : Int) := by omega
    have hX := T1.out hg
    have HF := Lib.hid (rdFail_any b D bad w1 R1.out)
    subst hX
    clear T1 T2 T3 hg hDs
    go_wp2_with fail
    go_at_call 159; refine HF.out.mono ?_; rintro e w2 ⟨rfl, n2, r2⟩
    go_wp2_with fail
    go_ret
    exact ⟨⟨⟨#[]⟩, rfl, rfl⟩, N1.out.trans n2, ⟨_, rfl, r2⟩⟩
  · have hg2 : n ≤ D.size := by omega
    have n0 : (0 : Int) ≤ (n : Int) := by omega
    have n1 : (n : Int) ≤ (D.size : Int) := by omega
    obtain ⟨w2, hw2⟩ : ∃ W, W = w1.setCell ⟨b, 0, none⟩ (.string (D.extract n D.size)) := ⟨_, rfl⟩
    have N2 : Hid (NB b w w2) := Lib.hid (by rw [hw2]; exact N1.out.set 0 _)
    have R2 : Hid (RdS w2 b (l.drop n, bad)) := Lib.hid ⟨D.extract n D.size, by rw [bs_from, HD.out], by rw [hw2]; exact R1.out.set0⟩
    have HW2 := Lib.hid hw2
    have HCL := Lib.hid (rdClose_any b 44 ⟨#[44]⟩ rfl _ w2 R2.out)
    have hg3 : n ≤ l.length := by omega
    have T2' := Lib.hid (T2.out (by simp only [gt_iff_lt, Int.not_lt, Int.ofNat_le]; exact hg3))
    have T3' := Lib.hid (T3.out (by simp only [gt_iff_lt, Int.not_lt, Int.ofNat_le]; exact hg3))
    obtain ⟨u, hu⟩ : ∃ u, Wr.closeS 44 (l.drop n, bad) = u := ⟨_, rfl⟩
    rw [hu] at HCL T2' T3'
    clear T1 T2 T3 hg hg3 hw2 hu hDs
    go_upto_region 7 with fail
    rw [← HW2.out]
    clear c0 f0
    go_wp2_with fail
    go_at_call 160; refine HCL.out.mono ?_; rintro e w3 ⟨rfl, n3, E, hE3, r3⟩
    have N3 := Lib.hid (N2.out.trans n3)
    have R3 : Hid (RdS w3 b u) := Lib.hid ⟨E, hE3, r3⟩
    obtain ⟨ur, ub⟩ := u
    have c1 : w3.cell? ⟨b, 1, none⟩ = some (.bool ub) := cell_of_heap r3 1 rfl
    clear n3 r3 hE3
    cases ub with
    | true =>
      have hX := T2'.out rfl
      subst hX
      clear T2' T3'
      go_wp2_with fail
      go_ret
      exact ⟨⟨⟨#[]⟩, rfl, rfl⟩, N3.out, R3.out⟩
    | false =>
      have hX := T3'.out rfl
      subst hX
      clear T2' T3'
      go_wp2_with fail
      go_ret
      exact ⟨⟨_, by rw [bs_upto, HD.out], rfl⟩, N3.out, R3.out⟩
end Go.Proofs.YtfcbcpfnaadpeaaGreatDoor
/- Walks of package wire: items, Nums. -/
namespace Go.Proofs.YtfcbcpfnaadpeaaGreatDoor
set_option linter.unusedSimpArgs false
set_option linter.unusedVariables false
open Go.RowKit

theorem EnvR.nb {w w' : World} {b : Nat} (h : EnvR w) (hn : NB b w w') (hb : 2 < b ∧ 3 < b ∧ 4 < b) (hw : b < w.heap.size) : EnvR w' := by
  have hB := hn.below (B := b) (Nat.le_refl _) (Nat.le_of_lt hw)
  refine ⟨?_, ?_, ?_⟩
  · obtain ⟨m, hm, hx⟩ := h.syn; exact ⟨m, (hB.cell hb.1).trans hm, hx⟩
  · obtain ⟨m, hm, hx⟩ := h.ran; exact ⟨m, (hB.cell hb.2.1).trans hm, hx⟩
  · exact var?_below hB Tryz.gPow hb.2.2 h.pow
theorem numsS_bad {s : Wr.St} (k : (Wr.closeS 93 (Wr.itemsL (Wr.numS 91 0 s).1.toNat (Wr.numS 91 0 s).2).2).2 = true) : Wr.numsS s = ([], Wr.closeS 93 (Wr.itemsL (Wr.numS 91 0 s).1.toNat (Wr.numS 91 0 s).2).2) := by
  unfold Wr.numsS; simp only; rw [if_pos k]
theorem numsS_yes {s : Wr.St} (k : (Wr.closeS 93 (Wr.itemsL (Wr.numS 91 0 s).1.toNat (Wr.numS 91 0 s).2).2).2 = false) : Wr.numsS s = ((Wr.itemsL (Wr.numS 91 0 s).1.toNat (Wr.numS 91 0 s).2).1, Wr.closeS 93 (Wr.itemsL (Wr.numS 91 0 s).1.toNat (Wr.numS 91 0 s).2).2) := by
  unfold Wr.numsS; simp only; rw [if_neg (by rw [k]; simp)]
theorem itemsL_stop {k : Nat} {s : Wr.St} (h : s.2 = true ∨ k = 0) : Wr.itemsL k s = ([], s) := by
  cases k with
  | zero => rw [Wr.itemsL]
  | succ k =>
    rw [Wr.itemsL, if_pos]
    rcases h with h | h
    · exact h
    · cases h
theorem itemsL_next {k : Nat} {s : Wr.St} (h : s.2 = false) : Wr.itemsL (k + 1) s = ((Wr.intS s).1 :: (Wr.itemsL k (Wr.intS s).2).1, (Wr.itemsL k (Wr.intS s).2).2) := by
  rw [Wr.itemsL, if_neg (by rw [h]; simp)]
theorem NB.grown {b : Nat} {w w1 w2 : World} {row : Option Nat} (h : NB b w w1) (g : w1.grownBy w2 row) (hr : ∀ k, row = some k → w.heap.size ≤ k) : NB b w w2 :=
  ⟨g.os.trans h.os, g.tape.trans h.tape, g.output.trans h.output, Nat.le_trans h.size g.size, fun k hk hne => (g.block k (Nat.lt_of_lt_of_le hk h.size) (fun e => by have := hr k e.symm; omega)).trans (h.block k hk hne)⟩
theorem Rd.grown {b : Nat} {w w' : World} {D : ByteArray} {bad : Bool} {row : Option Nat} (h : Rd w b D bad) (g : w.grownBy w' row) (hr : ∀ k, row = some k → b < k) : Rd w' b D bad :=
  (g.block b (heap_lt h) (fun e => by have := hr b e.symm; omega)).trans h
theorem RdS.grown {b : Nat} {w w' : World} {s : Wr.St} {row : Option Nat} (h : RdS w b s) (g : w.grownBy w' row) (hr : ∀ k, row = some k → b < k) : RdS w' b s := by
  obtain ⟨D, h1, h2⟩ := h; exact ⟨D, h1, h2.grown g hr⟩
/-- The blocks of the variables that reading wants lie below. -/
def Lows (b : Nat) : Prop := 2 < b ∧ 3 < b ∧ 4 < b
set_option maxRecDepth 100000 in
set_option maxHeartbeats 16000000 in
theorem rdItems_any (b : Nat) (s : Wr.St) (w : World) (h : RdS w b s) (hE : EnvR w) (hg : Lows b) (hb : b < w.heap.size) (hl : s.1.length ≤ 100000000) :
    Calls Tryz.prog 161 #[.pointer (some ⟨b, 0, none⟩), .func (.func 88) #[.pointer (some ⟨b, 0, none⟩)] #[]] w fun r w' => (∃ v, r = .returned v ∧ w'.ownsRow w.heap.size 3 1 v (Wr.numsS s).1.length (ints (Wr.numsS s).1)) ∧ NB b w w' ∧ RdS w' b (Wr.numsS s).2 := by
  have HC := Lib.hid (rdNumber_any b 91 91 0 rfl s w h hE (by omega) (by omega))
  have HEN := Lib.hid (fun W (hn : NB b w W) => hE.nb hn hg hb)
  have HIN := Lib.hid (fun s W (hs : RdS W b s) (hn : NB b w W) (hl : s.1.length ≤ 1000000000) => rdInt_any b s W hs (hE.nb hn hg hb) hl)
  have T1 := Lib.hid (numsS_bad (s := s))
  have T2 := Lib.hid (numsS_yes (s := s))
  have hle := Wr.numS_le (e := 91) (s := s)
  have h64 := (Wr.numS_i64 (e := 91) (least := 0) (s := s)).2
  have hrs := (Wr.numS_rest (e := 91) (least := 0) (s := s)).1
  obtain ⟨N, hN⟩ : ∃ n, (Wr.numS 91 0 s).1 = n := ⟨_, rfl⟩
  obtain ⟨t, ht⟩ : ∃ t, (Wr.numS 91 0 s).2 = t := ⟨_, rfl⟩
  obtain ⟨X, hX⟩ : ∃ t, Wr.numsS s = t := ⟨_, rfl⟩
  rw [hN, ht] at HC T1 T2
  rw [hX] at T1 T2 ⊢
  rw [hN] at hle h64
  rw [ht] at hrs
  obtain ⟨n, rfl⟩ := Int.eq_ofNat_of_zero_le hle
  rw [Int.toNat_natCast] at T1 T2
  obtain ⟨P, hP⟩ : ∃ p, Wr.itemsL n t = p := ⟨_, rfl⟩
  rw [hP] at T1 T2
  have HP : Hid (Wr.itemsL n t = (([] : List Int) ++ P.1, P.2)) := Lib.hid (by rw [hP]; rfl)
  have htl : t.1.length ≤ 100000000 := by omega
  obtain ⟨m, hm⟩ : ∃ m, t.1.length = m := ⟨_, rfl⟩
  have HM := Lib.hid hm
  rw [hm] at htl
  have O0 : Hid (w.ownsRow w.heap.size 3 1 (.slice none 0 0) 0 (ints [])) := Lib.hid (World.ownsRow_nil ..)
  clear h hE hg hl hle hrs hN ht hX hP hm
  go_enter Tryz.func161, Tryz.ntmps161
  go_wp2_with fail
  go_at_call 158; refine HC.out.mono ?_; rintro e w1 ⟨rfl, n1, r1⟩
  have N1 := Lib.hid n1
  have R1 := Lib.hid r1
  have O1 := Lib.hid (n1.row O0.out hb)
  clear n1 r1 HC
  go_wp2_with fail
  go_loopw [5, 6] (fun ov nv wr => ∃ (L : List Int) (k j : Nat) (s' : Wr.St) (oa : Option Addr) (oc : Nat), nv = .int .i64 k ∧ ov = .slice oa j oc ∧ Hid (L.length = j) ∧ Hid (∀ R, Wr.itemsL k s' = R → P = (L ++ R.1, R.2)) ∧ Hid (RdS wr b s') ∧ Hid (wr.ownsRow w.heap.size 3 1 (.slice oa j oc) j (ints L)) ∧ Hid (NB b w wr) ∧ s'.1.length ≤ m ∧ (s'.2 = false → j + s'.1.length ≤ m) ∧ j ≤ m + 1 ∧ k ≤ n) (fun _ nv _ => (intOf nv).toNat)
  case atStart => exact ⟨[], n, 0, t, none, 0, rfl, rfl, Lib.hid rfl, Lib.hid (fun R hR => by rw [← hR, HP.out]; simp), R1, O1, N1, by rw [HM.out]; omega, fun _ => by rw [HM.out]; omega, by omega, Nat.le_refl _⟩
  case round =>
    clear R1 O1 N1 O0
    obtain ⟨L, k, j, s', oa, oc, rfl, rfl, HJ, HI, HS, HO, HN, q1, q2, q3, q4⟩ := hrel
    obtain ⟨wA, hwA⟩ : ∃ W, W = wr := ⟨_, rfl⟩
    subst hwA
    obtain ⟨l', bad⟩ := s'
    simp only at q1 q2
    obtain ⟨D, hD, hR⟩ := HS.out
    simp only at hD hR
    have c1 : wA.cell? ⟨b, 1, none⟩ = some (.bool bad) := cell_of_heap hR 1 rfl
    have hwA2 := HN.out.size
    clear hD hR
    by_cases hgo : k = 0 ∨ bad = true
    · have hst := itemsL_stop (k := k) (s := (l', bad)) (hgo.symm)
      have hPL := HI.out _ hst
      simp only [List.append_nil] at hPL
      have HCL := Lib.hid (rdClose_any b 93 ⟨#[93]⟩ rfl (l', bad) wA HS.out)
      obtain ⟨u, hu⟩ : ∃ u, Wr.closeS 93 (l', bad) = u := ⟨_, rfl⟩
      rw [hu] at HCL
      subst hPL
      simp only at T1 T2
      rw [hu] at T1 T2
      clear hst hu HI
      rcases hgo with rfl | rfl
      · have k9 : ¬ (0 : Int) > 0 := by omega
        go_wp2_with fail
        go_at_call 160; refine HCL.out.mono ?_; rintro e w3 ⟨rfl, n3, E, hE3, r3⟩
        have N3 := Lib.hid (HN.out.trans n3)
        have R3 : Hid (RdS w3 b u) := Lib.hid ⟨E, hE3, r3⟩
        have O3 := Lib.hid (n3.row HO.out hb)
        obtain ⟨ur, ub⟩ := u
        have c2 : w3.cell? ⟨b, 1, none⟩ = some (.bool ub) := cell_of_heap r3 1 rfl
        clear n3 r3 hE3 c1
        cases ub with
        | true =>
          have hX := T1.out rfl
          subst hX
          clear T1 T2
          go_wp2_with fail
          go_ret
          exact ⟨⟨_, rfl, World.ownsRow_nil ..⟩, N3.out, R3.out⟩
        | false =>
          have hX := T2.out rfl
          subst hX
          clear T1 T2
          go_wp2_with fail
          go_ret
          exact ⟨⟨_, rfl, by simp only; rw [HJ.out]; exact O3.out⟩, N3.out, R3.out⟩
      · go_wp2_with fail
        all_goals
          go_at_call 160; refine HCL.out.mono ?_; rintro e w3 ⟨rfl, n3, E, hE3, r3⟩
          have N3 := Lib.hid (HN.out.trans n3)
          have R3 : Hid (RdS w3 b u) := Lib.hid ⟨E, hE3, r3⟩
          have O3 := Lib.hid (n3.row HO.out hb)
          obtain ⟨ur, ub⟩ := u
          have c2 : w3.cell? ⟨b, 1, none⟩ = some (.bool ub) := cell_of_heap r3 1 rfl
          clear n3 r3 hE3 c1
          cases ub with
          | true =>
            have hX := T1.out rfl
            subst hX
            clear T1 T2
            go_wp2_with fail
            go_ret
            exact ⟨⟨_, rfl, World.ownsRow_nil ..⟩, N3.out, R3.out⟩
          | false =>
            have hX := T2.out rfl
            subst hX
            clear T1 T2
            go_wp2_with fail
            go_ret
            exact ⟨⟨_, rfl, by simp only; rw [HJ.out]; exact O3.out⟩, N3.out, R3.out⟩
    · have hk0 : k ≠ 0 := fun e => hgo (.inl e)
      have hbf : bad = false := by cases bad with
        | true => exact absurd (.inr rfl) hgo
        | false => rfl
      subst hbf
      obtain ⟨k, rfl⟩ : ∃ k', k = k' + 1 := ⟨k - 1, by omega⟩
      have hq : j + l'.length ≤ m := q2 rfl
      have HC := Lib.hid (HIN.out (l', false) wA HS.out HN.out (by simp only; omega))
      have hrs := Wr.numS_rest (e := 59) (least := -9223372036854775808) (s := (l', false))
      have hnx := itemsL_next (k := k) (s := (l', false)) rfl
      obtain ⟨x, hx⟩ : ∃ x, (Wr.intS (l', false)).1 = x := ⟨_, rfl⟩
      obtain ⟨s2, hs2⟩ : ∃ x, (Wr.intS (l', false)).2 = x := ⟨_, rfl⟩
      rw [show Wr.numS 59 (-9223372036854775808) (l', false) = Wr.intS (l', false) from rfl, hs2] at hrs
      rw [hx, hs2] at HC hnx
      have HI2 : Hid (∀ R, Wr.itemsL k s2 = R → P = ((L ++ [x]) ++ R.1, R.2)) := Lib.hid (fun R hR => by
        have := HI.out _ hnx
        rw [this, hR]; simp)
      obtain ⟨r1, r2⟩ := hrs
      simp only at r1 r2
      have HJ2 : Hid ((L ++ [x]).length = j + 1) := Lib.hid (by rw [List.length_append, HJ.out]; rfl)
      have k8 : (0 : Int) < ((k : Int) + 1) := by omega
      clear hgo hk0 q2 hnx hx hs2 HI T1 T2
      go_wp2_with fail
      go_at_call 88; refine HC.out.mono ?_; rintro e w3 ⟨rfl, n3, r3⟩
      have N3 := Lib.hid (HN.out.trans n3)
      have R3 := Lib.hid r3
      have O3 := Lib.hid (n3.row HO.out hb)
      have hs3 := N3.out.size
      clear n3 r3 HC c1
      obtain ⟨oa, oc, e9, -⟩ := own_slice O3.out
      injection e9 with e91 e92 e93
      subst e91 e93
      go_wp2_with (at_builtin; refine wpList_app_int_up rfl (.tmp 20) (.tmp 23) rfl w.heap.size (.slice oa j oc) j (ints L) rfl (World.ownsRow.alloc O3.out _) w3.heap.size 1 x rfl (heap_alloc_new _ _) ?c1 ?c2 ?_)
      case c1 => omega
      case c2 => simp; omega
      intro av cv w4 ho4 hg4 hd4
      have hlt9 : ∀ k, (Value.slice oa j oc).ownBlock = some k → w.heap.size ≤ k := fun k hk => (World.ownsRow.lt O3.out k hk).1
      have O4 : Hid (w4.ownsRow w.heap.size 3 1 (.slice av (j + 1) cv) (j + 1) (ints (L ++ [x]))) := Lib.hid (by
        rw [show ints (L ++ [x]) = ints L ++ [.int .i64 x] by simp [ints]]; exact ho4)
      have N4 := Lib.hid ((N3.out.alloc _).grown hg4 hlt9)
      have R4 := Lib.hid ((R3.out.below ((Below.refl _ _).alloc (Nat.le_refl _) _)).grown hg4 (fun k hk => by have := hlt9 k hk; omega))
      clear ho4 hg4 hd4 hlt9
      go_wp2_with fail
      go_roundw
      case rel => exact ⟨L ++ [x], k, j + 1, s2, av, cv, by go_num, rfl, HJ2, HI2, R4, O4, N4, by omega, fun h9 => by have := (r2 h9).1; omega, by omega, by omega⟩
      case measure => simp [intOf]
set_option maxRecDepth 100000 in
set_option maxHeartbeats 4000000 in
theorem rdNums_any (b : Nat) (s : Wr.St) (w : World) (h : RdS w b s) (hE : EnvR w) (hg : Lows b) (hb : b < w.heap.size) (hl : s.1.length ≤ 100000000) :
    Calls Tryz.prog 87 #[.pointer (some ⟨b, 0, none⟩)] w fun r w' => (∃ v, r = .returned v ∧ w'.ownsRow w.heap.size 3 1 v (Wr.numsS s).1.length (ints (Wr.numsS s).1)) ∧ NB b w w' ∧ RdS w' b (Wr.numsS s).2 := by
  have HC := Lib.hid (rdItems_any b s w h hE hg hb hl)
  obtain ⟨X, hX⟩ : ∃ t, Wr.numsS s = t := ⟨_, rfl⟩
  rw [hX] at HC ⊢
  clear h hE hg hl hX
  go_enter Tryz.func87, Tryz.ntmps87
  go_wp2_with fail
  go_at_call 161; refine HC.out.mono ?_; rintro e w1 ⟨⟨v, rfl, ho⟩, n1, r1⟩
  obtain ⟨oa, oc, rfl, -⟩ := own_slice ho
  have HO := Lib.hid ho
  clear ho
  go_wp2_with fail
  go_ret
  exact ⟨⟨_, rfl, HO.out⟩, n1, r1⟩
end Go.Proofs.YtfcbcpfnaadpeaaGreatDoor
/- Walks of package petri: isSet, Right, exactly. -/
namespace Go.Proofs.YtfcbcpfnaadpeaaGreatDoor
set_option linter.unusedSimpArgs false
set_option linter.unusedVariables false
open Go.RowKit

theorem getD_at (l : List Int) {i : Nat} (h : i < l.length) : l.getD i 0 = l[i] := by simp [List.getD, h]
theorem setB_no {P : Int} {l : List Int} {i : Nat} (hi : i < l.length) (h : l[i] < 0 ∨ P ≤ l[i] ∨ (0 < i ∧ l[i] ≤ l.getD (i - 1) 0)) : Wr.setB P l = false := by
  cases hb : Wr.setB P l with
  | false => rfl
  | true =>
    unfold Wr.setB at hb
    rw [List.all_eq_true] at hb
    have h1 := hb i (List.mem_range.2 hi)
    rw [getD_at l hi] at h1
    simp only [Bool.and_eq_true, Bool.or_eq_true, decide_eq_true_eq] at h1
    omega
theorem setB_yes {P : Int} {l : List Int} (h : ∀ i, (hi : i < l.length) → 0 ≤ l[i] ∧ l[i] < P ∧ (i = 0 ∨ l.getD (i - 1) 0 < l[i])) : Wr.setB P l = true := by
  unfold Wr.setB
  rw [List.all_eq_true]
  intro i hi
  have hi := List.mem_range.1 hi
  obtain ⟨h1, h2, h3⟩ := h i hi
  rw [getD_at l hi]
  simp only [Bool.and_eq_true, Bool.or_eq_true, decide_eq_true_eq]
  exact ⟨h1, h2, h3⟩
set_option maxRecDepth 100000 in
set_option maxHeartbeats 8000000 in
theorem isSet_any (P : Int) (v : Value) (l : List Int) (w : World) (h : Is w v l) :
    Calls Tryz.prog 65 #[.int .i64 P, v] w fun e w' => e = .returned (.bool (Wr.setB P l)) ∧ w' = w := by
  obtain ⟨a, ca, rfl, hma⟩ := h.form
  have H := Lib.hid h
  have HNO := Lib.hid (fun i (hi : i < l.length) h => setB_no (P := P) hi h)
  have HYE := Lib.hid (fun h => setB_yes (P := P) (l := l) h)
  obtain ⟨R, hR⟩ : ∃ R, Wr.setB P l = R := ⟨_, rfl⟩
  rw [hR] at HNO HYE ⊢
  obtain ⟨m, hm⟩ : ∃ m, l.length = m := ⟨_, rfl⟩
  have HM := Lib.hid hm
  rw [hm] at hma H ⊢
  clear h hm hR
  go_enter Tryz.func65, Tryz.ntmps65
  go_wp2_with fail
  go_loop [9] (fun iv => ∃ k : Nat, k ≤ m ∧ iv = .int .i64 k ∧ Hid (∀ i, (hi : i < l.length) → i < k → 0 ≤ l[i] ∧ l[i] < P ∧ (i = 0 ∨ l.getD (i - 1) 0 < l[i]))) (fun iv => m - (intOf iv).toNat)
  case atStart => exact ⟨0, by omega, rfl, Lib.hid (fun i _ h => by omega)⟩
  case round =>
    obtain ⟨k, hk, rfl, HA⟩ := hrel
    by_cases hkm : k < m
    · have hkl : k < l.length := by rw [HM.out]; exact hkm
      obtain ⟨b, o, e1, c1⟩ := H.out.cell k hkl
      subst e1
      have HN1 := Lib.hid (HNO.out k hkl)
      obtain ⟨y, hy⟩ : ∃ y, l.getD (k - 1) 0 = y := ⟨_, rfl⟩
      have hyc : 0 < k → w.cell? ⟨b, o + (k - 1), none⟩ = some (.int .i64 y) := fun h0 => by
        obtain ⟨b2, o2, e2, c2⟩ := H.out.cell (k - 1) (by omega)
        injection e2 with e2; injection e2 with e2 e3; subst e2 e3
        rw [c2, ← hy, getD_at l (by omega)]
      obtain ⟨x, hx⟩ : ∃ x, l[k] = x := ⟨_, rfl⟩
      have HA2 : Hid (0 ≤ x → x < P → (k = 0 ∨ y < x) → ∀ i, (hi : i < l.length) → i < k + 1 → 0 ≤ l[i] ∧ l[i] < P ∧ (i = 0 ∨ l.getD (i - 1) 0 < l[i])) := Lib.hid (fun h1 h2 h3 i hi h4 => by
        by_cases hik : i = k
        · subst hik; rw [hx, hy]; exact ⟨h1, h2, h3⟩
        · exact HA.out i hi (by omega))
      rw [hx, hy] at HN1
      rw [hx] at c1
      have k0 : (0 : Int) ≤ (k : Int) := by omega
      have k1 : (k : Int) < (m : Int) := by omega
      clear hx hy hkl
      by_cases f0 : x < 0
      · have hRR := HN1.out (.inl f0)
        subst hRR
        clear HNO HYE HN1
        go_wp2_with fail
        go_ret
        exact ⟨rfl, rfl⟩
      by_cases f1 : P ≤ x
      · have hRR := HN1.out (.inr (.inl f1))
        subst hRR
        clear HNO HYE HN1
        go_wp2_with fail
        go_ret
        exact ⟨rfl, rfl⟩
      by_cases f2 : k = 0
      · have HA3 := Lib.hid (HA2.out (by omega) (by omega) (.inl f2))
        subst f2
        rw [Nat.add_zero] at c1
        clear hyc HN1 HA2
        go_wp2_with fail
        go_round
        case rel => exact ⟨1, by omega, by go_num, HA3⟩
        case measure => simp [intOf]; omega
      · obtain ⟨j, rfl⟩ : ∃ j, k = j + 1 := ⟨k - 1, by omega⟩
        have c2 := hyc (by omega)
        rw [Nat.add_sub_cancel] at c2
        have d2 : (0 : Int) < ((j + 1 : Nat) : Int) := by omega
        have e4 : ((j + 1 : Nat) : Int) - 1 = (j : Int) := by omega
        have j0 : (0 : Int) ≤ (j : Int) := by omega
        have j1 : (j : Int) < (m : Int) := by omega
        clear hyc
        by_cases f3 : x ≤ y
        · have hRR := HN1.out (.inr (.inr ⟨by omega, f3⟩))
          subst hRR
          clear HNO HYE HN1 HA2
          go_wp2_with fail
          go_ret
          exact ⟨rfl, rfl⟩
        · have HA3 := Lib.hid (HA2.out (by omega) (by omega) (.inr (by omega)))
          clear HN1 HA2
          go_wp2_with fail
          go_round
          case rel => exact ⟨j + 1 + 1, by omega, by go_num, HA3⟩
          case measure => simp [intOf]; omega
    · obtain rfl : k = m := by omega
      have hRR := HYE.out (fun i hi => HA.out i hi (by rw [← HM.out]; exact hi))
      subst hRR
      go_wp2_with fail
      go_ret
      exact ⟨rfl, rfl⟩
def badT (P : Int) (t : Wr.Tn) : Bool := !(Wr.setB P t.1) || !(Wr.setB P t.2)
set_option maxRecDepth 100000 in
set_option maxHeartbeats 8000000 in
theorem badT_any (P : Int) (t : Wr.Tn) (u1 u2 : Value) (pb : Nat) (tv : Value) (w : World) (h1 : Is w u1 t.1) (h2 : Is w u2 t.2) (hp : w.heap[pb]? = some (.cells #[.int .i64 P, tv] 35 (0, 0))) :
    Calls Tryz.prog 98 #[.agg #[u1, u2], .pointer (some ⟨pb, 0, none⟩)] w fun e w' => e = .returned (.bool (badT P t)) ∧ Below w.heap.size w w' := by
  obtain ⟨t1, t2⟩ := t
  unfold badT
  simp only at h1 h2 ⊢
  have HP := Lib.hid hp
  obtain ⟨w1, hw1⟩ : ∃ W, W = w.alloc (.cells #[u1, u2] 43) := ⟨_, rfl⟩
  have B1 : Hid (Below w.heap.size w w1) := Lib.hid (by rw [hw1]; exact (Below.refl _ _).alloc (Nat.le_refl _) _)
  have I1 : Hid (w1.heap[w.heap.size]? = some (.cells #[u1, u2] 43 (0, 0))) := Lib.hid (by rw [hw1]; exact heap_alloc_new _ _)
  have HW1 := Lib.hid hw1
  have HA1 := Lib.hid (isSet_any P u1 t1 w1 (h1.keep B1.out))
  have HA2 := Lib.hid (isSet_any P u2 t2 w1 (h2.keep B1.out))
  obtain ⟨x, hx⟩ : ∃ x, Wr.setB P t1 = x := ⟨_, rfl⟩
  obtain ⟨y, hy⟩ : ∃ x, Wr.setB P t2 = x := ⟨_, rfl⟩
  rw [hx] at HA1
  rw [hy] at HA2
  rw [hx, hy]
  obtain ⟨xa, xc, rfl, -⟩ := h1.form
  obtain ⟨ya, yc, rfl, -⟩ := h2.form
  have p0 : w1.cell? ⟨pb, 0, none⟩ = some (.int .i64 P) := cell_of_heap (keep_heap hp B1.out) 0 rfl
  have q0 : w1.cell? ⟨w.heap.size, 0, none⟩ = some (.slice xa t1.length xc) := cell_of_heap I1.out 0 rfl
  have q1 : w1.cell? ⟨w.heap.size, 1, none⟩ = some (.slice ya t2.length yc) := cell_of_heap I1.out 1 rfl
  clear h1 h2 hp hw1 hx hy
  go_enter Tryz.func98, Tryz.ntmps98
  go_upto_region 1 with fail
  rw [← HW1.out]
  go_wp2_with fail
  go_at_call 65; refine HA1.out.mono ?_; rintro e w2 ⟨rfl, rfl⟩
  cases x with
  | false =>
    go_wp2_with fail
    go_ret
    exact ⟨rfl, B1.out⟩
  | true =>
    go_wp2_with fail
    go_at_call 65; refine HA2.out.mono ?_; rintro e w3 ⟨rfl, rfl⟩
    go_wp2_with fail
    go_ret
    exact ⟨by simp, B1.out⟩
theorem anyT_drop {α : Type} {p : α → Bool} {l : List α} {k : Nat} (hk : k < l.length) : (l.drop k).any p = (p l[k] || (l.drop (k + 1)).any p) := by
  rw [List.drop_eq_getElem_cons hk, List.any_cons]
set_option maxRecDepth 100000 in
set_option maxHeartbeats 8000000 in
theorem indexT_any (P : Int) (v : Value) (l : List Wr.Tn) (pb : Nat) (tv : Value) (w : World) (h : Tr w v l) (hp : w.heap[pb]? = some (.cells #[.int .i64 P, tv] 35 (0, 0))) :
    Calls Tryz.prog 165 #[v, .func (.func 98) #[] #[.pointer (some ⟨pb, 0, none⟩)]] w fun e w' => (∃ r : Int, e = .returned (.int .i64 r) ∧ decide (0 ≤ r) = l.any (badT P)) ∧ Below w.heap.size w w' := by
  obtain ⟨a, cap, rfl, hm⟩ := h.form
  have H := Lib.hid (fun W (hW : Below w.heap.size w W) => h.keep hW)
  have HP := Lib.hid (fun W (hW : Below w.heap.size w W) => keep_heap hp hW)
  obtain ⟨R, hR⟩ : ∃ R, l.any (badT P) = R := ⟨_, rfl⟩
  have HR : Hid ((l.drop 0).any (badT P) = R) := Lib.hid hR
  rw [hR]
  obtain ⟨n, hn⟩ : ∃ n, l.length = n := ⟨_, rfl⟩
  rw [hn] at hm H ⊢
  have HN := Lib.hid hn
  have Z0 : Hid (Below w.heap.size w w) := Lib.hid (Below.refl _ _)
  clear h hp hR hn
  go_enter Tryz.func165, Tryz.ntmps165
  go_wp2_with fail
  go_loopw [8] (fun iv wr => ∃ (k : Nat), k ≤ n ∧ iv = .int .i64 k ∧ Hid ((l.drop k).any (badT P) = R) ∧ Hid (Below w.heap.size w wr)) (fun iv _ => n - (intOf iv).toNat)
  case atStart => exact ⟨0, by omega, rfl, HR, Z0⟩
  case round =>
    clear Z0
    obtain ⟨k, hk, rfl, HK, HU⟩ := hrel
    by_cases hkn : k < n
    · have hkl : k < l.length := by rw [HN.out]; exact hkn
      obtain ⟨b, off, u1, u2, e1, hbl, c1, c2, i1, i2⟩ := (H.out wr HU.out).cell k hkl
      subst e1
      have hd := anyT_drop (p := badT P) hkl
      rw [HK.out] at hd
      obtain ⟨x, hx⟩ : ∃ x, l[k] = x := ⟨_, rfl⟩
      rw [hx] at i1 i2 hd
      have HC := Lib.hid (badT_any P x u1 u2 pb tv wr i1 i2 (HP.out wr HU.out))
      obtain ⟨z, hz⟩ : ∃ z, badT P x = z := ⟨_, rfl⟩
      rw [hz] at HC hd
      have HD := Lib.hid hd
      have k1 : (k : Int) < (n : Int) := by omega
      have k0 : (0 : Int) ≤ (k : Int) := by omega
      clear hd hz hx i1 i2
      cases z
      · go_wp2_with fail
        go_at_call 98; refine HC.out.mono ?_; rintro e w3 ⟨rfl, hu3⟩
        have HU3 := Lib.hid (HU.out.trans (hu3.mono HU.out.size))
        clear hu3
        go_wp2_with fail
        go_roundw
        case rel => exact ⟨k + 1, by omega, by go_num, Lib.hid (by have := HD.out; rw [Bool.false_or] at this; exact this.symm), HU3⟩
        case measure => simp [intOf]; omega
      · go_wp2_with fail
        go_at_call 98; refine HC.out.mono ?_; rintro e w3 ⟨rfl, hu3⟩
        have HU3 := Lib.hid (HU.out.trans (hu3.mono HU.out.size))
        clear hu3
        go_wp2_with fail
        go_ret
        exact ⟨⟨(k : Int), rfl, by rw [HD.out, Bool.true_or]; simp⟩, HU3.out⟩
    · have HF : Hid (false = R) := Lib.hid (by
        rw [← HK.out, List.drop_eq_nil_of_le (by rw [HN.out]; omega)]; rfl)
      go_wp2_with fail
      go_ret
      exact ⟨⟨-1, rfl, by rw [← HF.out]; rfl⟩, HU.out⟩
set_option maxRecDepth 100000 in
set_option maxHeartbeats 8000000 in
theorem containsT_any (P : Int) (v : Value) (l : List Wr.Tn) (pb : Nat) (tv : Value) (w : World) (h : Tr w v l) (hp : w.heap[pb]? = some (.cells #[.int .i64 P, tv] 35 (0, 0))) :
    Calls Tryz.prog 97 #[v, .func (.func 98) #[] #[.pointer (some ⟨pb, 0, none⟩)]] w fun e w' => e = .returned (.bool (l.any (badT P))) ∧ Below w.heap.size w w' := by
  have HT := Lib.hid (indexT_any P v l pb tv w h hp)
  obtain ⟨a, cap, rfl, hm⟩ := h.form
  obtain ⟨R, hR⟩ : ∃ R, l.any (badT P) = R := ⟨_, rfl⟩
  rw [hR] at HT ⊢
  clear h hp hR
  go_enter Tryz.func97, Tryz.ntmps97
  go_wp2_with fail
  go_at_call 165; refine HT.out.mono ?_; rintro e w3 ⟨⟨r, rfl, hr⟩, hu⟩
  have HR := Lib.hid hr
  have HU := Lib.hid hu
  clear hr hu
  go_wp2_with fail
  go_ret
  exact ⟨by rw [← HR.out]; rfl, HU.out⟩
theorem any_badT (P : Int) (l : List Wr.Tn) : (l.all fun t => Wr.setB P t.1 && Wr.setB P t.2) = !(l.any (badT P)) := by
  induction l with
  | nil => rfl
  | cons t l ih =>
    rw [List.all_cons, List.any_cons, ih]
    unfold badT
    cases Wr.setB P t.1 <;> cases Wr.setB P t.2 <;> simp
set_option maxRecDepth 100000 in
set_option maxHeartbeats 8000000 in
theorem pRight_any (P : Int) (v : Value) (l : List Wr.Tn) (w : World) (h : Tr w v l) :
    Calls Tryz.prog 35 #[.agg #[.int .i64 P, v]] w fun e w' => e = .returned (.bool (Wr.netR P l)) ∧ Below w.heap.size w w' := by
  obtain ⟨a, cap, rfl, hm⟩ := h.form
  obtain ⟨n, hn⟩ : ∃ n, l.length = n := ⟨_, rfl⟩
  obtain ⟨w1, hw1⟩ : ∃ W, W = w.alloc (.cells #[.int .i64 P, .slice a n cap] 35) := ⟨_, rfl⟩
  have B1 : Hid (Below w.heap.size w w1) := Lib.hid (by rw [hw1]; exact (Below.refl _ _).alloc (Nat.le_refl _) _)
  have I1 : Hid (w1.heap[w.heap.size]? = some (.cells #[.int .i64 P, .slice a n cap] 35 (0, 0))) := Lib.hid (by rw [hw1]; exact heap_alloc_new _ _)
  have HW1 := Lib.hid hw1
  have HC := Lib.hid (containsT_any P (.slice a l.length cap) l w.heap.size (.slice a n cap) w1 (h.keep B1.out) I1.out)
  have HRE : Hid (Wr.netR P l = (decide (0 ≤ P) && (decide (P ≤ 64) && (decide (n ≤ 5000) && !(l.any (badT P)))))) := Lib.hid (by unfold Wr.netR; rw [any_badT, hn])
  rw [hn] at HC hm ⊢
  obtain ⟨z, hz⟩ : ∃ z, l.any (badT P) = z := ⟨_, rfl⟩
  rw [hz] at HC HRE
  rw [HRE.out]
  have p0 : w1.cell? ⟨w.heap.size, 0, none⟩ = some (.int .i64 P) := cell_of_heap I1.out 0 rfl
  have p1 : w1.cell? ⟨w.heap.size, 1, none⟩ = some (.slice a n cap) := cell_of_heap I1.out 1 rfl
  clear h hn hw1 hz HRE
  go_enter Tryz.func35, Tryz.ntmps35
  go_upto_region 1 with fail
  rw [← HW1.out]
  by_cases f0 : P < 0
  · go_wp2_with fail
    go_ret
    exact ⟨by rw [decide_eq_false (show ¬ 0 ≤ P by omega)]; rfl, B1.out⟩
  by_cases f1 : 64 < P
  · go_wp2_with fail
    go_ret
    exact ⟨by rw [decide_eq_false (show ¬ P ≤ 64 by omega)]; simp, B1.out⟩
  by_cases f2 : (5000 : Int) < (n : Int)
  · go_wp2_with fail
    go_ret
    exact ⟨by rw [decide_eq_false (show ¬ n ≤ 5000 by omega)]; simp, B1.out⟩
  go_wp2_with fail
  go_at_call 97; refine HC.out.mono ?_; rintro e w3 ⟨rfl, b3⟩
  have B3 := Lib.hid (B1.out.trans (b3.mono B1.out.size))
  clear b3
  go_wp2_with fail
  go_ret
  exact ⟨by rw [decide_eq_true (show 0 ≤ P by omega), decide_eq_true (show P ≤ 64 by omega), decide_eq_true (show n ≤ 5000 by omega)]; rfl, B3.out⟩
end Go.Proofs.YtfcbcpfnaadpeaaGreatDoor
