/- Parts DtP, DtA of this claim, laid one behind the other: walks and the plain laws behind them; each contract states its own conditions. -/
import Derived.Test.YtnccndfffmaonaaGreatDoorZA
import Derived.Test.YtnccndfffmaonaaGreatDoorZP
import Derived.Test.YtnccndfffmaonaaGreatDoorZS
/- The reference of layer 10 in plain words: right items. -/
namespace Go.Proofs.YtnccndfffmaonaaGreatDoor
namespace Dr
/-- What the reference asks of the i-th number of an item of kind k. -/
def chk (k i : Nat) (n : Int) : Bool := decide (0 ≤ n) && !(decide (k = 2) && (decide (i = 3) && decide (5 < n)))
def chkL (k : Nat) : Nat → List Int → Bool
  | _, [] => true
  | i, n :: l => chk k i n && chkL k (i + 1) l
theorem chkL_step (k i : Nat) (l : List Int) (h : i < l.length) : chkL k i (l.drop i) = (chk k i l[i] && chkL k (i + 1) (l.drop (i + 1))) := by
  rw [List.drop_eq_getElem_cons h, chkL]
theorem chk_other (k i : Nat) (n : Int) (h : k ≠ 2 ∨ i ≠ 3) : chk k i n = decide (0 ≤ n) := by
  unfold chk
  rcases h with h | h
  · rw [decide_eq_false h]; simp
  · rw [decide_eq_false h]; simp
theorem chkL_all (k : Nat) (hk : k ≠ 2) : ∀ (l : List Int) (i : Nat), chkL k i l = l.all (fun n => decide (0 ≤ n))
  | [], _ => rfl
  | n :: l, i => by rw [chkL, chk_other k i n (.inl hk), chkL_all k hk l (i + 1), List.all_cons]
theorem any_neg (l : List Int) : l.any (fun n => decide (n < 0)) = !l.all (fun n => decide (0 ≤ n)) := by
  rw [List.not_all_eq_any_not]
  congr 1
  funext n
  rw [← decide_not]
  exact decide_eq_decide.2 (by omega)
theorem chkL_2 (a b c d : Int) : chkL 2 0 [a, b, c, d] = ([a, b, c, d].all (fun n => decide (0 ≤ n)) && decide (d < 6)) := by
  have e : chk 2 3 d = (decide (0 ≤ d) && decide (d < 6)) := by
    unfold chk
    simp only [decide_true, Bool.true_and]
    congr 1
    rw [← decide_not]
    exact decide_eq_decide.2 (by omega)
  simp only [chkL, e, chk_other 2 0 a (.inr (by decide)), chk_other 2 1 b (.inr (by decide)), chk_other 2 2 c (.inr (by decide)), List.all_cons, List.all_nil, Bool.and_true]
  simp only [Bool.and_assoc]
/-- The reference's order of questions. -/
def refI (k : Nat) (x : Item) : Bool :=
  decide (x.n.length = nums k) && ((decide (2 ≤ words k) || decide (x.other = [])) && ((decide (0 < words k) || ((partsOf k).contains 111 || decide (x.name = []))) &&
    ((decide (words k = 0) || Lx.word x.name) && ((decide (words k < 2) || Lx.word x.other) && ((!(partsOf k).contains 111 || (decide (x.name = []) || Lx.word x.name)) && chkL k 0 x.n)))))
theorem refI_eq (x : Item) (k : Nat) (hk : k < 6) (hx : x.kind = (k : Int)) : rightI x = refI k x := by
  obtain ⟨kd, ln, nm, ot, n⟩ := x
  dsimp only at hx
  subst hx
  unfold rightI refI nameOk otherOk
  dsimp only
  have e0 : ((k : Int)).toNat = k := by omega
  rw [e0]
  have hc : ((k : Int) < 0 ∨ 6 ≤ (k : Int) ∨ n.any (fun n => decide (n < 0)) = true) ↔ n.any (fun n => decide (n < 0)) = true := ⟨fun h => by rcases h with h | h | h; omega; omega; exact h, fun h => .inr (.inr h)⟩
  obtain ⟨A, hA⟩ : ∃ A, n.all (fun n => decide (0 ≤ n)) = A := ⟨_, rfl⟩
  have hN := any_neg n
  rw [hA] at hN
  by_cases hl : n.length = nums k
  · rw [decide_eq_true hl, Bool.true_and, if_neg (show ¬ (n.length ≠ nums k) from fun h => h hl)]
    obtain ⟨T, hT⟩ : ∃ T, chkL k 0 n = T := ⟨_, rfl⟩
    obtain ⟨D, hD⟩ : ∃ D, decide ((k : Int) = 2 ∧ 6 ≤ n.getD 3 0) = D := ⟨_, rfl⟩
    have hTA : T = (A && !D) := by
      by_cases h2 : k = 2
      · subst h2
        have e2 : nums 2 = 4 := by decide
        rw [e2] at hl
        obtain ⟨a, n1, rfl, g1⟩ := len_s hl
        obtain ⟨b, n2, rfl, g2⟩ := len_s g1
        obtain ⟨c, n3, rfl, g3⟩ := len_s g2
        obtain ⟨d, n4, rfl, g4⟩ := len_s g3
        obtain rfl := len_0 g4
        rw [← hT, chkL_2, hA, ← hD]
        congr 1
        simp only [List.getD_cons_succ, List.getD_cons_zero]
        rw [← decide_not]
        exact decide_eq_decide.2 ⟨fun h e => by omega, fun h => by
          apply Decidable.byContradiction; intro hc
          exact h ⟨rfl, by omega⟩⟩
      · rw [← hT, chkL_all k h2, hA, ← hD, decide_eq_false (fun h => h2 (by omega))]; simp
    have hif : ∀ X : Bool, (if ((k : Int) < 0 ∨ 6 ≤ (k : Int) ∨ n.any (fun n => decide (n < 0)) = true) then false else if (k : Int) = 2 ∧ 6 ≤ n.getD 3 0 then false else X) = (T && X) := by
      intro X
      rw [hTA]
      cases A with
      | false => rw [if_pos (hc.2 hN)]; rfl
      | true =>
        rw [if_neg (fun h => by have := hc.1 h; rw [hN] at this; cases this)]
        cases D with
        | true => rw [if_pos (of_decide_eq_true hD)]; rfl
        | false => rw [if_neg (of_decide_eq_false hD)]; rfl
    rw [hif, hT]
    clear hif hTA hD hT hN hA hl hc e0
    match k, hk with
    | 0, _ =>
      rw [show words 0 = 1 by decide, show (partsOf 0).contains 111 = false by decide]
      generalize decide (nm = []) = p
      generalize Lx.word nm = q
      generalize decide (ot = []) = r
      generalize Lx.word ot = s
      cases p <;> cases q <;> cases r <;> cases s <;> cases T <;> rfl
    | 1, _ =>
      rw [show words 1 = 1 by decide, show (partsOf 1).contains 111 = false by decide]
      generalize decide (nm = []) = p
      generalize Lx.word nm = q
      generalize decide (ot = []) = r
      generalize Lx.word ot = s
      cases p <;> cases q <;> cases r <;> cases s <;> cases T <;> rfl
    | 2, _ =>
      rw [show words 2 = 0 by decide, show (partsOf 2).contains 111 = false by decide]
      generalize decide (nm = []) = p
      generalize Lx.word nm = q
      generalize decide (ot = []) = r
      generalize Lx.word ot = s
      cases p <;> cases q <;> cases r <;> cases s <;> cases T <;> rfl
    | 3, _ =>
      rw [show words 3 = 2 by decide, show (partsOf 3).contains 111 = false by decide]
      generalize decide (nm = []) = p
      generalize Lx.word nm = q
      generalize decide (ot = []) = r
      generalize Lx.word ot = s
      cases p <;> cases q <;> cases r <;> cases s <;> cases T <;> rfl
    | 4, _ =>
      rw [show words 4 = 0 by decide, show (partsOf 4).contains 111 = true by decide]
      generalize decide (nm = []) = p
      generalize Lx.word nm = q
      generalize decide (ot = []) = r
      generalize Lx.word ot = s
      cases p <;> cases q <;> cases r <;> cases s <;> cases T <;> rfl
    | 5, _ =>
      rw [show words 5 = 0 by decide, show (partsOf 5).contains 111 = false by decide]
      generalize decide (nm = []) = p
      generalize Lx.word nm = q
      generalize decide (ot = []) = r
      generalize Lx.word ot = s
      cases p <;> cases q <;> cases r <;> cases s <;> cases T <;> rfl
  · rw [decide_eq_false hl, Bool.false_and]
    split
    · rfl
    · first | rfl | (rw [if_pos hl])
end Dr
end Go.Proofs.YtnccndfffmaonaaGreatDoor
/- The reference of layer 10: Form, Direction, direction. -/
namespace Go.Proofs.YtnccndfffmaonaaGreatDoor
set_option linter.unusedSimpArgs false
set_option linter.unusedVariables false
open Go.RowKit

theorem results4 {fn : Func} {t u v x : Tmp} (h : fn.results = #[.tmp t, .tmp u, .tmp v, .tmp x]) (tmps : Array Value) (P : Program) (w : World) :
    (results fn tmps).run P w = .ok (.tuple #[tmps.getD t undef, tmps.getD u undef, tmps.getD v undef, tmps.getD x undef]) w := by simp [results, h]
def formV (k : Nat) : Value := .tuple #[.string ⟨(Dr.wordOf k).toArray⟩, .int .i64 (Dr.nums k), .int .i64 (Dr.words k), .bool ((Dr.partsOf k).contains 111)]
set_option maxHeartbeats 2000000 in
theorem Form_none (k : Int) (h : k < 0 ∨ 6 ≤ k) (w : World) : Calls Tryz.prog 24 #[.int .i64 k] w fun e w' => e = .returned (.tuple #[.string ⟨#[]⟩, .int .i64 0, .int .i64 0, .bool false]) ∧ w = w' := by
  have k0 : (k == 0) = false := beq_eq_false_iff_ne.2 (by omega)
  have k1 : (k == 1) = false := beq_eq_false_iff_ne.2 (by omega)
  have k2 : (k == 2) = false := beq_eq_false_iff_ne.2 (by omega)
  have k3 : (k == 3) = false := beq_eq_false_iff_ne.2 (by omega)
  have k4 : (k == 4) = false := beq_eq_false_iff_ne.2 (by omega)
  have k5 : (k == 5) = false := beq_eq_false_iff_ne.2 (by omega)
  clear h
  go_enter Tryz.func24, Tryz.ntmps24
  go_wp2_with fail
  refine bodyPost_ret (results4 rfl _ _ _) rfl ?_
  exact ⟨rfl, rfl⟩
set_option maxHeartbeats 2000000 in
theorem Form_0 (w : World) : Calls Tryz.prog 24 #[.int .i64 0] w fun e w' => e = .returned (formV 0) ∧ w = w' := by
  go_enter Tryz.func24, Tryz.ntmps24
  go_wp2_with fail
  refine bodyPost_ret (results4 rfl _ _ _) rfl ?_
  exact ⟨rfl, rfl⟩
set_option maxHeartbeats 2000000 in
theorem Form_1 (w : World) : Calls Tryz.prog 24 #[.int .i64 1] w fun e w' => e = .returned (formV 1) ∧ w = w' := by
  go_enter Tryz.func24, Tryz.ntmps24
  go_wp2_with fail
  refine bodyPost_ret (results4 rfl _ _ _) rfl ?_
  exact ⟨rfl, rfl⟩
set_option maxHeartbeats 2000000 in
theorem Form_2 (w : World) : Calls Tryz.prog 24 #[.int .i64 2] w fun e w' => e = .returned (formV 2) ∧ w = w' := by
  go_enter Tryz.func24, Tryz.ntmps24
  go_wp2_with fail
  refine bodyPost_ret (results4 rfl _ _ _) rfl ?_
  exact ⟨rfl, rfl⟩
set_option maxHeartbeats 2000000 in
theorem Form_3 (w : World) : Calls Tryz.prog 24 #[.int .i64 3] w fun e w' => e = .returned (formV 3) ∧ w = w' := by
  go_enter Tryz.func24, Tryz.ntmps24
  go_wp2_with fail
  refine bodyPost_ret (results4 rfl _ _ _) rfl ?_
  exact ⟨rfl, rfl⟩
set_option maxHeartbeats 2000000 in
theorem Form_4 (w : World) : Calls Tryz.prog 24 #[.int .i64 4] w fun e w' => e = .returned (formV 4) ∧ w = w' := by
  go_enter Tryz.func24, Tryz.ntmps24
  go_wp2_with fail
  refine bodyPost_ret (results4 rfl _ _ _) rfl ?_
  exact ⟨rfl, rfl⟩
set_option maxHeartbeats 2000000 in
theorem Form_5 (w : World) : Calls Tryz.prog 24 #[.int .i64 5] w fun e w' => e = .returned (formV 5) ∧ w = w' := by
  go_enter Tryz.func24, Tryz.ntmps24
  go_wp2_with fail
  refine bodyPost_ret (results4 rfl _ _ _) rfl ?_
  exact ⟨rfl, rfl⟩
theorem Form_any (k : Nat) (hk : k < 6) (w : World) : Calls Tryz.prog 24 #[.int .i64 k] w fun e w' => e = .returned (formV k) ∧ w = w' := by
  match k, hk with
  | 0, _ => exact Form_0 w
  | 1, _ => exact Form_1 w
  | 2, _ => exact Form_2 w
  | 3, _ => exact Form_3 w
  | 4, _ => exact Form_4 w
  | 5, _ => exact Form_5 w
set_option maxHeartbeats 2000000 in
theorem Direction_0 (w : World) : Calls Tryz.prog 68 #[.int .i64 0] w fun e w' => e = .returned (.string ⟨(Dr.dirs.getD 0 []).toArray⟩) ∧ Below w.heap.size w w' := by
  go_enter Tryz.func68, Tryz.ntmps68
  go_wp2_with fail
  go_ret
  exact ⟨rfl, (Below.refl _ _).alloc (Nat.le_refl _) _⟩
set_option maxHeartbeats 2000000 in
theorem Direction_1 (w : World) : Calls Tryz.prog 68 #[.int .i64 1] w fun e w' => e = .returned (.string ⟨(Dr.dirs.getD 1 []).toArray⟩) ∧ Below w.heap.size w w' := by
  go_enter Tryz.func68, Tryz.ntmps68
  go_wp2_with fail
  go_ret
  exact ⟨rfl, (Below.refl _ _).alloc (Nat.le_refl _) _⟩
set_option maxHeartbeats 2000000 in
theorem Direction_2 (w : World) : Calls Tryz.prog 68 #[.int .i64 2] w fun e w' => e = .returned (.string ⟨(Dr.dirs.getD 2 []).toArray⟩) ∧ Below w.heap.size w w' := by
  go_enter Tryz.func68, Tryz.ntmps68
  go_wp2_with fail
  go_ret
  exact ⟨rfl, (Below.refl _ _).alloc (Nat.le_refl _) _⟩
set_option maxHeartbeats 2000000 in
theorem Direction_3 (w : World) : Calls Tryz.prog 68 #[.int .i64 3] w fun e w' => e = .returned (.string ⟨(Dr.dirs.getD 3 []).toArray⟩) ∧ Below w.heap.size w w' := by
  go_enter Tryz.func68, Tryz.ntmps68
  go_wp2_with fail
  go_ret
  exact ⟨rfl, (Below.refl _ _).alloc (Nat.le_refl _) _⟩
set_option maxHeartbeats 2000000 in
theorem Direction_4 (w : World) : Calls Tryz.prog 68 #[.int .i64 4] w fun e w' => e = .returned (.string ⟨(Dr.dirs.getD 4 []).toArray⟩) ∧ Below w.heap.size w w' := by
  go_enter Tryz.func68, Tryz.ntmps68
  go_wp2_with fail
  go_ret
  exact ⟨rfl, (Below.refl _ _).alloc (Nat.le_refl _) _⟩
set_option maxHeartbeats 2000000 in
theorem Direction_5 (w : World) : Calls Tryz.prog 68 #[.int .i64 5] w fun e w' => e = .returned (.string ⟨(Dr.dirs.getD 5 []).toArray⟩) ∧ Below w.heap.size w w' := by
  go_enter Tryz.func68, Tryz.ntmps68
  go_wp2_with fail
  go_ret
  exact ⟨rfl, (Below.refl _ _).alloc (Nat.le_refl _) _⟩
theorem Direction_any (k : Nat) (hk : k < 6) (w : World) : Calls Tryz.prog 68 #[.int .i64 k] w fun e w' => e = .returned (.string ⟨(Dr.dirs.getD k []).toArray⟩) ∧ Below w.heap.size w w' := by
  match k, hk with
  | 0, _ => exact Direction_0 w
  | 1, _ => exact Direction_1 w
  | 2, _ => exact Direction_2 w
  | 3, _ => exact Direction_3 w
  | 4, _ => exact Direction_4 w
  | 5, _ => exact Direction_5 w
theorem dirs_step (t : List UInt8) (k : Nat) (h : k < 6) : (Dr.dirs.drop k).findIdx? (· == t) = if (Dr.dirs.getD k [] == t) = true then some 0 else ((Dr.dirs.drop (k + 1)).findIdx? (· == t)).map (· + 1) := by
  have hk : k < Dr.dirs.length := h
  rw [List.drop_eq_getElem_cons hk, List.findIdx?_cons]
  rw [show Dr.dirs.getD k [] = Dr.dirs[k] by simp [List.getD_eq_getElem?_getD, hk]]
def dirK (t : List UInt8) (k : Nat) : Int := match (Dr.dirs.drop k).findIdx? (· == t) with | some j => ((k + j : Nat) : Int) | none => -1
theorem dirK_0 (t : List UInt8) : dirK t 0 = match Dr.dirOf t with | some j => (j : Int) | none => -1 := by
  unfold dirK Dr.dirOf
  rw [List.drop_zero]
  cases Dr.dirs.findIdx? (· == t) with
  | none => rfl
  | some j => simp
theorem dirK_yes {t : List UInt8} {k : Nat} (h : k < 6) (he : (Dr.dirs.getD k [] == t) = true) : dirK t k = (k : Int) := by
  unfold dirK; rw [dirs_step t k h, if_pos he]; rfl
theorem dirK_no {t : List UInt8} {k : Nat} (h : k < 6) (he : (Dr.dirs.getD k [] == t) = false) : dirK t k = dirK t (k + 1) := by
  unfold dirK; rw [dirs_step t k h, if_neg (by rw [he]; simp)]
  cases (Dr.dirs.drop (k + 1)).findIdx? (· == t) with
  | none => rfl
  | some j => show ((k + (j + 1) : Nat) : Int) = ((k + 1 + j : Nat) : Int); omega
theorem dirK_end (t : List UInt8) : dirK t 6 = -1 := rfl
set_option maxHeartbeats 4000000 in
theorem direction_any (t : List UInt8) (w : World) : Calls Tryz.prog 54 #[.string ⟨t.toArray⟩] w fun e w' => e = .returned (.int .i64 (dirK t 0)) ∧ Below w.heap.size w w' := by
  obtain ⟨G, hG⟩ : ∃ G, G = dirK t 0 := ⟨_, rfl⟩
  rw [← hG]
  have HG := Lib.hid hG
  clear hG
  go_enter Tryz.func54, Tryz.ntmps54
  go_wp2_with fail
  go_loopw [3] (fun iv wr => ∃ k : Nat, k ≤ 6 ∧ iv = .int .i64 k ∧ Hid (G = dirK t k) ∧ Hid (Below w.heap.size w wr)) (fun iv _ => 6 - (intOf iv).toNat)
  case atStart => exact ⟨0, by omega, rfl, HG, Lib.hid (Below.refl _ _)⟩
  case round =>
    obtain ⟨k, hk, rfl, HR, HB⟩ := hrel
    by_cases hkn : k < 6
    · have kI : (k : Int) < 6 := by omega
      obtain ⟨D, hD⟩ : ∃ D, D = Dr.dirs.getD k [] := ⟨_, rfl⟩
      have HC := Lib.hid (Direction_any k hkn wr)
      rw [← hD] at HC
      by_cases he : D = t
      · have HS : Hid (G = (k : Int)) := Lib.hid (HR.out.trans (dirK_yes hkn (by rw [← hD, he]; simp)))
        clear hD
        subst he
        go_wp2_with fail
        go_at_call 68; refine HC.out.mono ?_; rintro e w2 ⟨rfl, b2⟩
        have HB2 := Lib.hid (HB.out.trans (b2.mono HB.out.size))
        clear b2
        go_wp2_with fail
        go_ret
        exact ⟨by rw [HS.out]; rfl, HB2.out⟩
      · have HS : Hid (G = dirK t (k + 1)) := Lib.hid (HR.out.trans (dirK_no hkn (by rw [← hD]; simpa using he)))
        have hne : (D == t) = false := by simpa using he
        clear hD
        go_wp2_with fail
        go_at_call 68; refine HC.out.mono ?_; rintro e w2 ⟨rfl, b2⟩
        have HB2 := Lib.hid (HB.out.trans (b2.mono HB.out.size))
        clear b2
        go_wp2_with fail
        go_roundw
        case rel => exact ⟨k + 1, by omega, by go_num, HS, HB2⟩
        case measure => simp [intOf]; omega
    · obtain rfl : k = 6 := by omega
      have HS : Hid (G = -1) := Lib.hid (HR.out.trans (dirK_end t))
      go_wp2_with fail
      go_ret
      exact ⟨by rw [HS.out]; rfl, HB.out⟩
end Go.Proofs.YtnccndfffmaonaaGreatDoor
