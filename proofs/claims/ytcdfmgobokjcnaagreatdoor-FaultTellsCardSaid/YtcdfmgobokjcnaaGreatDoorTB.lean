/- Parts RfD, RfE of this claim, laid one behind the other: walks and the plain laws behind them; each contract states its own conditions. -/
import Derived.Test.YtcdfmgobokjcnaaGreatDoorYB
/- Walks of taquinref29: within, Right, Allows, Left, Within. -/
namespace Go.Proofs.YtcdfmgobokjcnaaGreatDoor
set_option linter.unusedSimpArgs false
set_option linter.unusedVariables false
open Go.RowKit

theorem rwithin_any (n m : Int) (w : World) : Calls Tryz.prog 37 #[.int .i64 n, .int .i64 m] w fun e w' => e = .returned (.bool (Fa.within n 0 m)) ∧ w = w' := by
  by_cases h0 : 0 ≤ n
  · by_cases h1 : n ≤ m
    · have HR : Hid (Fa.within n 0 m = true) := Lib.hid (by unfold Fa.within; rw [decide_eq_true h0, decide_eq_true h1]; rfl)
      rw [HR.out]
      go_enter Tryz.func37, Tryz.ntmps37
      go_wp2_with fail
      go_ret
      exact ⟨rfl, rfl⟩
    · have HR : Hid (Fa.within n 0 m = false) := Lib.hid (by unfold Fa.within; rw [decide_eq_false h1]; simp)
      rw [HR.out]
      go_enter Tryz.func37, Tryz.ntmps37
      go_wp2_with fail
      go_ret
      exact ⟨rfl, rfl⟩
  · have HR : Hid (Fa.within n 0 m = false) := Lib.hid (by unfold Fa.within; rw [decide_eq_false h0]; rfl)
    rw [HR.out]
    go_enter Tryz.func37, Tryz.ntmps37
    go_wp2_with fail
    go_ret
    exact ⟨rfl, rfl⟩
set_option maxRecDepth 100000 in
set_option maxHeartbeats 8000000 in
theorem rRight29_any (b : Fa.Bud) (w : World) : Calls Tryz.prog 8 #[.agg (budA b)] w fun e w' => e = .returned (.bool (Fa.rightB b)) ∧ Below w.heap.size w w' := by
  have HW := Lib.hid (fun n m W => rwithin_any n m W)
  unfold Fa.rightB
  unfold budA
  obtain ⟨W0, hW0⟩ : ∃ z, Fa.within b.stops 0 20 = z := ⟨_, rfl⟩
  have H0 := Lib.hid (fun W => HW.out b.stops 20 W)
  rw [hW0] at H0 ⊢
  obtain ⟨W1, hW1⟩ : ∃ z, Fa.within b.cells 0 20 = z := ⟨_, rfl⟩
  have H1 := Lib.hid (fun W => HW.out b.cells 20 W)
  rw [hW1] at H1 ⊢
  obtain ⟨W2, hW2⟩ : ∃ z, Fa.within b.mutes 0 20 = z := ⟨_, rfl⟩
  have H2 := Lib.hid (fun W => HW.out b.mutes 20 W)
  rw [hW2] at H2 ⊢
  obtain ⟨W3, hW3⟩ : ∃ z, Fa.within b.lifts 0 20 = z := ⟨_, rfl⟩
  have H3 := Lib.hid (fun W => HW.out b.lifts 20 W)
  rw [hW3] at H3 ⊢
  obtain ⟨W4, hW4⟩ : ∃ z, Fa.within b.steps 0 20 = z := ⟨_, rfl⟩
  have H4 := Lib.hid (fun W => HW.out b.steps 20 W)
  rw [hW4] at H4 ⊢
  obtain ⟨W5, hW5⟩ : ∃ z, Fa.within b.muteMost 0 100 = z := ⟨_, rfl⟩
  have H5 := Lib.hid (fun W => HW.out b.muteMost 100 W)
  rw [hW5] at H5 ⊢
  obtain ⟨W6, hW6⟩ : ∃ z, Fa.within b.liftMost 0 100 = z := ⟨_, rfl⟩
  have H6 := Lib.hid (fun W => HW.out b.liftMost 100 W)
  rw [hW6] at H6 ⊢
  have B1 := Lib.hid ((Below.refl _ w).alloc (Nat.le_refl _) (.cells #[.int .i64 b.stops, .int .i64 b.cells, .int .i64 b.mutes, .int .i64 b.muteMost, .int .i64 b.lifts, .int .i64 b.liftMost, .int .i64 b.steps] 36))
  clear HW hW0 hW1 hW2 hW3 hW4 hW5 hW6
  go_enter Tryz.func8, Tryz.ntmps8
  go_wp2_with fail
  go_at_call 37; with_reducible refine (H0.out _).mono ?_; rintro e w0 ⟨rfl, rfl⟩
  cases W0 with
  | false =>
    go_wp2_with fail
    go_ret
    exact ⟨rfl, B1.out⟩
  | true =>
    go_wp2_with fail
    go_at_call 37; with_reducible refine (H1.out _).mono ?_; rintro e w1 ⟨rfl, rfl⟩
    cases W1 with
    | false =>
      go_wp2_with fail
      go_ret
      exact ⟨rfl, B1.out⟩
    | true =>
      go_wp2_with fail
      go_at_call 37; with_reducible refine (H2.out _).mono ?_; rintro e w2 ⟨rfl, rfl⟩
      cases W2 with
      | false =>
        go_wp2_with fail
        go_ret
        exact ⟨rfl, B1.out⟩
      | true =>
        go_wp2_with fail
        go_at_call 37; with_reducible refine (H3.out _).mono ?_; rintro e w3 ⟨rfl, rfl⟩
        cases W3 with
        | false =>
          go_wp2_with fail
          go_ret
          exact ⟨rfl, B1.out⟩
        | true =>
          go_wp2_with fail
          go_at_call 37; with_reducible refine (H4.out _).mono ?_; rintro e w4 ⟨rfl, rfl⟩
          cases W4 with
          | false =>
            go_wp2_with fail
            go_ret
            exact ⟨rfl, B1.out⟩
          | true =>
            go_wp2_with fail
            go_at_call 37; with_reducible refine (H5.out _).mono ?_; rintro e w5 ⟨rfl, rfl⟩
            cases W5 with
            | false =>
              go_wp2_with fail
              go_ret
              exact ⟨rfl, B1.out⟩
            | true =>
              go_wp2_with fail
              go_at_call 37; with_reducible refine (H6.out _).mono ?_; rintro e w6 ⟨rfl, rfl⟩
              cases W6 with
              | false =>
                go_wp2_with fail
                go_ret
                exact ⟨rfl, B1.out⟩
              | true =>
                go_wp2_with fail
                go_ret
                exact ⟨rfl, B1.out⟩
theorem allows_iff (b : Fa.Bud) (x : Fa.Flt) : Fa.allowsB b x = true ↔ x.kind = 0 ∨ (Fa.okF b x ∧ 1 ≤ Fa.num b x.kind) := by
  unfold Fa.allowsB Fa.spend
  by_cases h : x.kind = 0
  · rw [if_pos h]; simp [h]
  · rw [if_neg h]
    by_cases h2 : Fa.okF b x ∧ 1 ≤ Fa.num b x.kind
    · rw [if_pos h2]; simp [h2]
    · rw [if_neg h2]; simp only [Option.isSome_none]
      constructor
      · intro h3; cases h3
      · rintro (h3 | h3)
        · exact absurd h3 h
        · exact absurd h3 h2
theorem allows_no {b : Fa.Bud} {x : Fa.Flt} (h : ¬ (x.kind = 0 ∨ (Fa.okF b x ∧ 1 ≤ Fa.num b x.kind))) : Fa.allowsB b x = false := by
  cases h2 : Fa.allowsB b x with
  | true => exact absurd ((allows_iff b x).1 h2) h
  | false => rfl
set_option maxRecDepth 100000 in
set_option maxHeartbeats 8000000 in
theorem rAllows29_any (b : Fa.Bud) (x : Fa.Flt) (w : World) : Calls Tryz.prog 18 #[.agg (budA b), fltV x] w fun e w' => e = .returned (.bool (Fa.allowsB b x)) ∧ Below w.heap.size w w' := by
  obtain ⟨xk, xa, xn⟩ := x
  obtain ⟨R, hR⟩ : ∃ R, Fa.allowsB b ⟨xk, xa, xn⟩ = R := ⟨_, rfl⟩
  have HYES := Lib.hid (fun h => ((allows_iff b ⟨xk, xa, xn⟩).2 h).symm.trans hR)
  have HNO := Lib.hid (fun h => (allows_no (b := b) (x := ⟨xk, xa, xn⟩) h).symm.trans hR)
  rw [hR]
  clear hR
  unfold Fa.okF at HYES HNO
  unfold fltV budA
  dsimp only at HYES HNO ⊢
  have A := al2 w (.cells #[.int .i64 b.stops, .int .i64 b.cells, .int .i64 b.mutes, .int .i64 b.muteMost, .int .i64 b.lifts, .int .i64 b.liftMost, .int .i64 b.steps] 36) (.cells #[.int .i64 xk, .int .i64 xa, .int .i64 xn] 38)
  have B1 := Lib.hid A.2.2.1
  clear A
  by_cases k0 : xk = 0
  · subst k0
    have hr := HYES.out (.inl rfl)
    subst hr
    clear HYES HNO
    go_enter Tryz.func18, Tryz.ntmps18
    go_wp2_with fail
    go_ret
    exact ⟨rfl, B1.out⟩
  by_cases k1 : xk = 1
  · subst k1
    by_cases h : 0 < b.stops
    ·
      have hr := HYES.out (.inr ⟨⟨by omega, by omega, fun h => by omega, fun h => by omega⟩, by show 1 ≤ b.stops; omega⟩)
      subst hr
      clear HYES HNO
      go_enter Tryz.func18, Tryz.ntmps18
      go_wp2_with fail
      go_ret
      exact ⟨rfl, B1.out⟩
    ·
      have hr := HNO.out (fun hc => by
        rcases hc with h1 | ⟨-, h1⟩
        · omega
        · have h2 : 1 ≤ b.stops := h1
          omega)
      subst hr
      clear HYES HNO
      go_enter Tryz.func18, Tryz.ntmps18
      go_wp2_with fail
      go_ret
      exact ⟨rfl, B1.out⟩
  by_cases k2 : xk = 2
  · subst k2
    by_cases h : 0 < b.cells
    ·
      have hr := HYES.out (.inr ⟨⟨by omega, by omega, fun h => by omega, fun h => by omega⟩, by show 1 ≤ b.cells; omega⟩)
      subst hr
      clear HYES HNO
      go_enter Tryz.func18, Tryz.ntmps18
      go_wp2_with fail
      go_ret
      exact ⟨rfl, B1.out⟩
    ·
      have hr := HNO.out (fun hc => by
        rcases hc with h1 | ⟨-, h1⟩
        · omega
        · have h2 : 1 ≤ b.cells := h1
          omega)
      subst hr
      clear HYES HNO
      go_enter Tryz.func18, Tryz.ntmps18
      go_wp2_with fail
      go_ret
      exact ⟨rfl, B1.out⟩
  by_cases k5 : xk = 5
  · subst k5
    by_cases h : 0 < b.steps
    ·
      have hr := HYES.out (.inr ⟨⟨by omega, by omega, fun h => by omega, fun h => by omega⟩, by show 1 ≤ b.steps; omega⟩)
      subst hr
      clear HYES HNO
      go_enter Tryz.func18, Tryz.ntmps18
      go_wp2_with fail
      go_ret
      exact ⟨rfl, B1.out⟩
    ·
      have hr := HNO.out (fun hc => by
        rcases hc with h1 | ⟨-, h1⟩
        · omega
        · have h2 : 1 ≤ b.steps := h1
          omega)
      subst hr
      clear HYES HNO
      go_enter Tryz.func18, Tryz.ntmps18
      go_wp2_with fail
      go_ret
      exact ⟨rfl, B1.out⟩
  by_cases k3 : xk = 3
  · subst k3
    by_cases h : 0 < b.mutes
    · by_cases h1 : 1 ≤ xn
      · by_cases h2 : xn ≤ b.muteMost
        ·
          have hr := HYES.out (.inr ⟨⟨by omega, by omega, fun h => by omega, fun h => by omega⟩, by show 1 ≤ b.mutes; omega⟩)
          subst hr
          clear HYES HNO
          go_enter Tryz.func18, Tryz.ntmps18
          go_wp2_with fail
          go_ret
          exact ⟨rfl, B1.out⟩
        ·
          have hr := HNO.out (fun hc => by
            rcases hc with g1 | ⟨⟨-, -, g3, g4⟩, -⟩
            · omega
            · have g5 := g3 rfl
              omega)
          subst hr
          clear HYES HNO
          go_enter Tryz.func18, Tryz.ntmps18
          go_wp2_with fail
          go_ret
          exact ⟨rfl, B1.out⟩
      ·
        have hr := HNO.out (fun hc => by
          rcases hc with g1 | ⟨⟨-, -, g3, g4⟩, -⟩
          · omega
          · have g5 := g3 rfl
            omega)
        subst hr
        clear HYES HNO
        go_enter Tryz.func18, Tryz.ntmps18
        go_wp2_with fail
        go_ret
        exact ⟨rfl, B1.out⟩
    ·
      have hr := HNO.out (fun hc => by
        rcases hc with h1 | ⟨-, h1⟩
        · omega
        · have h2 : 1 ≤ b.mutes := h1
          omega)
      subst hr
      clear HYES HNO
      go_enter Tryz.func18, Tryz.ntmps18
      go_wp2_with fail
      go_ret
      exact ⟨rfl, B1.out⟩
  by_cases k4 : xk = 4
  · subst k4
    by_cases h : 0 < b.lifts
    · by_cases h1 : 1 ≤ xn
      · by_cases h2 : xn ≤ b.liftMost
        ·
          have hr := HYES.out (.inr ⟨⟨by omega, by omega, fun h => by omega, fun h => by omega⟩, by show 1 ≤ b.lifts; omega⟩)
          subst hr
          clear HYES HNO
          go_enter Tryz.func18, Tryz.ntmps18
          go_wp2_with fail
          go_ret
          exact ⟨rfl, B1.out⟩
        ·
          have hr := HNO.out (fun hc => by
            rcases hc with g1 | ⟨⟨-, -, g3, g4⟩, -⟩
            · omega
            · have g5 := g4 rfl
              omega)
          subst hr
          clear HYES HNO
          go_enter Tryz.func18, Tryz.ntmps18
          go_wp2_with fail
          go_ret
          exact ⟨rfl, B1.out⟩
      ·
        have hr := HNO.out (fun hc => by
          rcases hc with g1 | ⟨⟨-, -, g3, g4⟩, -⟩
          · omega
          · have g5 := g4 rfl
            omega)
        subst hr
        clear HYES HNO
        go_enter Tryz.func18, Tryz.ntmps18
        go_wp2_with fail
        go_ret
        exact ⟨rfl, B1.out⟩
    ·
      have hr := HNO.out (fun hc => by
        rcases hc with h1 | ⟨-, h1⟩
        · omega
        · have h2 : 1 ≤ b.lifts := h1
          omega)
      subst hr
      clear HYES HNO
      go_enter Tryz.func18, Tryz.ntmps18
      go_wp2_with fail
      go_ret
      exact ⟨rfl, B1.out⟩
  have e0 : (xk == 0) = false := beq_eq_false_iff_ne.2 k0
  have e1 : (xk == 1) = false := beq_eq_false_iff_ne.2 k1
  have e2 : (xk == 2) = false := beq_eq_false_iff_ne.2 k2
  have e3 : (xk == 3) = false := beq_eq_false_iff_ne.2 k3
  have e4 : (xk == 4) = false := beq_eq_false_iff_ne.2 k4
  have e5 : (xk == 5) = false := beq_eq_false_iff_ne.2 k5
  have hr := HNO.out (fun hc => by
    rcases hc with h1 | ⟨⟨h1, h2, -⟩, -⟩
    · exact k0 h1
    · omega)
  subst hr
  clear HYES HNO k0 k1 k2 k3 k4 k5
  go_enter Tryz.func18, Tryz.ntmps18
  go_wp2_with fail
  go_ret
  exact ⟨rfl, B1.out⟩
set_option maxRecDepth 100000 in
set_option maxHeartbeats 8000000 in
theorem rLeft29_any (b : Fa.Bud) (w : World) (hb : BudS b) : Calls Tryz.prog 20 #[.agg (budA b)] w fun e w' => e = .returned (.int .i64 (Fa.left b)) ∧ Below w.heap.size w w' := by
  have B1 := Lib.hid ((Below.refl _ w).alloc (Nat.le_refl _) (.cells (budA b) 36))
  have HL : Hid (Fa.left b = b.stops + b.cells + b.mutes + b.lifts + b.steps) := Lib.hid rfl
  obtain ⟨⟨a1, a2⟩, ⟨a3, a4⟩, ⟨a5, a6⟩, ⟨a7, a8⟩, a9, a10⟩ := hb
  unfold budA at B1 ⊢
  go_enter Tryz.func20, Tryz.ntmps20
  go_wp2_with fail
  go_ret
  exact ⟨by rw [HL.out]; rfl, B1.out⟩
end Go.Proofs.YtcdfmgobokjcnaaGreatDoor
/- Walks of taquinref29: Within, Spend. -/
namespace Go.Proofs.YtcdfmgobokjcnaaGreatDoor
set_option linter.unusedSimpArgs false
set_option linter.unusedVariables false
open Go.RowKit

set_option maxRecDepth 100000 in
set_option maxHeartbeats 8000000 in
theorem rWithin29_any (a b : Fa.Bud) (w : World) : Calls Tryz.prog 22 #[.agg (budA a), .agg (budA b)] w fun e w' => e = .returned (.bool (withinB a b)) ∧ Below w.heap.size w w' := by
  obtain ⟨R, hR⟩ : ∃ R, withinB a b = R := ⟨_, rfl⟩
  have HR := Lib.hid hR
  unfold withinB at HR
  rw [hR]
  have A := al2 w (.cells (budA a) 36) (.cells (budA b) 36)
  have B1 := Lib.hid A.2.2.1
  clear A hR
  unfold budA at B1 ⊢
  by_cases h0 : a.stops ≤ b.stops
  ·
    by_cases h1 : a.cells ≤ b.cells
    ·
      by_cases h2 : a.mutes ≤ b.mutes
      ·
        by_cases h3 : a.lifts ≤ b.lifts
        ·
          by_cases h4 : a.steps ≤ b.steps
          ·
            by_cases h5 : a.muteMost ≤ b.muteMost
            ·
              by_cases h6 : a.liftMost ≤ b.liftMost
              ·
                have hr : R = true := by rw [← HR.out, decide_eq_true h0, decide_eq_true h1, decide_eq_true h2, decide_eq_true h3, decide_eq_true h4, decide_eq_true h5, decide_eq_true h6]; rfl
                subst hr
                clear HR
                go_enter Tryz.func22, Tryz.ntmps22
                go_wp2_with fail
                go_ret
                exact ⟨rfl, B1.out⟩
              ·
                have hr : R = false := by rw [← HR.out, decide_eq_true h0, decide_eq_true h1, decide_eq_true h2, decide_eq_true h3, decide_eq_true h4, decide_eq_true h5, decide_eq_false h6]; simp
                subst hr
                clear HR
                go_enter Tryz.func22, Tryz.ntmps22
                go_wp2_with fail
                go_ret
                exact ⟨rfl, B1.out⟩
            ·
              have hr : R = false := by rw [← HR.out, decide_eq_true h0, decide_eq_true h1, decide_eq_true h2, decide_eq_true h3, decide_eq_true h4, decide_eq_false h5]; simp
              subst hr
              clear HR
              go_enter Tryz.func22, Tryz.ntmps22
              go_wp2_with fail
              go_ret
              exact ⟨rfl, B1.out⟩
          ·
            have hr : R = false := by rw [← HR.out, decide_eq_true h0, decide_eq_true h1, decide_eq_true h2, decide_eq_true h3, decide_eq_false h4]; simp
            subst hr
            clear HR
            go_enter Tryz.func22, Tryz.ntmps22
            go_wp2_with fail
            go_ret
            exact ⟨rfl, B1.out⟩
        ·
          have hr : R = false := by rw [← HR.out, decide_eq_true h0, decide_eq_true h1, decide_eq_true h2, decide_eq_false h3]; simp
          subst hr
          clear HR
          go_enter Tryz.func22, Tryz.ntmps22
          go_wp2_with fail
          go_ret
          exact ⟨rfl, B1.out⟩
      ·
        have hr : R = false := by rw [← HR.out, decide_eq_true h0, decide_eq_true h1, decide_eq_false h2]; simp
        subst hr
        clear HR
        go_enter Tryz.func22, Tryz.ntmps22
        go_wp2_with fail
        go_ret
        exact ⟨rfl, B1.out⟩
    ·
      have hr : R = false := by rw [← HR.out, decide_eq_true h0, decide_eq_false h1]; simp
      subst hr
      clear HR
      go_enter Tryz.func22, Tryz.ntmps22
      go_wp2_with fail
      go_ret
      exact ⟨rfl, B1.out⟩
  ·
    have hr : R = false := by rw [← HR.out, decide_eq_false h0]; simp
    subst hr
    clear HR
    go_enter Tryz.func22, Tryz.ntmps22
    go_wp2_with fail
    go_ret
    exact ⟨rfl, B1.out⟩
theorem spend_yes {b : Fa.Bud} {x : Fa.Flt} (h : Fa.allowsB b x = true) : Fa.spend b x = some (if x.kind = 0 then b else Fa.dec b x.kind) ∧ (x.kind ≠ 0 → (1 ≤ x.kind ∧ x.kind ≤ 5) ∧ 1 ≤ Fa.num b x.kind) := by
  rw [allows_iff] at h
  unfold Fa.spend
  by_cases h0 : x.kind = 0
  · rw [if_pos h0, if_pos h0]; exact ⟨rfl, fun h => absurd h0 h⟩
  · rw [if_neg h0, if_neg h0]
    rcases h with h | h
    · exact absurd h h0
    · rw [if_pos h]
      have h1 := h.1.1
      have h2 := h.1.2.1
      exact ⟨rfl, fun _ => ⟨⟨by omega, by omega⟩, h.2⟩⟩
theorem spend_no {b : Fa.Bud} {x : Fa.Flt} (h : Fa.allowsB b x = false) : Fa.spend b x = none := by
  unfold Fa.allowsB at h
  cases hs : Fa.spend b x with
  | none => rfl
  | some c => rw [hs] at h; cases h
set_option maxRecDepth 100000 in
set_option maxHeartbeats 16000000 in
theorem rSpend29_any (b : Fa.Bud) (x : Fa.Flt) (w : World) (hb : BudN b) : Calls Tryz.prog 12 #[.agg (budA b), fltV x] w fun e w' => e = .returned (spendV b (Fa.spend b x)) ∧ Below w.heap.size w w' := by
  obtain ⟨xk, xa, xn⟩ := x
  have HAL := Lib.hid (fun W => rAllows29_any b ⟨xk, xa, xn⟩ W)
  have HY := Lib.hid (spend_yes (b := b) (x := ⟨xk, xa, xn⟩))
  have HN := Lib.hid (spend_no (b := b) (x := ⟨xk, xa, xn⟩))
  obtain ⟨R, hR⟩ : ∃ R, Fa.allowsB b ⟨xk, xa, xn⟩ = R := ⟨_, rfl⟩
  rw [hR] at HAL HY HN
  obtain ⟨SV, hSV⟩ : ∃ v, Fa.spend b ⟨xk, xa, xn⟩ = v := ⟨_, rfl⟩
  rw [hSV] at HY HN ⊢
  obtain ⟨⟨n1, n2⟩, ⟨n3, n4⟩, ⟨n5, n6⟩, ⟨n7, n8⟩, ⟨n9, n10⟩, ⟨n11, n12⟩, n13, n14⟩ := hb
  unfold fltV budA at HAL ⊢
  dsimp only at HAL HY ⊢
  obtain ⟨w1, hw1⟩ : ∃ W, W = ((w.alloc (.cells #[.int .i64 b.stops, .int .i64 b.cells, .int .i64 b.mutes, .int .i64 b.muteMost, .int .i64 b.lifts, .int .i64 b.liftMost, .int .i64 b.steps] 36)).alloc (.cells #[.int .i64 xk, .int .i64 xa, .int .i64 xn] 38)).alloc (.cells #[.int .i64 0, .int .i64 0, .int .i64 0, .int .i64 0, .int .i64 0, .int .i64 0, .int .i64 0] 36) := ⟨_, rfl⟩
  have HA3 := al3 w (.cells #[.int .i64 b.stops, .int .i64 b.cells, .int .i64 b.mutes, .int .i64 b.muteMost, .int .i64 b.lifts, .int .i64 b.liftMost, .int .i64 b.steps] 36) (.cells #[.int .i64 xk, .int .i64 xa, .int .i64 xn] 38) (.cells #[.int .i64 0, .int .i64 0, .int .i64 0, .int .i64 0, .int .i64 0, .int .i64 0, .int .i64 0] 36)
  rw [← hw1] at HA3
  have I1 := Lib.hid HA3.1
  have I2 := Lib.hid HA3.2.1
  have I3 := Lib.hid HA3.2.2.1
  have B1 := Lib.hid HA3.2.2.2.1
  have HW1 := Lib.hid hw1
  have hs1 := heap_lt I3.out
  clear HA3 hw1 hR hSV
  go_enter Tryz.func12, Tryz.ntmps12
  go_upto_region 1 with fail
  rw [← HW1.out]
  have p0 : w1.cell? ⟨w.heap.size, 0, none⟩ = some (.int .i64 b.stops) := cell_of_heap I1.out 0 rfl
  have p1 : w1.cell? ⟨w.heap.size, 1, none⟩ = some (.int .i64 b.cells) := cell_of_heap I1.out 1 rfl
  have p2 : w1.cell? ⟨w.heap.size, 2, none⟩ = some (.int .i64 b.mutes) := cell_of_heap I1.out 2 rfl
  have p3 : w1.cell? ⟨w.heap.size, 3, none⟩ = some (.int .i64 b.muteMost) := cell_of_heap I1.out 3 rfl
  have p4 : w1.cell? ⟨w.heap.size, 4, none⟩ = some (.int .i64 b.lifts) := cell_of_heap I1.out 4 rfl
  have p5 : w1.cell? ⟨w.heap.size, 5, none⟩ = some (.int .i64 b.liftMost) := cell_of_heap I1.out 5 rfl
  have p6 : w1.cell? ⟨w.heap.size, 6, none⟩ = some (.int .i64 b.steps) := cell_of_heap I1.out 6 rfl
  have f0 : w1.cell? ⟨w.heap.size + 1, 0, none⟩ = some (.int .i64 xk) := cell_of_heap I2.out 0 rfl
  have f1 : w1.cell? ⟨w.heap.size + 1, 1, none⟩ = some (.int .i64 xa) := cell_of_heap I2.out 1 rfl
  have f2 : w1.cell? ⟨w.heap.size + 1, 2, none⟩ = some (.int .i64 xn) := cell_of_heap I2.out 2 rfl
  go_wp2_with fail
  go_at_call 18; with_reducible refine (HAL.out w1).mono ?_; rintro e w2 ⟨rfl, b2⟩
  have B2 := Lib.hid (B1.out.trans (b2.mono B1.out.size))
  have J1 := Lib.hid (keep_heap I1.out b2)
  have J2 := Lib.hid (keep_heap I2.out b2)
  have J3 := Lib.hid (keep_heap I3.out b2)
  have hs2 := heap_lt J3.out
  clear b2 HAL
  clear p0 p1 p2 p3 p4 p5 p6 f0 f1 f2
  cases R with
  | false =>
    obtain rfl := HN.out rfl
    have p0 : w2.cell? ⟨w.heap.size, 0, none⟩ = some (.int .i64 b.stops) := cell_of_heap J1.out 0 rfl
    have p1 : w2.cell? ⟨w.heap.size, 1, none⟩ = some (.int .i64 b.cells) := cell_of_heap J1.out 1 rfl
    have p2 : w2.cell? ⟨w.heap.size, 2, none⟩ = some (.int .i64 b.mutes) := cell_of_heap J1.out 2 rfl
    have p3 : w2.cell? ⟨w.heap.size, 3, none⟩ = some (.int .i64 b.muteMost) := cell_of_heap J1.out 3 rfl
    have p4 : w2.cell? ⟨w.heap.size, 4, none⟩ = some (.int .i64 b.lifts) := cell_of_heap J1.out 4 rfl
    have p5 : w2.cell? ⟨w.heap.size, 5, none⟩ = some (.int .i64 b.liftMost) := cell_of_heap J1.out 5 rfl
    have p6 : w2.cell? ⟨w.heap.size, 6, none⟩ = some (.int .i64 b.steps) := cell_of_heap J1.out 6 rfl
    have RR : Hid (w2.heap[w.heap.size + 1 + 1]? = some (.cells #[.int .i64 0, .int .i64 0, .int .i64 0, .int .i64 0, .int .i64 0, .int .i64 0, .int .i64 0] 36 (0, 0))) := Lib.hid J3.out
    go_wp2_with (refine wpList_store_row rfl 36 (.tmp 4) (.tmp 10) rfl (w.heap.size + 1 + 1) #[.int .i64 b.stops, .int .i64 b.cells, .int .i64 b.mutes, .int .i64 b.muteMost, .int .i64 b.lifts, .int .i64 b.liftMost, .int .i64 b.steps] rfl rfl 36 _ RR.out (by kernel_rfl) rfl (by kernel_rfl) ?_)
    refine bodyPost_ret (v := .tuple #[.agg #[.int .i64 b.stops, .int .i64 b.cells, .int .i64 b.mutes, .int .i64 b.muteMost, .int .i64 b.lifts, .int .i64 b.liftMost, .int .i64 b.steps], .int .i64 26]) (results_rowtmp2 (p := 4) (ty := 36) (u := 5) (by kernel_rfl) _ _ (w.heap.size + 1 + 1) 36 #[.int .i64 b.stops, .int .i64 b.cells, .int .i64 b.mutes, .int .i64 b.muteMost, .int .i64 b.lifts, .int .i64 b.liftMost, .int .i64 b.steps] (0, 0) _ rfl (setRow_heap _ _ _ _ _ _ RR.out) Tryz.underlying36 rfl (by kernel_rfl)) rfl ?_
    refine ⟨?_, (B2.out).trans ⟨rfl, rfl, rfl, by simp [World.setRow], fun k hk => setRow_other _ _ _ _ (by omega)⟩⟩
    rfl
  | true =>
    obtain ⟨h1, h2⟩ := HY.out rfl
    subst h1
    clear HY HN
    by_cases k0 : xk = 0
    · subst k0
      have f0 : w2.cell? ⟨w.heap.size + 1, 0, none⟩ = some (.int .i64 0) := cell_of_heap J2.out 0 rfl
      have f1 : w2.cell? ⟨w.heap.size + 1, 1, none⟩ = some (.int .i64 xa) := cell_of_heap J2.out 1 rfl
      have f2 : w2.cell? ⟨w.heap.size + 1, 2, none⟩ = some (.int .i64 xn) := cell_of_heap J2.out 2 rfl
      have p0 : w2.cell? ⟨w.heap.size, 0, none⟩ = some (.int .i64 b.stops) := cell_of_heap J1.out 0 rfl
      have p1 : w2.cell? ⟨w.heap.size, 1, none⟩ = some (.int .i64 b.cells) := cell_of_heap J1.out 1 rfl
      have p2 : w2.cell? ⟨w.heap.size, 2, none⟩ = some (.int .i64 b.mutes) := cell_of_heap J1.out 2 rfl
      have p3 : w2.cell? ⟨w.heap.size, 3, none⟩ = some (.int .i64 b.muteMost) := cell_of_heap J1.out 3 rfl
      have p4 : w2.cell? ⟨w.heap.size, 4, none⟩ = some (.int .i64 b.lifts) := cell_of_heap J1.out 4 rfl
      have p5 : w2.cell? ⟨w.heap.size, 5, none⟩ = some (.int .i64 b.liftMost) := cell_of_heap J1.out 5 rfl
      have p6 : w2.cell? ⟨w.heap.size, 6, none⟩ = some (.int .i64 b.steps) := cell_of_heap J1.out 6 rfl
      have RR : Hid (w2.heap[w.heap.size + 1 + 1]? = some (.cells #[.int .i64 0, .int .i64 0, .int .i64 0, .int .i64 0, .int .i64 0, .int .i64 0, .int .i64 0] 36 (0, 0))) := Lib.hid J3.out
      go_wp2_with (refine wpList_store_row rfl 36 (.tmp 4) (.tmp 43) rfl (w.heap.size + 1 + 1) #[.int .i64 b.stops, .int .i64 b.cells, .int .i64 b.mutes, .int .i64 b.muteMost, .int .i64 b.lifts, .int .i64 b.liftMost, .int .i64 b.steps] rfl rfl 36 _ RR.out (by kernel_rfl) rfl (by kernel_rfl) ?_)
      refine bodyPost_ret (v := .tuple #[.agg #[.int .i64 b.stops, .int .i64 b.cells, .int .i64 b.mutes, .int .i64 b.muteMost, .int .i64 b.lifts, .int .i64 b.liftMost, .int .i64 b.steps], .int .i64 0]) (results_rowtmp2 (p := 4) (ty := 36) (u := 5) (by kernel_rfl) _ _ (w.heap.size + 1 + 1) 36 #[.int .i64 b.stops, .int .i64 b.cells, .int .i64 b.mutes, .int .i64 b.muteMost, .int .i64 b.lifts, .int .i64 b.liftMost, .int .i64 b.steps] (0, 0) _ rfl (setRow_heap _ _ _ _ _ _ RR.out) Tryz.underlying36 rfl (by kernel_rfl)) rfl ?_
      refine ⟨?_, (B2.out).trans ⟨rfl, rfl, rfl, by simp [World.setRow], fun k hk => setRow_other _ _ _ _ (by omega)⟩⟩
      rfl
    have h3 := h2 k0
    clear h2
    rcases (by omega : xk = 1 ∨ xk = 2 ∨ xk = 3 ∨ xk = 4 ∨ xk = 5) with rfl | rfl | rfl | rfl | rfl
    · have hn : 1 ≤ b.stops := h3.2
      clear h3 k0
      have f0 : w2.cell? ⟨w.heap.size + 1, 0, none⟩ = some (.int .i64 1) := cell_of_heap J2.out 0 rfl
      have f1 : w2.cell? ⟨w.heap.size + 1, 1, none⟩ = some (.int .i64 xa) := cell_of_heap J2.out 1 rfl
      have f2 : w2.cell? ⟨w.heap.size + 1, 2, none⟩ = some (.int .i64 xn) := cell_of_heap J2.out 2 rfl
      obtain ⟨w3, hw3⟩ : ∃ W, W = w2.setCell ⟨w.heap.size, 0, none⟩ (.int .i64 (b.stops - 1)) := ⟨_, rfl⟩
      have K1 : Hid (w3.heap[w.heap.size]? = some (.cells #[.int .i64 (b.stops - 1), .int .i64 b.cells, .int .i64 b.mutes, .int .i64 b.muteMost, .int .i64 b.lifts, .int .i64 b.liftMost, .int .i64 b.steps] 36 (0, 0))) := Lib.hid (by rw [hw3]; exact set_heap J1.out 0 _)
      have K3 : Hid (w3.heap[w.heap.size + 1 + 1]? = some (.cells #[.int .i64 0, .int .i64 0, .int .i64 0, .int .i64 0, .int .i64 0, .int .i64 0, .int .i64 0] 36 (0, 0))) := Lib.hid (by rw [hw3]; exact (heap_setCell_other w2 ⟨w.heap.size, 0, none⟩ (w.heap.size + 1 + 1) _ (by dsimp only; omega)).trans J3.out)
      have B3 : Hid (Below w.heap.size w w3) := Lib.hid (by rw [hw3]; exact B2.out.setCell (by dsimp only; exact Nat.le_refl _) _)
      have HW3 := Lib.hid hw3
      have p0 : w2.cell? ⟨w.heap.size, 0, none⟩ = some (.int .i64 b.stops) := cell_of_heap J1.out 0 rfl
      have g0 : w2.frozen? ⟨w.heap.size, 0, none⟩ = false := free_of_heap J1.out 0
      clear hw3
      go_upto_region 14 with fail
      rw [← HW3.out]
      clear p0 g0 f0 f1 f2
      have p0 : w3.cell? ⟨w.heap.size, 0, none⟩ = some (.int .i64 (b.stops - 1)) := cell_of_heap K1.out 0 rfl
      have p1 : w3.cell? ⟨w.heap.size, 1, none⟩ = some (.int .i64 b.cells) := cell_of_heap K1.out 1 rfl
      have p2 : w3.cell? ⟨w.heap.size, 2, none⟩ = some (.int .i64 b.mutes) := cell_of_heap K1.out 2 rfl
      have p3 : w3.cell? ⟨w.heap.size, 3, none⟩ = some (.int .i64 b.muteMost) := cell_of_heap K1.out 3 rfl
      have p4 : w3.cell? ⟨w.heap.size, 4, none⟩ = some (.int .i64 b.lifts) := cell_of_heap K1.out 4 rfl
      have p5 : w3.cell? ⟨w.heap.size, 5, none⟩ = some (.int .i64 b.liftMost) := cell_of_heap K1.out 5 rfl
      have p6 : w3.cell? ⟨w.heap.size, 6, none⟩ = some (.int .i64 b.steps) := cell_of_heap K1.out 6 rfl
      have RR : Hid (w3.heap[w.heap.size + 1 + 1]? = some (.cells #[.int .i64 0, .int .i64 0, .int .i64 0, .int .i64 0, .int .i64 0, .int .i64 0, .int .i64 0] 36 (0, 0))) := Lib.hid K3.out
      go_wp2_with (refine wpList_store_row rfl 36 (.tmp 4) (.tmp 43) rfl (w.heap.size + 1 + 1) #[.int .i64 (b.stops - 1), .int .i64 b.cells, .int .i64 b.mutes, .int .i64 b.muteMost, .int .i64 b.lifts, .int .i64 b.liftMost, .int .i64 b.steps] rfl rfl 36 _ RR.out (by kernel_rfl) rfl (by kernel_rfl) ?_)
      refine bodyPost_ret (v := .tuple #[.agg #[.int .i64 (b.stops - 1), .int .i64 b.cells, .int .i64 b.mutes, .int .i64 b.muteMost, .int .i64 b.lifts, .int .i64 b.liftMost, .int .i64 b.steps], .int .i64 0]) (results_rowtmp2 (p := 4) (ty := 36) (u := 5) (by kernel_rfl) _ _ (w.heap.size + 1 + 1) 36 #[.int .i64 (b.stops - 1), .int .i64 b.cells, .int .i64 b.mutes, .int .i64 b.muteMost, .int .i64 b.lifts, .int .i64 b.liftMost, .int .i64 b.steps] (0, 0) _ rfl (setRow_heap _ _ _ _ _ _ RR.out) Tryz.underlying36 rfl (by kernel_rfl)) rfl ?_
      refine ⟨?_, (B3.out).trans ⟨rfl, rfl, rfl, by simp [World.setRow], fun k hk => setRow_other _ _ _ _ (by omega)⟩⟩
      rfl
    · have hn : 1 ≤ b.cells := h3.2
      clear h3 k0
      have f0 : w2.cell? ⟨w.heap.size + 1, 0, none⟩ = some (.int .i64 2) := cell_of_heap J2.out 0 rfl
      have f1 : w2.cell? ⟨w.heap.size + 1, 1, none⟩ = some (.int .i64 xa) := cell_of_heap J2.out 1 rfl
      have f2 : w2.cell? ⟨w.heap.size + 1, 2, none⟩ = some (.int .i64 xn) := cell_of_heap J2.out 2 rfl
      obtain ⟨w3, hw3⟩ : ∃ W, W = w2.setCell ⟨w.heap.size, 1, none⟩ (.int .i64 (b.cells - 1)) := ⟨_, rfl⟩
      have K1 : Hid (w3.heap[w.heap.size]? = some (.cells #[.int .i64 b.stops, .int .i64 (b.cells - 1), .int .i64 b.mutes, .int .i64 b.muteMost, .int .i64 b.lifts, .int .i64 b.liftMost, .int .i64 b.steps] 36 (0, 0))) := Lib.hid (by rw [hw3]; exact set_heap J1.out 1 _)
      have K3 : Hid (w3.heap[w.heap.size + 1 + 1]? = some (.cells #[.int .i64 0, .int .i64 0, .int .i64 0, .int .i64 0, .int .i64 0, .int .i64 0, .int .i64 0] 36 (0, 0))) := Lib.hid (by rw [hw3]; exact (heap_setCell_other w2 ⟨w.heap.size, 1, none⟩ (w.heap.size + 1 + 1) _ (by dsimp only; omega)).trans J3.out)
      have B3 : Hid (Below w.heap.size w w3) := Lib.hid (by rw [hw3]; exact B2.out.setCell (by dsimp only; exact Nat.le_refl _) _)
      have HW3 := Lib.hid hw3
      have p0 : w2.cell? ⟨w.heap.size, 1, none⟩ = some (.int .i64 b.cells) := cell_of_heap J1.out 1 rfl
      have g0 : w2.frozen? ⟨w.heap.size, 1, none⟩ = false := free_of_heap J1.out 1
      clear hw3
      go_upto_region 14 with fail
      rw [← HW3.out]
      clear p0 g0 f0 f1 f2
      have p0 : w3.cell? ⟨w.heap.size, 0, none⟩ = some (.int .i64 b.stops) := cell_of_heap K1.out 0 rfl
      have p1 : w3.cell? ⟨w.heap.size, 1, none⟩ = some (.int .i64 (b.cells - 1)) := cell_of_heap K1.out 1 rfl
      have p2 : w3.cell? ⟨w.heap.size, 2, none⟩ = some (.int .i64 b.mutes) := cell_of_heap K1.out 2 rfl
      have p3 : w3.cell? ⟨w.heap.size, 3, none⟩ = some (.int .i64 b.muteMost) := cell_of_heap K1.out 3 rfl
      have p4 : w3.cell? ⟨w.heap.size, 4, none⟩ = some (.int .i64 b.lifts) := cell_of_heap K1.out 4 rfl
      have p5 : w3.cell? ⟨w.heap.size, 5, none⟩ = some (.int .i64 b.liftMost) := cell_of_heap K1.out 5 rfl
      have p6 : w3.cell? ⟨w.heap.size, 6, none⟩ = some (.int .i64 b.steps) := cell_of_heap K1.out 6 rfl
      have RR : Hid (w3.heap[w.heap.size + 1 + 1]? = some (.cells #[.int .i64 0, .int .i64 0, .int .i64 0, .int .i64 0, .int .i64 0, .int .i64 0, .int .i64 0] 36 (0, 0))) := Lib.hid K3.out
      go_wp2_with (refine wpList_store_row rfl 36 (.tmp 4) (.tmp 43) rfl (w.heap.size + 1 + 1) #[.int .i64 b.stops, .int .i64 (b.cells - 1), .int .i64 b.mutes, .int .i64 b.muteMost, .int .i64 b.lifts, .int .i64 b.liftMost, .int .i64 b.steps] rfl rfl 36 _ RR.out (by kernel_rfl) rfl (by kernel_rfl) ?_)
      refine bodyPost_ret (v := .tuple #[.agg #[.int .i64 b.stops, .int .i64 (b.cells - 1), .int .i64 b.mutes, .int .i64 b.muteMost, .int .i64 b.lifts, .int .i64 b.liftMost, .int .i64 b.steps], .int .i64 0]) (results_rowtmp2 (p := 4) (ty := 36) (u := 5) (by kernel_rfl) _ _ (w.heap.size + 1 + 1) 36 #[.int .i64 b.stops, .int .i64 (b.cells - 1), .int .i64 b.mutes, .int .i64 b.muteMost, .int .i64 b.lifts, .int .i64 b.liftMost, .int .i64 b.steps] (0, 0) _ rfl (setRow_heap _ _ _ _ _ _ RR.out) Tryz.underlying36 rfl (by kernel_rfl)) rfl ?_
      refine ⟨?_, (B3.out).trans ⟨rfl, rfl, rfl, by simp [World.setRow], fun k hk => setRow_other _ _ _ _ (by omega)⟩⟩
      rfl
    · have hn : 1 ≤ b.mutes := h3.2
      clear h3 k0
      have f0 : w2.cell? ⟨w.heap.size + 1, 0, none⟩ = some (.int .i64 3) := cell_of_heap J2.out 0 rfl
      have f1 : w2.cell? ⟨w.heap.size + 1, 1, none⟩ = some (.int .i64 xa) := cell_of_heap J2.out 1 rfl
      have f2 : w2.cell? ⟨w.heap.size + 1, 2, none⟩ = some (.int .i64 xn) := cell_of_heap J2.out 2 rfl
      obtain ⟨w3, hw3⟩ : ∃ W, W = w2.setCell ⟨w.heap.size, 2, none⟩ (.int .i64 (b.mutes - 1)) := ⟨_, rfl⟩
      have K1 : Hid (w3.heap[w.heap.size]? = some (.cells #[.int .i64 b.stops, .int .i64 b.cells, .int .i64 (b.mutes - 1), .int .i64 b.muteMost, .int .i64 b.lifts, .int .i64 b.liftMost, .int .i64 b.steps] 36 (0, 0))) := Lib.hid (by rw [hw3]; exact set_heap J1.out 2 _)
      have K3 : Hid (w3.heap[w.heap.size + 1 + 1]? = some (.cells #[.int .i64 0, .int .i64 0, .int .i64 0, .int .i64 0, .int .i64 0, .int .i64 0, .int .i64 0] 36 (0, 0))) := Lib.hid (by rw [hw3]; exact (heap_setCell_other w2 ⟨w.heap.size, 2, none⟩ (w.heap.size + 1 + 1) _ (by dsimp only; omega)).trans J3.out)
      have B3 : Hid (Below w.heap.size w w3) := Lib.hid (by rw [hw3]; exact B2.out.setCell (by dsimp only; exact Nat.le_refl _) _)
      have HW3 := Lib.hid hw3
      have p0 : w2.cell? ⟨w.heap.size, 2, none⟩ = some (.int .i64 b.mutes) := cell_of_heap J1.out 2 rfl
      have g0 : w2.frozen? ⟨w.heap.size, 2, none⟩ = false := free_of_heap J1.out 2
      clear hw3
      go_upto_region 14 with fail
      rw [← HW3.out]
      clear p0 g0 f0 f1 f2
      have p0 : w3.cell? ⟨w.heap.size, 0, none⟩ = some (.int .i64 b.stops) := cell_of_heap K1.out 0 rfl
      have p1 : w3.cell? ⟨w.heap.size, 1, none⟩ = some (.int .i64 b.cells) := cell_of_heap K1.out 1 rfl
      have p2 : w3.cell? ⟨w.heap.size, 2, none⟩ = some (.int .i64 (b.mutes - 1)) := cell_of_heap K1.out 2 rfl
      have p3 : w3.cell? ⟨w.heap.size, 3, none⟩ = some (.int .i64 b.muteMost) := cell_of_heap K1.out 3 rfl
      have p4 : w3.cell? ⟨w.heap.size, 4, none⟩ = some (.int .i64 b.lifts) := cell_of_heap K1.out 4 rfl
      have p5 : w3.cell? ⟨w.heap.size, 5, none⟩ = some (.int .i64 b.liftMost) := cell_of_heap K1.out 5 rfl
      have p6 : w3.cell? ⟨w.heap.size, 6, none⟩ = some (.int .i64 b.steps) := cell_of_heap K1.out 6 rfl
      have RR : Hid (w3.heap[w.heap.size + 1 + 1]? = some (.cells #[.int .i64 0, .int .i64 0, .int .i64 0, .int .i64 0, .int .i64 0, .int .i64 0, .int .i64 0] 36 (0, 0))) := Lib.hid K3.out
      go_wp2_with (refine wpList_store_row rfl 36 (.tmp 4) (.tmp 43) rfl (w.heap.size + 1 + 1) #[.int .i64 b.stops, .int .i64 b.cells, .int .i64 (b.mutes - 1), .int .i64 b.muteMost, .int .i64 b.lifts, .int .i64 b.liftMost, .int .i64 b.steps] rfl rfl 36 _ RR.out (by kernel_rfl) rfl (by kernel_rfl) ?_)
      refine bodyPost_ret (v := .tuple #[.agg #[.int .i64 b.stops, .int .i64 b.cells, .int .i64 (b.mutes - 1), .int .i64 b.muteMost, .int .i64 b.lifts, .int .i64 b.liftMost, .int .i64 b.steps], .int .i64 0]) (results_rowtmp2 (p := 4) (ty := 36) (u := 5) (by kernel_rfl) _ _ (w.heap.size + 1 + 1) 36 #[.int .i64 b.stops, .int .i64 b.cells, .int .i64 (b.mutes - 1), .int .i64 b.muteMost, .int .i64 b.lifts, .int .i64 b.liftMost, .int .i64 b.steps] (0, 0) _ rfl (setRow_heap _ _ _ _ _ _ RR.out) Tryz.underlying36 rfl (by kernel_rfl)) rfl ?_
      refine ⟨?_, (B3.out).trans ⟨rfl, rfl, rfl, by simp [World.setRow], fun k hk => setRow_other _ _ _ _ (by omega)⟩⟩
      rfl
    · have hn : 1 ≤ b.lifts := h3.2
      clear h3 k0
      have f0 : w2.cell? ⟨w.heap.size + 1, 0, none⟩ = some (.int .i64 4) := cell_of_heap J2.out 0 rfl
      have f1 : w2.cell? ⟨w.heap.size + 1, 1, none⟩ = some (.int .i64 xa) := cell_of_heap J2.out 1 rfl
      have f2 : w2.cell? ⟨w.heap.size + 1, 2, none⟩ = some (.int .i64 xn) := cell_of_heap J2.out 2 rfl
      obtain ⟨w3, hw3⟩ : ∃ W, W = w2.setCell ⟨w.heap.size, 4, none⟩ (.int .i64 (b.lifts - 1)) := ⟨_, rfl⟩
      have K1 : Hid (w3.heap[w.heap.size]? = some (.cells #[.int .i64 b.stops, .int .i64 b.cells, .int .i64 b.mutes, .int .i64 b.muteMost, .int .i64 (b.lifts - 1), .int .i64 b.liftMost, .int .i64 b.steps] 36 (0, 0))) := Lib.hid (by rw [hw3]; exact set_heap J1.out 4 _)
      have K3 : Hid (w3.heap[w.heap.size + 1 + 1]? = some (.cells #[.int .i64 0, .int .i64 0, .int .i64 0, .int .i64 0, .int .i64 0, .int .i64 0, .int .i64 0] 36 (0, 0))) := Lib.hid (by rw [hw3]; exact (heap_setCell_other w2 ⟨w.heap.size, 4, none⟩ (w.heap.size + 1 + 1) _ (by dsimp only; omega)).trans J3.out)
      have B3 : Hid (Below w.heap.size w w3) := Lib.hid (by rw [hw3]; exact B2.out.setCell (by dsimp only; exact Nat.le_refl _) _)
      have HW3 := Lib.hid hw3
      have p0 : w2.cell? ⟨w.heap.size, 4, none⟩ = some (.int .i64 b.lifts) := cell_of_heap J1.out 4 rfl
      have g0 : w2.frozen? ⟨w.heap.size, 4, none⟩ = false := free_of_heap J1.out 4
      clear hw3
      go_upto_region 14 with fail
      rw [← HW3.out]
      clear p0 g0 f0 f1 f2
      have p0 : w3.cell? ⟨w.heap.size, 0, none⟩ = some (.int .i64 b.stops) := cell_of_heap K1.out 0 rfl
      have p1 : w3.cell? ⟨w.heap.size, 1, none⟩ = some (.int .i64 b.cells) := cell_of_heap K1.out 1 rfl
      have p2 : w3.cell? ⟨w.heap.size, 2, none⟩ = some (.int .i64 b.mutes) := cell_of_heap K1.out 2 rfl
      have p3 : w3.cell? ⟨w.heap.size, 3, none⟩ = some (.int .i64 b.muteMost) := cell_of_heap K1.out 3 rfl
      have p4 : w3.cell? ⟨w.heap.size, 4, none⟩ = some (.int .i64 (b.lifts - 1)) := cell_of_heap K1.out 4 rfl
      have p5 : w3.cell? ⟨w.heap.size, 5, none⟩ = some (.int .i64 b.liftMost) := cell_of_heap K1.out 5 rfl
      have p6 : w3.cell? ⟨w.heap.size, 6, none⟩ = some (.int .i64 b.steps) := cell_of_heap K1.out 6 rfl
      have RR : Hid (w3.heap[w.heap.size + 1 + 1]? = some (.cells #[.int .i64 0, .int .i64 0, .int .i64 0, .int .i64 0, .int .i64 0, .int .i64 0, .int .i64 0] 36 (0, 0))) := Lib.hid K3.out
      go_wp2_with (refine wpList_store_row rfl 36 (.tmp 4) (.tmp 43) rfl (w.heap.size + 1 + 1) #[.int .i64 b.stops, .int .i64 b.cells, .int .i64 b.mutes, .int .i64 b.muteMost, .int .i64 (b.lifts - 1), .int .i64 b.liftMost, .int .i64 b.steps] rfl rfl 36 _ RR.out (by kernel_rfl) rfl (by kernel_rfl) ?_)
      refine bodyPost_ret (v := .tuple #[.agg #[.int .i64 b.stops, .int .i64 b.cells, .int .i64 b.mutes, .int .i64 b.muteMost, .int .i64 (b.lifts - 1), .int .i64 b.liftMost, .int .i64 b.steps], .int .i64 0]) (results_rowtmp2 (p := 4) (ty := 36) (u := 5) (by kernel_rfl) _ _ (w.heap.size + 1 + 1) 36 #[.int .i64 b.stops, .int .i64 b.cells, .int .i64 b.mutes, .int .i64 b.muteMost, .int .i64 (b.lifts - 1), .int .i64 b.liftMost, .int .i64 b.steps] (0, 0) _ rfl (setRow_heap _ _ _ _ _ _ RR.out) Tryz.underlying36 rfl (by kernel_rfl)) rfl ?_
      refine ⟨?_, (B3.out).trans ⟨rfl, rfl, rfl, by simp [World.setRow], fun k hk => setRow_other _ _ _ _ (by omega)⟩⟩
      rfl
    · have hn : 1 ≤ b.steps := h3.2
      clear h3 k0
      have f0 : w2.cell? ⟨w.heap.size + 1, 0, none⟩ = some (.int .i64 5) := cell_of_heap J2.out 0 rfl
      have f1 : w2.cell? ⟨w.heap.size + 1, 1, none⟩ = some (.int .i64 xa) := cell_of_heap J2.out 1 rfl
      have f2 : w2.cell? ⟨w.heap.size + 1, 2, none⟩ = some (.int .i64 xn) := cell_of_heap J2.out 2 rfl
      obtain ⟨w3, hw3⟩ : ∃ W, W = w2.setCell ⟨w.heap.size, 6, none⟩ (.int .i64 (b.steps - 1)) := ⟨_, rfl⟩
      have K1 : Hid (w3.heap[w.heap.size]? = some (.cells #[.int .i64 b.stops, .int .i64 b.cells, .int .i64 b.mutes, .int .i64 b.muteMost, .int .i64 b.lifts, .int .i64 b.liftMost, .int .i64 (b.steps - 1)] 36 (0, 0))) := Lib.hid (by rw [hw3]; exact set_heap J1.out 6 _)
      have K3 : Hid (w3.heap[w.heap.size + 1 + 1]? = some (.cells #[.int .i64 0, .int .i64 0, .int .i64 0, .int .i64 0, .int .i64 0, .int .i64 0, .int .i64 0] 36 (0, 0))) := Lib.hid (by rw [hw3]; exact (heap_setCell_other w2 ⟨w.heap.size, 6, none⟩ (w.heap.size + 1 + 1) _ (by dsimp only; omega)).trans J3.out)
      have B3 : Hid (Below w.heap.size w w3) := Lib.hid (by rw [hw3]; exact B2.out.setCell (by dsimp only; exact Nat.le_refl _) _)
      have HW3 := Lib.hid hw3
      have p0 : w2.cell? ⟨w.heap.size, 6, none⟩ = some (.int .i64 b.steps) := cell_of_heap J1.out 6 rfl
      have g0 : w2.frozen? ⟨w.heap.size, 6, none⟩ = false := free_of_heap J1.out 6
      clear hw3
      go_upto_region 14 with fail
      rw [← HW3.out]
      clear p0 g0 f0 f1 f2
      have p0 : w3.cell? ⟨w.heap.size, 0, none⟩ = some (.int .i64 b.stops) := cell_of_heap K1.out 0 rfl
      have p1 : w3.cell? ⟨w.heap.size, 1, none⟩ = some (.int .i64 b.cells) := cell_of_heap K1.out 1 rfl
      have p2 : w3.cell? ⟨w.heap.size, 2, none⟩ = some (.int .i64 b.mutes) := cell_of_heap K1.out 2 rfl
      have p3 : w3.cell? ⟨w.heap.size, 3, none⟩ = some (.int .i64 b.muteMost) := cell_of_heap K1.out 3 rfl
      have p4 : w3.cell? ⟨w.heap.size, 4, none⟩ = some (.int .i64 b.lifts) := cell_of_heap K1.out 4 rfl
      have p5 : w3.cell? ⟨w.heap.size, 5, none⟩ = some (.int .i64 b.liftMost) := cell_of_heap K1.out 5 rfl
      have p6 : w3.cell? ⟨w.heap.size, 6, none⟩ = some (.int .i64 (b.steps - 1)) := cell_of_heap K1.out 6 rfl
      have RR : Hid (w3.heap[w.heap.size + 1 + 1]? = some (.cells #[.int .i64 0, .int .i64 0, .int .i64 0, .int .i64 0, .int .i64 0, .int .i64 0, .int .i64 0] 36 (0, 0))) := Lib.hid K3.out
      go_wp2_with (refine wpList_store_row rfl 36 (.tmp 4) (.tmp 43) rfl (w.heap.size + 1 + 1) #[.int .i64 b.stops, .int .i64 b.cells, .int .i64 b.mutes, .int .i64 b.muteMost, .int .i64 b.lifts, .int .i64 b.liftMost, .int .i64 (b.steps - 1)] rfl rfl 36 _ RR.out (by kernel_rfl) rfl (by kernel_rfl) ?_)
      refine bodyPost_ret (v := .tuple #[.agg #[.int .i64 b.stops, .int .i64 b.cells, .int .i64 b.mutes, .int .i64 b.muteMost, .int .i64 b.lifts, .int .i64 b.liftMost, .int .i64 (b.steps - 1)], .int .i64 0]) (results_rowtmp2 (p := 4) (ty := 36) (u := 5) (by kernel_rfl) _ _ (w.heap.size + 1 + 1) 36 #[.int .i64 b.stops, .int .i64 b.cells, .int .i64 b.mutes, .int .i64 b.muteMost, .int .i64 b.lifts, .int .i64 b.liftMost, .int .i64 (b.steps - 1)] (0, 0) _ rfl (setRow_heap _ _ _ _ _ _ RR.out) Tryz.underlying36 rfl (by kernel_rfl)) rfl ?_
      refine ⟨?_, (B3.out).trans ⟨rfl, rfl, rfl, by simp [World.setRow], fun k hk => setRow_other _ _ _ _ (by omega)⟩⟩
      rfl
end Go.Proofs.YtcdfmgobokjcnaaGreatDoor
