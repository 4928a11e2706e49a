/- Parts Fd of this claim, laid one behind the other: walks and the plain laws behind them; each contract states its own conditions. -/
import Derived.Test.YtcdfmgobokjcnaaGreatDoorZU
/- Walks of package fault: longest, Spend, Allows. -/
namespace Go.Proofs.YtcdfmgobokjcnaaGreatDoor
set_option linter.unusedSimpArgs false
set_option linter.unusedVariables false
open Go.RowKit

def longI (b : Fa.Bud) (k : Int) : Int := if k = 3 then b.muteMost else if k = 4 then b.liftMost else 0
set_option maxRecDepth 100000 in
set_option maxHeartbeats 4000000 in
theorem longest_any (b : Fa.Bud) (k : Int) (w : World) :
    Calls Tryz.prog 40 #[.agg (budA b), .int .i64 k] w fun e w' => e = .returned (.int .i64 (longI b k)) ∧ Below w.heap.size w w' := by
  have B1 := Lib.hid ((Below.refl _ w).alloc (Nat.le_refl _) (.cells (budA b) 36))
  by_cases h3 : k = 3
  · subst h3
    have HL : Hid (longI b 3 = b.muteMost) := Lib.hid rfl
    unfold budA at B1 ⊢
    go_enter Tryz.func40, Tryz.ntmps40
    go_wp2_with fail
    go_ret
    exact ⟨by rw [HL.out]; rfl, B1.out⟩
  · by_cases h4 : k = 4
    · subst h4
      have HL : Hid (longI b 4 = b.liftMost) := Lib.hid rfl
      unfold budA at B1 ⊢
      go_enter Tryz.func40, Tryz.ntmps40
      go_wp2_with fail
      go_ret
      exact ⟨by rw [HL.out]; rfl, B1.out⟩
    · have HL : Hid (longI b k = 0) := Lib.hid (by unfold longI; rw [if_neg h3, if_neg h4])
      have e3 : (k == 3) = false := beq_eq_false_iff_ne.2 h3
      have e4 : (k == 4) = false := beq_eq_false_iff_ne.2 h4
      clear h3 h4
      unfold budA at B1 ⊢
      go_enter Tryz.func40, Tryz.ntmps40
      go_wp2_with fail
      go_ret
      exact ⟨by rw [HL.out]; rfl, B1.out⟩
/-- What Spend hands back. -/
def spendV (b : Fa.Bud) : Option Fa.Bud → Value
  | some c => .tuple #[.agg (budA c), .int .i64 0]
  | none => .tuple #[.agg (budA b), .int .i64 26]
/-- Whether a fault other than none is refused. -/
def badB (b : Fa.Bud) (x : Fa.Flt) : Bool := decide (Fa.num b x.kind < 1) || ((decide (x.kind = 3) || decide (x.kind = 4)) && !Fa.within x.n 1 (longI b x.kind))
theorem spend_in {b : Fa.Bud} {x : Fa.Flt} (h : 1 ≤ x.kind ∧ x.kind ≤ 5) : Fa.spend b x = if badB b x = true then none else some (Fa.dec b x.kind) := by
  unfold Fa.spend
  rw [if_neg (by omega)]
  by_cases hb : badB b x = true
  · rw [if_pos hb, if_neg]
    rintro ⟨⟨h1, h2, h3, h4⟩, h5⟩
    unfold badB Fa.within longI at hb
    simp only [Bool.or_eq_true, Bool.and_eq_true, decide_eq_true_eq, Bool.not_eq_true', Bool.and_eq_false_iff, decide_eq_false_iff_not] at hb
    rcases hb with hb | ⟨hb, hc⟩
    · omega
    · rcases hb with hb | hb
      · have := h3 hb
        rw [if_pos hb] at hc
        omega
      · have := h4 hb
        rw [if_neg (by omega), if_pos hb] at hc
        omega
  · rw [if_neg hb, if_pos]
    unfold badB Fa.within longI at hb
    simp only [Bool.or_eq_true, Bool.and_eq_true, decide_eq_true_eq, Bool.not_eq_true', Bool.and_eq_false_iff, decide_eq_false_iff_not, not_or, not_and] at hb
    obtain ⟨h1, h2⟩ := hb
    refine ⟨⟨by omega, by omega, fun e => ?_, fun e => ?_⟩, by omega⟩
    · have := h2 (.inl e)
      rw [if_pos e] at this
      omega
    · have := h2 (.inr e)
      rw [if_neg (by omega), if_pos e] at this
      omega
theorem spend_out {b : Fa.Bud} {x : Fa.Flt} (h0 : x.kind ≠ 0) (h : ¬ (1 ≤ x.kind ∧ x.kind ≤ 5)) : Fa.spend b x = none := by
  unfold Fa.spend
  rw [if_neg h0, if_neg]
  rintro ⟨⟨h1, h2, -⟩, -⟩
  omega
/-- Results of a struct in a block and a number. -/
theorem results_rowtmp2 {P : Program} {fn : Func} {p u : Tmp} {ty : TypeId} (h : fn.results = #[.cell p ty, .tmp u]) (tmps : Array Value) (w : World) (g : Nat) (t : TypeId) (cs : Array Value) (fr : Nat × Nat) (d : TypeDesc)
    (hp : tmps.getD p undef = .pointer (some ⟨g, 0, none⟩)) (hg : w.heap[g]? = some (.cells cs t fr))
    (hu : P.underlying ty = some d) (hd : (match d with | .struct _ | .array _ _ => true | _ => false) = true) (hi : (P.info? ty).map (·.size) = some cs.size) :
    (results fn tmps).run P w = .ok (.tuple #[.agg cs, tmps.getD u undef]) w := by
  rw [results_cell_tmp h, hp]
  simp [asAddr, run_loadVar_row w g t ty cs fr d hg hu hd hi, Result.andThen]
def budZ : Array Value := #[.int .i64 0, .int .i64 0, .int .i64 0, .int .i64 0, .int .i64 0, .int .i64 0, .int .i64 0]
/-- The world of Spend behind its first stores. -/
theorem spendW (b : Fa.Bud) (xk xa xn : Int) (w : World) : ∃ W, Hid (W = (((w.alloc (.cells #[.int .i64 b.stops, .int .i64 b.cells, .int .i64 b.mutes, .int .i64 b.muteMost, .int .i64 b.lifts, .int .i64 b.liftMost, .int .i64 b.steps] 36)).alloc (.cells #[.int .i64 xk, .int .i64 xa, .int .i64 xn] 38)).alloc (.cells #[.int .i64 0, .int .i64 0, .int .i64 0, .int .i64 0, .int .i64 0, .int .i64 0, .int .i64 0] 36)).alloc (.cells #[.int .i64 b.stops, .int .i64 b.cells, .int .i64 b.mutes, .int .i64 b.muteMost, .int .i64 b.lifts, .int .i64 b.liftMost, .int .i64 b.steps] 65)) ∧
    Hid (Below w.heap.size w W) ∧ Hid (BudAt W w.heap.size b 36) ∧ Hid (W.heap[w.heap.size + 1]? = some (.cells #[.int .i64 xk, .int .i64 xa, .int .i64 xn] 38 (0, 0))) ∧ Hid (W.heap[w.heap.size + 1 + 1]? = some (.cells budZ 36 (0, 0))) ∧ Hid (BudAt W (w.heap.size + 1 + 1 + 1) b 65) ∧ Hid (W.heap.size = w.heap.size + 4) := by
  obtain ⟨h1, h2, h3, h4, h5, h6⟩ := al4 w (.cells #[.int .i64 b.stops, .int .i64 b.cells, .int .i64 b.mutes, .int .i64 b.muteMost, .int .i64 b.lifts, .int .i64 b.liftMost, .int .i64 b.steps] 36) (.cells #[.int .i64 xk, .int .i64 xa, .int .i64 xn] 38) (.cells #[.int .i64 0, .int .i64 0, .int .i64 0, .int .i64 0, .int .i64 0, .int .i64 0, .int .i64 0] 36) (.cells #[.int .i64 b.stops, .int .i64 b.cells, .int .i64 b.mutes, .int .i64 b.muteMost, .int .i64 b.lifts, .int .i64 b.liftMost, .int .i64 b.steps] 65)
  exact ⟨_, Lib.hid rfl, Lib.hid h5, Lib.hid h1, Lib.hid h2, Lib.hid h3, Lib.hid h4, Lib.hid h6⟩
set_option maxRecDepth 100000 in
set_option maxHeartbeats 16000000 in
theorem Spend_none0 (b : Fa.Bud) (xa xn : Int) (w : World) :
    Calls Tryz.prog 11 #[.agg (budA b), fltV ⟨0, xa, xn⟩] w fun e w' => e = .returned (spendV b (some b)) ∧ Below w.heap.size w w' := by
  unfold fltV spendV budA
  dsimp only
  go_enter Tryz.func11, Tryz.ntmps11
  go_wp2_with fail
  refine bodyPost_ret (v := .tuple #[.agg #[.int .i64 b.stops, .int .i64 b.cells, .int .i64 b.mutes, .int .i64 b.muteMost, .int .i64 b.lifts, .int .i64 b.liftMost, .int .i64 b.steps], .int .i64 0]) (results_rowtmp2 (p := 4) (ty := 36) (u := 5) (by kernel_rfl) _ _ (w.heap.size + 1 + 1) 36 #[.int .i64 b.stops, .int .i64 b.cells, .int .i64 b.mutes, .int .i64 b.muteMost, .int .i64 b.lifts, .int .i64 b.liftMost, .int .i64 b.steps] (0, 0) _ rfl (by have := heap_alloc_new ((w.alloc (.cells #[.int .i64 b.stops, .int .i64 b.cells, .int .i64 b.mutes, .int .i64 b.muteMost, .int .i64 b.lifts, .int .i64 b.liftMost, .int .i64 b.steps] 36)).alloc (.cells #[.int .i64 0, .int .i64 xa, .int .i64 xn] 38)) (.cells #[.int .i64 b.stops, .int .i64 b.cells, .int .i64 b.mutes, .int .i64 b.muteMost, .int .i64 b.lifts, .int .i64 b.liftMost, .int .i64 b.steps] 36); simpa using this) Tryz.underlying36 rfl (by kernel_rfl)) rfl ?_
  exact ⟨rfl, (((Below.refl _ _).alloc (Nat.le_refl _) _).alloc (by simp) _).alloc (by simp; omega) _⟩
set_option maxRecDepth 100000 in
set_option maxHeartbeats 16000000 in
theorem Spend_out (b : Fa.Bud) (xk xa xn : Int) (w : World) (h0 : xk ≠ 0) (h : ¬ (1 ≤ xk ∧ xk ≤ 5)) :
    Calls Tryz.prog 11 #[.agg (budA b), fltV ⟨xk, xa, xn⟩] w fun e w' => e = .returned (spendV b none) ∧ Below w.heap.size w w' := by
  have HN : Hid (∀ B W, _) := Lib.hid (fun B W => by have := number_any B xk W; rw [numP_out h] at this; exact this)
  obtain ⟨W, HW, BW, I0, I1, I2, I3, HZ⟩ := spendW b xk xa xn w
  have e0 : (xk == 0) = false := beq_eq_false_iff_ne.2 h0
  have e3 : (xk == 3) = false := beq_eq_false_iff_ne.2 (by omega)
  have e4 : (xk == 4) = false := beq_eq_false_iff_ne.2 (by omega)
  clear h0 h
  unfold fltV spendV budA
  dsimp only
  go_enter Tryz.func11, Tryz.ntmps11
  go_upto_region 4 with fail
  rw [← HW.out]
  have q0 := cell_of_heap I1.out 0 rfl
  go_wp2_with fail
  go_at_call 36; refine (HN.out _ _).mono ?_; rintro e w1 ⟨rfl, b1⟩
  have B1 := Lib.hid (BW.out.trans (b1.mono BW.out.size))
  have KJ2 := Lib.hid (keep_heap I2.out b1)
  have KJ1 := Lib.hid (keep_heap I1.out b1)
  have KJ0 := Lib.hid (I0.out.keep b1)

  clear b1 q0
  have q0 := cell_of_heap KJ1.out 0 rfl
  have q2 := cell_of_heap KJ1.out 2 rfl
  obtain ⟨p0, p1, p2, p3, p4, p5, p6⟩ := KJ0.out.cells


  go_upto_region 6 with fail
  go_quiet (fail)
  generalize hw2 : w1.drewN nq = w2
  have b2 : Below w1.heap.size w1 w2 := by rw [← hw2]; exact below_drewN _ _ _
  have B2 := Lib.hid (B1.out.trans (b2.mono B1.out.size))
  have KJ2 := Lib.hid (keep_heap KJ2.out b2)
  have KJ0 := Lib.hid (KJ0.out.keep b2)
  clear hw2 b2 p0 p1 p2 p3 p4 p5 p6
  have JZ := KJ2.out
  obtain ⟨p0, p1, p2, p3, p4, p5, p6⟩ := KJ0.out.cells
  go_wp2_with (refine wpList_store_row rfl 36 (.tmp 4) (.tmp 46) rfl (w.heap.size + 1 + 1) #[.int .i64 b.stops, .int .i64 b.cells, .int .i64 b.mutes, .int .i64 b.muteMost, .int .i64 b.lifts, .int .i64 b.liftMost, .int .i64 b.steps] rfl rfl 36 budZ JZ (by kernel_rfl) rfl (by kernel_rfl) ?_)
  refine bodyPost_ret (v := .tuple #[.agg #[.int .i64 b.stops, .int .i64 b.cells, .int .i64 b.mutes, .int .i64 b.muteMost, .int .i64 b.lifts, .int .i64 b.liftMost, .int .i64 b.steps], .int .i64 26]) (results_rowtmp2 (p := 4) (ty := 36) (u := 5) (by kernel_rfl) _ _ (w.heap.size + 1 + 1) 36 #[.int .i64 b.stops, .int .i64 b.cells, .int .i64 b.mutes, .int .i64 b.muteMost, .int .i64 b.lifts, .int .i64 b.liftMost, .int .i64 b.steps] (0, 0) _ rfl (setRow_heap _ _ _ _ _ _ KJ2.out) Tryz.underlying36 rfl (by kernel_rfl)) rfl ?_
  exact ⟨rfl, B2.out.trans ⟨rfl, rfl, rfl, by simp, fun k hk => setRow_other _ _ _ _ (by omega)⟩⟩
set_option maxRecDepth 100000 in
set_option maxHeartbeats 16000000 in
theorem Spend_few (b : Fa.Bud) (xk xa xn v : Int) (O : Nat) (w : World) (h : 1 ≤ xk ∧ xk ≤ 5) (hv : Fa.num b xk = v) (hO : offN xk = O) (h1 : v < 1) :
    Calls Tryz.prog 11 #[.agg (budA b), fltV ⟨xk, xa, xn⟩] w fun e w' => e = .returned (spendV b none) ∧ Below w.heap.size w w' := by
  have HN : Hid (∀ B W, _) := Lib.hid (fun B W => by have := number_in B xk W h; rw [hO] at this; exact this)
  obtain ⟨W, HW, BW, I0, I1, I2, I3, HZ⟩ := spendW b xk xa xn w
  have e0 : (xk == 0) = false := beq_eq_false_iff_ne.2 (by omega)
  have d1 : decide (v < 1) = true := decide_eq_true h1
  have HvH := Lib.hid hv
  have HoH := Lib.hid hO
  clear hv hO h h1
  unfold fltV spendV budA
  dsimp only
  by_cases k3 : xk = 3
  · have e3 : (xk == 3) = true := beq_iff_eq.2 k3
    clear k3
    go_enter Tryz.func11, Tryz.ntmps11
    go_upto_region 4 with fail
    rw [← HW.out]
    have q0 := cell_of_heap I1.out 0 rfl
    go_wp2_with fail
    go_at_call 36; refine (HN.out _ _).mono ?_; rintro e w1 ⟨rfl, b1⟩
    have B1 := Lib.hid (BW.out.trans (b1.mono BW.out.size))
    have KJ2 := Lib.hid (keep_heap I2.out b1)
    have KJ1 := Lib.hid (keep_heap I1.out b1)
    have KJ0 := Lib.hid (I0.out.keep b1)
    have KJ3 := Lib.hid (I3.out.keep b1)
    have BQ := Lib.hid (b1.size)
    clear b1 q0
    have q0 := cell_of_heap KJ1.out 0 rfl
    have q2 := cell_of_heap KJ1.out 2 rfl
    obtain ⟨p0, p1, p2, p3, p4, p5, p6⟩ := KJ0.out.cells
    have J := KJ3.out.num xk
    rw [HvH.out, HoH.out] at J
    go_upto_region 6 with fail
    go_quiet (fail)
    generalize hw2 : w1.drewN nq = w2
    have b2 : Below w1.heap.size w1 w2 := by rw [← hw2]; exact below_drewN _ _ _
    have B2 := Lib.hid (B1.out.trans (b2.mono B1.out.size))
    have KJ2 := Lib.hid (keep_heap KJ2.out b2)
    have KJ0 := Lib.hid (KJ0.out.keep b2)
    have KJ3 := Lib.hid (KJ3.out.keep b2)
    clear hw2 b2 p0 p1 p2 p3 p4 p5 p6 q0 q2 J
    have JZ := KJ2.out
    obtain ⟨p0, p1, p2, p3, p4, p5, p6⟩ := KJ0.out.cells
    go_wp2_with (refine wpList_store_row rfl 36 (.tmp 4) (.tmp 46) rfl (w.heap.size + 1 + 1) #[.int .i64 b.stops, .int .i64 b.cells, .int .i64 b.mutes, .int .i64 b.muteMost, .int .i64 b.lifts, .int .i64 b.liftMost, .int .i64 b.steps] rfl rfl 36 budZ JZ (by kernel_rfl) rfl (by kernel_rfl) ?_)
    refine bodyPost_ret (v := .tuple #[.agg #[.int .i64 b.stops, .int .i64 b.cells, .int .i64 b.mutes, .int .i64 b.muteMost, .int .i64 b.lifts, .int .i64 b.liftMost, .int .i64 b.steps], .int .i64 26]) (results_rowtmp2 (p := 4) (ty := 36) (u := 5) (by kernel_rfl) _ _ (w.heap.size + 1 + 1) 36 #[.int .i64 b.stops, .int .i64 b.cells, .int .i64 b.mutes, .int .i64 b.muteMost, .int .i64 b.lifts, .int .i64 b.liftMost, .int .i64 b.steps] (0, 0) _ rfl (setRow_heap _ _ _ _ _ _ KJ2.out) Tryz.underlying36 rfl (by kernel_rfl)) rfl ?_
    exact ⟨rfl, B2.out.trans ⟨rfl, rfl, rfl, by simp, fun k hk => setRow_other _ _ _ _ (by omega)⟩⟩
  have e3 : (xk == 3) = false := beq_eq_false_iff_ne.2 k3
  clear k3
  by_cases k4 : xk = 4
  · have e4 : (xk == 4) = true := beq_iff_eq.2 k4
    clear k4
    go_enter Tryz.func11, Tryz.ntmps11
    go_upto_region 4 with fail
    rw [← HW.out]
    have q0 := cell_of_heap I1.out 0 rfl
    go_wp2_with fail
    go_at_call 36; refine (HN.out _ _).mono ?_; rintro e w1 ⟨rfl, b1⟩
    have B1 := Lib.hid (BW.out.trans (b1.mono BW.out.size))
    have KJ2 := Lib.hid (keep_heap I2.out b1)
    have KJ1 := Lib.hid (keep_heap I1.out b1)
    have KJ0 := Lib.hid (I0.out.keep b1)
    have KJ3 := Lib.hid (I3.out.keep b1)
    have BQ := Lib.hid (b1.size)
    clear b1 q0
    have q0 := cell_of_heap KJ1.out 0 rfl
    have q2 := cell_of_heap KJ1.out 2 rfl
    obtain ⟨p0, p1, p2, p3, p4, p5, p6⟩ := KJ0.out.cells
    have J := KJ3.out.num xk
    rw [HvH.out, HoH.out] at J
    go_upto_region 6 with fail
    go_quiet (fail)
    generalize hw2 : w1.drewN nq = w2
    have b2 : Below w1.heap.size w1 w2 := by rw [← hw2]; exact below_drewN _ _ _
    have B2 := Lib.hid (B1.out.trans (b2.mono B1.out.size))
    have KJ2 := Lib.hid (keep_heap KJ2.out b2)
    have KJ0 := Lib.hid (KJ0.out.keep b2)
    have KJ3 := Lib.hid (KJ3.out.keep b2)
    clear hw2 b2 p0 p1 p2 p3 p4 p5 p6 q0 q2 J
    have JZ := KJ2.out
    obtain ⟨p0, p1, p2, p3, p4, p5, p6⟩ := KJ0.out.cells
    go_wp2_with (refine wpList_store_row rfl 36 (.tmp 4) (.tmp 46) rfl (w.heap.size + 1 + 1) #[.int .i64 b.stops, .int .i64 b.cells, .int .i64 b.mutes, .int .i64 b.muteMost, .int .i64 b.lifts, .int .i64 b.liftMost, .int .i64 b.steps] rfl rfl 36 budZ JZ (by kernel_rfl) rfl (by kernel_rfl) ?_)
    refine bodyPost_ret (v := .tuple #[.agg #[.int .i64 b.stops, .int .i64 b.cells, .int .i64 b.mutes, .int .i64 b.muteMost, .int .i64 b.lifts, .int .i64 b.liftMost, .int .i64 b.steps], .int .i64 26]) (results_rowtmp2 (p := 4) (ty := 36) (u := 5) (by kernel_rfl) _ _ (w.heap.size + 1 + 1) 36 #[.int .i64 b.stops, .int .i64 b.cells, .int .i64 b.mutes, .int .i64 b.muteMost, .int .i64 b.lifts, .int .i64 b.liftMost, .int .i64 b.steps] (0, 0) _ rfl (setRow_heap _ _ _ _ _ _ KJ2.out) Tryz.underlying36 rfl (by kernel_rfl)) rfl ?_
    exact ⟨rfl, B2.out.trans ⟨rfl, rfl, rfl, by simp, fun k hk => setRow_other _ _ _ _ (by omega)⟩⟩
  · have e4 : (xk == 4) = false := beq_eq_false_iff_ne.2 k4
    clear k4
    go_enter Tryz.func11, Tryz.ntmps11
    go_upto_region 4 with fail
    rw [← HW.out]
    have q0 := cell_of_heap I1.out 0 rfl
    go_wp2_with fail
    go_at_call 36; refine (HN.out _ _).mono ?_; rintro e w1 ⟨rfl, b1⟩
    have B1 := Lib.hid (BW.out.trans (b1.mono BW.out.size))
    have KJ2 := Lib.hid (keep_heap I2.out b1)
    have KJ1 := Lib.hid (keep_heap I1.out b1)
    have KJ0 := Lib.hid (I0.out.keep b1)
    have KJ3 := Lib.hid (I3.out.keep b1)
    have BQ := Lib.hid (b1.size)
    clear b1 q0
    have q0 := cell_of_heap KJ1.out 0 rfl
    have q2 := cell_of_heap KJ1.out 2 rfl
    obtain ⟨p0, p1, p2, p3, p4, p5, p6⟩ := KJ0.out.cells
    have J := KJ3.out.num xk
    rw [HvH.out, HoH.out] at J
    go_upto_region 6 with fail
    go_quiet (fail)
    generalize hw2 : w1.drewN nq = w2
    have b2 : Below w1.heap.size w1 w2 := by rw [← hw2]; exact below_drewN _ _ _
    have B2 := Lib.hid (B1.out.trans (b2.mono B1.out.size))
    have KJ2 := Lib.hid (keep_heap KJ2.out b2)
    have KJ0 := Lib.hid (KJ0.out.keep b2)
    have KJ3 := Lib.hid (KJ3.out.keep b2)
    clear hw2 b2 p0 p1 p2 p3 p4 p5 p6 q0 q2 J
    have JZ := KJ2.out
    obtain ⟨p0, p1, p2, p3, p4, p5, p6⟩ := KJ0.out.cells
    go_wp2_with (refine wpList_store_row rfl 36 (.tmp 4) (.tmp 46) rfl (w.heap.size + 1 + 1) #[.int .i64 b.stops, .int .i64 b.cells, .int .i64 b.mutes, .int .i64 b.muteMost, .int .i64 b.lifts, .int .i64 b.liftMost, .int .i64 b.steps] rfl rfl 36 budZ JZ (by kernel_rfl) rfl (by kernel_rfl) ?_)
    refine bodyPost_ret (v := .tuple #[.agg #[.int .i64 b.stops, .int .i64 b.cells, .int .i64 b.mutes, .int .i64 b.muteMost, .int .i64 b.lifts, .int .i64 b.liftMost, .int .i64 b.steps], .int .i64 26]) (results_rowtmp2 (p := 4) (ty := 36) (u := 5) (by kernel_rfl) _ _ (w.heap.size + 1 + 1) 36 #[.int .i64 b.stops, .int .i64 b.cells, .int .i64 b.mutes, .int .i64 b.muteMost, .int .i64 b.lifts, .int .i64 b.liftMost, .int .i64 b.steps] (0, 0) _ rfl (setRow_heap _ _ _ _ _ _ KJ2.out) Tryz.underlying36 rfl (by kernel_rfl)) rfl ?_
    exact ⟨rfl, B2.out.trans ⟨rfl, rfl, rfl, by simp, fun k hk => setRow_other _ _ _ _ (by omega)⟩⟩
set_option maxRecDepth 100000 in
set_option maxHeartbeats 16000000 in
theorem Spend_short (b D : Fa.Bud) (xk xa xn v : Int) (O : Nat) (w : World) (h : 1 ≤ xk ∧ xk ≤ 5) (hv : Fa.num b xk = v) (hO : offN xk = O) (v1 : 1 ≤ v) (v2 : v ≤ 9223372036854775807) (k3 : xk ≠ 3) (k4 : xk ≠ 4) (hD : (budA b).setIfInBounds O (.int .i64 (v - 1)) = budA D) :
    Calls Tryz.prog 11 #[.agg (budA b), fltV ⟨xk, xa, xn⟩] w fun e w' => e = .returned (spendV b (some D)) ∧ Below w.heap.size w w' := by
  have HN : Hid (∀ B W, _) := Lib.hid (fun B W => by have := number_in B xk W h; rw [hO] at this; exact this)
  obtain ⟨W, HW, BW, I0, I1, I2, I3, HZ⟩ := spendW b xk xa xn w
  have e0 : (xk == 0) = false := beq_eq_false_iff_ne.2 (by omega)
  have d1 : decide (v < 1) = false := decide_eq_false (by omega)
  have e3 : (xk == 3) = false := beq_eq_false_iff_ne.2 k3
  have e4 : (xk == 4) = false := beq_eq_false_iff_ne.2 k4
  have HvH := Lib.hid hv
  have HoH := Lib.hid hO
  have HD := Lib.hid hD
  clear hv hO h k3 k4 hD
  unfold fltV spendV budA
  dsimp only
  go_enter Tryz.func11, Tryz.ntmps11
  go_upto_region 4 with fail
  rw [← HW.out]
  have q0 := cell_of_heap I1.out 0 rfl
  go_wp2_with fail
  go_at_call 36; refine (HN.out _ _).mono ?_; rintro e w1 ⟨rfl, b1⟩
  have B1 := Lib.hid (BW.out.trans (b1.mono BW.out.size))
  have KJ2 := Lib.hid (keep_heap I2.out b1)
  have KJ1 := Lib.hid (keep_heap I1.out b1)
  have KJ0 := Lib.hid (I0.out.keep b1)
  have KJ3 := Lib.hid (I3.out.keep b1)
  clear b1 q0
  have q0 := cell_of_heap KJ1.out 0 rfl
  have q2 := cell_of_heap KJ1.out 2 rfl
  obtain ⟨p0, p1, p2, p3, p4, p5, p6⟩ := KJ0.out.cells
  have J := KJ3.out.num xk
  rw [HvH.out, HoH.out] at J
  go_upto_region 6 with fail
  go_quiet (fail)
  generalize hw2 : w1.drewN nq = w2
  have b2 : Below w1.heap.size w1 w2 := by rw [← hw2]; exact below_drewN _ _ _
  have B2 := Lib.hid (B1.out.trans (b2.mono B1.out.size))
  have KJ2 := Lib.hid (keep_heap KJ2.out b2)
  have KJ0 := Lib.hid (KJ0.out.keep b2)
  have KJ3 := Lib.hid (KJ3.out.keep b2)
  clear hw2 b2 p0 p1 p2 p3 p4 p5 p6 q0 q2 J
  have JX := KJ3.out.num xk
  rw [HvH.out, HoH.out] at JX
  have FX := free_of_heap KJ3.out O
  have KS : Hid ((w2.setCell ⟨w.heap.size + 1 + 1 + 1, O, none⟩ (.int .i64 (v - 1))).heap[w.heap.size + 1 + 1 + 1]? = some (.cells (budA D) 65 (0, 0))) := Lib.hid (by
    rw [← HD.out, ← HoH.out]
    exact set_heap KJ3.out _ _)
  have KZ : Hid ((w2.setCell ⟨w.heap.size + 1 + 1 + 1, O, none⟩ (.int .i64 (v - 1))).heap[w.heap.size + 1 + 1]? = some (.cells budZ 36 (0, 0))) := Lib.hid ((Below.heap_setCell _ _ _ _ (by dsimp only; omega)).trans KJ2.out)
  have BS : Hid (Below w.heap.size w (w2.setCell ⟨w.heap.size + 1 + 1 + 1, O, none⟩ (.int .i64 (v - 1)))) := Lib.hid (B2.out.trans ((Below.refl _ _).setCell (by dsimp only; omega) _))
  go_upto_region 9 with fail
  generalize w2.setCell ⟨w.heap.size + 1 + 1 + 1, O, none⟩ (.int .i64 (v - 1)) = w9 at KS KZ BS ⊢
  have KZ9 := KZ.out
  have b9 := cell_of_heap KS.out 0 rfl
  have b9b := cell_of_heap KS.out 1 rfl
  have b9c := cell_of_heap KS.out 2 rfl
  have b9d := cell_of_heap KS.out 3 rfl
  have b9e := cell_of_heap KS.out 4 rfl
  have b9f := cell_of_heap KS.out 5 rfl
  have b9g := cell_of_heap KS.out 6 rfl
  go_wp2_with (refine wpList_store_row rfl 36 (.tmp 4) (.tmp 52) rfl (w.heap.size + 1 + 1) #[.int .i64 D.stops, .int .i64 D.cells, .int .i64 D.mutes, .int .i64 D.muteMost, .int .i64 D.lifts, .int .i64 D.liftMost, .int .i64 D.steps] rfl rfl 36 budZ KZ9 (by kernel_rfl) rfl (by kernel_rfl) ?_)
  refine bodyPost_ret (v := .tuple #[.agg #[.int .i64 D.stops, .int .i64 D.cells, .int .i64 D.mutes, .int .i64 D.muteMost, .int .i64 D.lifts, .int .i64 D.liftMost, .int .i64 D.steps], .int .i64 0]) (results_rowtmp2 (p := 4) (ty := 36) (u := 5) (by kernel_rfl) _ _ (w.heap.size + 1 + 1) 36 #[.int .i64 D.stops, .int .i64 D.cells, .int .i64 D.mutes, .int .i64 D.muteMost, .int .i64 D.lifts, .int .i64 D.liftMost, .int .i64 D.steps] (0, 0) _ rfl (setRow_heap _ _ _ _ _ _ KZ.out) Tryz.underlying36 rfl (by kernel_rfl)) rfl ?_
  exact ⟨rfl, BS.out.trans ⟨rfl, rfl, rfl, by simp, fun k hk => setRow_other _ _ _ _ (by omega)⟩⟩
set_option maxRecDepth 100000 in
set_option maxHeartbeats 16000000 in
theorem Spend_long (b D : Fa.Bud) (xk xa xn v LI : Int) (O : Nat) (z : Bool) (w : World) (h : 1 ≤ xk ∧ xk ≤ 5) (hv : Fa.num b xk = v) (hO : offN xk = O) (v1 : 1 ≤ v) (v2 : v ≤ 9223372036854775807) (k34 : xk = 3 ∨ xk = 4) (hL : longI b xk = LI) (hz : Fa.within xn 1 LI = z) (hD : (budA b).setIfInBounds O (.int .i64 (v - 1)) = budA D) :
    Calls Tryz.prog 11 #[.agg (budA b), fltV ⟨xk, xa, xn⟩] w fun e w' => e = .returned (spendV b (if z = true then some D else none)) ∧ Below w.heap.size w w' := by
  have HN : Hid (∀ B W, _) := Lib.hid (fun B W => by have := number_in B xk W h; rw [hO] at this; exact this)
  have HB := Lib.hid (fun n a b W => between_any n a b W)
  have HL : Hid (∀ W, _) := Lib.hid (fun W => by have := longest_any b xk W; rw [hL] at this; exact this)
  obtain ⟨W, HW, BW, I0, I1, I2, I3, HZ⟩ := spendW b xk xa xn w
  have e0 : (xk == 0) = false := beq_eq_false_iff_ne.2 (by omega)
  have d1 : decide (v < 1) = false := decide_eq_false (by omega)
  have HvH := Lib.hid hv
  have HoH := Lib.hid hO
  have HD := Lib.hid hD
  have HZ2 := Lib.hid hz
  clear hv hO h hL hz hD
  unfold fltV spendV
  unfold budA at HL ⊢
  dsimp only at HL ⊢
  have hk0 : xk ≠ 0 := fun e => by subst e; cases e0
  rcases k34 with k | k
  · have e3 : (xk == 3) = true := beq_iff_eq.2 k
    clear k hk0
    go_enter Tryz.func11, Tryz.ntmps11
    go_upto_region 4 with fail
    rw [← HW.out]
    have q0 := cell_of_heap I1.out 0 rfl
    go_wp2_with fail
    go_at_call 36; refine (HN.out _ _).mono ?_; rintro e w1 ⟨rfl, b1⟩
    have B1 := Lib.hid (BW.out.trans (b1.mono BW.out.size))
    have KJ2 := Lib.hid (keep_heap I2.out b1)
    have KJ1 := Lib.hid (keep_heap I1.out b1)
    have KJ0 := Lib.hid (I0.out.keep b1)
    have KJ3 := Lib.hid (I3.out.keep b1)
    have BQ := Lib.hid (b1.size)
    clear b1 q0
    have q0 := cell_of_heap KJ1.out 0 rfl
    have q2 := cell_of_heap KJ1.out 2 rfl
    obtain ⟨p0, p1, p2, p3, p4, p5, p6⟩ := KJ0.out.cells
    have J := KJ3.out.num xk
    rw [HvH.out, HoH.out] at J
    go_upto_region 6 with fail
    have hz1 := HZ.out
    have hs1 := BQ.out
    have lw : w.heap.size < w1.heap.size := by omega
    have lw1 : w.heap.size + 1 < w1.heap.size := by omega
    have lw3 : w.heap.size + 1 + 1 + 1 < w1.heap.size := by omega
    clear hz1 hs1
    go_cut [45] (fun v45 wr => v45 = .bool (!z) ∧ Hid (Below w1.heap.size w1 wr))
    case first =>
      go_region_held3 (fun w' => w'.cell? ⟨w.heap.size, 0, none⟩ = some (.int .i64 b.stops) ∧ w'.cell? ⟨w.heap.size, 1, none⟩ = some (.int .i64 b.cells) ∧ w'.cell? ⟨w.heap.size, 2, none⟩ = some (.int .i64 b.mutes) ∧ w'.cell? ⟨w.heap.size, 3, none⟩ = some (.int .i64 b.muteMost) ∧ w'.cell? ⟨w.heap.size, 4, none⟩ = some (.int .i64 b.lifts) ∧ w'.cell? ⟨w.heap.size, 5, none⟩ = some (.int .i64 b.liftMost) ∧ w'.cell? ⟨w.heap.size, 6, none⟩ = some (.int .i64 b.steps) ∧ w'.cell? ⟨w.heap.size + 1, 0, none⟩ = some (.int .i64 xk) ∧ w'.cell? ⟨w.heap.size + 1, 2, none⟩ = some (.int .i64 xn) ∧ w'.cell? ⟨w.heap.size + 1 + 1 + 1, O, none⟩ = some (.int .i64 v)) (go_keep)
        (first | ((go_at_call 40; refine (HL.out _).mono ?_; rintro e w5 ⟨rfl, b5⟩; have BX : Below w1.heap.size w1 w5 := (show Below w1.heap.size w1 w1.drew from below_drewN _ _ 1).trans b5; have s0 := (BX.cell (p := ⟨w.heap.size, 0, none⟩) lw).trans p0; have s1 := (BX.cell (p := ⟨w.heap.size, 1, none⟩) lw).trans p1; have s2 := (BX.cell (p := ⟨w.heap.size, 2, none⟩) lw).trans p2; have s3 := (BX.cell (p := ⟨w.heap.size, 3, none⟩) lw).trans p3; have s4 := (BX.cell (p := ⟨w.heap.size, 4, none⟩) lw).trans p4; have s5 := (BX.cell (p := ⟨w.heap.size, 5, none⟩) lw).trans p5; have s6 := (BX.cell (p := ⟨w.heap.size, 6, none⟩) lw).trans p6; have t0 := (BX.cell (p := ⟨w.heap.size + 1, 0, none⟩) lw1).trans q0; have t2 := (BX.cell (p := ⟨w.heap.size + 1, 2, none⟩) lw1).trans q2; have tx := (BX.cell (p := ⟨w.heap.size + 1 + 1 + 1, O, none⟩) lw3).trans J; clear b5)) | ((go_at_call 35; refine (HB.out xn 1 LI _).mono ?_; rintro e w6 ⟨rfl, rfl⟩; rw [HZ2.out])))
      all_goals go_wp2_with fail
      all_goals
        go_meet
        exact ⟨rfl, Lib.hid BX⟩
    case rest =>
      obtain ⟨rfl, HBC⟩ := hcut
      have b2 := HBC.out
      have B2 := Lib.hid (B1.out.trans (b2.mono B1.out.size))
      have KJ2 := Lib.hid (keep_heap KJ2.out b2)
      have KJ0 := Lib.hid (KJ0.out.keep b2)
      have KJ3 := Lib.hid (KJ3.out.keep b2)
      clear b2 p0 p1 p2 p3 p4 p5 p6 q0 q2 J lw lw1 lw3
      cases z with
      | false =>
        have JZ := KJ2.out
        obtain ⟨p0, p1, p2, p3, p4, p5, p6⟩ := KJ0.out.cells
        go_wp2_with (refine wpList_store_row rfl 36 (.tmp 4) (.tmp 46) rfl (w.heap.size + 1 + 1) #[.int .i64 b.stops, .int .i64 b.cells, .int .i64 b.mutes, .int .i64 b.muteMost, .int .i64 b.lifts, .int .i64 b.liftMost, .int .i64 b.steps] rfl rfl 36 budZ JZ (by kernel_rfl) rfl (by kernel_rfl) ?_)
        refine bodyPost_ret (v := .tuple #[.agg #[.int .i64 b.stops, .int .i64 b.cells, .int .i64 b.mutes, .int .i64 b.muteMost, .int .i64 b.lifts, .int .i64 b.liftMost, .int .i64 b.steps], .int .i64 26]) (results_rowtmp2 (p := 4) (ty := 36) (u := 5) (by kernel_rfl) _ _ (w.heap.size + 1 + 1) 36 #[.int .i64 b.stops, .int .i64 b.cells, .int .i64 b.mutes, .int .i64 b.muteMost, .int .i64 b.lifts, .int .i64 b.liftMost, .int .i64 b.steps] (0, 0) _ rfl (setRow_heap _ _ _ _ _ _ KJ2.out) Tryz.underlying36 rfl (by kernel_rfl)) rfl ?_
        exact ⟨rfl, B2.out.trans ⟨rfl, rfl, rfl, by simp, fun k hk => setRow_other _ _ _ _ (by omega)⟩⟩
      | true =>
        have JX := KJ3.out.num xk
        rw [HvH.out, HoH.out] at JX
        have FX := free_of_heap KJ3.out O
        have KS : Hid ((wc.setCell ⟨w.heap.size + 1 + 1 + 1, O, none⟩ (.int .i64 (v - 1))).heap[w.heap.size + 1 + 1 + 1]? = some (.cells (budA D) 65 (0, 0))) := Lib.hid (by
          rw [← HD.out, ← HoH.out]
          exact set_heap KJ3.out _ _)
        have KZ : Hid ((wc.setCell ⟨w.heap.size + 1 + 1 + 1, O, none⟩ (.int .i64 (v - 1))).heap[w.heap.size + 1 + 1]? = some (.cells budZ 36 (0, 0))) := Lib.hid ((Below.heap_setCell _ _ _ _ (by dsimp only; omega)).trans KJ2.out)
        have BS : Hid (Below w.heap.size w (wc.setCell ⟨w.heap.size + 1 + 1 + 1, O, none⟩ (.int .i64 (v - 1)))) := Lib.hid (B2.out.trans ((Below.refl _ _).setCell (by dsimp only; omega) _))
        go_upto_region 9 with fail
        generalize wc.setCell ⟨w.heap.size + 1 + 1 + 1, O, none⟩ (.int .i64 (v - 1)) = w9 at KS KZ BS ⊢
        have KZ9 := KZ.out
        have b9 := cell_of_heap KS.out 0 rfl
        have b9b := cell_of_heap KS.out 1 rfl
        have b9c := cell_of_heap KS.out 2 rfl
        have b9d := cell_of_heap KS.out 3 rfl
        have b9e := cell_of_heap KS.out 4 rfl
        have b9f := cell_of_heap KS.out 5 rfl
        have b9g := cell_of_heap KS.out 6 rfl
        go_wp2_with (refine wpList_store_row rfl 36 (.tmp 4) (.tmp 52) rfl (w.heap.size + 1 + 1) #[.int .i64 D.stops, .int .i64 D.cells, .int .i64 D.mutes, .int .i64 D.muteMost, .int .i64 D.lifts, .int .i64 D.liftMost, .int .i64 D.steps] rfl rfl 36 budZ KZ9 (by kernel_rfl) rfl (by kernel_rfl) ?_)
        refine bodyPost_ret (v := .tuple #[.agg #[.int .i64 D.stops, .int .i64 D.cells, .int .i64 D.mutes, .int .i64 D.muteMost, .int .i64 D.lifts, .int .i64 D.liftMost, .int .i64 D.steps], .int .i64 0]) (results_rowtmp2 (p := 4) (ty := 36) (u := 5) (by kernel_rfl) _ _ (w.heap.size + 1 + 1) 36 #[.int .i64 D.stops, .int .i64 D.cells, .int .i64 D.mutes, .int .i64 D.muteMost, .int .i64 D.lifts, .int .i64 D.liftMost, .int .i64 D.steps] (0, 0) _ rfl (setRow_heap _ _ _ _ _ _ KZ.out) Tryz.underlying36 rfl (by kernel_rfl)) rfl ?_
        exact ⟨rfl, BS.out.trans ⟨rfl, rfl, rfl, by simp, fun k hk => setRow_other _ _ _ _ (by omega)⟩⟩
  · have e4 : (xk == 4) = true := beq_iff_eq.2 k
    have e3 : (xk == 3) = false := beq_eq_false_iff_ne.2 (by omega)
    clear k hk0
    go_enter Tryz.func11, Tryz.ntmps11
    go_upto_region 4 with fail
    rw [← HW.out]
    have q0 := cell_of_heap I1.out 0 rfl
    go_wp2_with fail
    go_at_call 36; refine (HN.out _ _).mono ?_; rintro e w1 ⟨rfl, b1⟩
    have B1 := Lib.hid (BW.out.trans (b1.mono BW.out.size))
    have KJ2 := Lib.hid (keep_heap I2.out b1)
    have KJ1 := Lib.hid (keep_heap I1.out b1)
    have KJ0 := Lib.hid (I0.out.keep b1)
    have KJ3 := Lib.hid (I3.out.keep b1)
    have BQ := Lib.hid (b1.size)
    clear b1 q0
    have q0 := cell_of_heap KJ1.out 0 rfl
    have q2 := cell_of_heap KJ1.out 2 rfl
    obtain ⟨p0, p1, p2, p3, p4, p5, p6⟩ := KJ0.out.cells
    have J := KJ3.out.num xk
    rw [HvH.out, HoH.out] at J
    go_upto_region 6 with fail
    have hz1 := HZ.out
    have hs1 := BQ.out
    have lw : w.heap.size < w1.heap.size := by omega
    have lw1 : w.heap.size + 1 < w1.heap.size := by omega
    have lw3 : w.heap.size + 1 + 1 + 1 < w1.heap.size := by omega
    clear hz1 hs1
    go_cut [45] (fun v45 wr => v45 = .bool (!z) ∧ Hid (Below w1.heap.size w1 wr))
    case first =>
      go_region_held3 (fun w' => w'.cell? ⟨w.heap.size, 0, none⟩ = some (.int .i64 b.stops) ∧ w'.cell? ⟨w.heap.size, 1, none⟩ = some (.int .i64 b.cells) ∧ w'.cell? ⟨w.heap.size, 2, none⟩ = some (.int .i64 b.mutes) ∧ w'.cell? ⟨w.heap.size, 3, none⟩ = some (.int .i64 b.muteMost) ∧ w'.cell? ⟨w.heap.size, 4, none⟩ = some (.int .i64 b.lifts) ∧ w'.cell? ⟨w.heap.size, 5, none⟩ = some (.int .i64 b.liftMost) ∧ w'.cell? ⟨w.heap.size, 6, none⟩ = some (.int .i64 b.steps) ∧ w'.cell? ⟨w.heap.size + 1, 0, none⟩ = some (.int .i64 xk) ∧ w'.cell? ⟨w.heap.size + 1, 2, none⟩ = some (.int .i64 xn) ∧ w'.cell? ⟨w.heap.size + 1 + 1 + 1, O, none⟩ = some (.int .i64 v)) (go_keep)
        (first | ((go_at_call 40; refine (HL.out _).mono ?_; rintro e w5 ⟨rfl, b5⟩; have BX : Below w1.heap.size w1 w5 := (show Below w1.heap.size w1 w1.drew from below_drewN _ _ 1).trans b5; have s0 := (BX.cell (p := ⟨w.heap.size, 0, none⟩) lw).trans p0; have s1 := (BX.cell (p := ⟨w.heap.size, 1, none⟩) lw).trans p1; have s2 := (BX.cell (p := ⟨w.heap.size, 2, none⟩) lw).trans p2; have s3 := (BX.cell (p := ⟨w.heap.size, 3, none⟩) lw).trans p3; have s4 := (BX.cell (p := ⟨w.heap.size, 4, none⟩) lw).trans p4; have s5 := (BX.cell (p := ⟨w.heap.size, 5, none⟩) lw).trans p5; have s6 := (BX.cell (p := ⟨w.heap.size, 6, none⟩) lw).trans p6; have t0 := (BX.cell (p := ⟨w.heap.size + 1, 0, none⟩) lw1).trans q0; have t2 := (BX.cell (p := ⟨w.heap.size + 1, 2, none⟩) lw1).trans q2; have tx := (BX.cell (p := ⟨w.heap.size + 1 + 1 + 1, O, none⟩) lw3).trans J; clear b5)) | ((go_at_call 35; refine (HB.out xn 1 LI _).mono ?_; rintro e w6 ⟨rfl, rfl⟩; rw [HZ2.out])))
      all_goals go_wp2_with fail
      all_goals
        go_meet
        exact ⟨rfl, Lib.hid BX⟩
    case rest =>
      obtain ⟨rfl, HBC⟩ := hcut
      have b2 := HBC.out
      have B2 := Lib.hid (B1.out.trans (b2.mono B1.out.size))
      have KJ2 := Lib.hid (keep_heap KJ2.out b2)
      have KJ0 := Lib.hid (KJ0.out.keep b2)
      have KJ3 := Lib.hid (KJ3.out.keep b2)
      clear b2 p0 p1 p2 p3 p4 p5 p6 q0 q2 J lw lw1 lw3
      cases z with
      | false =>
        have JZ := KJ2.out
        obtain ⟨p0, p1, p2, p3, p4, p5, p6⟩ := KJ0.out.cells
        go_wp2_with (refine wpList_store_row rfl 36 (.tmp 4) (.tmp 46) rfl (w.heap.size + 1 + 1) #[.int .i64 b.stops, .int .i64 b.cells, .int .i64 b.mutes, .int .i64 b.muteMost, .int .i64 b.lifts, .int .i64 b.liftMost, .int .i64 b.steps] rfl rfl 36 budZ JZ (by kernel_rfl) rfl (by kernel_rfl) ?_)
        refine bodyPost_ret (v := .tuple #[.agg #[.int .i64 b.stops, .int .i64 b.cells, .int .i64 b.mutes, .int .i64 b.muteMost, .int .i64 b.lifts, .int .i64 b.liftMost, .int .i64 b.steps], .int .i64 26]) (results_rowtmp2 (p := 4) (ty := 36) (u := 5) (by kernel_rfl) _ _ (w.heap.size + 1 + 1) 36 #[.int .i64 b.stops, .int .i64 b.cells, .int .i64 b.mutes, .int .i64 b.muteMost, .int .i64 b.lifts, .int .i64 b.liftMost, .int .i64 b.steps] (0, 0) _ rfl (setRow_heap _ _ _ _ _ _ KJ2.out) Tryz.underlying36 rfl (by kernel_rfl)) rfl ?_
        exact ⟨rfl, B2.out.trans ⟨rfl, rfl, rfl, by simp, fun k hk => setRow_other _ _ _ _ (by omega)⟩⟩
      | true =>
        have JX := KJ3.out.num xk
        rw [HvH.out, HoH.out] at JX
        have FX := free_of_heap KJ3.out O
        have KS : Hid ((wc.setCell ⟨w.heap.size + 1 + 1 + 1, O, none⟩ (.int .i64 (v - 1))).heap[w.heap.size + 1 + 1 + 1]? = some (.cells (budA D) 65 (0, 0))) := Lib.hid (by
          rw [← HD.out, ← HoH.out]
          exact set_heap KJ3.out _ _)
        have KZ : Hid ((wc.setCell ⟨w.heap.size + 1 + 1 + 1, O, none⟩ (.int .i64 (v - 1))).heap[w.heap.size + 1 + 1]? = some (.cells budZ 36 (0, 0))) := Lib.hid ((Below.heap_setCell _ _ _ _ (by dsimp only; omega)).trans KJ2.out)
        have BS : Hid (Below w.heap.size w (wc.setCell ⟨w.heap.size + 1 + 1 + 1, O, none⟩ (.int .i64 (v - 1)))) := Lib.hid (B2.out.trans ((Below.refl _ _).setCell (by dsimp only; omega) _))
        go_upto_region 9 with fail
        generalize wc.setCell ⟨w.heap.size + 1 + 1 + 1, O, none⟩ (.int .i64 (v - 1)) = w9 at KS KZ BS ⊢
        have KZ9 := KZ.out
        have b9 := cell_of_heap KS.out 0 rfl
        have b9b := cell_of_heap KS.out 1 rfl
        have b9c := cell_of_heap KS.out 2 rfl
        have b9d := cell_of_heap KS.out 3 rfl
        have b9e := cell_of_heap KS.out 4 rfl
        have b9f := cell_of_heap KS.out 5 rfl
        have b9g := cell_of_heap KS.out 6 rfl
        go_wp2_with (refine wpList_store_row rfl 36 (.tmp 4) (.tmp 52) rfl (w.heap.size + 1 + 1) #[.int .i64 D.stops, .int .i64 D.cells, .int .i64 D.mutes, .int .i64 D.muteMost, .int .i64 D.lifts, .int .i64 D.liftMost, .int .i64 D.steps] rfl rfl 36 budZ KZ9 (by kernel_rfl) rfl (by kernel_rfl) ?_)
        refine bodyPost_ret (v := .tuple #[.agg #[.int .i64 D.stops, .int .i64 D.cells, .int .i64 D.mutes, .int .i64 D.muteMost, .int .i64 D.lifts, .int .i64 D.liftMost, .int .i64 D.steps], .int .i64 0]) (results_rowtmp2 (p := 4) (ty := 36) (u := 5) (by kernel_rfl) _ _ (w.heap.size + 1 + 1) 36 #[.int .i64 D.stops, .int .i64 D.cells, .int .i64 D.mutes, .int .i64 D.muteMost, .int .i64 D.lifts, .int .i64 D.liftMost, .int .i64 D.steps] (0, 0) _ rfl (setRow_heap _ _ _ _ _ _ KZ.out) Tryz.underlying36 rfl (by kernel_rfl)) rfl ?_
        exact ⟨rfl, BS.out.trans ⟨rfl, rfl, rfl, by simp, fun k hk => setRow_other _ _ _ _ (by omega)⟩⟩
theorem Spend_any (b : Fa.Bud) (x : Fa.Flt) (w : World) (hb : BudN b) :
    Calls Tryz.prog 11 #[.agg (budA b), fltV x] w fun e w' => e = .returned (spendV b (Fa.spend b x)) ∧ Below w.heap.size w w' := by
  obtain ⟨xk, xa, xn⟩ := x
  by_cases h0 : xk = 0
  · subst h0; exact Spend_none0 b xa xn w
  by_cases h : 1 ≤ xk ∧ xk ≤ 5
  · have hv : Fa.num b xk ≤ 9223372036854775807 := by
      obtain ⟨h1, h2, h3, h4, h5, h6, h7⟩ := hb
      unfold Fa.num
      repeat' split
      all_goals omega
    rw [spend_in h]
    by_cases h1 : Fa.num b xk < 1
    · have : badB b ⟨xk, xa, xn⟩ = true := by unfold badB; rw [decide_eq_true h1]; rfl
      rw [if_pos this]
      exact Spend_few b xk xa xn _ _ w h rfl rfl h1
    · by_cases h34 : xk = 3 ∨ xk = 4
      · have e : badB b ⟨xk, xa, xn⟩ = !Fa.within xn 1 (longI b xk) := by
          unfold badB
          rw [decide_eq_false h1]
          rcases h34 with e | e <;> subst e <;> simp
        rw [e]
        have := Spend_long b (Fa.dec b xk) xk xa xn _ _ _ _ w h rfl rfl (by omega) hv h34 rfl rfl (budA_dec b h)
        cases hz : Fa.within xn 1 (longI b xk) <;> (rw [hz] at this; exact this)
      · have e : badB b ⟨xk, xa, xn⟩ = false := by
          unfold badB
          rw [decide_eq_false h1, decide_eq_false (fun e => h34 (.inl e)), decide_eq_false (fun e => h34 (.inr e))]; rfl
        rw [e]
        exact Spend_short b (Fa.dec b xk) xk xa xn _ _ w h rfl rfl (by omega) hv (fun e => h34 (.inl e)) (fun e => h34 (.inr e)) (budA_dec b h)
  · rw [spend_out h0 h]; exact Spend_out b xk xa xn w h0 h
end Go.Proofs.YtcdfmgobokjcnaaGreatDoor
