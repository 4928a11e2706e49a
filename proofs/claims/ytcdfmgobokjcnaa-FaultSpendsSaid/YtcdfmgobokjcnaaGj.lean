/- Structs of numbers compared; taquinref29.Same. -/
import Derived.Test.YtcdfmgobokjcnaaGi
import Derived.Laws.StructEq
import Derived.ChangeKeysEq
namespace Go.Proofs.Ytcdfmgobokjcnaa
set_option linter.unusedSimpArgs false
set_option linter.unusedVariables false
open Go.RowKit Go.Sort

/-- Fields that are numbers, one cell after the other. -/
def fieldsI (ti : TypeId) (j n : Nat) : List (Bool × TypeId × Nat) := (List.range n).map fun i => (false, ti, j + i)
theorem fieldsI_succ (ti : TypeId) (j n : Nat) : fieldsI ti j (n + 1) = (false, ti, j) :: fieldsI ti (j + 1) n := by
  unfold fieldsI
  rw [List.range_succ_eq_map, List.map_cons, List.map_map]
  congr 1
  apply List.map_congr_left
  intro i _
  simp only [Function.comp_apply, Nat.succ_eq_add_one]
  rw [show j + (i + 1) = j + 1 + i by omega]
theorem eq_ints {P : Program} {d : Nat} {ti : TypeId} (hs : P.underlying ti = some (.int .i64)) (hk : P.plainKey ti = true) (xs ys : Array Value) (w : World) :
    ∀ (al bl : List Int) (fs : List Field) (j : Nat), al.length = bl.length → fs.map (fun f => (f.name == "_", f.type, f.offset)) = fieldsI ti j al.length →
      (∀ i, i < al.length → xs[j + i]? = some (.int .i64 (al.getD i 0)) ∧ ys[j + i]? = some (.int .i64 (bl.getD i 0))) → (Op.eqFields (d + 1) xs ys fs).run P w = .ok (decide (al = bl)) w
  | [], [], fs, j, _, hf, _ => by
    simp [fieldsI] at hf
    subst hf
    simp [Op.eqFields]
  | a :: al, b :: bl, fs, j, hl, hf, hx => by
    rw [List.length_cons, fieldsI_succ] at hf
    cases fs with
    | nil => cases hf
    | cons f fs =>
      rw [List.map_cons] at hf
      injection hf with h1 h2
      simp at h1
      obtain ⟨n1, n2, n3⟩ := h1
      obtain ⟨x0, y0⟩ := hx 0 (by simp)
      simp at x0 y0
      have q1 : (part ti xs j).run P w = .ok (.int .i64 a) w := run_part_plain w hk x0
      have q2 : (part ti ys j).run P w = .ok (.int .i64 b) w := run_part_plain w hk y0
      have r1 := run_equalIn_int (P := P) w d ti .i64 .i64 a b hs
      have ih := eq_ints (d := d) hs hk xs ys w al bl fs (j + 1) (by simpa using hl) h2 (fun i hi => by
        have := hx (i + 1) (by simpa using hi)
        rw [show j + (i + 1) = j + 1 + i by omega] at this
        simpa using this)
      simp only [Op.eqFields, n1, n2, n3, ne_eq, not_false_eq_true, if_true, Sem.run_bind, q1, q2, r1, Result.andThen_ok]
      by_cases hab : a = b
      · subst hab
        simp [ih]
      · simp [hab]
  | [], b :: bl, _, _, h, _, _ => by cases h
  | a :: al, [], _, _, h, _, _ => by cases h
def fltL (x : Fa.Flt) : List Int := [x.kind, x.a, x.n]
def budL (b : Fa.Bud) : List Int := [b.stops, b.cells, b.mutes, b.muteMost, b.lifts, b.liftMost, b.steps]
theorem fltL_eq (x y : Fa.Flt) : decide (fltL x = fltL y) = decide (x = y) := by
  congr 1
  obtain ⟨a, b, c⟩ := x
  obtain ⟨d, e, f⟩ := y
  simp [fltL]
theorem budL_eq (x y : Fa.Bud) : decide (budL x = budL y) = decide (x = y) := by
  congr 1
  obtain ⟨a, b, c, d, e, f, g⟩ := x
  obtain ⟨a', b', c', d', e', f', g'⟩ := y
  simp [budL]
set_option maxRecDepth 100000 in
theorem flt_in (x y : Fa.Flt) (w : World) : (Op.equalIn 10000 32 (.agg #[.int .i64 x.kind, .int .i64 x.a, .int .i64 x.n]) (.agg #[.int .i64 y.kind, .int .i64 y.a, .int .i64 y.n])).run Try.prog w = .ok (decide (x = y)) w := by
  have hu : Try.prog.underlying 32 = some (.struct (Try.prog.fieldsOf 32)) := by kernel_rfl
  have hp : Try.prog.stoodInHeld 32 = false := by kernel_rfl
  have hk : Try.prog.plainKey 3 = true := by kernel_rfl
  have hm : (Try.prog.fieldsOf 32).toList.map (fun f => (f.name == "_", f.type, f.offset)) = fieldsI 3 0 3 := by kernel_rfl
  rw [run_equalIn_agg _ _ _ _ _ hu hp, eq_ints Try.underlying3 hk _ _ w (fltL x) (fltL y) _ 0 rfl hm (fun i hi => by
    have : i = 0 ∨ i = 1 ∨ i = 2 := by simp [fltL] at hi; omega
    rcases this with rfl | rfl | rfl <;> exact ⟨rfl, rfl⟩), fltL_eq]
theorem flt_neq (x y : Fa.Flt) (w : World) : (binOp .neq 32 (.agg #[.int .i64 x.kind, .int .i64 x.a, .int .i64 x.n]) (.agg #[.int .i64 y.kind, .int .i64 y.a, .int .i64 y.n])).run Try.prog w = .ok (.bool (!decide (x = y))) w := by
  rw [run_neq_struct, flt_in]; rfl
theorem flt_eql (x y : Fa.Flt) (w : World) : (binOp .eql 32 (.agg #[.int .i64 x.kind, .int .i64 x.a, .int .i64 x.n]) (.agg #[.int .i64 y.kind, .int .i64 y.a, .int .i64 y.n])).run Try.prog w = .ok (.bool (decide (x = y))) w := by
  rw [run_eql_struct, flt_in]; rfl
set_option maxRecDepth 100000 in
theorem bud_in (x y : Fa.Bud) (w : World) : (Op.equalIn 10000 23 (.agg (budA x)) (.agg (budA y))).run Try.prog w = .ok (decide (x = y)) w := by
  have hu : Try.prog.underlying 23 = some (.struct (Try.prog.fieldsOf 23)) := by kernel_rfl
  have hp : Try.prog.stoodInHeld 23 = false := by kernel_rfl
  have hk : Try.prog.plainKey 3 = true := by kernel_rfl
  have hm : (Try.prog.fieldsOf 23).toList.map (fun f => (f.name == "_", f.type, f.offset)) = fieldsI 3 0 7 := by kernel_rfl
  rw [run_equalIn_agg _ _ _ _ _ hu hp, eq_ints Try.underlying3 hk _ _ w (budL x) (budL y) _ 0 rfl hm (fun i hi => by
    have : i = 0 ∨ i = 1 ∨ i = 2 ∨ i = 3 ∨ i = 4 ∨ i = 5 ∨ i = 6 := by simp [budL] at hi; omega
    rcases this with rfl | rfl | rfl | rfl | rfl | rfl | rfl <;> exact ⟨rfl, rfl⟩), budL_eq]
theorem bud_neq (x y : Fa.Bud) (w : World) : (binOp .neq 23 (.agg #[.int .i64 x.stops, .int .i64 x.cells, .int .i64 x.mutes, .int .i64 x.muteMost, .int .i64 x.lifts, .int .i64 x.liftMost, .int .i64 x.steps]) (.agg #[.int .i64 y.stops, .int .i64 y.cells, .int .i64 y.mutes, .int .i64 y.muteMost, .int .i64 y.lifts, .int .i64 y.liftMost, .int .i64 y.steps])).run Try.prog w = .ok (.bool (!decide (x = y))) w := by
  rw [run_neq_struct, ← budA, ← budA, bud_in]; rfl
theorem bud_eql (x y : Fa.Bud) (w : World) : (binOp .eql 23 (.agg #[.int .i64 x.stops, .int .i64 x.cells, .int .i64 x.mutes, .int .i64 x.muteMost, .int .i64 x.lifts, .int .i64 x.liftMost, .int .i64 x.steps]) (.agg #[.int .i64 y.stops, .int .i64 y.cells, .int .i64 y.mutes, .int .i64 y.muteMost, .int .i64 y.lifts, .int .i64 y.liftMost, .int .i64 y.steps])).run Try.prog w = .ok (.bool (decide (x = y))) w := by
  rw [run_eql_struct, ← budA, ← budA, bud_in]; rfl
set_option maxRecDepth 100000 in
set_option maxHeartbeats 8000000 in
theorem sameF_any (v1 v2 : Value) (l m : List Fa.Flt) (w : World) (h1 : FtV w v1 l) (h2 : FtV w v2 m) :
    Calls Try.prog 13 #[v1, v2] w fun e w' => e = .returned (.bool (decide (l = m))) ∧ Below w.heap.size w w' := by
  obtain ⟨a1, c1, rfl, hm1⟩ := h1.form
  obtain ⟨a2, c2, rfl, hm2⟩ := h2.form
  have H1 := Lib.hid h1
  have H2 := Lib.hid h2
  obtain ⟨R, hR⟩ : ∃ R, decide (l = m) = R := ⟨_, rfl⟩
  have HL : Hid (l.length ≠ m.length → R = false) := Lib.hid (fun h => by rw [← hR]; exact decide_eq_false (fun e => h (by rw [e])))
  have HR0 : Hid (decide (l.drop 0 = m.drop 0) = R) := Lib.hid hR
  rw [hR]
  obtain ⟨n1, e1⟩ : ∃ n, l.length = n := ⟨_, rfl⟩
  obtain ⟨n2, e2⟩ : ∃ n, m.length = n := ⟨_, rfl⟩
  rw [e1] at hm1 H1 HL ⊢
  rw [e2] at hm2 H2 HL ⊢
  have E1 := Lib.hid e1
  have E2 := Lib.hid e2
  clear h1 h2 hR e1 e2
  by_cases hn : n1 = n2
  · subst hn
    go_enter Try.func13, Try.ntmps13
    go_wp2_with fail
    go_loopw [5] (fun iv wr => ∃ k : Nat, k ≤ n1 ∧ iv = .int .i64 k ∧ Hid (decide (l.drop k = m.drop k) = R) ∧ Hid (Below w.heap.size w wr)) (fun iv _ => n1 - (intOf iv).toNat)
    case atStart => exact ⟨0, by omega, rfl, HR0, Lib.hid (Below.refl _ _)⟩
    case round =>
      obtain ⟨k, hk, rfl, HK, HB⟩ := hrel
      by_cases hkn : k < n1
      · have k1 : k < l.length := by rw [E1.out]; exact hkn
        have k2 : k < m.length := by rw [E2.out]; exact hkn
        obtain ⟨b1, o1, rfl, hb1, x0, x1, x2⟩ := (H1.out.keep HB.out).cell k k1
        obtain ⟨b2, o2, rfl, hb2, y0, y1, y2⟩ := (H2.out.keep HB.out).cell k k2
        have d1 := List.drop_eq_getElem_cons k1
        have d2 := List.drop_eq_getElem_cons k2
        obtain ⟨X, hX⟩ : ∃ X, l[k] = X := ⟨_, rfl⟩
        obtain ⟨Y, hY⟩ : ∃ X, m[k] = X := ⟨_, rfl⟩
        rw [hX] at x0 x1 x2 d1
        rw [hY] at y0 y1 y2 d2
        have HK2 := HK.out
        rw [d1, d2] at HK2
        have HKH := Lib.hid HK2
        have hnq := fun W => flt_neq X Y W
        have i0 : (0 : Int) ≤ (k : Int) := by omega
        have i1 : (k : Int) < (n1 : Int) := by omega
        obtain ⟨z, hz⟩ : ∃ z, decide (X = Y) = z := ⟨_, rfl⟩
        have HZ := Lib.hid hz
        rw [hz] at hnq
        clear hX hY d1 d2 HK2 hz k1 k2
        go_upto_region 6 with fail
        go_quiet (fail)
        generalize hw2 : wr.drewN nq = w2
        have HB2 : Hid (Below w.heap.size w w2) := Lib.hid (by rw [← hw2]; exact HB.out.trans ((below_drewN _ _ _).mono HB.out.size))
        clear hw2 x0 x1 x2 y0 y1 y2 hnq
        cases z with
        | true =>
          have HN : Hid (decide (l.drop (k + 1) = m.drop (k + 1)) = R) := Lib.hid (by
            rw [← HKH.out]
            have := of_decide_eq_true HZ.out
            subst this
            simp)
          go_wp2_with fail
          go_roundw
          case rel => exact ⟨k + 1, by omega, by go_num, HN, HB2⟩
          case measure => simp [intOf]; omega
        | false =>
          have HN : Hid (R = false) := Lib.hid (by
            rw [← HKH.out]
            have := of_decide_eq_false HZ.out
            simp [this])
          go_wp2_with fail
          go_ret
          exact ⟨by rw [HN.out]; rfl, HB2.out⟩
      · have HN : Hid (R = true) := Lib.hid (by
          rw [← HK.out, show l.drop k = [] from List.drop_eq_nil_of_le (by rw [E1.out]; omega), show m.drop k = [] from List.drop_eq_nil_of_le (by rw [E2.out]; omega)]; rfl)
        go_wp2_with fail
        go_ret
        exact ⟨by rw [HN.out]; rfl, HB.out⟩
  · have HR := Lib.hid (HL.out hn)
    have e1 : ((n1 : Int) != (n2 : Int)) = true := by simp; omega
    clear hn
    go_enter Try.func13, Try.ntmps13
    go_wp2_with fail
    go_ret
    exact ⟨by rw [HR.out]; rfl, Below.refl _ _⟩
end Go.Proofs.Ytcdfmgobokjcnaa
