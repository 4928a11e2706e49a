/- Parts Fno of this claim, laid one behind the other: walks and the plain laws behind them; each contract states its own conditions. -/
import Derived.Test.YtcdfmgobokjcnaaGreatZV
import Derived.Test.YtcdfmgobokjcnaaGreatYG
import Derived.Test.YtcdfmgobokjcnaaGreatYI
import Derived.Test.YtcdfmgobokjcnaaGreatYJ
import Derived.Test.YtcdfmgobokjcnaaGreatZJ
/- The walk of FaultNone. -/
namespace Go.Proofs.YtcdfmgobokjcnaaGreat
set_option linter.unusedSimpArgs false
set_option linter.unusedVariables false
open Go.RowKit Go.Sort

/-- The budget without any number but the delays. -/
def noneB (b : Fa.Bud) : Fa.Bud := ⟨0, 0, 0, b.muteMost, 0, b.liftMost, 0⟩
theorem noneB_n {b : Fa.Bud} (h : BudN b) : BudN (noneB b) := by
  have z : (-9223372036854775808 : Int) ≤ 0 ∧ (0 : Int) ≤ 9223372036854775807 := by decide
  exact ⟨z, z, z, h.h4, z, h.h6, z⟩
theorem noneB_s (b : Fa.Bud) : BudS (noneB b) := by
  have z : (0 : Int) ≤ 0 ∧ (0 : Int) ≤ 1000000 := by decide
  exact ⟨z, z, z, z, z⟩
theorem is_of_heap2 {w : World} {g n c : Nat} {l : List Int} {t : TypeId} {fr : Nat × Nat} (h : w.heap[g]? = some (.cells (ints l).toArray t fr)) (hn : n = l.length) (hm : l.length ≤ maxLen) : Is w (.slice (some ⟨g, 0, none⟩) n c) l := by
  subst hn
  refine ⟨_, c, by rw [ints_len], by rwa [ints_len], (fun h => by cases h), fun i hi => ⟨g, 0, rfl, ?_⟩⟩
  rw [Nat.zero_add]
  exact cell_of_heap h i (by rw [List.getElem?_toArray, List.getElem?_eq_getElem hi])
theorem noneB_left (b : Fa.Bud) : Fa.left (noneB b) = 0 := rfl
set_option maxRecDepth 100000 in
set_option maxHeartbeats 32000000 in
theorem FaultNone_any (s : Si.Site) (kv ov zv av hv bv : Value) (st : Bd.State) (shv rov pev dev skv : Value) (b : Fa.Bud) (cv : Value) (cells : List Int) (w : World)
    (h : SiV w kv ov zv av hv bv s) (ht : StV w shv rov pev dev skv st) (hn : ∀ r ∈ st.robots, RobN r) (hb : BudN b) (hc : Is w cv cells) :
    Calls Tryz.prog 4 #[siV s kv ov zv av hv bv, stV st shv rov pev dev skv, .agg (budA b), cv] w fun e w' => e = .returned (.bool true) ∧ Below w.heap.size w w' := by
  have HSM := Lib.hid (fun W => small_any W)
  have HFI := Lib.hid (fun W (hW : Below w.heap.size w W) => fits_any s kv ov zv av hv bv st shv rov pev dev skv cv cells W (h.keep hW) (ht.keep hW) hn (hc.keep hW))
  have HLI := Lib.hid (fun W => light_any b W)
  have HL1 := Lib.hid (fun W (hW : Below w.heap.size w W) (hf : FitsP s st cells) (hl : lightB b = true) => List_any s.floor kv ov zv av hv bv st shv rov pev dev skv (noneB b) cv cells W (h.fl.keep hW) (FB.of hf.right.1.fl) (by have := hf.few.kl; omega) (ht.keep hW) hf.few4.sts
    (noneB_n hb) (hc.keep hW) (by have := hl; unfold lightB at this; rw [Bool.and_eq_true, Bool.and_eq_true, decide_eq_true_eq] at this; show b.muteMost ≤ 1000; omega) (by have := hl; unfold lightB at this; rw [Bool.and_eq_true, Bool.and_eq_true, decide_eq_true_eq, decide_eq_true_eq] at this; show b.liftMost ≤ 1000; omega) (by have := hf.cl; omega))
  have HL2 := Lib.hid (fun W (hW : Below w.heap.size w W) (hf : FitsP s st cells) (hl : lightB b = true) => List_any s.floor kv ov zv av hv bv st shv rov pev dev skv b (.slice none 0 0) [] W (h.fl.keep hW) (FB.of hf.right.1.fl) (by have := hf.few.kl; omega) (ht.keep hW) hf.few4.sts
    hb (Sl.nil W) (by have := hl; unfold lightB at this; rw [Bool.and_eq_true, Bool.and_eq_true, decide_eq_true_eq] at this; omega) (by have := hl; unfold lightB at this; rw [Bool.and_eq_true, Bool.and_eq_true, decide_eq_true_eq, decide_eq_true_eq] at this; omega) (by simp))
  have HLF := Lib.hid (fun W => Left_any (noneB b) W (noneB_s b))
  have HCN := Lib.hid (fun v W (hv : FtV W v [Fa.none3]) => counts_any v [Fa.none3] W hv (by decide))
  have HSA := Lib.hid (fun va vb xs ys W ha hb => rSame_any va vb xs ys W ha hb)
  rw [noneB_left] at HLF
  unfold LstPost at HL1 HL2
  unfold CntPost at HCN
  unfold siF at HL1 HL2
  unfold siV at HFI ⊢
  unfold stV at HFI HL1 HL2 ⊢
  unfold budA at HLI HL1 HL2 HLF ⊢
  unfold noneB at HL1 HLF
  dsimp only at HL1 HLF
  obtain ⟨LB, hLB⟩ : ∃ B, lightB b = B := ⟨_, rfl⟩
  rw [hLB] at HLI
  have HLB := Lib.hid hLB
  obtain ⟨w2, hw2⟩ : ∃ W, W = ((w.alloc (.cells #[.int .i64 s.floor.w, .int .i64 s.floor.h, .int .i64 s.floor.d, kv, ov, zv, av, hv, bv] 30)).alloc (.cells #[.int .i64 st.tick, shv, rov, pev, dev, skv] 34)).alloc (.cells #[.int .i64 b.stops, .int .i64 b.cells, .int .i64 b.mutes, .int .i64 b.muteMost, .int .i64 b.lifts, .int .i64 b.liftMost, .int .i64 b.steps] 36) := ⟨_, rfl⟩
  have HA := al3 w (.cells #[.int .i64 s.floor.w, .int .i64 s.floor.h, .int .i64 s.floor.d, kv, ov, zv, av, hv, bv] 30) (.cells #[.int .i64 st.tick, shv, rov, pev, dev, skv] 34) (.cells #[.int .i64 b.stops, .int .i64 b.cells, .int .i64 b.mutes, .int .i64 b.muteMost, .int .i64 b.lifts, .int .i64 b.liftMost, .int .i64 b.steps] 36)
  rw [← hw2] at HA
  have IS := Lib.hid HA.1
  have IT := Lib.hid HA.2.1
  have IB := Lib.hid HA.2.2.1
  have B2 := Lib.hid HA.2.2.2.1
  have HW2 := Lib.hid hw2
  have CS : Hid (∀ W, Below w2.heap.size w2 W → W.heap[w.heap.size]? = some (.cells #[.int .i64 s.floor.w, .int .i64 s.floor.h, .int .i64 s.floor.d, kv, ov, zv, av, hv, bv] 30 (0, 0))) := Lib.hid (fun W hW => keep_heap IS.out hW)
  have CU : Hid (∀ W, Below w2.heap.size w2 W → W.heap[w.heap.size + 1]? = some (.cells #[.int .i64 st.tick, shv, rov, pev, dev, skv] 34 (0, 0))) := Lib.hid (fun W hW => keep_heap IT.out hW)
  have CB : Hid (∀ W, Below w2.heap.size w2 W → W.heap[w.heap.size + 1 + 1]? = some (.cells #[.int .i64 b.stops, .int .i64 b.cells, .int .i64 b.mutes, .int .i64 b.muteMost, .int .i64 b.lifts, .int .i64 b.liftMost, .int .i64 b.steps] 36 (0, 0))) := Lib.hid (fun W hW => keep_heap IB.out hW)
  clear h ht hn hb hc hLB hw2 HA
  go_enter Tryz.func4, Tryz.ntmps4
  go_upto_region 1 with fail
  rw [← HW2.out]
  go_wp2_with fail
  go_at_call 6; refine (HSM.out _).mono ?_; rintro e w3 ⟨rfl, b3⟩
  have U3 := Lib.hid b3
  have B3 := Lib.hid (B2.out.trans (b3.mono B2.out.size))
  clear b3
  have x0 : w3.cell? ⟨w.heap.size, 0, none⟩ = some (.int .i64 s.floor.w) := cell_of_heap (CS.out _ U3.out) 0 rfl
  have x1 : w3.cell? ⟨w.heap.size, 1, none⟩ = some (.int .i64 s.floor.h) := cell_of_heap (CS.out _ U3.out) 1 rfl
  have x2 : w3.cell? ⟨w.heap.size, 2, none⟩ = some (.int .i64 s.floor.d) := cell_of_heap (CS.out _ U3.out) 2 rfl
  have x3 : w3.cell? ⟨w.heap.size, 3, none⟩ = some (kv) := cell_of_heap (CS.out _ U3.out) 3 rfl
  have x4 : w3.cell? ⟨w.heap.size, 4, none⟩ = some (ov) := cell_of_heap (CS.out _ U3.out) 4 rfl
  have x5 : w3.cell? ⟨w.heap.size, 5, none⟩ = some (zv) := cell_of_heap (CS.out _ U3.out) 5 rfl
  have x6 : w3.cell? ⟨w.heap.size, 6, none⟩ = some (av) := cell_of_heap (CS.out _ U3.out) 6 rfl
  have x7 : w3.cell? ⟨w.heap.size, 7, none⟩ = some (hv) := cell_of_heap (CS.out _ U3.out) 7 rfl
  have x8 : w3.cell? ⟨w.heap.size, 8, none⟩ = some (bv) := cell_of_heap (CS.out _ U3.out) 8 rfl
  have t0 : w3.cell? ⟨w.heap.size + 1, 0, none⟩ = some (.int .i64 st.tick) := cell_of_heap (CU.out _ U3.out) 0 rfl
  have t1 : w3.cell? ⟨w.heap.size + 1, 1, none⟩ = some (shv) := cell_of_heap (CU.out _ U3.out) 1 rfl
  have t2 : w3.cell? ⟨w.heap.size + 1, 2, none⟩ = some (rov) := cell_of_heap (CU.out _ U3.out) 2 rfl
  have t3 : w3.cell? ⟨w.heap.size + 1, 3, none⟩ = some (pev) := cell_of_heap (CU.out _ U3.out) 3 rfl
  have t4 : w3.cell? ⟨w.heap.size + 1, 4, none⟩ = some (dev) := cell_of_heap (CU.out _ U3.out) 4 rfl
  have t5 : w3.cell? ⟨w.heap.size + 1, 5, none⟩ = some (skv) := cell_of_heap (CU.out _ U3.out) 5 rfl
  go_wp2_with fail
  go_at_call 7; refine (HFI.out _ B3.out).mono ?_; rintro e w4 ⟨⟨rb, rfl, hrb⟩, b4⟩
  have U4 := Lib.hid (U3.out.trans (b4.mono U3.out.size))
  have B4 := Lib.hid (B3.out.trans (b4.mono B3.out.size))
  have HRB := Lib.hid hrb
  clear b4 hrb
  clear x0 x1 x2 x3 x4 x5 x6 x7 x8 t0 t1 t2 t3 t4 t5
  cases rb with
  | false =>
    go_wp2_with fail
    go_ret
    exact ⟨rfl, B4.out⟩
  | true =>
    have HF := Lib.hid (HRB.out rfl)
    clear HRB
    have u0 : w4.cell? ⟨w.heap.size + 1 + 1, 0, none⟩ = some (.int .i64 b.stops) := cell_of_heap (CB.out _ U4.out) 0 rfl
    have u1 : w4.cell? ⟨w.heap.size + 1 + 1, 1, none⟩ = some (.int .i64 b.cells) := cell_of_heap (CB.out _ U4.out) 1 rfl
    have u2 : w4.cell? ⟨w.heap.size + 1 + 1, 2, none⟩ = some (.int .i64 b.mutes) := cell_of_heap (CB.out _ U4.out) 2 rfl
    have u3 : w4.cell? ⟨w.heap.size + 1 + 1, 3, none⟩ = some (.int .i64 b.muteMost) := cell_of_heap (CB.out _ U4.out) 3 rfl
    have u4 : w4.cell? ⟨w.heap.size + 1 + 1, 4, none⟩ = some (.int .i64 b.lifts) := cell_of_heap (CB.out _ U4.out) 4 rfl
    have u5 : w4.cell? ⟨w.heap.size + 1 + 1, 5, none⟩ = some (.int .i64 b.liftMost) := cell_of_heap (CB.out _ U4.out) 5 rfl
    have u6 : w4.cell? ⟨w.heap.size + 1 + 1, 6, none⟩ = some (.int .i64 b.steps) := cell_of_heap (CB.out _ U4.out) 6 rfl
    go_wp2_with fail
    go_at_call 8; refine (HLI.out _).mono ?_; rintro e w5 ⟨rfl, b5⟩
    have U5 := Lib.hid (U4.out.trans (b5.mono U4.out.size))
    have B5 := Lib.hid (B4.out.trans (b5.mono B4.out.size))
    clear b5
    clear u0 u1 u2 u3 u4 u5 u6
    cases LB with
    | false =>
      go_wp2_with fail
      go_ret
      exact ⟨rfl, B5.out⟩
    | true =>
      have u0 : w5.cell? ⟨w.heap.size + 1 + 1, 0, none⟩ = some (.int .i64 b.stops) := cell_of_heap (CB.out _ U5.out) 0 rfl
      have u1 : w5.cell? ⟨w.heap.size + 1 + 1, 1, none⟩ = some (.int .i64 b.cells) := cell_of_heap (CB.out _ U5.out) 1 rfl
      have u2 : w5.cell? ⟨w.heap.size + 1 + 1, 2, none⟩ = some (.int .i64 b.mutes) := cell_of_heap (CB.out _ U5.out) 2 rfl
      have u3 : w5.cell? ⟨w.heap.size + 1 + 1, 3, none⟩ = some (.int .i64 b.muteMost) := cell_of_heap (CB.out _ U5.out) 3 rfl
      have u4 : w5.cell? ⟨w.heap.size + 1 + 1, 4, none⟩ = some (.int .i64 b.lifts) := cell_of_heap (CB.out _ U5.out) 4 rfl
      have u5 : w5.cell? ⟨w.heap.size + 1 + 1, 5, none⟩ = some (.int .i64 b.liftMost) := cell_of_heap (CB.out _ U5.out) 5 rfl
      have u6 : w5.cell? ⟨w.heap.size + 1 + 1, 6, none⟩ = some (.int .i64 b.steps) := cell_of_heap (CB.out _ U5.out) 6 rfl
      obtain ⟨w6, hw6⟩ : ∃ W, W = w5.alloc (.cells #[.int .i64 0, .int .i64 0, .int .i64 0, .int .i64 b.muteMost, .int .i64 0, .int .i64 b.liftMost, .int .i64 0] 36) := ⟨_, rfl⟩
      have H6 := al1 w5 (.cells #[.int .i64 0, .int .i64 0, .int .i64 0, .int .i64 b.muteMost, .int .i64 0, .int .i64 b.liftMost, .int .i64 0] 36)
      rw [← hw6] at H6
      have IN := Lib.hid H6.1
      have U6 := Lib.hid (U5.out.trans (H6.2.1.mono U5.out.size))
      have B6 := Lib.hid (B5.out.trans (H6.2.1.mono B5.out.size))
      have HW6 := Lib.hid hw6
      have CN : Hid (∀ W, Below w6.heap.size w6 W → W.heap[w5.heap.size]? = some (.cells #[.int .i64 0, .int .i64 0, .int .i64 0, .int .i64 b.muteMost, .int .i64 0, .int .i64 b.liftMost, .int .i64 0] 36 (0, 0))) := Lib.hid (fun W hW => keep_heap IN.out hW)
      have V6 := Lib.hid (Below.refl w6.heap.size w6)
      clear hw6 H6
      go_upto_region 5 with fail
      rw [← HW6.out]
      clear u0 u1 u2 u3 u4 u5 u6
      have x0 : w6.cell? ⟨w.heap.size, 0, none⟩ = some (.int .i64 s.floor.w) := cell_of_heap (CS.out _ U6.out) 0 rfl
      have x1 : w6.cell? ⟨w.heap.size, 1, none⟩ = some (.int .i64 s.floor.h) := cell_of_heap (CS.out _ U6.out) 1 rfl
      have x2 : w6.cell? ⟨w.heap.size, 2, none⟩ = some (.int .i64 s.floor.d) := cell_of_heap (CS.out _ U6.out) 2 rfl
      have x3 : w6.cell? ⟨w.heap.size, 3, none⟩ = some (kv) := cell_of_heap (CS.out _ U6.out) 3 rfl
      have x4 : w6.cell? ⟨w.heap.size, 4, none⟩ = some (ov) := cell_of_heap (CS.out _ U6.out) 4 rfl
      have x5 : w6.cell? ⟨w.heap.size, 5, none⟩ = some (zv) := cell_of_heap (CS.out _ U6.out) 5 rfl
      have x6 : w6.cell? ⟨w.heap.size, 6, none⟩ = some (av) := cell_of_heap (CS.out _ U6.out) 6 rfl
      have x7 : w6.cell? ⟨w.heap.size, 7, none⟩ = some (hv) := cell_of_heap (CS.out _ U6.out) 7 rfl
      have x8 : w6.cell? ⟨w.heap.size, 8, none⟩ = some (bv) := cell_of_heap (CS.out _ U6.out) 8 rfl
      have t0 : w6.cell? ⟨w.heap.size + 1, 0, none⟩ = some (.int .i64 st.tick) := cell_of_heap (CU.out _ U6.out) 0 rfl
      have t1 : w6.cell? ⟨w.heap.size + 1, 1, none⟩ = some (shv) := cell_of_heap (CU.out _ U6.out) 1 rfl
      have t2 : w6.cell? ⟨w.heap.size + 1, 2, none⟩ = some (rov) := cell_of_heap (CU.out _ U6.out) 2 rfl
      have t3 : w6.cell? ⟨w.heap.size + 1, 3, none⟩ = some (pev) := cell_of_heap (CU.out _ U6.out) 3 rfl
      have t4 : w6.cell? ⟨w.heap.size + 1, 4, none⟩ = some (dev) := cell_of_heap (CU.out _ U6.out) 4 rfl
      have t5 : w6.cell? ⟨w.heap.size + 1, 5, none⟩ = some (skv) := cell_of_heap (CU.out _ U6.out) 5 rfl
      have v0 : w6.cell? ⟨w5.heap.size, 0, none⟩ = some (.int .i64 0) := cell_of_heap (CN.out _ V6.out) 0 rfl
      have v1 : w6.cell? ⟨w5.heap.size, 1, none⟩ = some (.int .i64 0) := cell_of_heap (CN.out _ V6.out) 1 rfl
      have v2 : w6.cell? ⟨w5.heap.size, 2, none⟩ = some (.int .i64 0) := cell_of_heap (CN.out _ V6.out) 2 rfl
      have v3 : w6.cell? ⟨w5.heap.size, 3, none⟩ = some (.int .i64 b.muteMost) := cell_of_heap (CN.out _ V6.out) 3 rfl
      have v4 : w6.cell? ⟨w5.heap.size, 4, none⟩ = some (.int .i64 0) := cell_of_heap (CN.out _ V6.out) 4 rfl
      have v5 : w6.cell? ⟨w5.heap.size, 5, none⟩ = some (.int .i64 b.liftMost) := cell_of_heap (CN.out _ V6.out) 5 rfl
      have v6 : w6.cell? ⟨w5.heap.size, 6, none⟩ = some (.int .i64 0) := cell_of_heap (CN.out _ V6.out) 6 rfl
      go_wp2_with fail
      go_at_call 9; refine (HL1.out _ B6.out HF.out HLB.out).mono ?_; rintro e w7 ⟨vl, ll, rfl, hv, hl, b7⟩
      have hl2 := hl.of_zero rfl rfl rfl rfl rfl
      subst hl2
      obtain ⟨va, vc, rfl, -⟩ := hv.form
      have V7 := Lib.hid b7
      have U7 := Lib.hid (U6.out.trans (b7.mono U6.out.size))
      have B7 := Lib.hid (B6.out.trans (b7.mono B6.out.size))
      have z1 : (([Fa.none3] : List Fa.Flt).length : Int) = 1 := rfl
      clear b7 hv hl
      clear x0 x1 x2 x3 x4 x5 x6 x7 x8 t0 t1 t2 t3 t4 t5 v0 v1 v2 v3 v4 v5 v6
      have x0 : w7.cell? ⟨w.heap.size, 0, none⟩ = some (.int .i64 s.floor.w) := cell_of_heap (CS.out _ U7.out) 0 rfl
      have x1 : w7.cell? ⟨w.heap.size, 1, none⟩ = some (.int .i64 s.floor.h) := cell_of_heap (CS.out _ U7.out) 1 rfl
      have x2 : w7.cell? ⟨w.heap.size, 2, none⟩ = some (.int .i64 s.floor.d) := cell_of_heap (CS.out _ U7.out) 2 rfl
      have x3 : w7.cell? ⟨w.heap.size, 3, none⟩ = some (kv) := cell_of_heap (CS.out _ U7.out) 3 rfl
      have x4 : w7.cell? ⟨w.heap.size, 4, none⟩ = some (ov) := cell_of_heap (CS.out _ U7.out) 4 rfl
      have x5 : w7.cell? ⟨w.heap.size, 5, none⟩ = some (zv) := cell_of_heap (CS.out _ U7.out) 5 rfl
      have x6 : w7.cell? ⟨w.heap.size, 6, none⟩ = some (av) := cell_of_heap (CS.out _ U7.out) 6 rfl
      have x7 : w7.cell? ⟨w.heap.size, 7, none⟩ = some (hv) := cell_of_heap (CS.out _ U7.out) 7 rfl
      have x8 : w7.cell? ⟨w.heap.size, 8, none⟩ = some (bv) := cell_of_heap (CS.out _ U7.out) 8 rfl
      have t0 : w7.cell? ⟨w.heap.size + 1, 0, none⟩ = some (.int .i64 st.tick) := cell_of_heap (CU.out _ U7.out) 0 rfl
      have t1 : w7.cell? ⟨w.heap.size + 1, 1, none⟩ = some (shv) := cell_of_heap (CU.out _ U7.out) 1 rfl
      have t2 : w7.cell? ⟨w.heap.size + 1, 2, none⟩ = some (rov) := cell_of_heap (CU.out _ U7.out) 2 rfl
      have t3 : w7.cell? ⟨w.heap.size + 1, 3, none⟩ = some (pev) := cell_of_heap (CU.out _ U7.out) 3 rfl
      have t4 : w7.cell? ⟨w.heap.size + 1, 4, none⟩ = some (dev) := cell_of_heap (CU.out _ U7.out) 4 rfl
      have t5 : w7.cell? ⟨w.heap.size + 1, 5, none⟩ = some (skv) := cell_of_heap (CU.out _ U7.out) 5 rfl
      have u0 : w7.cell? ⟨w.heap.size + 1 + 1, 0, none⟩ = some (.int .i64 b.stops) := cell_of_heap (CB.out _ U7.out) 0 rfl
      have u1 : w7.cell? ⟨w.heap.size + 1 + 1, 1, none⟩ = some (.int .i64 b.cells) := cell_of_heap (CB.out _ U7.out) 1 rfl
      have u2 : w7.cell? ⟨w.heap.size + 1 + 1, 2, none⟩ = some (.int .i64 b.mutes) := cell_of_heap (CB.out _ U7.out) 2 rfl
      have u3 : w7.cell? ⟨w.heap.size + 1 + 1, 3, none⟩ = some (.int .i64 b.muteMost) := cell_of_heap (CB.out _ U7.out) 3 rfl
      have u4 : w7.cell? ⟨w.heap.size + 1 + 1, 4, none⟩ = some (.int .i64 b.lifts) := cell_of_heap (CB.out _ U7.out) 4 rfl
      have u5 : w7.cell? ⟨w.heap.size + 1 + 1, 5, none⟩ = some (.int .i64 b.liftMost) := cell_of_heap (CB.out _ U7.out) 5 rfl
      have u6 : w7.cell? ⟨w.heap.size + 1 + 1, 6, none⟩ = some (.int .i64 b.steps) := cell_of_heap (CB.out _ U7.out) 6 rfl
      go_wp2_with fail
      go_at_call 9; refine (HL2.out _ B7.out HF.out HLB.out).mono ?_; rintro e w8 ⟨vl, ll, rfl, hv, hl, b8⟩
      have hl2 := hl.of_nil
      subst hl2
      obtain ⟨va2, vc2, rfl, -⟩ := hv.form
      have V8 := Lib.hid (V7.out.trans (b8.mono V7.out.size))
      have U8 := Lib.hid (U7.out.trans (b8.mono U7.out.size))
      have B8 := Lib.hid (B7.out.trans (b8.mono B7.out.size))
      clear b8 hv hl
      clear x0 x1 x2 x3 x4 x5 x6 x7 x8 t0 t1 t2 t3 t4 t5 u0 u1 u2 u3 u4 u5 u6
      have v0 : w8.cell? ⟨w5.heap.size, 0, none⟩ = some (.int .i64 0) := cell_of_heap (CN.out _ V8.out) 0 rfl
      have v1 : w8.cell? ⟨w5.heap.size, 1, none⟩ = some (.int .i64 0) := cell_of_heap (CN.out _ V8.out) 1 rfl
      have v2 : w8.cell? ⟨w5.heap.size, 2, none⟩ = some (.int .i64 0) := cell_of_heap (CN.out _ V8.out) 2 rfl
      have v3 : w8.cell? ⟨w5.heap.size, 3, none⟩ = some (.int .i64 b.muteMost) := cell_of_heap (CN.out _ V8.out) 3 rfl
      have v4 : w8.cell? ⟨w5.heap.size, 4, none⟩ = some (.int .i64 0) := cell_of_heap (CN.out _ V8.out) 4 rfl
      have v5 : w8.cell? ⟨w5.heap.size, 5, none⟩ = some (.int .i64 b.liftMost) := cell_of_heap (CN.out _ V8.out) 5 rfl
      have v6 : w8.cell? ⟨w5.heap.size, 6, none⟩ = some (.int .i64 0) := cell_of_heap (CN.out _ V8.out) 6 rfl
      go_wp2_with fail
      go_at_call 13; refine (HLF.out _).mono ?_; rintro e w9 ⟨rfl, b9⟩
      have U9 := Lib.hid (U8.out.trans (b9.mono U8.out.size))
      have B9 := Lib.hid (B8.out.trans (b9.mono B8.out.size))
      clear b9
      clear v0 v1 v2 v3 v4 v5 v6
      have x0 : w9.cell? ⟨w.heap.size, 0, none⟩ = some (.int .i64 s.floor.w) := cell_of_heap (CS.out _ U9.out) 0 rfl
      have x1 : w9.cell? ⟨w.heap.size, 1, none⟩ = some (.int .i64 s.floor.h) := cell_of_heap (CS.out _ U9.out) 1 rfl
      have x2 : w9.cell? ⟨w.heap.size, 2, none⟩ = some (.int .i64 s.floor.d) := cell_of_heap (CS.out _ U9.out) 2 rfl
      have x3 : w9.cell? ⟨w.heap.size, 3, none⟩ = some (kv) := cell_of_heap (CS.out _ U9.out) 3 rfl
      have x4 : w9.cell? ⟨w.heap.size, 4, none⟩ = some (ov) := cell_of_heap (CS.out _ U9.out) 4 rfl
      have x5 : w9.cell? ⟨w.heap.size, 5, none⟩ = some (zv) := cell_of_heap (CS.out _ U9.out) 5 rfl
      have x6 : w9.cell? ⟨w.heap.size, 6, none⟩ = some (av) := cell_of_heap (CS.out _ U9.out) 6 rfl
      have x7 : w9.cell? ⟨w.heap.size, 7, none⟩ = some (hv) := cell_of_heap (CS.out _ U9.out) 7 rfl
      have x8 : w9.cell? ⟨w.heap.size, 8, none⟩ = some (bv) := cell_of_heap (CS.out _ U9.out) 8 rfl
      have t0 : w9.cell? ⟨w.heap.size + 1, 0, none⟩ = some (.int .i64 st.tick) := cell_of_heap (CU.out _ U9.out) 0 rfl
      have t1 : w9.cell? ⟨w.heap.size + 1, 1, none⟩ = some (shv) := cell_of_heap (CU.out _ U9.out) 1 rfl
      have t2 : w9.cell? ⟨w.heap.size + 1, 2, none⟩ = some (rov) := cell_of_heap (CU.out _ U9.out) 2 rfl
      have t3 : w9.cell? ⟨w.heap.size + 1, 3, none⟩ = some (pev) := cell_of_heap (CU.out _ U9.out) 3 rfl
      have t4 : w9.cell? ⟨w.heap.size + 1, 4, none⟩ = some (dev) := cell_of_heap (CU.out _ U9.out) 4 rfl
      have t5 : w9.cell? ⟨w.heap.size + 1, 5, none⟩ = some (skv) := cell_of_heap (CU.out _ U9.out) 5 rfl
      have u0 : w9.cell? ⟨w.heap.size + 1 + 1, 0, none⟩ = some (.int .i64 b.stops) := cell_of_heap (CB.out _ U9.out) 0 rfl
      have u1 : w9.cell? ⟨w.heap.size + 1 + 1, 1, none⟩ = some (.int .i64 b.cells) := cell_of_heap (CB.out _ U9.out) 1 rfl
      have u2 : w9.cell? ⟨w.heap.size + 1 + 1, 2, none⟩ = some (.int .i64 b.mutes) := cell_of_heap (CB.out _ U9.out) 2 rfl
      have u3 : w9.cell? ⟨w.heap.size + 1 + 1, 3, none⟩ = some (.int .i64 b.muteMost) := cell_of_heap (CB.out _ U9.out) 3 rfl
      have u4 : w9.cell? ⟨w.heap.size + 1 + 1, 4, none⟩ = some (.int .i64 b.lifts) := cell_of_heap (CB.out _ U9.out) 4 rfl
      have u5 : w9.cell? ⟨w.heap.size + 1 + 1, 5, none⟩ = some (.int .i64 b.liftMost) := cell_of_heap (CB.out _ U9.out) 5 rfl
      have u6 : w9.cell? ⟨w.heap.size + 1 + 1, 6, none⟩ = some (.int .i64 b.steps) := cell_of_heap (CB.out _ U9.out) 6 rfl
      go_wp2_with fail
      go_at_call 9; refine (HL2.out _ B9.out HF.out HLB.out).mono ?_; rintro e wa ⟨vl, ll, rfl, hv, hl, ba⟩
      have hl2 := hl.of_nil
      subst hl2
      have Ba := Lib.hid (B9.out.trans (ba.mono B9.out.size))
      have HC1 := Lib.hid (HCN.out _ wa hv)
      obtain ⟨va3, vc3, rfl, -⟩ := hv.form
      clear ba hv hl
      clear x0 x1 x2 x3 x4 x5 x6 x7 x8 t0 t1 t2 t3 t4 t5 u0 u1 u2 u3 u4 u5 u6
      go_wp2_with fail
      go_at_call 15; refine HC1.out.mono ?_; rintro e wb ⟨rfl, hcb, bb⟩
      have Bb := Lib.hid (Ba.out.trans (bb.mono Ba.out.size))
      have HCB := Lib.hid hcb
      clear bb hcb
      obtain ⟨wd, hwd⟩ : ∃ W, W = wb.alloc (.cells #[.int .i64 0, .int .i64 0, .int .i64 0] 38) := ⟨_, rfl⟩
      have Hd := al1 wb (.cells #[.int .i64 0, .int .i64 0, .int .i64 0] 38)
      rw [← hwd] at Hd
      have HC2 := Lib.hid (HCN.out (.slice (some ⟨wb.heap.size, 0, none⟩) 1 1) wd (ftv_rows (l := [Fa.none3]) Hd.1 (by decide)))
      have HCD := Lib.hid (keep_heap HCB.out Hd.2.1)
      have Bd2 := Lib.hid (Bb.out.trans (Hd.2.1.mono Bb.out.size))
      have HWD := Lib.hid hwd
      clear hwd Hd
      go_wp2_with fail
      rw [← HWD.out]
      go_at_call 15; refine HC2.out.mono ?_; rintro e we ⟨rfl, hce, be⟩
      have Be := Lib.hid (Bd2.out.trans (be.mono Bd2.out.size))
      have HS2 := Lib.hid (HSA.out (.slice (some ⟨wa.heap.size, 0, none⟩) 6 6) (.slice (some ⟨wd.heap.size, 0, none⟩) 6 6) (cntL [Fa.none3]) (cntL [Fa.none3]) we (is_of_heap2 (keep_heap HCD.out be) rfl (by decide)) (is_of_heap2 hce rfl (by decide)))
      rw [decide_eq_true rfl] at HS2
      clear hce be
      go_wp2_with fail
      go_at_call 14; refine HS2.out.mono ?_; rintro e wf ⟨rfl, bf⟩
      have Bf := Lib.hid (Be.out.trans (bf.mono Be.out.size))
      clear bf
      go_wp2_with fail
      go_ret
      exact ⟨rfl, Bf.out⟩
end Go.Proofs.YtcdfmgobokjcnaaGreat
