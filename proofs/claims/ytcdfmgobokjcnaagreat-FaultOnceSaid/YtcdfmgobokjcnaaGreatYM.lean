/- Parts Fli of this claim, laid one behind the other: walks and the plain laws behind them; each contract states its own conditions. -/
import Derived.Test.YtcdfmgobokjcnaaGreatZV
import Derived.Test.YtcdfmgobokjcnaaGreatYG
import Derived.Test.YtcdfmgobokjcnaaGreatYI
/- The walk of FaultLists. -/
namespace Go.Proofs.YtcdfmgobokjcnaaGreat
set_option linter.unusedSimpArgs false
set_option linter.unusedVariables false
open Go.RowKit Go.Sort

theorem any_takeF {l : List Fa.Flt} {p : Fa.Flt → Bool} {k : Nat} (h : k < l.length) : (l.take (k + 1)).any p = ((l.take k).any p || p l[k]) := by
  rw [List.take_succ_eq_append_getElem h, List.any_append]; simp
/-- The ways in which one fault stands ahead of another. -/
theorem lt_ways {y x : Fa.Flt} (h : Fa.lt y x) : y.kind < x.kind ∨ (y.kind = x.kind ∧ y.a < x.a) ∨ (y.kind = x.kind ∧ y.a = x.a ∧ y.n < x.n) := by
  unfold Fa.lt at h; omega
set_option maxRecDepth 100000 in
set_option maxHeartbeats 64000000 in
theorem FaultLists_any (s : Si.Site) (kv ov zv av hv bv : Value) (st : Bd.State) (shv rov pev dev skv : Value) (b : Fa.Bud) (cv : Value) (cells : List Int) (f : Fa.Flt) (w : World)
    (h : SiV w kv ov zv av hv bv s) (ht : StV w shv rov pev dev skv st) (hn : ∀ r ∈ st.robots, RobN r) (hb : BudN b) (hc : Is w cv cells) :
    Calls Tryz.prog 3 #[siV s kv ov zv av hv bv, stV st shv rov pev dev skv, .agg (budA b), cv, fltV f] w fun e w' => e = .returned (.bool true) ∧ Below w.heap.size w w' := by
  have HSM := Lib.hid (fun W => small_any W)
  have HFI := Lib.hid (fun W (hW : Below w.heap.size w W) => fits_any s kv ov zv av hv bv st shv rov pev dev skv cv cells W (h.keep hW) (ht.keep hW) hn (hc.keep hW))
  have HLI := Lib.hid (fun W => light_any b W)
  have HL1 := Lib.hid (fun W (hW : Below w.heap.size w W) (hf : FitsP s st cells) (hl : lightB b = true) => List_any s.floor kv ov zv av hv bv st shv rov pev dev skv b cv cells W (h.fl.keep hW) (FB.of hf.right.1.fl) (by have := hf.few.kl; omega) (ht.keep hW) hf.few4.sts
    hb (hc.keep hW) (by have := hl; unfold lightB at this; rw [Bool.and_eq_true, Bool.and_eq_true, decide_eq_true_eq] at this; omega) (by have := hl; unfold lightB at this; rw [Bool.and_eq_true, Bool.and_eq_true, decide_eq_true_eq, decide_eq_true_eq] at this; omega) (by have := hf.cl; omega))
  have HPO := Lib.hid (fun x W (hW : Below w.heap.size w W) (hf : FitsP s st cells) => Possible_any s.floor kv ov zv av hv bv st shv rov pev dev skv x W (h.fl.keep hW) (FB.of hf.right.1.fl) (by have := hf.few.kl; omega) (ht.keep hW) hf.few4.sts)
  have HAL := Lib.hid (fun x W => Allows_any b x W hb)
  have HCO := Lib.hid (fun x W (hW : Below w.heap.size w W) => Concerns_any st shv rov pev dev skv cv x cells W (ht.keep hW) (hc.keep hW))
  unfold LstPost at HL1
  unfold siF at HL1 HPO
  unfold siV at HFI ⊢
  unfold stV at HFI HL1 HPO HCO ⊢
  unfold budA at HLI HL1 HAL ⊢
  unfold fltV at HPO HAL HCO ⊢
  obtain ⟨LB, hLB⟩ : ∃ B, lightB b = B := ⟨_, rfl⟩
  rw [hLB] at HLI
  have HLB := Lib.hid hLB
  obtain ⟨w2, hw2⟩ : ∃ W, W = (((w.alloc (.cells #[.int .i64 s.floor.w, .int .i64 s.floor.h, .int .i64 s.floor.d, kv, ov, zv, av, hv, bv] 30)).alloc (.cells #[.int .i64 st.tick, shv, rov, pev, dev, skv] 34)).alloc (.cells #[.int .i64 b.stops, .int .i64 b.cells, .int .i64 b.mutes, .int .i64 b.muteMost, .int .i64 b.lifts, .int .i64 b.liftMost, .int .i64 b.steps] 36)).alloc (.cells #[.int .i64 f.kind, .int .i64 f.a, .int .i64 f.n] 38) := ⟨_, rfl⟩
  have HA := al4 w (.cells #[.int .i64 s.floor.w, .int .i64 s.floor.h, .int .i64 s.floor.d, kv, ov, zv, av, hv, bv] 30) (.cells #[.int .i64 st.tick, shv, rov, pev, dev, skv] 34) (.cells #[.int .i64 b.stops, .int .i64 b.cells, .int .i64 b.mutes, .int .i64 b.muteMost, .int .i64 b.lifts, .int .i64 b.liftMost, .int .i64 b.steps] 36) (.cells #[.int .i64 f.kind, .int .i64 f.a, .int .i64 f.n] 38)
  rw [← hw2] at HA
  have IS := Lib.hid HA.1
  have IT := Lib.hid HA.2.1
  have IB := Lib.hid HA.2.2.1
  have IF := Lib.hid HA.2.2.2.1
  have B2 := Lib.hid HA.2.2.2.2.1
  have HW2 := Lib.hid hw2
  have CS : Hid (∀ W, Below w2.heap.size w2 W → W.heap[w.heap.size]? = some (.cells #[.int .i64 s.floor.w, .int .i64 s.floor.h, .int .i64 s.floor.d, kv, ov, zv, av, hv, bv] 30 (0, 0))) := Lib.hid (fun W hW => keep_heap IS.out hW)
  have CU : Hid (∀ W, Below w2.heap.size w2 W → W.heap[w.heap.size + 1]? = some (.cells #[.int .i64 st.tick, shv, rov, pev, dev, skv] 34 (0, 0))) := Lib.hid (fun W hW => keep_heap IT.out hW)
  have CB : Hid (∀ W, Below w2.heap.size w2 W → W.heap[w.heap.size + 1 + 1]? = some (.cells #[.int .i64 b.stops, .int .i64 b.cells, .int .i64 b.mutes, .int .i64 b.muteMost, .int .i64 b.lifts, .int .i64 b.liftMost, .int .i64 b.steps] 36 (0, 0))) := Lib.hid (fun W hW => keep_heap IB.out hW)
  have CF : Hid (∀ W, Below w2.heap.size w2 W → W.heap[w.heap.size + 1 + 1 + 1]? = some (.cells #[.int .i64 f.kind, .int .i64 f.a, .int .i64 f.n] 38 (0, 0))) := Lib.hid (fun W hW => keep_heap IF.out hW)
  have BB : Hid (∀ W, Below w2.heap.size w2 W → Below w.heap.size w W) := Lib.hid (fun W hW => B2.out.trans (hW.mono B2.out.size))
  clear h ht hn hb hc hLB hw2 HA
  go_enter Tryz.func3, Tryz.ntmps3
  go_upto_region 1 with fail
  rw [← HW2.out]
  go_wp2_with fail
  go_at_call 6; refine (HSM.out _).mono ?_; rintro e w3 ⟨rfl, b3⟩
  have U3 := Lib.hid b3
  clear b3
  have x0 : w3.cell? ⟨w.heap.size, 0, none⟩ = some (.int .i64 s.floor.w) := cell_of_heap (CS.out _ U3.out) 0 rfl
  have x1 : w3.cell? ⟨w.heap.size, 1, none⟩ = some (.int .i64 s.floor.h) := cell_of_heap (CS.out _ U3.out) 1 rfl
  have x2 : w3.cell? ⟨w.heap.size, 2, none⟩ = some (.int .i64 s.floor.d) := cell_of_heap (CS.out _ U3.out) 2 rfl
  have x3 : w3.cell? ⟨w.heap.size, 3, none⟩ = some (kv) := cell_of_heap (CS.out _ U3.out) 3 rfl
  have x4 : w3.cell? ⟨w.heap.size, 4, none⟩ = some (ov) := cell_of_heap (CS.out _ U3.out) 4 rfl
  have x5 : w3.cell? ⟨w.heap.size, 5, none⟩ = some (zv) := cell_of_heap (CS.out _ U3.out) 5 rfl
  have x6 : w3.cell? ⟨w.heap.size, 6, none⟩ = some (av) := cell_of_heap (CS.out _ U3.out) 6 rfl
  have x7 : w3.cell? ⟨w.heap.size, 7, none⟩ = some (hv) := cell_of_heap (CS.out _ U3.out) 7 rfl
  have x8 : w3.cell? ⟨w.heap.size, 8, none⟩ = some (bv) := cell_of_heap (CS.out _ U3.out) 8 rfl
  have t0 : w3.cell? ⟨w.heap.size + 1, 0, none⟩ = some (.int .i64 st.tick) := cell_of_heap (CU.out _ U3.out) 0 rfl
  have t1 : w3.cell? ⟨w.heap.size + 1, 1, none⟩ = some (shv) := cell_of_heap (CU.out _ U3.out) 1 rfl
  have t2 : w3.cell? ⟨w.heap.size + 1, 2, none⟩ = some (rov) := cell_of_heap (CU.out _ U3.out) 2 rfl
  have t3 : w3.cell? ⟨w.heap.size + 1, 3, none⟩ = some (pev) := cell_of_heap (CU.out _ U3.out) 3 rfl
  have t4 : w3.cell? ⟨w.heap.size + 1, 4, none⟩ = some (dev) := cell_of_heap (CU.out _ U3.out) 4 rfl
  have t5 : w3.cell? ⟨w.heap.size + 1, 5, none⟩ = some (skv) := cell_of_heap (CU.out _ U3.out) 5 rfl
  go_wp2_with fail
  go_at_call 7; refine (HFI.out _ (BB.out _ U3.out)).mono ?_; rintro e w4 ⟨⟨rb, rfl, hrb⟩, b4⟩
  have U4 := Lib.hid (U3.out.trans (b4.mono U3.out.size))
  have HRB := Lib.hid hrb
  clear b4 hrb
  clear x0 x1 x2 x3 x4 x5 x6 x7 x8 t0 t1 t2 t3 t4 t5
  cases rb with
  | false =>
    go_wp2_with fail
    go_ret
    exact ⟨rfl, BB.out _ U4.out⟩
  | true =>
    have HF := Lib.hid (HRB.out rfl)
    clear HRB
    have u0 : w4.cell? ⟨w.heap.size + 1 + 1, 0, none⟩ = some (.int .i64 b.stops) := cell_of_heap (CB.out _ U4.out) 0 rfl
    have u1 : w4.cell? ⟨w.heap.size + 1 + 1, 1, none⟩ = some (.int .i64 b.cells) := cell_of_heap (CB.out _ U4.out) 1 rfl
    have u2 : w4.cell? ⟨w.heap.size + 1 + 1, 2, none⟩ = some (.int .i64 b.mutes) := cell_of_heap (CB.out _ U4.out) 2 rfl
    have u3 : w4.cell? ⟨w.heap.size + 1 + 1, 3, none⟩ = some (.int .i64 b.muteMost) := cell_of_heap (CB.out _ U4.out) 3 rfl
    have u4 : w4.cell? ⟨w.heap.size + 1 + 1, 4, none⟩ = some (.int .i64 b.lifts) := cell_of_heap (CB.out _ U4.out) 4 rfl
    have u5 : w4.cell? ⟨w.heap.size + 1 + 1, 5, none⟩ = some (.int .i64 b.liftMost) := cell_of_heap (CB.out _ U4.out) 5 rfl
    have u6 : w4.cell? ⟨w.heap.size + 1 + 1, 6, none⟩ = some (.int .i64 b.steps) := cell_of_heap (CB.out _ U4.out) 6 rfl
    go_wp2_with fail
    go_at_call 8; refine (HLI.out _).mono ?_; rintro e w5 ⟨rfl, b5⟩
    have U5 := Lib.hid (U4.out.trans (b5.mono U4.out.size))
    clear b5
    clear u0 u1 u2 u3 u4 u5 u6
    cases LB with
    | false =>
      go_wp2_with fail
      go_ret
      exact ⟨rfl, BB.out _ U5.out⟩
    | true =>
      have x0 : w5.cell? ⟨w.heap.size, 0, none⟩ = some (.int .i64 s.floor.w) := cell_of_heap (CS.out _ U5.out) 0 rfl
      have x1 : w5.cell? ⟨w.heap.size, 1, none⟩ = some (.int .i64 s.floor.h) := cell_of_heap (CS.out _ U5.out) 1 rfl
      have x2 : w5.cell? ⟨w.heap.size, 2, none⟩ = some (.int .i64 s.floor.d) := cell_of_heap (CS.out _ U5.out) 2 rfl
      have x3 : w5.cell? ⟨w.heap.size, 3, none⟩ = some (kv) := cell_of_heap (CS.out _ U5.out) 3 rfl
      have x4 : w5.cell? ⟨w.heap.size, 4, none⟩ = some (ov) := cell_of_heap (CS.out _ U5.out) 4 rfl
      have x5 : w5.cell? ⟨w.heap.size, 5, none⟩ = some (zv) := cell_of_heap (CS.out _ U5.out) 5 rfl
      have x6 : w5.cell? ⟨w.heap.size, 6, none⟩ = some (av) := cell_of_heap (CS.out _ U5.out) 6 rfl
      have x7 : w5.cell? ⟨w.heap.size, 7, none⟩ = some (hv) := cell_of_heap (CS.out _ U5.out) 7 rfl
      have x8 : w5.cell? ⟨w.heap.size, 8, none⟩ = some (bv) := cell_of_heap (CS.out _ U5.out) 8 rfl
      have t0 : w5.cell? ⟨w.heap.size + 1, 0, none⟩ = some (.int .i64 st.tick) := cell_of_heap (CU.out _ U5.out) 0 rfl
      have t1 : w5.cell? ⟨w.heap.size + 1, 1, none⟩ = some (shv) := cell_of_heap (CU.out _ U5.out) 1 rfl
      have t2 : w5.cell? ⟨w.heap.size + 1, 2, none⟩ = some (rov) := cell_of_heap (CU.out _ U5.out) 2 rfl
      have t3 : w5.cell? ⟨w.heap.size + 1, 3, none⟩ = some (pev) := cell_of_heap (CU.out _ U5.out) 3 rfl
      have t4 : w5.cell? ⟨w.heap.size + 1, 4, none⟩ = some (dev) := cell_of_heap (CU.out _ U5.out) 4 rfl
      have t5 : w5.cell? ⟨w.heap.size + 1, 5, none⟩ = some (skv) := cell_of_heap (CU.out _ U5.out) 5 rfl
      have u0 : w5.cell? ⟨w.heap.size + 1 + 1, 0, none⟩ = some (.int .i64 b.stops) := cell_of_heap (CB.out _ U5.out) 0 rfl
      have u1 : w5.cell? ⟨w.heap.size + 1 + 1, 1, none⟩ = some (.int .i64 b.cells) := cell_of_heap (CB.out _ U5.out) 1 rfl
      have u2 : w5.cell? ⟨w.heap.size + 1 + 1, 2, none⟩ = some (.int .i64 b.mutes) := cell_of_heap (CB.out _ U5.out) 2 rfl
      have u3 : w5.cell? ⟨w.heap.size + 1 + 1, 3, none⟩ = some (.int .i64 b.muteMost) := cell_of_heap (CB.out _ U5.out) 3 rfl
      have u4 : w5.cell? ⟨w.heap.size + 1 + 1, 4, none⟩ = some (.int .i64 b.lifts) := cell_of_heap (CB.out _ U5.out) 4 rfl
      have u5 : w5.cell? ⟨w.heap.size + 1 + 1, 5, none⟩ = some (.int .i64 b.liftMost) := cell_of_heap (CB.out _ U5.out) 5 rfl
      have u6 : w5.cell? ⟨w.heap.size + 1 + 1, 6, none⟩ = some (.int .i64 b.steps) := cell_of_heap (CB.out _ U5.out) 6 rfl
      go_wp2_with fail
      go_at_call 9; refine (HL1.out _ (BB.out _ U5.out) HF.out HLB.out).mono ?_; rintro e w7 ⟨vl, l, rfl, hv, hl, b7⟩
      have U7 := Lib.hid (U5.out.trans (b7.mono U5.out.size))
      obtain ⟨va, vc, rfl, hvm⟩ := hv.form
      obtain ⟨lr, hlr⟩ := hl.head
      have HL := Lib.hid hl
      have HV := Lib.hid hv
      have HLE : Hid (0 < l.length) := Lib.hid (by rw [hlr]; simp)
      have HL0 : Hid (∀ h0 : 0 < l.length, l[0] = Fa.none3) := Lib.hid (fun h0 => by subst hlr; rfl)
      obtain ⟨n, hn⟩ : ∃ n, l.length = n := ⟨_, rfl⟩
      rw [hn] at HV HLE hvm
      have HN := Lib.hid hn
      rw [hn]
      obtain ⟨vb, vo, rfl, hvb, r0, r1, r2⟩ := HV.out.cell 0 (by rw [HN.out]; exact HLE.out)
      rw [HL0.out (by rw [HN.out]; exact HLE.out)] at r0 r1 r2
      rw [Nat.zero_mul, Nat.add_zero] at r0 r1 r2
      have hn0 := HLE.out
      have n0 : (0 : Int) < (n : Int) := by omega
      have n1 : ¬ n = 0 := by omega
      have hnq : ∀ W, (binOp .neq 38 (.agg #[.int .i64 0, .int .i64 0, .int .i64 0]) (.agg #[.int .i64 0, .int .i64 0, .int .i64 0])).run Tryz.prog W = .ok (.bool false) W := fun W => flt_neq Fa.none3 Fa.none3 W
      have HP0 : Hid (false = (l.take 0).any (Fa.likeB f)) := Lib.hid (by simp)
      clear b7 hv hl hlr hn hn0
      clear x0 x1 x2 x3 x4 x5 x6 x7 x8 t0 t1 t2 t3 t4 t5 u0 u1 u2 u3 u4 u5 u6
      go_upto_region 11 with fail
      have U70 := Lib.hid (Below.refl w7.heap.size w7)
      have BV7 : Hid (∀ W, Below w7.heap.size w7 W → Below w2.heap.size w2 W) := Lib.hid (fun W hW => U7.out.trans (hW.mono U7.out.size))
      clear r0 r1 r2 hnq
      go_loopw [14, 13] (fun iv fv wr => ∃ (k : Nat) (g : Bool), k ≤ n ∧ iv = .int .i64 k ∧ fv = .bool g ∧ Hid (g = (l.take k).any (Fa.likeB f)) ∧ Hid (Below w7.heap.size w7 wr)) (fun iv _ _ => n - (intOf iv).toNat)
      case atStart => exact ⟨0, false, by omega, rfl, rfl, HP0, U70⟩
      case round =>
        clear HP0 U70
        obtain ⟨k, g, hk, rfl, rfl, HG, HU⟩ := hrel
        by_cases hkn : k < n
        · have hkl : k < l.length := by rw [HN.out]; exact hkn
          obtain ⟨bb, o, e1, hbb, x0, x1, x2⟩ := (HV.out.keep HU.out).cell k hkl
          injection e1 with e1; injection e1 with e1 e2; subst e1 e2
          have i0 : (0 : Int) ≤ (k : Int) := by omega
          have i1 : (k : Int) < (n : Int) := by omega
          have HGN := Lib.hid (any_takeF (p := Fa.likeB f) hkl)
          have HOK := Lib.hid (HL.out.ok (List.getElem_mem hkl))
          have HPV : Hid (∀ j, j + 1 = k → ∃ Y : Fa.Flt, Fa.lt Y l[k] ∧ wr.cell? ⟨vb, vo + j * 3, none⟩ = some (.int .i64 Y.kind) ∧ wr.cell? ⟨vb, vo + j * 3 + 1, none⟩ = some (.int .i64 Y.a) ∧ wr.cell? ⟨vb, vo + j * 3 + 2, none⟩ = some (.int .i64 Y.n)) := Lib.hid (fun j hj => by
            obtain ⟨b2, o2, e2, -, g0, g1, g2⟩ := (HV.out.keep HU.out).cell j (by omega)
            injection e2 with e2; injection e2 with e2 e3; subst e2 e3
            exact ⟨l[j]'(by omega), List.pairwise_iff_getElem.1 HL.out.asc j k (by omega) hkl (by omega), g0, g1, g2⟩)
          obtain ⟨X, hX⟩ : ∃ X, l[k] = X := ⟨_, rfl⟩
          rw [hX] at x0 x1 x2 HGN HOK HPV
          clear hX hkl
          obtain ⟨wa, hwa⟩ : ∃ W, W = wr.alloc (.cells #[.int .i64 X.kind, .int .i64 X.a, .int .i64 X.n] 38) := ⟨_, rfl⟩
          have ga := al1 wr (.cells #[.int .i64 X.kind, .int .i64 X.a, .int .i64 X.n] 38)
          rw [← hwa] at ga
          have IX := Lib.hid ga.1
          have UA := Lib.hid (HU.out.trans (ga.2.1.mono HU.out.size))
          have HBA := Lib.hid ga.2.1
          have lb : vb < wr.heap.size := hbb
          have CX : Hid (∀ W, Below wa.heap.size wa W → W.heap[wr.heap.size]? = some (.cells #[.int .i64 X.kind, .int .i64 X.a, .int .i64 X.n] 38 (0, 0))) := Lib.hid (fun W hW => keep_heap IX.out hW)
          have P0 := Lib.hid (fun W hW => HPO.out X W hW HF.out)
          rw [HOK.out.1, show possE true = 0 from rfl] at P0
          have A0 := Lib.hid (HAL.out X)
          rw [HOK.out.2.1] at A0
          have C0 := Lib.hid (HCO.out X)
          rw [HOK.out.2.2] at C0
          have HWA := Lib.hid hwa
          have VA := Lib.hid (Below.refl wa.heap.size wa)
          clear hwa ga hbb
          go_upto_region 14 with fail
          rw [← HWA.out]
          clear x0 x1 x2
          have x0 : wa.cell? ⟨w.heap.size, 0, none⟩ = some (.int .i64 s.floor.w) := cell_of_heap (CS.out _ (BV7.out _ UA.out)) 0 rfl
          have x1 : wa.cell? ⟨w.heap.size, 1, none⟩ = some (.int .i64 s.floor.h) := cell_of_heap (CS.out _ (BV7.out _ UA.out)) 1 rfl
          have x2 : wa.cell? ⟨w.heap.size, 2, none⟩ = some (.int .i64 s.floor.d) := cell_of_heap (CS.out _ (BV7.out _ UA.out)) 2 rfl
          have x3 : wa.cell? ⟨w.heap.size, 3, none⟩ = some (kv) := cell_of_heap (CS.out _ (BV7.out _ UA.out)) 3 rfl
          have x4 : wa.cell? ⟨w.heap.size, 4, none⟩ = some (ov) := cell_of_heap (CS.out _ (BV7.out _ UA.out)) 4 rfl
          have x5 : wa.cell? ⟨w.heap.size, 5, none⟩ = some (zv) := cell_of_heap (CS.out _ (BV7.out _ UA.out)) 5 rfl
          have x6 : wa.cell? ⟨w.heap.size, 6, none⟩ = some (av) := cell_of_heap (CS.out _ (BV7.out _ UA.out)) 6 rfl
          have x7 : wa.cell? ⟨w.heap.size, 7, none⟩ = some (hv) := cell_of_heap (CS.out _ (BV7.out _ UA.out)) 7 rfl
          have x8 : wa.cell? ⟨w.heap.size, 8, none⟩ = some (bv) := cell_of_heap (CS.out _ (BV7.out _ UA.out)) 8 rfl
          have t0 : wa.cell? ⟨w.heap.size + 1, 0, none⟩ = some (.int .i64 st.tick) := cell_of_heap (CU.out _ (BV7.out _ UA.out)) 0 rfl
          have t1 : wa.cell? ⟨w.heap.size + 1, 1, none⟩ = some (shv) := cell_of_heap (CU.out _ (BV7.out _ UA.out)) 1 rfl
          have t2 : wa.cell? ⟨w.heap.size + 1, 2, none⟩ = some (rov) := cell_of_heap (CU.out _ (BV7.out _ UA.out)) 2 rfl
          have t3 : wa.cell? ⟨w.heap.size + 1, 3, none⟩ = some (pev) := cell_of_heap (CU.out _ (BV7.out _ UA.out)) 3 rfl
          have t4 : wa.cell? ⟨w.heap.size + 1, 4, none⟩ = some (dev) := cell_of_heap (CU.out _ (BV7.out _ UA.out)) 4 rfl
          have t5 : wa.cell? ⟨w.heap.size + 1, 5, none⟩ = some (skv) := cell_of_heap (CU.out _ (BV7.out _ UA.out)) 5 rfl
          have y0 : wa.cell? ⟨wr.heap.size, 0, none⟩ = some (.int .i64 X.kind) := cell_of_heap IX.out 0 rfl
          have y1 : wa.cell? ⟨wr.heap.size, 1, none⟩ = some (.int .i64 X.a) := cell_of_heap IX.out 1 rfl
          have y2 : wa.cell? ⟨wr.heap.size, 2, none⟩ = some (.int .i64 X.n) := cell_of_heap IX.out 2 rfl
          go_wp2_with fail
          go_at_call 10; refine (P0.out _ (BB.out _ (BV7.out _ UA.out))).mono ?_; rintro e wb ⟨rfl, bb1⟩
          have V1 := Lib.hid bb1
          have UB := Lib.hid (UA.out.trans (bb1.mono UA.out.size))
          clear bb1
          clear x0 x1 x2 x3 x4 x5 x6 x7 x8 t0 t1 t2 t3 t4 t5 y0 y1 y2
          have u0 : wb.cell? ⟨w.heap.size + 1 + 1, 0, none⟩ = some (.int .i64 b.stops) := cell_of_heap (CB.out _ (BV7.out _ UB.out)) 0 rfl
          have u1 : wb.cell? ⟨w.heap.size + 1 + 1, 1, none⟩ = some (.int .i64 b.cells) := cell_of_heap (CB.out _ (BV7.out _ UB.out)) 1 rfl
          have u2 : wb.cell? ⟨w.heap.size + 1 + 1, 2, none⟩ = some (.int .i64 b.mutes) := cell_of_heap (CB.out _ (BV7.out _ UB.out)) 2 rfl
          have u3 : wb.cell? ⟨w.heap.size + 1 + 1, 3, none⟩ = some (.int .i64 b.muteMost) := cell_of_heap (CB.out _ (BV7.out _ UB.out)) 3 rfl
          have u4 : wb.cell? ⟨w.heap.size + 1 + 1, 4, none⟩ = some (.int .i64 b.lifts) := cell_of_heap (CB.out _ (BV7.out _ UB.out)) 4 rfl
          have u5 : wb.cell? ⟨w.heap.size + 1 + 1, 5, none⟩ = some (.int .i64 b.liftMost) := cell_of_heap (CB.out _ (BV7.out _ UB.out)) 5 rfl
          have u6 : wb.cell? ⟨w.heap.size + 1 + 1, 6, none⟩ = some (.int .i64 b.steps) := cell_of_heap (CB.out _ (BV7.out _ UB.out)) 6 rfl
          have y0 : wb.cell? ⟨wr.heap.size, 0, none⟩ = some (.int .i64 X.kind) := cell_of_heap (CX.out _ V1.out) 0 rfl
          have y1 : wb.cell? ⟨wr.heap.size, 1, none⟩ = some (.int .i64 X.a) := cell_of_heap (CX.out _ V1.out) 1 rfl
          have y2 : wb.cell? ⟨wr.heap.size, 2, none⟩ = some (.int .i64 X.n) := cell_of_heap (CX.out _ V1.out) 2 rfl
          go_wp2_with fail
          go_at_call 11; refine (A0.out _).mono ?_; rintro e wd ⟨rfl, bb1⟩
          have V2 := Lib.hid (V1.out.trans (bb1.mono V1.out.size))
          have UD := Lib.hid (UB.out.trans (bb1.mono UB.out.size))
          clear bb1
          clear u0 u1 u2 u3 u4 u5 u6 y0 y1 y2
          have t0 : wd.cell? ⟨w.heap.size + 1, 0, none⟩ = some (.int .i64 st.tick) := cell_of_heap (CU.out _ (BV7.out _ UD.out)) 0 rfl
          have t1 : wd.cell? ⟨w.heap.size + 1, 1, none⟩ = some (shv) := cell_of_heap (CU.out _ (BV7.out _ UD.out)) 1 rfl
          have t2 : wd.cell? ⟨w.heap.size + 1, 2, none⟩ = some (rov) := cell_of_heap (CU.out _ (BV7.out _ UD.out)) 2 rfl
          have t3 : wd.cell? ⟨w.heap.size + 1, 3, none⟩ = some (pev) := cell_of_heap (CU.out _ (BV7.out _ UD.out)) 3 rfl
          have t4 : wd.cell? ⟨w.heap.size + 1, 4, none⟩ = some (dev) := cell_of_heap (CU.out _ (BV7.out _ UD.out)) 4 rfl
          have t5 : wd.cell? ⟨w.heap.size + 1, 5, none⟩ = some (skv) := cell_of_heap (CU.out _ (BV7.out _ UD.out)) 5 rfl
          have y0 : wd.cell? ⟨wr.heap.size, 0, none⟩ = some (.int .i64 X.kind) := cell_of_heap (CX.out _ V2.out) 0 rfl
          have y1 : wd.cell? ⟨wr.heap.size, 1, none⟩ = some (.int .i64 X.a) := cell_of_heap (CX.out _ V2.out) 1 rfl
          have y2 : wd.cell? ⟨wr.heap.size, 2, none⟩ = some (.int .i64 X.n) := cell_of_heap (CX.out _ V2.out) 2 rfl
          go_wp2_with fail
          go_at_call 12; refine (C0.out _ (BB.out _ (BV7.out _ UD.out))).mono ?_; rintro e we ⟨rfl, bb1⟩
          have V3 := Lib.hid (V2.out.trans (bb1.mono V2.out.size))
          have UE := Lib.hid (UD.out.trans (bb1.mono UD.out.size))
          clear bb1 P0 A0 C0 V1 V2
          clear t0 t1 t2 t3 t4 t5 y0 y1 y2
          obtain ⟨wx, hwx⟩ : ∃ W, W = we := ⟨_, rfl⟩
          subst hwx
          go_upto_region 16 with fail
          go_upto_if 73 with fail
          go_cut [15] (fun v wq => v = .pointer (some ⟨wr.heap.size, 0, none⟩) ∧ Hid (Below wx.heap.size wx wq))
          case first =>
            as_aux_lemma =>
              rcases Nat.eq_zero_or_pos k with hk0 | hk0
              · have z0 : ¬ (0 : Int) < (k : Int) := by omega
                have z1 : ¬ 0 < k := by omega
                clear hk0
                go_wp2_with fail
                go_meet
                exact ⟨rfl, Lib.hid (Below.refl _ _)⟩
              · obtain ⟨j, hj⟩ : ∃ j, j + 1 = k := ⟨k - 1, by omega⟩
                obtain ⟨Y, hlt, g0, g1, g2⟩ := HPV.out j hj
                have q0 : wx.cell? ⟨vb, vo + j * 3, none⟩ = some (.int .i64 Y.kind) := ((HBA.out.trans (V3.out.mono HBA.out.size)).cell (p := ⟨vb, vo + j * 3, none⟩) lb).trans g0
                have q1 : wx.cell? ⟨vb, vo + j * 3 + 1, none⟩ = some (.int .i64 Y.a) := ((HBA.out.trans (V3.out.mono HBA.out.size)).cell (p := ⟨vb, vo + j * 3 + 1, none⟩) lb).trans g1
                have q2 : wx.cell? ⟨vb, vo + j * 3 + 2, none⟩ = some (.int .i64 Y.n) := ((HBA.out.trans (V3.out.mono HBA.out.size)).cell (p := ⟨vb, vo + j * 3 + 2, none⟩) lb).trans g2
                have j1 : IntKind.i64.wrap ((k : Int) - 1) = (j : Int) := by rw [show (k : Int) - 1 = (j : Int) by omega]; exact IntWalk.i64_in _ (by omega)
                have j2 : (0 : Int) ≤ (j : Int) := by omega
                have j3 : (j : Int) < (n : Int) := by omega
                have j4 : (0 : Int) < (k : Int) := by omega
                have j5 : 0 < k := by omega
                have HLT := Lib.hid (lt_ways hlt)
                have y0 : wx.cell? ⟨wr.heap.size, 0, none⟩ = some (.int .i64 X.kind) := cell_of_heap (CX.out _ V3.out) 0 rfl
                have y1 : wx.cell? ⟨wr.heap.size, 1, none⟩ = some (.int .i64 X.a) := cell_of_heap (CX.out _ V3.out) 1 rfl
                have y2 : wx.cell? ⟨wr.heap.size, 2, none⟩ = some (.int .i64 X.n) := cell_of_heap (CX.out _ V3.out) 2 rfl
                have lx : wr.heap.size < wx.heap.size := heap_lt (CX.out _ V3.out)
                clear hj hk0 hlt g0 g1 g2
                rcases HLT.out with h1 | ⟨h1, h2⟩ | ⟨h1, h2, h3⟩
                · have k1 : ¬ X.kind < Y.kind := by omega
                  have k2 : (Y.kind == X.kind) = false := by simp; omega
                  go_wp2_with fail
                  go_meet
                  exact ⟨rfl, Lib.hid ((Below.refl _ _).alloc (Nat.le_refl _) _)⟩
                · have k1 : ¬ X.kind < Y.kind := by omega
                  have k2 : (Y.kind == X.kind) = true := by simp; omega
                  have k3 : ¬ X.a < Y.a := by omega
                  have k4 : (Y.a == X.a) = false := by simp; omega
                  go_wp2_with fail
                  go_meet
                  exact ⟨rfl, Lib.hid ((Below.refl _ _).alloc (Nat.le_refl _) _)⟩
                · have k1 : ¬ X.kind < Y.kind := by omega
                  have k2 : (Y.kind == X.kind) = true := by simp; omega
                  have k3 : ¬ X.a < Y.a := by omega
                  have k4 : (Y.a == X.a) = true := by simp; omega
                  have k5 : ¬ X.n ≤ Y.n := by omega
                  go_wp2_with fail
                  go_meet
                  exact ⟨rfl, Lib.hid ((Below.refl _ _).alloc (Nat.le_refl _) _)⟩
          case rest =>
            obtain ⟨rfl, HBX⟩ := hcut
            obtain ⟨wy, hwy⟩ : ∃ W, W = wc := ⟨_, rfl⟩
            subst hwy
            have V4 := Lib.hid (V3.out.trans (HBX.out.mono V3.out.size))
            have UY := Lib.hid (UE.out.trans (HBX.out.mono UE.out.size))
            have y0 : wy.cell? ⟨wr.heap.size, 0, none⟩ = some (.int .i64 X.kind) := cell_of_heap (CX.out _ V4.out) 0 rfl
            have y1 : wy.cell? ⟨wr.heap.size, 1, none⟩ = some (.int .i64 X.a) := cell_of_heap (CX.out _ V4.out) 1 rfl
            have y2 : wy.cell? ⟨wr.heap.size, 2, none⟩ = some (.int .i64 X.n) := cell_of_heap (CX.out _ V4.out) 2 rfl
            have v0 : wy.cell? ⟨w.heap.size + 1 + 1 + 1, 0, none⟩ = some (.int .i64 f.kind) := cell_of_heap (CF.out _ (BV7.out _ UY.out)) 0 rfl
            have v1 : wy.cell? ⟨w.heap.size + 1 + 1 + 1, 1, none⟩ = some (.int .i64 f.a) := cell_of_heap (CF.out _ (BV7.out _ UY.out)) 1 rfl
            have v2 : wy.cell? ⟨w.heap.size + 1 + 1 + 1, 2, none⟩ = some (.int .i64 f.n) := cell_of_heap (CF.out _ (BV7.out _ UY.out)) 2 rfl
            have HLK : Hid (Fa.likeB f X = ((decide (X.kind = f.kind) && (decide (X.kind = 0) || decide (X.a = f.a))) && (decide (X.kind = 0) || (decide (X.kind = 1) || (decide (X.kind = 2) || decide (X.n = f.n)))))) := Lib.hid rfl
            obtain ⟨S, hS⟩ : ∃ S, (decide (X.kind = f.kind) && (decide (X.kind = 0) || decide (X.a = f.a))) = S := ⟨_, rfl⟩
            rw [hS] at HLK
            have HS := Lib.hid hS
            have HR := Lib.hid (fun q (h : (g || Fa.likeB f X) = q) => (show q = (l.take (k + 1)).any (Fa.likeB f) from by rw [HGN.out, ← HG.out, h]))
            clear hS HBX
            go_upto_region 20 with fail
            go_cut [17] (fun v wq => v = .bool S ∧ wq = wy)
            case first =>
              as_aux_lemma =>
                by_cases a1 : X.kind = f.kind
                · by_cases a2 : X.kind = 0
                  · have HS2 : Hid (S = true) := Lib.hid (by rw [← HS.out, decide_eq_true a1, decide_eq_true a2]; rfl)
                    have c1 : (X.kind == f.kind) = true := by simp; omega
                    have c2 : (X.kind == 0) = true := by simp; omega
                    clear a1 a2
                    go_wp2_with fail
                    go_meet
                    exact ⟨by rw [HS2.out], by first | rfl | trivial⟩
                  · by_cases a3 : X.a = f.a
                    · have HS2 : Hid (S = true) := Lib.hid (by rw [← HS.out, decide_eq_true a1, decide_eq_true a3]; simp)
                      have c1 : (X.kind == f.kind) = true := by simp; omega
                      have c2 : (X.kind == 0) = false := by simp; omega
                      have c3 : (X.a == f.a) = true := by simp; omega
                      clear a1 a2 a3
                      go_wp2_with fail
                      go_meet
                      exact ⟨by rw [HS2.out], by first | rfl | trivial⟩
                    · have HS2 : Hid (S = false) := Lib.hid (by rw [← HS.out, decide_eq_false a2, decide_eq_false a3]; simp)
                      have c1 : (X.kind == f.kind) = true := by simp; omega
                      have c2 : (X.kind == 0) = false := by simp; omega
                      have c3 : (X.a == f.a) = false := by simp; omega
                      clear a1 a2 a3
                      go_wp2_with fail
                      go_meet
                      exact ⟨by rw [HS2.out], by first | rfl | trivial⟩
                · have HS2 : Hid (S = false) := Lib.hid (by rw [← HS.out, decide_eq_false a1]; rfl)
                  have c1 : (X.kind == f.kind) = false := by simp; omega
                  clear a1
                  go_wp2_with fail
                  go_meet
                  exact ⟨by rw [HS2.out], by first | rfl | trivial⟩
            case rest =>
              obtain ⟨rfl, rfl⟩ := hcut
              cases g with
              | true =>
                as_aux_lemma =>
                  have HR2 := Lib.hid (HR.out true (by simp))
                  go_wp2_with fail
                  go_roundw
                  case rel => exact ⟨k + 1, true, by omega, by go_num, rfl, HR2, UY⟩
                  case measure => simp [intOf]; omega
              | false =>
                cases S with
                | false =>
                  as_aux_lemma =>
                    have HR2 := Lib.hid (HR.out false (by rw [HLK.out]; rfl))
                    go_wp2_with fail
                    go_roundw
                    case rel => exact ⟨k + 1, false, by omega, by go_num, rfl, HR2, UY⟩
                    case measure => simp [intOf]; omega
                | true =>
                  by_cases a0 : X.kind = 0
                  · as_aux_lemma =>
                      have HR2 := Lib.hid (HR.out true (by rw [HLK.out, decide_eq_true a0]; rfl))
                      have c0 : (X.kind == 0) = true := by simp; omega
                      go_wp2_with fail
                      go_roundw
                      case rel => exact ⟨k + 1, true, by omega, by go_num, rfl, HR2, UY⟩
                      case measure => simp [intOf]; omega
                  · have c0 : (X.kind == 0) = false := by simp; omega
                    by_cases a1 : X.kind = 1
                    · as_aux_lemma =>
                        have HR2 := Lib.hid (HR.out true (by rw [HLK.out, decide_eq_true a1]; simp))
                        have c1 : (X.kind == 1) = true := by simp; omega
                        go_wp2_with fail
                        go_roundw
                        case rel => exact ⟨k + 1, true, by omega, by go_num, rfl, HR2, UY⟩
                        case measure => simp [intOf]; omega
                    · have c1 : (X.kind == 1) = false := by simp; omega
                      by_cases a2 : X.kind = 2
                      · as_aux_lemma =>
                          have HR2 := Lib.hid (HR.out true (by rw [HLK.out, decide_eq_true a2]; simp))
                          have c2 : (X.kind == 2) = true := by simp; omega
                          go_wp2_with fail
                          go_roundw
                          case rel => exact ⟨k + 1, true, by omega, by go_num, rfl, HR2, UY⟩
                          case measure => simp [intOf]; omega
                      · have c2 : (X.kind == 2) = false := by simp; omega
                        by_cases a3 : X.n = f.n
                        · as_aux_lemma =>
                            have HR2 := Lib.hid (HR.out true (by rw [HLK.out, decide_eq_true a3]; simp))
                            have c3 : (X.n == f.n) = true := by simp; omega
                            go_wp2_with fail
                            go_roundw
                            case rel => exact ⟨k + 1, true, by omega, by go_num, rfl, HR2, UY⟩
                            case measure => simp [intOf]; omega
                        · as_aux_lemma =>
                            have HR2 := Lib.hid (HR.out false (by rw [HLK.out, decide_eq_false a0, decide_eq_false a1, decide_eq_false a2, decide_eq_false a3]; rfl))
                            have c3 : (X.n == f.n) = false := by simp; omega
                            go_wp2_with fail
                            go_roundw
                            case rel => exact ⟨k + 1, false, by omega, by go_num, rfl, HR2, UY⟩
                            case measure => simp [intOf]; omega
        · have HGL : Hid (g = l.any (Fa.likeB f)) := Lib.hid (by have h9 := HG.out; rwa [List.take_of_length_le (by rw [HN.out]; omega)] at h9)
          have HFD := Lib.hid (fun h1 h2 h3 => HL.out.found (f := f) h1 h2 h3)
          have PF := Lib.hid (fun W hW => HPO.out f W hW HF.out)
          have AF := Lib.hid (HAL.out f)
          have CFo := Lib.hid (HCO.out f)
          obtain ⟨P, hP⟩ : ∃ q, Fa.possB s.floor st f = q := ⟨_, rfl⟩
          obtain ⟨A, hA⟩ : ∃ q, Fa.allowsB b f = q := ⟨_, rfl⟩
          obtain ⟨C, hC⟩ : ∃ q, Fa.concB st f cells = q := ⟨_, rfl⟩
          rw [hP] at PF HFD
          rw [hA] at AF HFD
          rw [hC] at CFo HFD
          rw [← HGL.out] at HFD
          clear hP hA hC HGL HG
          have x0 : wr.cell? ⟨w.heap.size, 0, none⟩ = some (.int .i64 s.floor.w) := cell_of_heap (CS.out _ (BV7.out _ HU.out)) 0 rfl
          have x1 : wr.cell? ⟨w.heap.size, 1, none⟩ = some (.int .i64 s.floor.h) := cell_of_heap (CS.out _ (BV7.out _ HU.out)) 1 rfl
          have x2 : wr.cell? ⟨w.heap.size, 2, none⟩ = some (.int .i64 s.floor.d) := cell_of_heap (CS.out _ (BV7.out _ HU.out)) 2 rfl
          have x3 : wr.cell? ⟨w.heap.size, 3, none⟩ = some (kv) := cell_of_heap (CS.out _ (BV7.out _ HU.out)) 3 rfl
          have x4 : wr.cell? ⟨w.heap.size, 4, none⟩ = some (ov) := cell_of_heap (CS.out _ (BV7.out _ HU.out)) 4 rfl
          have x5 : wr.cell? ⟨w.heap.size, 5, none⟩ = some (zv) := cell_of_heap (CS.out _ (BV7.out _ HU.out)) 5 rfl
          have x6 : wr.cell? ⟨w.heap.size, 6, none⟩ = some (av) := cell_of_heap (CS.out _ (BV7.out _ HU.out)) 6 rfl
          have x7 : wr.cell? ⟨w.heap.size, 7, none⟩ = some (hv) := cell_of_heap (CS.out _ (BV7.out _ HU.out)) 7 rfl
          have x8 : wr.cell? ⟨w.heap.size, 8, none⟩ = some (bv) := cell_of_heap (CS.out _ (BV7.out _ HU.out)) 8 rfl
          have t0 : wr.cell? ⟨w.heap.size + 1, 0, none⟩ = some (.int .i64 st.tick) := cell_of_heap (CU.out _ (BV7.out _ HU.out)) 0 rfl
          have t1 : wr.cell? ⟨w.heap.size + 1, 1, none⟩ = some (shv) := cell_of_heap (CU.out _ (BV7.out _ HU.out)) 1 rfl
          have t2 : wr.cell? ⟨w.heap.size + 1, 2, none⟩ = some (rov) := cell_of_heap (CU.out _ (BV7.out _ HU.out)) 2 rfl
          have t3 : wr.cell? ⟨w.heap.size + 1, 3, none⟩ = some (pev) := cell_of_heap (CU.out _ (BV7.out _ HU.out)) 3 rfl
          have t4 : wr.cell? ⟨w.heap.size + 1, 4, none⟩ = some (dev) := cell_of_heap (CU.out _ (BV7.out _ HU.out)) 4 rfl
          have t5 : wr.cell? ⟨w.heap.size + 1, 5, none⟩ = some (skv) := cell_of_heap (CU.out _ (BV7.out _ HU.out)) 5 rfl
          have v0 : wr.cell? ⟨w.heap.size + 1 + 1 + 1, 0, none⟩ = some (.int .i64 f.kind) := cell_of_heap (CF.out _ (BV7.out _ HU.out)) 0 rfl
          have v1 : wr.cell? ⟨w.heap.size + 1 + 1 + 1, 1, none⟩ = some (.int .i64 f.a) := cell_of_heap (CF.out _ (BV7.out _ HU.out)) 1 rfl
          have v2 : wr.cell? ⟨w.heap.size + 1 + 1 + 1, 2, none⟩ = some (.int .i64 f.n) := cell_of_heap (CF.out _ (BV7.out _ HU.out)) 2 rfl
          cases P with
          | false =>
            rw [show possE false = 26 from rfl] at PF
            go_wp2_with fail
            go_at_call 10; refine (PF.out _ (BB.out _ (BV7.out _ HU.out))).mono ?_; rintro e wb ⟨rfl, b1⟩
            have UB := Lib.hid (HU.out.trans (b1.mono HU.out.size))
            go_wp2_with fail
            go_ret
            exact ⟨rfl, BB.out _ (BV7.out _ UB.out)⟩
          | true =>
            rw [show possE true = 0 from rfl] at PF
            go_wp2_with fail
            go_at_call 10; refine (PF.out _ (BB.out _ (BV7.out _ HU.out))).mono ?_; rintro e wb ⟨rfl, b1⟩
            have UB := Lib.hid (HU.out.trans (b1.mono HU.out.size))
            clear b1
            clear x0 x1 x2 x3 x4 x5 x6 x7 x8 t0 t1 t2 t3 t4 t5 v0 v1 v2
            have u0 : wb.cell? ⟨w.heap.size + 1 + 1, 0, none⟩ = some (.int .i64 b.stops) := cell_of_heap (CB.out _ (BV7.out _ UB.out)) 0 rfl
            have u1 : wb.cell? ⟨w.heap.size + 1 + 1, 1, none⟩ = some (.int .i64 b.cells) := cell_of_heap (CB.out _ (BV7.out _ UB.out)) 1 rfl
            have u2 : wb.cell? ⟨w.heap.size + 1 + 1, 2, none⟩ = some (.int .i64 b.mutes) := cell_of_heap (CB.out _ (BV7.out _ UB.out)) 2 rfl
            have u3 : wb.cell? ⟨w.heap.size + 1 + 1, 3, none⟩ = some (.int .i64 b.muteMost) := cell_of_heap (CB.out _ (BV7.out _ UB.out)) 3 rfl
            have u4 : wb.cell? ⟨w.heap.size + 1 + 1, 4, none⟩ = some (.int .i64 b.lifts) := cell_of_heap (CB.out _ (BV7.out _ UB.out)) 4 rfl
            have u5 : wb.cell? ⟨w.heap.size + 1 + 1, 5, none⟩ = some (.int .i64 b.liftMost) := cell_of_heap (CB.out _ (BV7.out _ UB.out)) 5 rfl
            have u6 : wb.cell? ⟨w.heap.size + 1 + 1, 6, none⟩ = some (.int .i64 b.steps) := cell_of_heap (CB.out _ (BV7.out _ UB.out)) 6 rfl
            have v0 : wb.cell? ⟨w.heap.size + 1 + 1 + 1, 0, none⟩ = some (.int .i64 f.kind) := cell_of_heap (CF.out _ (BV7.out _ UB.out)) 0 rfl
            have v1 : wb.cell? ⟨w.heap.size + 1 + 1 + 1, 1, none⟩ = some (.int .i64 f.a) := cell_of_heap (CF.out _ (BV7.out _ UB.out)) 1 rfl
            have v2 : wb.cell? ⟨w.heap.size + 1 + 1 + 1, 2, none⟩ = some (.int .i64 f.n) := cell_of_heap (CF.out _ (BV7.out _ UB.out)) 2 rfl
            go_wp2_with fail
            go_at_call 11; refine (AF.out _).mono ?_; rintro e wd ⟨rfl, b1⟩
            have UD := Lib.hid (UB.out.trans (b1.mono UB.out.size))
            clear b1
            clear u0 u1 u2 u3 u4 u5 u6 v0 v1 v2
            cases A with
            | false =>
              go_wp2_with fail
              go_ret
              exact ⟨rfl, BB.out _ (BV7.out _ UD.out)⟩
            | true =>
              have t0 : wd.cell? ⟨w.heap.size + 1, 0, none⟩ = some (.int .i64 st.tick) := cell_of_heap (CU.out _ (BV7.out _ UD.out)) 0 rfl
              have t1 : wd.cell? ⟨w.heap.size + 1, 1, none⟩ = some (shv) := cell_of_heap (CU.out _ (BV7.out _ UD.out)) 1 rfl
              have t2 : wd.cell? ⟨w.heap.size + 1, 2, none⟩ = some (rov) := cell_of_heap (CU.out _ (BV7.out _ UD.out)) 2 rfl
              have t3 : wd.cell? ⟨w.heap.size + 1, 3, none⟩ = some (pev) := cell_of_heap (CU.out _ (BV7.out _ UD.out)) 3 rfl
              have t4 : wd.cell? ⟨w.heap.size + 1, 4, none⟩ = some (dev) := cell_of_heap (CU.out _ (BV7.out _ UD.out)) 4 rfl
              have t5 : wd.cell? ⟨w.heap.size + 1, 5, none⟩ = some (skv) := cell_of_heap (CU.out _ (BV7.out _ UD.out)) 5 rfl
              have v0 : wd.cell? ⟨w.heap.size + 1 + 1 + 1, 0, none⟩ = some (.int .i64 f.kind) := cell_of_heap (CF.out _ (BV7.out _ UD.out)) 0 rfl
              have v1 : wd.cell? ⟨w.heap.size + 1 + 1 + 1, 1, none⟩ = some (.int .i64 f.a) := cell_of_heap (CF.out _ (BV7.out _ UD.out)) 1 rfl
              have v2 : wd.cell? ⟨w.heap.size + 1 + 1 + 1, 2, none⟩ = some (.int .i64 f.n) := cell_of_heap (CF.out _ (BV7.out _ UD.out)) 2 rfl
              go_wp2_with fail
              go_at_call 12; refine (CFo.out _ (BB.out _ (BV7.out _ UD.out))).mono ?_; rintro e we ⟨rfl, b1⟩
              have UE := Lib.hid (UD.out.trans (b1.mono UD.out.size))
              clear b1
              cases C with
              | false =>
                go_wp2_with fail
                go_ret
                exact ⟨rfl, BB.out _ (BV7.out _ UE.out)⟩
              | true =>
                have hg : g = true := by simpa using HFD.out
                subst hg
                go_wp2_with fail
                go_ret
                exact ⟨rfl, BB.out _ (BV7.out _ UE.out)⟩
end Go.Proofs.YtcdfmgobokjcnaaGreat
