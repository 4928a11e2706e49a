/- Parts RfO of this claim, laid one behind the other: walks and the plain laws behind them; each contract states its own conditions. -/
import Derived.Test.YtcdfmgobokjcnaaGreatDoorZV
import Derived.Test.YtcdfmgobokjcnaaGreatDoorYI
import Derived.Test.YtcdfmgobokjcnaaGreatDoorTC
import Derived.Test.YtcdfmgobokjcnaaGreatDoorTG
import Derived.Test.YtcdfmgobokjcnaaGreatDoorTH
/- The walk of FaultTells. -/
namespace Go.Proofs.YtcdfmgobokjcnaaGreatDoor
set_option linter.unusedSimpArgs false
set_option linter.unusedVariables false
open Go.RowKit Go.Sort

theorem al5 (w : World) (A B C D E : Obj) : (((((w.alloc A).alloc B).alloc C).alloc D).alloc E).heap[w.heap.size]? = some A ∧ (((((w.alloc A).alloc B).alloc C).alloc D).alloc E).heap[w.heap.size + 1]? = some B ∧ (((((w.alloc A).alloc B).alloc C).alloc D).alloc E).heap[w.heap.size + 1 + 1]? = some C ∧
    (((((w.alloc A).alloc B).alloc C).alloc D).alloc E).heap[w.heap.size + 1 + 1 + 1]? = some D ∧ (((((w.alloc A).alloc B).alloc C).alloc D).alloc E).heap[w.heap.size + 1 + 1 + 1 + 1]? = some E ∧ Below w.heap.size w (((((w.alloc A).alloc B).alloc C).alloc D).alloc E) := by
  obtain ⟨h1, h2, h3, h4, h5, h6⟩ := al4 w A B C D
  obtain ⟨k1, k2, k3⟩ := al1 ((((w.alloc A).alloc B).alloc C).alloc D) E
  rw [h6] at k1 k2
  exact ⟨(Below.heap_alloc _ _ _ (by omega)).trans h1, (Below.heap_alloc _ _ _ (by omega)).trans h2, (Below.heap_alloc _ _ _ (by omega)).trans h3, (Below.heap_alloc _ _ _ (by omega)).trans h4, k1, h5.trans (k2.mono (by omega))⟩
theorem bud_neqO (x y : Fa.Bud) (w : World) : (binOp .neq 36 (.agg #[.int .i64 x.stops, .int .i64 x.cells, .int .i64 x.mutes, .int .i64 x.muteMost, .int .i64 x.lifts, .int .i64 x.liftMost, .int .i64 x.steps]) (.agg #[.int .i64 y.stops, .int .i64 y.cells, .int .i64 y.mutes, .int .i64 y.muteMost, .int .i64 y.lifts, .int .i64 y.liftMost, .int .i64 y.steps])).run Tryz.prog w = .ok (.bool (!decide (x = y))) w := by
  rw [run_neq_struct, ← budA, ← budA, bud_in]; rfl
theorem readA_bud (t : Wr.B) : ∃ B, readA t = budA B := by
  unfold readA
  split
  · exact ⟨_, rfl⟩
  · exact ⟨⟨0, 0, 0, 0, 0, 0, 0⟩, rfl⟩
theorem read_backV {b : Fa.Bud} (h : Fa.rightB b = true) : readV (Fa.budB b) = .tuple #[.agg (budA b), .bool true] := by
  obtain ⟨h1, h2⟩ := Fa.read_back (Fa.rightB_iff.1 h)
  unfold readV readA
  rw [if_pos h1, h1, h2]
theorem bud64_of {b : Fa.Bud} (h : Fa.rightB b = true) : Bud64 b := by
  obtain ⟨h1, h2, h3, h4, h5, h6, h7⟩ := Fa.right64 (Fa.rightB_iff.1 h)
  exact ⟨h1, h2, h3, h4, h5, h6, h7⟩
theorem budS_of {b : Fa.Bud} (h : Fa.rightB b = true) : BudS b := by
  obtain ⟨h1, h2, h3, h4, h5, h6, h7⟩ := Fa.rightB_iff.1 h
  exact ⟨by omega, by omega, by omega, by omega, by omega⟩
theorem light_of {b : Fa.Bud} (h : lightB b = true) : (0 ≤ b.muteMost ∧ b.muteMost ≤ 20) ∧ (0 ≤ b.liftMost ∧ b.liftMost ≤ 20) := by
  unfold lightB at h
  rw [Bool.and_eq_true, Bool.and_eq_true, decide_eq_true_eq, decide_eq_true_eq] at h
  obtain ⟨h0, h8, h9⟩ := h
  obtain ⟨h1, h2, h3, h4, h5, h6, h7⟩ := Fa.rightB_iff.1 h0
  exact ⟨by omega, by omega⟩
theorem budB_len {b : Fa.Bud} (h : Bud64 b) : (Fa.budB b).length ≤ 147 := by
  have a1 := int_size h.stops
  have a2 := int_size h.cells
  have a3 := int_size h.mutes
  have a4 := int_size h.muteMost
  have a5 := int_size h.lifts
  have a6 := int_size h.liftMost
  have a7 := int_size h.steps
  unfold Fa.budB
  simp only [List.length_append]
  omega
set_option maxRecDepth 100000 in
set_option maxHeartbeats 64000000 in
theorem FaultTells_any (s : Si.Site) (kv ov zv av hv bv : Value) (st : Bd.State) (shv rov pev dev skv : Value) (b c : Fa.Bud) (f : Fa.Flt) (cv : Value) (cells : List Int) (lv : Value) (l : List Fa.Flt) (T : ByteArray) (w : World)
    (h : SiV w kv ov zv av hv bv s) (ht : StV w shv rov pev dev skv st) (hn : ∀ r ∈ st.robots, RobN r) (hb : BudN b) (hc : Is w cv cells) (hl : FtV w lv l) (hE : EnvR w) :
    Calls Tryz.prog 3 #[siV s kv ov zv av hv bv, stV st shv rov pev dev skv, .agg (budA b), .agg (budA c), fltV f, cv, lv, .string T] w fun e w' => e = .returned (.bool true) ∧ Below w.heap.size w w' := by
  obtain ⟨ra, rc, rfl, hrm⟩ := ht.ro.form
  obtain ⟨ca, cc, rfl, hcm⟩ := hc.form
  obtain ⟨la, lc, rfl, hlm⟩ := hl.form
  have HSM := Lib.hid (fun W => small_any W)
  have HE := Lib.hid (fun W (hW : Below w.heap.size w W) => hE.below hW)
  have HFI := Lib.hid (fun W (hW : Below w.heap.size w W) => fits_any s kv ov zv av hv bv st shv _ pev dev skv _ cells W (h.keep hW) (ht.keep hW) hn (hc.keep hW))
  have HLI := Lib.hid (fun W => light_any b W)
  have HL1 := Lib.hid (fun W (hW : Below w.heap.size w W) (hf : FitsP s st cells) (hl : lightB b = true) => List_any s.floor kv ov zv av hv bv st shv _ pev dev skv b _ cells W (h.fl.keep hW) (FB.of hf.right.1.fl) (by have := hf.few.kl; omega) (ht.keep hW) hf.few4.sts hb (hc.keep hW) (by have := light_of hl; omega) (by have := light_of hl; omega) (by have := hf.cl; omega))
  have HL2 := Lib.hid (fun W (hW : Below w.heap.size w W) (hf : FitsP s st cells) (hl : lightB b = true) => rList29_any s.floor kv ov zv av hv bv st shv _ pev dev skv b _ cells W (h.fl.keep hW) (FB.of hf.right.1.fl) (by have := hf.few.kl; omega) (ht.keep hW) hf.few4 (hc.keep hW) (light_of hl).1 (light_of hl).2)
  have HCO := Lib.hid (fun W (hW : Below w.heap.size w W) => Concerns_any st shv _ pev dev skv _ f cells W (ht.keep hW) (hc.keep hW))
  have HC2 := Lib.hid (fun W (hW : Below w.heap.size w W) => rConcerns29_any st shv _ pev dev skv _ f cells W (ht.keep hW) (hc.keep hW))
  have HR1 := Lib.hid (fun W => fRightB_any b W)
  have HR2 := Lib.hid (fun W => rRight29_any b W)
  have HRC := Lib.hid (fun W => fRightB_any c W)
  have HRD := Lib.hid (fun D W (hW : Below w.heap.size w W) hD => fRead_any D W (hE.below hW) hD)
  have HRE := Lib.hid (fun W hD => rRead29_any T W hD)
  have HSP := Lib.hid (fun W => Spend_any b f W hb)
  have HS2 := Lib.hid (fun W => rSpend29_any b f W hb)
  have HRU := Lib.hid (fun W (hW : Below w.heap.size w W) => Run_any b _ l W hb (hl.keep hW))
  have HRV := Lib.hid (fun W (hW : Below w.heap.size w W) => rRun29_any b _ l W hb (hl.keep hW))
  have HAL := Lib.hid (fun W => Allows_any b f W hb)
  have HA2 := Lib.hid (fun W => rAllows29_any b f W)
  have HWI := Lib.hid (fun W => fWithin_any b c W)
  have HW2 := Lib.hid (fun W => rWithin29_any b c W)
  have HBY := Lib.hid (fun W (hW : Below w.heap.size w W) (hr : Fa.rightB b = true) => fBytes_any b W (bud64_of hr) (hE.below hW).pow)
  have HB2 := Lib.hid (fun W (hr : Fa.rightB b = true) => rBytes29_any b W (bud64_of hr))
  have HLE := Lib.hid (fun W (hr : Fa.rightB b = true) => Left_any b W (budS_of hr))
  have HLF := Lib.hid (fun W (hr : Fa.rightB b = true) => rLeft29_any b W (budS_of hr))
  have HRZ : Hid (∀ (D : ByteArray) W, Below w.heap.size w W → Fa.rightB b = true → bs D = Fa.budB b → Calls Tryz.prog 5 #[.string D] W fun e w' => e = .returned (.tuple #[.agg (budA b), .bool true]) ∧ Below W.heap.size W w') := Lib.hid (fun D W hW hr hD => by
    have h1 := HRD.out D W hW (by rw [← bs_len, hD]; have := budB_len (bud64_of hr); omega)
    rw [hD, read_backV hr] at h1
    exact h1)
  unfold LstPost at HL1 HL2
  unfold TruePost at HFI
  unfold SP at HBY HB2
  unfold siF at HL1 HL2
  unfold siV at HFI ⊢
  unfold stV at HFI HL1 HL2 HCO HC2 ⊢
  obtain ⟨BX, hBX⟩ := readA_bud (bs T)
  obtain ⟨RB, hRB⟩ : ∃ r, Fa.readB (bs T) = r := ⟨_, rfl⟩
  have HX1 := Lib.hid (fun W hW hD => HRD.out T W hW hD)
  unfold readV at HX1 HRE
  rw [hBX, hRB] at HX1 HRE
  obtain ⟨BP, EP, hsp, -, -, -, -⟩ := spendV_ok b (Fa.spend b f)
  rw [hsp] at HSP HS2
  obtain ⟨⟨BM, NM⟩, hru⟩ : ∃ r, Fa.run b l = r := ⟨_, rfl⟩
  rw [hru] at HRU HRV
  unfold runV at HRU HRV
  obtain ⟨R, hR⟩ : ∃ r, Fa.rightB b = r := ⟨_, rfl⟩
  obtain ⟨RC, hRC⟩ : ∃ r, Fa.rightB c = r := ⟨_, rfl⟩
  obtain ⟨CO, hCO⟩ : ∃ r, Fa.concB st f cells = r := ⟨_, rfl⟩
  obtain ⟨AL, hAL⟩ : ∃ r, Fa.allowsB b f = r := ⟨_, rfl⟩
  obtain ⟨WI, hWI⟩ : ∃ r, withinB b c = r := ⟨_, rfl⟩
  obtain ⟨LE, hLE⟩ : ∃ r, Fa.left b = r := ⟨_, rfl⟩
  obtain ⟨LB, hLB⟩ : ∃ r, lightB b = r := ⟨_, rfl⟩
  rw [hR] at HR1 HR2 HBY HB2 HLE HLF HRZ
  rw [hRC] at HRC
  rw [hCO] at HCO HC2
  rw [hAL] at HAL HA2
  rw [hWI] at HWI HW2
  rw [hLE] at HLE HLF
  rw [hLB] at HLI HL1 HL2
  unfold budA at HL1 HL2 HLI HR1 HR2 HRC HSP HS2 HRU HRV HAL HA2 HWI HW2 HBY HB2 HLE HLF HRZ HX1 HRE ⊢
  unfold fltV at HCO HC2 HSP HS2 HAL HA2 ⊢
  dsimp only at HRU HRV
  obtain ⟨nr, enr⟩ : ∃ n, st.robots.length = n := ⟨_, rfl⟩
  obtain ⟨cl, ecl⟩ : ∃ n, cells.length = n := ⟨_, rfl⟩
  obtain ⟨nl, enl⟩ : ∃ n, l.length = n := ⟨_, rfl⟩
  rw [enr] at HFI HL1 HL2 HCO HC2 hrm
  rw [ecl] at HFI HL1 HL2 HCO HC2 hcm
  rw [enl] at HRU HRV hlm
  rw [enr, ecl, enl]
  have hRn : (R != R) = false := by cases R <;> rfl
  have hBn : (RB != RB) = false := by cases RB <;> rfl
  have hCn : (CO != CO) = false := by cases CO <;> rfl
  have hAn : (AL != AL) = false := by cases AL <;> rfl
  have hWn : (WI != WI) = false := by cases WI <;> rfl
  have hEn : (EP != EP) = false := by simp
  have hLn : (LE != LE) = false := by simp
  have hNn : ((NM : Int) != (NM : Int)) = false := by simp
  have HRR := Lib.hid hR
  have HNX : Hid (∀ W, (binOp .neq 36 (.agg #[.int .i64 BX.stops, .int .i64 BX.cells, .int .i64 BX.mutes, .int .i64 BX.muteMost, .int .i64 BX.lifts, .int .i64 BX.liftMost, .int .i64 BX.steps]) (.agg #[.int .i64 BX.stops, .int .i64 BX.cells, .int .i64 BX.mutes, .int .i64 BX.muteMost, .int .i64 BX.lifts, .int .i64 BX.liftMost, .int .i64 BX.steps])).run Tryz.prog W = .ok (.bool false) W) := Lib.hid (fun W => by rw [bud_neqO, decide_eq_true rfl]; rfl)
  have HNP : Hid (∀ W, (binOp .neq 36 (.agg #[.int .i64 BP.stops, .int .i64 BP.cells, .int .i64 BP.mutes, .int .i64 BP.muteMost, .int .i64 BP.lifts, .int .i64 BP.liftMost, .int .i64 BP.steps]) (.agg #[.int .i64 BP.stops, .int .i64 BP.cells, .int .i64 BP.mutes, .int .i64 BP.muteMost, .int .i64 BP.lifts, .int .i64 BP.liftMost, .int .i64 BP.steps])).run Tryz.prog W = .ok (.bool false) W) := Lib.hid (fun W => by rw [bud_neqO, decide_eq_true rfl]; rfl)
  have HNM : Hid (∀ W, (binOp .neq 36 (.agg #[.int .i64 BM.stops, .int .i64 BM.cells, .int .i64 BM.mutes, .int .i64 BM.muteMost, .int .i64 BM.lifts, .int .i64 BM.liftMost, .int .i64 BM.steps]) (.agg #[.int .i64 BM.stops, .int .i64 BM.cells, .int .i64 BM.mutes, .int .i64 BM.muteMost, .int .i64 BM.lifts, .int .i64 BM.liftMost, .int .i64 BM.steps])).run Tryz.prog W = .ok (.bool false) W) := Lib.hid (fun W => by rw [bud_neqO, decide_eq_true rfl]; rfl)
  have HNB : Hid (∀ W, (binOp .neq 36 (.agg #[.int .i64 b.stops, .int .i64 b.cells, .int .i64 b.mutes, .int .i64 b.muteMost, .int .i64 b.lifts, .int .i64 b.liftMost, .int .i64 b.steps]) (.agg #[.int .i64 b.stops, .int .i64 b.cells, .int .i64 b.mutes, .int .i64 b.muteMost, .int .i64 b.lifts, .int .i64 b.liftMost, .int .i64 b.steps])).run Tryz.prog W = .ok (.bool false) W) := Lib.hid (fun W => by rw [bud_neqO, decide_eq_true rfl]; rfl)
  obtain ⟨w2, hw2⟩ : ∃ W, W = ((((w.alloc (.cells #[.int .i64 s.floor.w, .int .i64 s.floor.h, .int .i64 s.floor.d, kv, ov, zv, av, hv, bv] 30)).alloc (.cells #[.int .i64 st.tick, shv, .slice ra nr rc, pev, dev, skv] 34)).alloc (.cells #[.int .i64 b.stops, .int .i64 b.cells, .int .i64 b.mutes, .int .i64 b.muteMost, .int .i64 b.lifts, .int .i64 b.liftMost, .int .i64 b.steps] 36)).alloc (.cells #[.int .i64 c.stops, .int .i64 c.cells, .int .i64 c.mutes, .int .i64 c.muteMost, .int .i64 c.lifts, .int .i64 c.liftMost, .int .i64 c.steps] 36)).alloc (.cells #[.int .i64 f.kind, .int .i64 f.a, .int .i64 f.n] 38) := ⟨_, rfl⟩
  have HA := al5 w (.cells #[.int .i64 s.floor.w, .int .i64 s.floor.h, .int .i64 s.floor.d, kv, ov, zv, av, hv, bv] 30) (.cells #[.int .i64 st.tick, shv, .slice ra nr rc, pev, dev, skv] 34) (.cells #[.int .i64 b.stops, .int .i64 b.cells, .int .i64 b.mutes, .int .i64 b.muteMost, .int .i64 b.lifts, .int .i64 b.liftMost, .int .i64 b.steps] 36) (.cells #[.int .i64 c.stops, .int .i64 c.cells, .int .i64 c.mutes, .int .i64 c.muteMost, .int .i64 c.lifts, .int .i64 c.liftMost, .int .i64 c.steps] 36) (.cells #[.int .i64 f.kind, .int .i64 f.a, .int .i64 f.n] 38)
  rw [← hw2] at HA
  obtain ⟨IS, IT, IB, IC, IF, hB2⟩ := HA
  have B2 := Lib.hid hB2
  have HW := Lib.hid hw2
  have CS : Hid (∀ W, Below w2.heap.size w2 W → W.heap[w.heap.size]? = some (.cells #[.int .i64 s.floor.w, .int .i64 s.floor.h, .int .i64 s.floor.d, kv, ov, zv, av, hv, bv] 30 (0, 0))) := Lib.hid (fun W hW => keep_heap IS hW)
  have CT : Hid (∀ W, Below w2.heap.size w2 W → W.heap[w.heap.size + 1]? = some (.cells #[.int .i64 st.tick, shv, .slice ra nr rc, pev, dev, skv] 34 (0, 0))) := Lib.hid (fun W hW => keep_heap IT hW)
  have CB : Hid (∀ W, Below w2.heap.size w2 W → W.heap[w.heap.size + 1 + 1]? = some (.cells #[.int .i64 b.stops, .int .i64 b.cells, .int .i64 b.mutes, .int .i64 b.muteMost, .int .i64 b.lifts, .int .i64 b.liftMost, .int .i64 b.steps] 36 (0, 0))) := Lib.hid (fun W hW => keep_heap IB hW)
  have CC : Hid (∀ W, Below w2.heap.size w2 W → W.heap[w.heap.size + 1 + 1 + 1]? = some (.cells #[.int .i64 c.stops, .int .i64 c.cells, .int .i64 c.mutes, .int .i64 c.muteMost, .int .i64 c.lifts, .int .i64 c.liftMost, .int .i64 c.steps] 36 (0, 0))) := Lib.hid (fun W hW => keep_heap IC hW)
  have CF : Hid (∀ W, Below w2.heap.size w2 W → W.heap[w.heap.size + 1 + 1 + 1 + 1]? = some (.cells #[.int .i64 f.kind, .int .i64 f.a, .int .i64 f.n] 38 (0, 0))) := Lib.hid (fun W hW => keep_heap IF hW)
  have BB : Hid (∀ W, Below w2.heap.size w2 W → Below w.heap.size w W) := Lib.hid (fun W hW => B2.out.trans (hW.mono B2.out.size))
  clear h ht hn hb hc hl hE hBX hRB hsp hru hR hRC hCO hAL hWI hLE hLB enr ecl enl hw2 IS IT IB IC IF hB2 HRD
  go_enter Tryz.func3, Tryz.ntmps3
  go_upto_region 1 with fail
  rw [← HW.out]
  clear HW
  go_wp2_with fail
  go_at_call 4; with_reducible refine (HSM.out _).mono ?_; rintro e w3 ⟨rfl, b3⟩
  have U3 := Lib.hid b3
  clear b3 HSM
  have t0 : w3.cell? ⟨w.heap.size + 1, 0, none⟩ = some (.int .i64 st.tick) := cell_of_heap (CT.out _ U3.out) 0 rfl
  have t1 : w3.cell? ⟨w.heap.size + 1, 1, none⟩ = some (shv) := cell_of_heap (CT.out _ U3.out) 1 rfl
  have t2 : w3.cell? ⟨w.heap.size + 1, 2, none⟩ = some (.slice ra nr rc) := cell_of_heap (CT.out _ U3.out) 2 rfl
  have t3 : w3.cell? ⟨w.heap.size + 1, 3, none⟩ = some (pev) := cell_of_heap (CT.out _ U3.out) 3 rfl
  have t4 : w3.cell? ⟨w.heap.size + 1, 4, none⟩ = some (dev) := cell_of_heap (CT.out _ U3.out) 4 rfl
  have t5 : w3.cell? ⟨w.heap.size + 1, 5, none⟩ = some (skv) := cell_of_heap (CT.out _ U3.out) 5 rfl
  by_cases g1 : (T.size : Int) > 100
  · skip
    go_wp2_with fail
    go_ret
    exact ⟨rfl, BB.out _ U3.out⟩
  by_cases g2 : (nl : Int) > 60
  · skip
    go_wp2_with fail
    go_ret
    exact ⟨rfl, BB.out _ U3.out⟩
  by_cases g3 : (cl : Int) > 60
  · skip
    go_wp2_with fail
    go_ret
    exact ⟨rfl, BB.out _ U3.out⟩
  by_cases g4 : (nr : Int) > 60
  · skip
    go_wp2_with fail
    go_ret
    exact ⟨rfl, BB.out _ U3.out⟩
  have hTl : T.size ≤ 1000000 := by omega
  have HX2 := Lib.hid (fun W hW => HX1.out W hW hTl)
  have HR9 := Lib.hid (fun W => HRE.out W hTl)
  clear HX1 HRE hTl
  go_upto_region 4 with fail
  clear t0 t1 t2 t3 t4 t5
  go_wp2_with fail
  go_at_call 5; with_reducible refine (HX2.out _ (BB.out _ U3.out)).mono ?_; rintro e w4 ⟨rfl, b9⟩
  have U4 := Lib.hid (U3.out.trans (b9.mono U3.out.size))
  clear b9
  obtain ⟨w5, hw5⟩ : ∃ W, W = w4.alloc (.cells #[.int .i64 BX.stops, .int .i64 BX.cells, .int .i64 BX.mutes, .int .i64 BX.muteMost, .int .i64 BX.lifts, .int .i64 BX.liftMost, .int .i64 BX.steps] 36) := ⟨_, rfl⟩
  have b9 : Below w4.heap.size w4 w5 := by rw [hw5]; exact (Below.refl _ _).alloc (Nat.le_refl _) _
  obtain ⟨X1, hX1⟩ : ∃ n, w4.heap.size = n := ⟨_, rfl⟩
  have Xw5 : Hid (w5.heap[X1]? = some (.cells #[.int .i64 BX.stops, .int .i64 BX.cells, .int .i64 BX.mutes, .int .i64 BX.muteMost, .int .i64 BX.lifts, .int .i64 BX.liftMost, .int .i64 BX.steps] 36 (0, 0))) := Lib.hid (by rw [hw5, ← hX1]; exact heap_alloc_new _ _)
  have HH := Lib.hid hw5
  clear hw5
  have U5 := Lib.hid (U4.out.trans (b9.mono U4.out.size))
  clear b9
  go_upto_region 5 with fail
  rw [← HH.out]
  try rw [hX1]
  clear hX1 HH
  go_wp2_with fail
  go_at_call 6; with_reducible refine (HR9.out _).mono ?_; rintro e w6 ⟨rfl, b9⟩
  have U6 := Lib.hid (U5.out.trans (b9.mono U5.out.size))
  have Xw6 := Lib.hid (keep_heap Xw5.out b9)
  clear b9
  obtain ⟨w7, hw7⟩ : ∃ W, W = w6.alloc (.cells #[.int .i64 BX.stops, .int .i64 BX.cells, .int .i64 BX.mutes, .int .i64 BX.muteMost, .int .i64 BX.lifts, .int .i64 BX.liftMost, .int .i64 BX.steps] 36) := ⟨_, rfl⟩
  have b9 : Below w6.heap.size w6 w7 := by rw [hw7]; exact (Below.refl _ _).alloc (Nat.le_refl _) _
  obtain ⟨X2, hX2⟩ : ∃ n, w6.heap.size = n := ⟨_, rfl⟩
  have Yw7 : Hid (w7.heap[X2]? = some (.cells #[.int .i64 BX.stops, .int .i64 BX.cells, .int .i64 BX.mutes, .int .i64 BX.muteMost, .int .i64 BX.lifts, .int .i64 BX.liftMost, .int .i64 BX.steps] 36 (0, 0))) := Lib.hid (by rw [hw7, ← hX2]; exact heap_alloc_new _ _)
  have HH := Lib.hid hw7
  clear hw7
  have U7 := Lib.hid (U6.out.trans (b9.mono U6.out.size))
  have Xw7 := Lib.hid (keep_heap Xw6.out b9)
  clear b9
  go_upto_region 6 with fail
  rw [← HH.out]
  try rw [hX2]
  clear hX2 HH
  refine wp_region_held_drew (S := fun W' => W'.heap[w.heap.size + 1]? = some (.cells #[.int .i64 st.tick, shv, .slice ra nr rc, pev, dev, skv] 34 (0, 0)) ∧ W'.heap[w.heap.size + 1 + 1]? = some (.cells #[.int .i64 b.stops, .int .i64 b.cells, .int .i64 b.mutes, .int .i64 b.muteMost, .int .i64 b.lifts, .int .i64 b.liftMost, .int .i64 b.steps] 36 (0, 0)) ∧ W'.heap[w.heap.size + 1 + 1 + 1 + 1]? = some (.cells #[.int .i64 f.kind, .int .i64 f.a, .int .i64 f.n] 38 (0, 0)) ∧ W'.heap[X1]? = some (.cells #[.int .i64 BX.stops, .int .i64 BX.cells, .int .i64 BX.mutes, .int .i64 BX.muteMost, .int .i64 BX.lifts, .int .i64 BX.liftMost, .int .i64 BX.steps] 36 (0, 0)) ∧ W'.heap[X2]? = some (.cells #[.int .i64 BX.stops, .int .i64 BX.cells, .int .i64 BX.mutes, .int .i64 BX.muteMost, .int .i64 BX.lifts, .int .i64 BX.liftMost, .int .i64 BX.steps] 36 (0, 0))) (by kernel_rfl) ⟨(CT.out w7 U7.out), (CB.out w7 U7.out), (CF.out w7 U7.out), Xw7.out, Yw7.out⟩ (fun hHeld => ?_)
  obtain ⟨w8, hwx⟩ : ∃ W, W = w7.drew := ⟨_, rfl⟩
  rw [← hwx] at hHeld ⊢
  have b9 : Below w7.heap.size w7 w8 := by subst hwx; exact ⟨rfl, rfl, rfl, Nat.le_refl _, fun _ _ => rfl⟩
  clear hwx
  have U8 := Lib.hid (U7.out.trans (b9.mono U7.out.size))
  have Xw8 := Lib.hid (keep_heap Xw7.out b9)
  have Yw8 := Lib.hid (keep_heap Yw7.out b9)
  clear b9
  try simp only [Act.put, List.getElem_toArray, List.getElem_cons_zero, List.getElem_cons_succ, List.setIfInBounds_toArray, List.set_cons_zero, List.set_cons_succ]
  refine wpAnyH_take (i := 0) (oi := _) (v := ?_) rfl (by kernel_rfl) (by kernel_rfl) (by kernel_rfl) (fun _ _ _ h => h) (Or.inl ⟨by rfl, ?_⟩) (by assumption) ?_
  rotate_left
  · intro w' hSw; obtain ⟨k0, k1, k2, k3, k4⟩ := hSw; have c0 := cell_of_heap k1 0 (v := .int .i64 b.stops) rfl; have c1 := cell_of_heap k1 1 (v := .int .i64 b.cells) rfl; have c2 := cell_of_heap k1 2 (v := .int .i64 b.mutes) rfl; have c3 := cell_of_heap k1 3 (v := .int .i64 b.muteMost) rfl; have c4 := cell_of_heap k1 4 (v := .int .i64 b.lifts) rfl; have c5 := cell_of_heap k1 5 (v := .int .i64 b.liftMost) rfl; have c6 := cell_of_heap k1 6 (v := .int .i64 b.steps) rfl; go_simp; all_goals (with_reducible rfl)
  try simp only [Act.put, List.getElem_toArray, List.getElem_cons_zero, List.getElem_cons_succ, List.setIfInBounds_toArray, List.set_cons_zero, List.set_cons_succ]
  refine wpAnyH_take (i := 2) (oi := _) (v := ?_) rfl (by kernel_rfl) (by kernel_rfl) (by kernel_rfl) (fun _ _ _ h => h) (Or.inl ⟨by rfl, ?_⟩) (by assumption) ?_
  rotate_left
  · intro w' hSw; obtain ⟨k0, k1, k2, k3, k4⟩ := hSw; have c0 := cell_of_heap k1 0 (v := .int .i64 b.stops) rfl; have c1 := cell_of_heap k1 1 (v := .int .i64 b.cells) rfl; have c2 := cell_of_heap k1 2 (v := .int .i64 b.mutes) rfl; have c3 := cell_of_heap k1 3 (v := .int .i64 b.muteMost) rfl; have c4 := cell_of_heap k1 4 (v := .int .i64 b.lifts) rfl; have c5 := cell_of_heap k1 5 (v := .int .i64 b.liftMost) rfl; have c6 := cell_of_heap k1 6 (v := .int .i64 b.steps) rfl; go_simp; all_goals (with_reducible rfl)
  try simp only [Act.put, List.getElem_toArray, List.getElem_cons_zero, List.getElem_cons_succ, List.setIfInBounds_toArray, List.set_cons_zero, List.set_cons_succ]
  refine wpAnyH_ready (rs := [1]) (by kernel_rfl) (by simp) ?_
  refine AllReadyH.cons (o := _) rfl (fun K9 hK => ?_) AllReadyH.nil
  go_simp
  go_at_call 7; with_reducible refine (HR1.out _).mono ?_; rintro e w9 ⟨rfl, b9⟩
  have SX : w9.heap[w.heap.size + 1]? = some (.cells #[.int .i64 st.tick, shv, .slice ra nr rc, pev, dev, skv] 34 (0, 0)) ∧ w9.heap[w.heap.size + 1 + 1]? = some (.cells #[.int .i64 b.stops, .int .i64 b.cells, .int .i64 b.mutes, .int .i64 b.muteMost, .int .i64 b.lifts, .int .i64 b.liftMost, .int .i64 b.steps] 36 (0, 0)) ∧ w9.heap[w.heap.size + 1 + 1 + 1 + 1]? = some (.cells #[.int .i64 f.kind, .int .i64 f.a, .int .i64 f.n] 38 (0, 0)) ∧ w9.heap[X1]? = some (.cells #[.int .i64 BX.stops, .int .i64 BX.cells, .int .i64 BX.mutes, .int .i64 BX.muteMost, .int .i64 BX.lifts, .int .i64 BX.liftMost, .int .i64 BX.steps] 36 (0, 0)) ∧ w9.heap[X2]? = some (.cells #[.int .i64 BX.stops, .int .i64 BX.cells, .int .i64 BX.mutes, .int .i64 BX.muteMost, .int .i64 BX.lifts, .int .i64 BX.liftMost, .int .i64 BX.steps] 36 (0, 0)) := by
    obtain ⟨k0, k1, k2, k3, k4⟩ := hHeld
    exact ⟨keep_heap k0 b9, keep_heap k1 b9, keep_heap k2 b9, keep_heap k3 b9, keep_heap k4 b9⟩
  clear hHeld
  have U9 := Lib.hid (U8.out.trans (b9.mono U8.out.size))
  have Xw9 := Lib.hid (keep_heap Xw8.out b9)
  have Yw9 := Lib.hid (keep_heap Yw8.out b9)
  clear b9
  go_simp
  refine hK.out _ _ SX (fun hHeld => ?_)
  clear hK K9 SX
  try simp only [Act.put, List.getElem_toArray, List.getElem_cons_zero, List.getElem_cons_succ, List.setIfInBounds_toArray, List.set_cons_zero, List.set_cons_succ]
  refine wpAnyH_ready (rs := [3]) (by kernel_rfl) (by simp) ?_
  refine AllReadyH.cons (o := _) rfl (fun K9 hK => ?_) AllReadyH.nil
  go_simp
  go_at_call 8; with_reducible refine (HR2.out _).mono ?_; rintro e w10 ⟨rfl, b9⟩
  have SX : w10.heap[w.heap.size + 1]? = some (.cells #[.int .i64 st.tick, shv, .slice ra nr rc, pev, dev, skv] 34 (0, 0)) ∧ w10.heap[w.heap.size + 1 + 1]? = some (.cells #[.int .i64 b.stops, .int .i64 b.cells, .int .i64 b.mutes, .int .i64 b.muteMost, .int .i64 b.lifts, .int .i64 b.liftMost, .int .i64 b.steps] 36 (0, 0)) ∧ w10.heap[w.heap.size + 1 + 1 + 1 + 1]? = some (.cells #[.int .i64 f.kind, .int .i64 f.a, .int .i64 f.n] 38 (0, 0)) ∧ w10.heap[X1]? = some (.cells #[.int .i64 BX.stops, .int .i64 BX.cells, .int .i64 BX.mutes, .int .i64 BX.muteMost, .int .i64 BX.lifts, .int .i64 BX.liftMost, .int .i64 BX.steps] 36 (0, 0)) ∧ w10.heap[X2]? = some (.cells #[.int .i64 BX.stops, .int .i64 BX.cells, .int .i64 BX.mutes, .int .i64 BX.muteMost, .int .i64 BX.lifts, .int .i64 BX.liftMost, .int .i64 BX.steps] 36 (0, 0)) := by
    obtain ⟨k0, k1, k2, k3, k4⟩ := hHeld
    exact ⟨keep_heap k0 b9, keep_heap k1 b9, keep_heap k2 b9, keep_heap k3 b9, keep_heap k4 b9⟩
  clear hHeld
  have U10 := Lib.hid (U9.out.trans (b9.mono U9.out.size))
  have Xw10 := Lib.hid (keep_heap Xw9.out b9)
  have Yw10 := Lib.hid (keep_heap Yw9.out b9)
  clear b9
  go_simp
  refine hK.out _ _ SX (fun hHeld => ?_)
  clear hK K9 SX
  try simp only [Act.put, List.getElem_toArray, List.getElem_cons_zero, List.getElem_cons_succ, List.setIfInBounds_toArray, List.set_cons_zero, List.set_cons_succ]
  refine wpAnyH_take (i := 4) (oi := _) (v := ?_) rfl (by kernel_rfl) (by kernel_rfl) (by kernel_rfl) (fun _ _ _ h => h) (Or.inl ⟨by rfl, ?_⟩) (by assumption) ?_
  rotate_left
  · intro w' hSw; go_simp; all_goals (with_reducible rfl)
  try simp only [Act.put, List.getElem_toArray, List.getElem_cons_zero, List.getElem_cons_succ, List.setIfInBounds_toArray, List.set_cons_zero, List.set_cons_succ]
  refine wpAnyH_take (i := 5) (oi := _) (v := ?_) rfl (by kernel_rfl) (by kernel_rfl) (by kernel_rfl) (fun _ _ _ h => h) (Or.inl ⟨by rfl, ?_⟩) (by assumption) ?_
  rotate_left
  · intro w' hSw; go_simp; all_goals (with_reducible rfl)
  try simp only [Act.put, List.getElem_toArray, List.getElem_cons_zero, List.getElem_cons_succ, List.setIfInBounds_toArray, List.set_cons_zero, List.set_cons_succ]
  refine wpAnyH_take (i := 6) (oi := _) (v := ?_) rfl (by kernel_rfl) (by kernel_rfl) (by kernel_rfl) (fun _ _ _ h => h) (Or.inl ⟨by rfl, ?_⟩) (by assumption) ?_
  rotate_left
  · intro w' hSw; go_simp; all_goals (with_reducible rfl)
  try simp only [Act.put, List.getElem_toArray, List.getElem_cons_zero, List.getElem_cons_succ, List.setIfInBounds_toArray, List.set_cons_zero, List.set_cons_succ]
  refine wpAnyH_take (i := 7) (oi := _) (v := ?_) rfl (by kernel_rfl) (by kernel_rfl) (by kernel_rfl) (fun _ _ _ h => h) (Or.inl ⟨by rfl, ?_⟩) (by assumption) ?_
  rotate_left
  · intro w' hSw; go_simp; all_goals (with_reducible rfl)
  try simp only [Act.put, List.getElem_toArray, List.getElem_cons_zero, List.getElem_cons_succ, List.setIfInBounds_toArray, List.set_cons_zero, List.set_cons_succ]
  refine wpAnyH_take (i := 8) (oi := _) (v := ?_) rfl (by kernel_rfl) (by kernel_rfl) (by kernel_rfl) (fun _ _ _ h => h) (Or.inl ⟨by rfl, ?_⟩) (by assumption) ?_
  rotate_left
  · intro w' hSw; go_simp; all_goals (with_reducible rfl)
  try simp only [Act.put, List.getElem_toArray, List.getElem_cons_zero, List.getElem_cons_succ, List.setIfInBounds_toArray, List.set_cons_zero, List.set_cons_succ]
  refine wpAnyH_take (i := 9) (oi := _) (v := ?_) rfl (by kernel_rfl) (by kernel_rfl) (by kernel_rfl) (fun _ _ _ h => h) (Or.inl ⟨by rfl, ?_⟩) (by assumption) ?_
  rotate_left
  · intro w' hSw; go_simp; all_goals (with_reducible rfl)
  try simp only [Act.put, List.getElem_toArray, List.getElem_cons_zero, List.getElem_cons_succ, List.setIfInBounds_toArray, List.set_cons_zero, List.set_cons_succ]
  refine wpAnyH_take (i := 10) (oi := _) (v := ?_) rfl (by kernel_rfl) (by kernel_rfl) (by kernel_rfl) (fun _ _ _ h => h) (Or.inl ⟨by rfl, ?_⟩) (by assumption) ?_
  rotate_left
  · intro w' hSw; go_simp; all_goals (with_reducible rfl)
  try simp only [Act.put, List.getElem_toArray, List.getElem_cons_zero, List.getElem_cons_succ, List.setIfInBounds_toArray, List.set_cons_zero, List.set_cons_succ]
  refine wpAnyH_take (i := 11) (oi := _) (v := ?_) rfl (by kernel_rfl) (by kernel_rfl) (by kernel_rfl) (fun _ _ _ h => h) (Or.inl ⟨by rfl, ?_⟩) (by assumption) ?_
  rotate_left
  · intro w' hSw; obtain ⟨k0, k1, k2, k3, k4⟩ := hSw; have c0 := cell_of_heap k3 0 (v := .int .i64 BX.stops) rfl; have c1 := cell_of_heap k3 1 (v := .int .i64 BX.cells) rfl; have c2 := cell_of_heap k3 2 (v := .int .i64 BX.mutes) rfl; have c3 := cell_of_heap k3 3 (v := .int .i64 BX.muteMost) rfl; have c4 := cell_of_heap k3 4 (v := .int .i64 BX.lifts) rfl; have c5 := cell_of_heap k3 5 (v := .int .i64 BX.liftMost) rfl; have c6 := cell_of_heap k3 6 (v := .int .i64 BX.steps) rfl; go_simp; all_goals (with_reducible rfl)
  try simp only [Act.put, List.getElem_toArray, List.getElem_cons_zero, List.getElem_cons_succ, List.setIfInBounds_toArray, List.set_cons_zero, List.set_cons_succ]
  refine wpAnyH_take (i := 12) (oi := _) (v := ?_) rfl (by kernel_rfl) (by kernel_rfl) (by kernel_rfl) (fun _ _ _ h => h) (Or.inl ⟨by rfl, ?_⟩) (by assumption) ?_
  rotate_left
  · intro w' hSw; obtain ⟨k0, k1, k2, k3, k4⟩ := hSw; have c0 := cell_of_heap k4 0 (v := .int .i64 BX.stops) rfl; have c1 := cell_of_heap k4 1 (v := .int .i64 BX.cells) rfl; have c2 := cell_of_heap k4 2 (v := .int .i64 BX.mutes) rfl; have c3 := cell_of_heap k4 3 (v := .int .i64 BX.muteMost) rfl; have c4 := cell_of_heap k4 4 (v := .int .i64 BX.lifts) rfl; have c5 := cell_of_heap k4 5 (v := .int .i64 BX.liftMost) rfl; have c6 := cell_of_heap k4 6 (v := .int .i64 BX.steps) rfl; go_simp; all_goals (with_reducible rfl)
  try simp only [Act.put, List.getElem_toArray, List.getElem_cons_zero, List.getElem_cons_succ, List.setIfInBounds_toArray, List.set_cons_zero, List.set_cons_succ]
  refine wpAnyH_take (i := 13) (oi := _) (v := ?_) rfl (by kernel_rfl) (by kernel_rfl) (by kernel_rfl) (fun _ _ _ h => h) (Or.inl ⟨by rfl, ?_⟩) (by assumption) ?_
  rotate_left
  · intro w' hSw; have hq := HNX.out w'; go_simp; all_goals (with_reducible rfl)
  try simp only [Act.put, List.getElem_toArray, List.getElem_cons_zero, List.getElem_cons_succ, List.setIfInBounds_toArray, List.set_cons_zero, List.set_cons_succ]
  refine wpAnyH_take (i := 14) (oi := _) (v := ?_) rfl (by kernel_rfl) (by kernel_rfl) (by kernel_rfl) (fun _ _ _ h => h) (Or.inl ⟨by rfl, ?_⟩) (by assumption) ?_
  rotate_left
  · intro w' hSw; go_simp; all_goals (with_reducible rfl)
  try simp only [Act.put, List.getElem_toArray, List.getElem_cons_zero, List.getElem_cons_succ, List.setIfInBounds_toArray, List.set_cons_zero, List.set_cons_succ]
  refine wpAnyH_take (i := 15) (oi := _) (v := ?_) rfl (by kernel_rfl) (by kernel_rfl) (by kernel_rfl) (fun _ _ _ h => h) (Or.inl ⟨by rfl, ?_⟩) (by assumption) ?_
  rotate_left
  · intro w' hSw; go_simp; all_goals (with_reducible rfl)
  try simp only [Act.put, List.getElem_toArray, List.getElem_cons_zero, List.getElem_cons_succ, List.setIfInBounds_toArray, List.set_cons_zero, List.set_cons_succ]
  refine wpAnyH_take (i := 16) (oi := _) (v := ?_) rfl (by kernel_rfl) (by kernel_rfl) (by kernel_rfl) (fun _ _ _ h => h) (Or.inl ⟨by rfl, ?_⟩) (by assumption) ?_
  rotate_left
  · intro w' hSw; obtain ⟨k0, k1, k2, k3, k4⟩ := hSw; have c0 := cell_of_heap k0 0 (v := .int .i64 st.tick) rfl; have c1 := cell_of_heap k0 1 (v := shv) rfl; have c2 := cell_of_heap k0 2 (v := .slice ra nr rc) rfl; have c3 := cell_of_heap k0 3 (v := pev) rfl; have c4 := cell_of_heap k0 4 (v := dev) rfl; have c5 := cell_of_heap k0 5 (v := skv) rfl; go_simp; all_goals (with_reducible rfl)
  try simp only [Act.put, List.getElem_toArray, List.getElem_cons_zero, List.getElem_cons_succ, List.setIfInBounds_toArray, List.set_cons_zero, List.set_cons_succ]
  refine wpAnyH_take (i := 17) (oi := _) (v := ?_) rfl (by kernel_rfl) (by kernel_rfl) (by kernel_rfl) (fun _ _ _ h => h) (Or.inl ⟨by rfl, ?_⟩) (by assumption) ?_
  rotate_left
  · intro w' hSw; obtain ⟨k0, k1, k2, k3, k4⟩ := hSw; have c0 := cell_of_heap k2 0 (v := .int .i64 f.kind) rfl; have c1 := cell_of_heap k2 1 (v := .int .i64 f.a) rfl; have c2 := cell_of_heap k2 2 (v := .int .i64 f.n) rfl; go_simp; all_goals (with_reducible rfl)
  try simp only [Act.put, List.getElem_toArray, List.getElem_cons_zero, List.getElem_cons_succ, List.setIfInBounds_toArray, List.set_cons_zero, List.set_cons_succ]
  refine wpAnyH_take (i := 18) (oi := _) (v := ?_) rfl (by kernel_rfl) (by kernel_rfl) (by kernel_rfl) (fun _ _ _ h => h) (Or.inl ⟨by rfl, ?_⟩) (by assumption) ?_
  rotate_left
  · intro w' hSw; go_simp; all_goals (with_reducible rfl)
  try simp only [Act.put, List.getElem_toArray, List.getElem_cons_zero, List.getElem_cons_succ, List.setIfInBounds_toArray, List.set_cons_zero, List.set_cons_succ]
  refine wpAnyH_take (i := 20) (oi := _) (v := ?_) rfl (by kernel_rfl) (by kernel_rfl) (by kernel_rfl) (fun _ _ _ h => h) (Or.inl ⟨by rfl, ?_⟩) (by assumption) ?_
  rotate_left
  · intro w' hSw; obtain ⟨k0, k1, k2, k3, k4⟩ := hSw; have c0 := cell_of_heap k0 0 (v := .int .i64 st.tick) rfl; have c1 := cell_of_heap k0 1 (v := shv) rfl; have c2 := cell_of_heap k0 2 (v := .slice ra nr rc) rfl; have c3 := cell_of_heap k0 3 (v := pev) rfl; have c4 := cell_of_heap k0 4 (v := dev) rfl; have c5 := cell_of_heap k0 5 (v := skv) rfl; go_simp; all_goals (with_reducible rfl)
  try simp only [Act.put, List.getElem_toArray, List.getElem_cons_zero, List.getElem_cons_succ, List.setIfInBounds_toArray, List.set_cons_zero, List.set_cons_succ]
  refine wpAnyH_take (i := 21) (oi := _) (v := ?_) rfl (by kernel_rfl) (by kernel_rfl) (by kernel_rfl) (fun _ _ _ h => h) (Or.inl ⟨by rfl, ?_⟩) (by assumption) ?_
  rotate_left
  · intro w' hSw; obtain ⟨k0, k1, k2, k3, k4⟩ := hSw; have c0 := cell_of_heap k2 0 (v := .int .i64 f.kind) rfl; have c1 := cell_of_heap k2 1 (v := .int .i64 f.a) rfl; have c2 := cell_of_heap k2 2 (v := .int .i64 f.n) rfl; go_simp; all_goals (with_reducible rfl)
  try simp only [Act.put, List.getElem_toArray, List.getElem_cons_zero, List.getElem_cons_succ, List.setIfInBounds_toArray, List.set_cons_zero, List.set_cons_succ]
  refine wpAnyH_take (i := 22) (oi := _) (v := ?_) rfl (by kernel_rfl) (by kernel_rfl) (by kernel_rfl) (fun _ _ _ h => h) (Or.inl ⟨by rfl, ?_⟩) (by assumption) ?_
  rotate_left
  · intro w' hSw; go_simp; all_goals (with_reducible rfl)
  try simp only [Act.put, List.getElem_toArray, List.getElem_cons_zero, List.getElem_cons_succ, List.setIfInBounds_toArray, List.set_cons_zero, List.set_cons_succ]
  refine wpAnyH_ready (rs := [19]) (by kernel_rfl) (by simp) ?_
  refine AllReadyH.cons (o := _) rfl (fun K9 hK => ?_) AllReadyH.nil
  go_simp
  go_at_call 9; with_reducible refine (HCO.out _ (BB.out _ U10.out)).mono ?_; rintro e w11 ⟨rfl, b9⟩
  have SX : w11.heap[w.heap.size + 1]? = some (.cells #[.int .i64 st.tick, shv, .slice ra nr rc, pev, dev, skv] 34 (0, 0)) ∧ w11.heap[w.heap.size + 1 + 1]? = some (.cells #[.int .i64 b.stops, .int .i64 b.cells, .int .i64 b.mutes, .int .i64 b.muteMost, .int .i64 b.lifts, .int .i64 b.liftMost, .int .i64 b.steps] 36 (0, 0)) ∧ w11.heap[w.heap.size + 1 + 1 + 1 + 1]? = some (.cells #[.int .i64 f.kind, .int .i64 f.a, .int .i64 f.n] 38 (0, 0)) ∧ w11.heap[X1]? = some (.cells #[.int .i64 BX.stops, .int .i64 BX.cells, .int .i64 BX.mutes, .int .i64 BX.muteMost, .int .i64 BX.lifts, .int .i64 BX.liftMost, .int .i64 BX.steps] 36 (0, 0)) ∧ w11.heap[X2]? = some (.cells #[.int .i64 BX.stops, .int .i64 BX.cells, .int .i64 BX.mutes, .int .i64 BX.muteMost, .int .i64 BX.lifts, .int .i64 BX.liftMost, .int .i64 BX.steps] 36 (0, 0)) := by
    obtain ⟨k0, k1, k2, k3, k4⟩ := hHeld
    exact ⟨keep_heap k0 b9, keep_heap k1 b9, keep_heap k2 b9, keep_heap k3 b9, keep_heap k4 b9⟩
  clear hHeld
  have U11 := Lib.hid (U10.out.trans (b9.mono U10.out.size))
  have Xw11 := Lib.hid (keep_heap Xw10.out b9)
  have Yw11 := Lib.hid (keep_heap Yw10.out b9)
  clear b9
  go_simp
  refine hK.out _ _ SX (fun hHeld => ?_)
  clear hK K9 SX
  try simp only [Act.put, List.getElem_toArray, List.getElem_cons_zero, List.getElem_cons_succ, List.setIfInBounds_toArray, List.set_cons_zero, List.set_cons_succ]
  refine wpAnyH_ready (rs := [23]) (by kernel_rfl) (by simp) ?_
  refine AllReadyH.cons (o := _) rfl (fun K9 hK => ?_) AllReadyH.nil
  go_simp
  go_at_call 10; with_reducible refine (HC2.out _ (BB.out _ U11.out)).mono ?_; rintro e w12 ⟨rfl, b9⟩
  have SX : w12.heap[w.heap.size + 1]? = some (.cells #[.int .i64 st.tick, shv, .slice ra nr rc, pev, dev, skv] 34 (0, 0)) ∧ w12.heap[w.heap.size + 1 + 1]? = some (.cells #[.int .i64 b.stops, .int .i64 b.cells, .int .i64 b.mutes, .int .i64 b.muteMost, .int .i64 b.lifts, .int .i64 b.liftMost, .int .i64 b.steps] 36 (0, 0)) ∧ w12.heap[w.heap.size + 1 + 1 + 1 + 1]? = some (.cells #[.int .i64 f.kind, .int .i64 f.a, .int .i64 f.n] 38 (0, 0)) ∧ w12.heap[X1]? = some (.cells #[.int .i64 BX.stops, .int .i64 BX.cells, .int .i64 BX.mutes, .int .i64 BX.muteMost, .int .i64 BX.lifts, .int .i64 BX.liftMost, .int .i64 BX.steps] 36 (0, 0)) ∧ w12.heap[X2]? = some (.cells #[.int .i64 BX.stops, .int .i64 BX.cells, .int .i64 BX.mutes, .int .i64 BX.muteMost, .int .i64 BX.lifts, .int .i64 BX.liftMost, .int .i64 BX.steps] 36 (0, 0)) := by
    obtain ⟨k0, k1, k2, k3, k4⟩ := hHeld
    exact ⟨keep_heap k0 b9, keep_heap k1 b9, keep_heap k2 b9, keep_heap k3 b9, keep_heap k4 b9⟩
  clear hHeld
  have U12 := Lib.hid (U11.out.trans (b9.mono U11.out.size))
  have Xw12 := Lib.hid (keep_heap Xw11.out b9)
  have Yw12 := Lib.hid (keep_heap Yw11.out b9)
  clear b9
  go_simp
  refine hK.out _ _ SX (fun hHeld => ?_)
  clear hK K9 SX
  try simp only [Act.put, List.getElem_toArray, List.getElem_cons_zero, List.getElem_cons_succ, List.setIfInBounds_toArray, List.set_cons_zero, List.set_cons_succ]
  refine wpAnyH_take (i := 24) (oi := _) (v := ?_) rfl (by kernel_rfl) (by kernel_rfl) (by kernel_rfl) (fun _ _ _ h => h) (Or.inl ⟨by rfl, ?_⟩) (by assumption) ?_
  rotate_left
  · intro w' hSw; go_simp; all_goals (with_reducible rfl)
  try simp only [Act.put, List.getElem_toArray, List.getElem_cons_zero, List.getElem_cons_succ, List.setIfInBounds_toArray, List.set_cons_zero, List.set_cons_succ]
  refine wpAnyH_take (i := 25) (oi := _) (v := ?_) rfl (by kernel_rfl) (by kernel_rfl) (by kernel_rfl) (fun _ _ _ h => h) (Or.inl ⟨by rfl, ?_⟩) (by assumption) ?_
  rotate_left
  · intro w' hSw; go_simp; all_goals (with_reducible rfl)
  try simp only [Act.put, List.getElem_toArray, List.getElem_cons_zero, List.getElem_cons_succ, List.setIfInBounds_toArray, List.set_cons_zero, List.set_cons_succ]
  refine wpAnyH_done (by kernel_rfl) ?_ _
  clear hHeld
  clear hRn hBn hCn HNX HX2 HR9 HCO HC2 HR2
  clear Xw12 Yw12
  have u0 : w12.cell? ⟨w.heap.size + 1 + 1, 0, none⟩ = some (.int .i64 b.stops) := cell_of_heap (CB.out _ U12.out) 0 rfl
  have u1 : w12.cell? ⟨w.heap.size + 1 + 1, 1, none⟩ = some (.int .i64 b.cells) := cell_of_heap (CB.out _ U12.out) 1 rfl
  have u2 : w12.cell? ⟨w.heap.size + 1 + 1, 2, none⟩ = some (.int .i64 b.mutes) := cell_of_heap (CB.out _ U12.out) 2 rfl
  have u3 : w12.cell? ⟨w.heap.size + 1 + 1, 3, none⟩ = some (.int .i64 b.muteMost) := cell_of_heap (CB.out _ U12.out) 3 rfl
  have u4 : w12.cell? ⟨w.heap.size + 1 + 1, 4, none⟩ = some (.int .i64 b.lifts) := cell_of_heap (CB.out _ U12.out) 4 rfl
  have u5 : w12.cell? ⟨w.heap.size + 1 + 1, 5, none⟩ = some (.int .i64 b.liftMost) := cell_of_heap (CB.out _ U12.out) 5 rfl
  have u6 : w12.cell? ⟨w.heap.size + 1 + 1, 6, none⟩ = some (.int .i64 b.steps) := cell_of_heap (CB.out _ U12.out) 6 rfl
  go_wp2_with fail
  go_at_call 7; with_reducible refine (HR1.out _).mono ?_; rintro e w13 ⟨rfl, b9⟩
  have U13 := Lib.hid (U12.out.trans (b9.mono U12.out.size))
  clear b9
  clear u0 u1 u2 u3 u4 u5 u6
  cases R with
  | false =>
    go_wp2_with fail
    go_ret
    exact ⟨rfl, BB.out _ U13.out⟩
  | true =>
    have c0 : w13.cell? ⟨w.heap.size + 1 + 1 + 1, 0, none⟩ = some (.int .i64 c.stops) := cell_of_heap (CC.out _ U13.out) 0 rfl
    have c1 : w13.cell? ⟨w.heap.size + 1 + 1 + 1, 1, none⟩ = some (.int .i64 c.cells) := cell_of_heap (CC.out _ U13.out) 1 rfl
    have c2 : w13.cell? ⟨w.heap.size + 1 + 1 + 1, 2, none⟩ = some (.int .i64 c.mutes) := cell_of_heap (CC.out _ U13.out) 2 rfl
    have c3 : w13.cell? ⟨w.heap.size + 1 + 1 + 1, 3, none⟩ = some (.int .i64 c.muteMost) := cell_of_heap (CC.out _ U13.out) 3 rfl
    have c4 : w13.cell? ⟨w.heap.size + 1 + 1 + 1, 4, none⟩ = some (.int .i64 c.lifts) := cell_of_heap (CC.out _ U13.out) 4 rfl
    have c5 : w13.cell? ⟨w.heap.size + 1 + 1 + 1, 5, none⟩ = some (.int .i64 c.liftMost) := cell_of_heap (CC.out _ U13.out) 5 rfl
    have c6 : w13.cell? ⟨w.heap.size + 1 + 1 + 1, 6, none⟩ = some (.int .i64 c.steps) := cell_of_heap (CC.out _ U13.out) 6 rfl
    go_wp2_with fail
    go_at_call 7; with_reducible refine (HRC.out _).mono ?_; rintro e w14 ⟨rfl, b9⟩
    have U14 := Lib.hid (U13.out.trans (b9.mono U13.out.size))
    clear b9
    clear c0 c1 c2 c3 c4 c5 c6
    cases RC with
    | false =>
      go_wp2_with fail
      go_ret
      exact ⟨rfl, BB.out _ U14.out⟩
    | true =>
      have HBY2 := Lib.hid (fun W hW => HBY.out W hW (by trivial))
      have HB3 := Lib.hid (fun W => HB2.out W (by trivial))
      have HLE2 := Lib.hid (fun W => HLE.out W (by trivial))
      have HLF2 := Lib.hid (fun W => HLF.out W (by trivial))
      have HRZ2 := Lib.hid (fun D W hW hD => HRZ.out D W hW (by trivial) hD)
      clear HBY HB2 HLE HLF HRZ HRC HR1
      have u0 : w14.cell? ⟨w.heap.size + 1 + 1, 0, none⟩ = some (.int .i64 b.stops) := cell_of_heap (CB.out _ U14.out) 0 rfl
      have u1 : w14.cell? ⟨w.heap.size + 1 + 1, 1, none⟩ = some (.int .i64 b.cells) := cell_of_heap (CB.out _ U14.out) 1 rfl
      have u2 : w14.cell? ⟨w.heap.size + 1 + 1, 2, none⟩ = some (.int .i64 b.mutes) := cell_of_heap (CB.out _ U14.out) 2 rfl
      have u3 : w14.cell? ⟨w.heap.size + 1 + 1, 3, none⟩ = some (.int .i64 b.muteMost) := cell_of_heap (CB.out _ U14.out) 3 rfl
      have u4 : w14.cell? ⟨w.heap.size + 1 + 1, 4, none⟩ = some (.int .i64 b.lifts) := cell_of_heap (CB.out _ U14.out) 4 rfl
      have u5 : w14.cell? ⟨w.heap.size + 1 + 1, 5, none⟩ = some (.int .i64 b.liftMost) := cell_of_heap (CB.out _ U14.out) 5 rfl
      have u6 : w14.cell? ⟨w.heap.size + 1 + 1, 6, none⟩ = some (.int .i64 b.steps) := cell_of_heap (CB.out _ U14.out) 6 rfl
      have f0 : w14.cell? ⟨w.heap.size + 1 + 1 + 1 + 1, 0, none⟩ = some (.int .i64 f.kind) := cell_of_heap (CF.out _ U14.out) 0 rfl
      have f1 : w14.cell? ⟨w.heap.size + 1 + 1 + 1 + 1, 1, none⟩ = some (.int .i64 f.a) := cell_of_heap (CF.out _ U14.out) 1 rfl
      have f2 : w14.cell? ⟨w.heap.size + 1 + 1 + 1 + 1, 2, none⟩ = some (.int .i64 f.n) := cell_of_heap (CF.out _ U14.out) 2 rfl
      go_wp2_with fail
      go_at_call 11; with_reducible refine (HSP.out _).mono ?_; rintro e w15 ⟨rfl, b9⟩
      have U15 := Lib.hid (U14.out.trans (b9.mono U14.out.size))
      clear b9
      clear u0 u1 u2 u3 u4 u5 u6 f0 f1 f2
      obtain ⟨w16, hw16⟩ : ∃ W, W = w15.alloc (.cells #[.int .i64 BP.stops, .int .i64 BP.cells, .int .i64 BP.mutes, .int .i64 BP.muteMost, .int .i64 BP.lifts, .int .i64 BP.liftMost, .int .i64 BP.steps] 36) := ⟨_, rfl⟩
      have b9 : Below w15.heap.size w15 w16 := by rw [hw16]; exact (Below.refl _ _).alloc (Nat.le_refl _) _
      obtain ⟨P1, hP1⟩ : ∃ n, w15.heap.size = n := ⟨_, rfl⟩
      have Pw16 : Hid (w16.heap[P1]? = some (.cells #[.int .i64 BP.stops, .int .i64 BP.cells, .int .i64 BP.mutes, .int .i64 BP.muteMost, .int .i64 BP.lifts, .int .i64 BP.liftMost, .int .i64 BP.steps] 36 (0, 0))) := Lib.hid (by rw [hw16, ← hP1]; exact heap_alloc_new _ _)
      have HH := Lib.hid hw16
      clear hw16
      have U16 := Lib.hid (U15.out.trans (b9.mono U15.out.size))
      clear b9
      go_upto_region 11 with fail
      rw [← HH.out]
      try rw [hP1]
      clear hP1 HH
      have u0 : w16.cell? ⟨w.heap.size + 1 + 1, 0, none⟩ = some (.int .i64 b.stops) := cell_of_heap (CB.out _ U16.out) 0 rfl
      have u1 : w16.cell? ⟨w.heap.size + 1 + 1, 1, none⟩ = some (.int .i64 b.cells) := cell_of_heap (CB.out _ U16.out) 1 rfl
      have u2 : w16.cell? ⟨w.heap.size + 1 + 1, 2, none⟩ = some (.int .i64 b.mutes) := cell_of_heap (CB.out _ U16.out) 2 rfl
      have u3 : w16.cell? ⟨w.heap.size + 1 + 1, 3, none⟩ = some (.int .i64 b.muteMost) := cell_of_heap (CB.out _ U16.out) 3 rfl
      have u4 : w16.cell? ⟨w.heap.size + 1 + 1, 4, none⟩ = some (.int .i64 b.lifts) := cell_of_heap (CB.out _ U16.out) 4 rfl
      have u5 : w16.cell? ⟨w.heap.size + 1 + 1, 5, none⟩ = some (.int .i64 b.liftMost) := cell_of_heap (CB.out _ U16.out) 5 rfl
      have u6 : w16.cell? ⟨w.heap.size + 1 + 1, 6, none⟩ = some (.int .i64 b.steps) := cell_of_heap (CB.out _ U16.out) 6 rfl
      have f0 : w16.cell? ⟨w.heap.size + 1 + 1 + 1 + 1, 0, none⟩ = some (.int .i64 f.kind) := cell_of_heap (CF.out _ U16.out) 0 rfl
      have f1 : w16.cell? ⟨w.heap.size + 1 + 1 + 1 + 1, 1, none⟩ = some (.int .i64 f.a) := cell_of_heap (CF.out _ U16.out) 1 rfl
      have f2 : w16.cell? ⟨w.heap.size + 1 + 1 + 1 + 1, 2, none⟩ = some (.int .i64 f.n) := cell_of_heap (CF.out _ U16.out) 2 rfl
      go_wp2_with fail
      go_at_call 12; with_reducible refine (HS2.out _).mono ?_; rintro e w17 ⟨rfl, b9⟩
      have U17 := Lib.hid (U16.out.trans (b9.mono U16.out.size))
      have Pw17 := Lib.hid (keep_heap Pw16.out b9)
      clear b9
      clear u0 u1 u2 u3 u4 u5 u6 f0 f1 f2
      obtain ⟨w18, hw18⟩ : ∃ W, W = w17.alloc (.cells #[.int .i64 BP.stops, .int .i64 BP.cells, .int .i64 BP.mutes, .int .i64 BP.muteMost, .int .i64 BP.lifts, .int .i64 BP.liftMost, .int .i64 BP.steps] 36) := ⟨_, rfl⟩
      have b9 : Below w17.heap.size w17 w18 := by rw [hw18]; exact (Below.refl _ _).alloc (Nat.le_refl _) _
      obtain ⟨P2, hP2⟩ : ∃ n, w17.heap.size = n := ⟨_, rfl⟩
      have Qw18 : Hid (w18.heap[P2]? = some (.cells #[.int .i64 BP.stops, .int .i64 BP.cells, .int .i64 BP.mutes, .int .i64 BP.muteMost, .int .i64 BP.lifts, .int .i64 BP.liftMost, .int .i64 BP.steps] 36 (0, 0))) := Lib.hid (by rw [hw18, ← hP2]; exact heap_alloc_new _ _)
      have HH := Lib.hid hw18
      clear hw18
      have U18 := Lib.hid (U17.out.trans (b9.mono U17.out.size))
      have Pw18 := Lib.hid (keep_heap Pw17.out b9)
      clear b9
      go_upto_region 12 with fail
      rw [← HH.out]
      try rw [hP2]
      clear hP2 HH
      have u0 : w18.cell? ⟨w.heap.size + 1 + 1, 0, none⟩ = some (.int .i64 b.stops) := cell_of_heap (CB.out _ U18.out) 0 rfl
      have u1 : w18.cell? ⟨w.heap.size + 1 + 1, 1, none⟩ = some (.int .i64 b.cells) := cell_of_heap (CB.out _ U18.out) 1 rfl
      have u2 : w18.cell? ⟨w.heap.size + 1 + 1, 2, none⟩ = some (.int .i64 b.mutes) := cell_of_heap (CB.out _ U18.out) 2 rfl
      have u3 : w18.cell? ⟨w.heap.size + 1 + 1, 3, none⟩ = some (.int .i64 b.muteMost) := cell_of_heap (CB.out _ U18.out) 3 rfl
      have u4 : w18.cell? ⟨w.heap.size + 1 + 1, 4, none⟩ = some (.int .i64 b.lifts) := cell_of_heap (CB.out _ U18.out) 4 rfl
      have u5 : w18.cell? ⟨w.heap.size + 1 + 1, 5, none⟩ = some (.int .i64 b.liftMost) := cell_of_heap (CB.out _ U18.out) 5 rfl
      have u6 : w18.cell? ⟨w.heap.size + 1 + 1, 6, none⟩ = some (.int .i64 b.steps) := cell_of_heap (CB.out _ U18.out) 6 rfl
      go_wp2_with fail
      go_at_call 13; with_reducible refine (HRU.out _ (BB.out _ U18.out)).mono ?_; rintro e w19 ⟨rfl, b9⟩
      have U19 := Lib.hid (U18.out.trans (b9.mono U18.out.size))
      have Pw19 := Lib.hid (keep_heap Pw18.out b9)
      have Qw19 := Lib.hid (keep_heap Qw18.out b9)
      clear b9
      clear u0 u1 u2 u3 u4 u5 u6
      obtain ⟨w20, hw20⟩ : ∃ W, W = w19.alloc (.cells #[.int .i64 BM.stops, .int .i64 BM.cells, .int .i64 BM.mutes, .int .i64 BM.muteMost, .int .i64 BM.lifts, .int .i64 BM.liftMost, .int .i64 BM.steps] 36) := ⟨_, rfl⟩
      have b9 : Below w19.heap.size w19 w20 := by rw [hw20]; exact (Below.refl _ _).alloc (Nat.le_refl _) _
      obtain ⟨M1, hM1⟩ : ∃ n, w19.heap.size = n := ⟨_, rfl⟩
      have Mw20 : Hid (w20.heap[M1]? = some (.cells #[.int .i64 BM.stops, .int .i64 BM.cells, .int .i64 BM.mutes, .int .i64 BM.muteMost, .int .i64 BM.lifts, .int .i64 BM.liftMost, .int .i64 BM.steps] 36 (0, 0))) := Lib.hid (by rw [hw20, ← hM1]; exact heap_alloc_new _ _)
      have HH := Lib.hid hw20
      clear hw20
      have U20 := Lib.hid (U19.out.trans (b9.mono U19.out.size))
      have Pw20 := Lib.hid (keep_heap Pw19.out b9)
      have Qw20 := Lib.hid (keep_heap Qw19.out b9)
      clear b9
      go_upto_region 13 with fail
      rw [← HH.out]
      try rw [hM1]
      clear hM1 HH
      have u0 : w20.cell? ⟨w.heap.size + 1 + 1, 0, none⟩ = some (.int .i64 b.stops) := cell_of_heap (CB.out _ U20.out) 0 rfl
      have u1 : w20.cell? ⟨w.heap.size + 1 + 1, 1, none⟩ = some (.int .i64 b.cells) := cell_of_heap (CB.out _ U20.out) 1 rfl
      have u2 : w20.cell? ⟨w.heap.size + 1 + 1, 2, none⟩ = some (.int .i64 b.mutes) := cell_of_heap (CB.out _ U20.out) 2 rfl
      have u3 : w20.cell? ⟨w.heap.size + 1 + 1, 3, none⟩ = some (.int .i64 b.muteMost) := cell_of_heap (CB.out _ U20.out) 3 rfl
      have u4 : w20.cell? ⟨w.heap.size + 1 + 1, 4, none⟩ = some (.int .i64 b.lifts) := cell_of_heap (CB.out _ U20.out) 4 rfl
      have u5 : w20.cell? ⟨w.heap.size + 1 + 1, 5, none⟩ = some (.int .i64 b.liftMost) := cell_of_heap (CB.out _ U20.out) 5 rfl
      have u6 : w20.cell? ⟨w.heap.size + 1 + 1, 6, none⟩ = some (.int .i64 b.steps) := cell_of_heap (CB.out _ U20.out) 6 rfl
      go_wp2_with fail
      go_at_call 14; with_reducible refine (HRV.out _ (BB.out _ U20.out)).mono ?_; rintro e w21 ⟨rfl, b9⟩
      have U21 := Lib.hid (U20.out.trans (b9.mono U20.out.size))
      have Pw21 := Lib.hid (keep_heap Pw20.out b9)
      have Qw21 := Lib.hid (keep_heap Qw20.out b9)
      have Mw21 := Lib.hid (keep_heap Mw20.out b9)
      clear b9
      clear u0 u1 u2 u3 u4 u5 u6
      obtain ⟨w22, hw22⟩ : ∃ W, W = w21.alloc (.cells #[.int .i64 BM.stops, .int .i64 BM.cells, .int .i64 BM.mutes, .int .i64 BM.muteMost, .int .i64 BM.lifts, .int .i64 BM.liftMost, .int .i64 BM.steps] 36) := ⟨_, rfl⟩
      have b9 : Below w21.heap.size w21 w22 := by rw [hw22]; exact (Below.refl _ _).alloc (Nat.le_refl _) _
      obtain ⟨M2, hM2⟩ : ∃ n, w21.heap.size = n := ⟨_, rfl⟩
      have Nw22 : Hid (w22.heap[M2]? = some (.cells #[.int .i64 BM.stops, .int .i64 BM.cells, .int .i64 BM.mutes, .int .i64 BM.muteMost, .int .i64 BM.lifts, .int .i64 BM.liftMost, .int .i64 BM.steps] 36 (0, 0))) := Lib.hid (by rw [hw22, ← hM2]; exact heap_alloc_new _ _)
      have HH := Lib.hid hw22
      clear hw22
      have U22 := Lib.hid (U21.out.trans (b9.mono U21.out.size))
      have Pw22 := Lib.hid (keep_heap Pw21.out b9)
      have Qw22 := Lib.hid (keep_heap Qw21.out b9)
      have Mw22 := Lib.hid (keep_heap Mw21.out b9)
      clear b9
      go_upto_region 14 with fail
      rw [← HH.out]
      try rw [hM2]
      clear hM2 HH
      have u0 : w22.cell? ⟨w.heap.size + 1 + 1, 0, none⟩ = some (.int .i64 b.stops) := cell_of_heap (CB.out _ U22.out) 0 rfl
      have u1 : w22.cell? ⟨w.heap.size + 1 + 1, 1, none⟩ = some (.int .i64 b.cells) := cell_of_heap (CB.out _ U22.out) 1 rfl
      have u2 : w22.cell? ⟨w.heap.size + 1 + 1, 2, none⟩ = some (.int .i64 b.mutes) := cell_of_heap (CB.out _ U22.out) 2 rfl
      have u3 : w22.cell? ⟨w.heap.size + 1 + 1, 3, none⟩ = some (.int .i64 b.muteMost) := cell_of_heap (CB.out _ U22.out) 3 rfl
      have u4 : w22.cell? ⟨w.heap.size + 1 + 1, 4, none⟩ = some (.int .i64 b.lifts) := cell_of_heap (CB.out _ U22.out) 4 rfl
      have u5 : w22.cell? ⟨w.heap.size + 1 + 1, 5, none⟩ = some (.int .i64 b.liftMost) := cell_of_heap (CB.out _ U22.out) 5 rfl
      have u6 : w22.cell? ⟨w.heap.size + 1 + 1, 6, none⟩ = some (.int .i64 b.steps) := cell_of_heap (CB.out _ U22.out) 6 rfl
      go_wp2_with fail
      go_at_call 15; with_reducible refine (HBY2.out _ (BB.out _ U22.out)).mono ?_; rintro e w23 ⟨DZ, hDZ, hDS, rfl, b9⟩
      have U23 := Lib.hid (U22.out.trans (b9.mono U22.out.size))
      have Pw23 := Lib.hid (keep_heap Pw22.out b9)
      have Qw23 := Lib.hid (keep_heap Qw22.out b9)
      have Mw23 := Lib.hid (keep_heap Mw22.out b9)
      have Nw23 := Lib.hid (keep_heap Nw22.out b9)
      clear b9
      clear u0 u1 u2 u3 u4 u5 u6
      have HDZ := Lib.hid hDZ
      clear hDZ hDS
      go_wp2_with fail
      go_at_call 5; with_reducible refine (HRZ2.out DZ _ (BB.out _ U23.out) HDZ.out).mono ?_; rintro e w24 ⟨rfl, b9⟩
      have U24 := Lib.hid (U23.out.trans (b9.mono U23.out.size))
      have Pw24 := Lib.hid (keep_heap Pw23.out b9)
      have Qw24 := Lib.hid (keep_heap Qw23.out b9)
      have Mw24 := Lib.hid (keep_heap Mw23.out b9)
      have Nw24 := Lib.hid (keep_heap Nw23.out b9)
      clear b9
      obtain ⟨w25, hw25⟩ : ∃ W, W = w24.alloc (.cells #[.int .i64 b.stops, .int .i64 b.cells, .int .i64 b.mutes, .int .i64 b.muteMost, .int .i64 b.lifts, .int .i64 b.liftMost, .int .i64 b.steps] 36) := ⟨_, rfl⟩
      have b9 : Below w24.heap.size w24 w25 := by rw [hw25]; exact (Below.refl _ _).alloc (Nat.le_refl _) _
      obtain ⟨Z1, hZ1⟩ : ∃ n, w24.heap.size = n := ⟨_, rfl⟩
      have Zw25 : Hid (w25.heap[Z1]? = some (.cells #[.int .i64 b.stops, .int .i64 b.cells, .int .i64 b.mutes, .int .i64 b.muteMost, .int .i64 b.lifts, .int .i64 b.liftMost, .int .i64 b.steps] 36 (0, 0))) := Lib.hid (by rw [hw25, ← hZ1]; exact heap_alloc_new _ _)
      have HH := Lib.hid hw25
      clear hw25
      have U25 := Lib.hid (U24.out.trans (b9.mono U24.out.size))
      have Pw25 := Lib.hid (keep_heap Pw24.out b9)
      have Qw25 := Lib.hid (keep_heap Qw24.out b9)
      have Mw25 := Lib.hid (keep_heap Mw24.out b9)
      have Nw25 := Lib.hid (keep_heap Nw24.out b9)
      clear b9
      go_upto_region 15 with fail
      rw [← HH.out]
      try rw [hZ1]
      clear hZ1 HH
      clear HSP HS2 HRU HRV HRZ2 HDZ
      refine wp_region_held_drew (S := fun W' => W'.heap[w.heap.size + 1 + 1]? = some (.cells #[.int .i64 b.stops, .int .i64 b.cells, .int .i64 b.mutes, .int .i64 b.muteMost, .int .i64 b.lifts, .int .i64 b.liftMost, .int .i64 b.steps] 36 (0, 0)) ∧ W'.heap[w.heap.size + 1 + 1 + 1]? = some (.cells #[.int .i64 c.stops, .int .i64 c.cells, .int .i64 c.mutes, .int .i64 c.muteMost, .int .i64 c.lifts, .int .i64 c.liftMost, .int .i64 c.steps] 36 (0, 0)) ∧ W'.heap[w.heap.size + 1 + 1 + 1 + 1]? = some (.cells #[.int .i64 f.kind, .int .i64 f.a, .int .i64 f.n] 38 (0, 0)) ∧ W'.heap[P1]? = some (.cells #[.int .i64 BP.stops, .int .i64 BP.cells, .int .i64 BP.mutes, .int .i64 BP.muteMost, .int .i64 BP.lifts, .int .i64 BP.liftMost, .int .i64 BP.steps] 36 (0, 0)) ∧ W'.heap[P2]? = some (.cells #[.int .i64 BP.stops, .int .i64 BP.cells, .int .i64 BP.mutes, .int .i64 BP.muteMost, .int .i64 BP.lifts, .int .i64 BP.liftMost, .int .i64 BP.steps] 36 (0, 0)) ∧ W'.heap[M1]? = some (.cells #[.int .i64 BM.stops, .int .i64 BM.cells, .int .i64 BM.mutes, .int .i64 BM.muteMost, .int .i64 BM.lifts, .int .i64 BM.liftMost, .int .i64 BM.steps] 36 (0, 0)) ∧ W'.heap[M2]? = some (.cells #[.int .i64 BM.stops, .int .i64 BM.cells, .int .i64 BM.mutes, .int .i64 BM.muteMost, .int .i64 BM.lifts, .int .i64 BM.liftMost, .int .i64 BM.steps] 36 (0, 0)) ∧ W'.heap[Z1]? = some (.cells #[.int .i64 b.stops, .int .i64 b.cells, .int .i64 b.mutes, .int .i64 b.muteMost, .int .i64 b.lifts, .int .i64 b.liftMost, .int .i64 b.steps] 36 (0, 0))) (by kernel_rfl) ⟨(CB.out w25 U25.out), (CC.out w25 U25.out), (CF.out w25 U25.out), Pw25.out, Qw25.out, Mw25.out, Nw25.out, Zw25.out⟩ (fun hHeld => ?_)
      obtain ⟨w26, hwx⟩ : ∃ W, W = w25.drew := ⟨_, rfl⟩
      rw [← hwx] at hHeld ⊢
      have b9 : Below w25.heap.size w25 w26 := by subst hwx; exact ⟨rfl, rfl, rfl, Nat.le_refl _, fun _ _ => rfl⟩
      clear hwx
      have U26 := Lib.hid (U25.out.trans (b9.mono U25.out.size))
      have Pw26 := Lib.hid (keep_heap Pw25.out b9)
      have Qw26 := Lib.hid (keep_heap Qw25.out b9)
      have Mw26 := Lib.hid (keep_heap Mw25.out b9)
      have Nw26 := Lib.hid (keep_heap Nw25.out b9)
      have Zw26 := Lib.hid (keep_heap Zw25.out b9)
      clear b9
      try simp only [Act.put, List.getElem_toArray, List.getElem_cons_zero, List.getElem_cons_succ, List.setIfInBounds_toArray, List.set_cons_zero, List.set_cons_succ]
      refine wpAnyH_take (i := 0) (oi := _) (v := ?_) rfl (by kernel_rfl) (by kernel_rfl) (by kernel_rfl) (fun _ _ _ h => h) (Or.inl ⟨by rfl, ?_⟩) (by assumption) ?_
      rotate_left
      · intro w' hSw; obtain ⟨k0, k1, k2, k3, k4, k5, k6, k7⟩ := hSw; have c0 := cell_of_heap k3 0 (v := .int .i64 BP.stops) rfl; have c1 := cell_of_heap k3 1 (v := .int .i64 BP.cells) rfl; have c2 := cell_of_heap k3 2 (v := .int .i64 BP.mutes) rfl; have c3 := cell_of_heap k3 3 (v := .int .i64 BP.muteMost) rfl; have c4 := cell_of_heap k3 4 (v := .int .i64 BP.lifts) rfl; have c5 := cell_of_heap k3 5 (v := .int .i64 BP.liftMost) rfl; have c6 := cell_of_heap k3 6 (v := .int .i64 BP.steps) rfl; go_simp; all_goals (with_reducible rfl)
      try simp only [Act.put, List.getElem_toArray, List.getElem_cons_zero, List.getElem_cons_succ, List.setIfInBounds_toArray, List.set_cons_zero, List.set_cons_succ]
      refine wpAnyH_take (i := 1) (oi := _) (v := ?_) rfl (by kernel_rfl) (by kernel_rfl) (by kernel_rfl) (fun _ _ _ h => h) (Or.inl ⟨by rfl, ?_⟩) (by assumption) ?_
      rotate_left
      · intro w' hSw; obtain ⟨k0, k1, k2, k3, k4, k5, k6, k7⟩ := hSw; have c0 := cell_of_heap k4 0 (v := .int .i64 BP.stops) rfl; have c1 := cell_of_heap k4 1 (v := .int .i64 BP.cells) rfl; have c2 := cell_of_heap k4 2 (v := .int .i64 BP.mutes) rfl; have c3 := cell_of_heap k4 3 (v := .int .i64 BP.muteMost) rfl; have c4 := cell_of_heap k4 4 (v := .int .i64 BP.lifts) rfl; have c5 := cell_of_heap k4 5 (v := .int .i64 BP.liftMost) rfl; have c6 := cell_of_heap k4 6 (v := .int .i64 BP.steps) rfl; go_simp; all_goals (with_reducible rfl)
      try simp only [Act.put, List.getElem_toArray, List.getElem_cons_zero, List.getElem_cons_succ, List.setIfInBounds_toArray, List.set_cons_zero, List.set_cons_succ]
      refine wpAnyH_take (i := 2) (oi := _) (v := ?_) rfl (by kernel_rfl) (by kernel_rfl) (by kernel_rfl) (fun _ _ _ h => h) (Or.inl ⟨by rfl, ?_⟩) (by assumption) ?_
      rotate_left
      · intro w' hSw; have hq := HNP.out w'; go_simp; all_goals (with_reducible rfl)
      try simp only [Act.put, List.getElem_toArray, List.getElem_cons_zero, List.getElem_cons_succ, List.setIfInBounds_toArray, List.set_cons_zero, List.set_cons_succ]
      refine wpAnyH_take (i := 3) (oi := _) (v := ?_) rfl (by kernel_rfl) (by kernel_rfl) (by kernel_rfl) (fun _ _ _ h => h) (Or.inl ⟨by rfl, ?_⟩) (by assumption) ?_
      rotate_left
      · intro w' hSw; go_simp; all_goals (with_reducible rfl)
      try simp only [Act.put, List.getElem_toArray, List.getElem_cons_zero, List.getElem_cons_succ, List.setIfInBounds_toArray, List.set_cons_zero, List.set_cons_succ]
      refine wpAnyH_take (i := 4) (oi := _) (v := ?_) rfl (by kernel_rfl) (by kernel_rfl) (by kernel_rfl) (fun _ _ _ h => h) (Or.inl ⟨by rfl, ?_⟩) (by assumption) ?_
      rotate_left
      · intro w' hSw; go_simp; all_goals (with_reducible rfl)
      try simp only [Act.put, List.getElem_toArray, List.getElem_cons_zero, List.getElem_cons_succ, List.setIfInBounds_toArray, List.set_cons_zero, List.set_cons_succ]
      refine wpAnyH_take (i := 5) (oi := _) (v := ?_) rfl (by kernel_rfl) (by kernel_rfl) (by kernel_rfl) (fun _ _ _ h => h) (Or.inl ⟨by rfl, ?_⟩) (by assumption) ?_
      rotate_left
      · intro w' hSw; go_simp; all_goals (with_reducible rfl)
      try simp only [Act.put, List.getElem_toArray, List.getElem_cons_zero, List.getElem_cons_succ, List.setIfInBounds_toArray, List.set_cons_zero, List.set_cons_succ]
      refine wpAnyH_take (i := 6) (oi := _) (v := ?_) rfl (by kernel_rfl) (by kernel_rfl) (by kernel_rfl) (fun _ _ _ h => h) (Or.inl ⟨by rfl, ?_⟩) (by assumption) ?_
      rotate_left
      · intro w' hSw; go_simp; all_goals (with_reducible rfl)
      try simp only [Act.put, List.getElem_toArray, List.getElem_cons_zero, List.getElem_cons_succ, List.setIfInBounds_toArray, List.set_cons_zero, List.set_cons_succ]
      refine wpAnyH_take (i := 7) (oi := _) (v := ?_) rfl (by kernel_rfl) (by kernel_rfl) (by kernel_rfl) (fun _ _ _ h => h) (Or.inl ⟨by rfl, ?_⟩) (by assumption) ?_
      rotate_left
      · intro w' hSw; go_simp; all_goals (with_reducible rfl)
      try simp only [Act.put, List.getElem_toArray, List.getElem_cons_zero, List.getElem_cons_succ, List.setIfInBounds_toArray, List.set_cons_zero, List.set_cons_succ]
      refine wpAnyH_take (i := 8) (oi := _) (v := ?_) rfl (by kernel_rfl) (by kernel_rfl) (by kernel_rfl) (fun _ _ _ h => h) (Or.inl ⟨by rfl, ?_⟩) (by assumption) ?_
      rotate_left
      · intro w' hSw; go_simp; all_goals (with_reducible rfl)
      try simp only [Act.put, List.getElem_toArray, List.getElem_cons_zero, List.getElem_cons_succ, List.setIfInBounds_toArray, List.set_cons_zero, List.set_cons_succ]
      refine wpAnyH_take (i := 9) (oi := _) (v := ?_) rfl (by kernel_rfl) (by kernel_rfl) (by kernel_rfl) (fun _ _ _ h => h) (Or.inl ⟨by rfl, ?_⟩) (by assumption) ?_
      rotate_left
      · intro w' hSw; obtain ⟨k0, k1, k2, k3, k4, k5, k6, k7⟩ := hSw; have c0 := cell_of_heap k5 0 (v := .int .i64 BM.stops) rfl; have c1 := cell_of_heap k5 1 (v := .int .i64 BM.cells) rfl; have c2 := cell_of_heap k5 2 (v := .int .i64 BM.mutes) rfl; have c3 := cell_of_heap k5 3 (v := .int .i64 BM.muteMost) rfl; have c4 := cell_of_heap k5 4 (v := .int .i64 BM.lifts) rfl; have c5 := cell_of_heap k5 5 (v := .int .i64 BM.liftMost) rfl; have c6 := cell_of_heap k5 6 (v := .int .i64 BM.steps) rfl; go_simp; all_goals (with_reducible rfl)
      try simp only [Act.put, List.getElem_toArray, List.getElem_cons_zero, List.getElem_cons_succ, List.setIfInBounds_toArray, List.set_cons_zero, List.set_cons_succ]
      refine wpAnyH_take (i := 10) (oi := _) (v := ?_) rfl (by kernel_rfl) (by kernel_rfl) (by kernel_rfl) (fun _ _ _ h => h) (Or.inl ⟨by rfl, ?_⟩) (by assumption) ?_
      rotate_left
      · intro w' hSw; obtain ⟨k0, k1, k2, k3, k4, k5, k6, k7⟩ := hSw; have c0 := cell_of_heap k6 0 (v := .int .i64 BM.stops) rfl; have c1 := cell_of_heap k6 1 (v := .int .i64 BM.cells) rfl; have c2 := cell_of_heap k6 2 (v := .int .i64 BM.mutes) rfl; have c3 := cell_of_heap k6 3 (v := .int .i64 BM.muteMost) rfl; have c4 := cell_of_heap k6 4 (v := .int .i64 BM.lifts) rfl; have c5 := cell_of_heap k6 5 (v := .int .i64 BM.liftMost) rfl; have c6 := cell_of_heap k6 6 (v := .int .i64 BM.steps) rfl; go_simp; all_goals (with_reducible rfl)
      try simp only [Act.put, List.getElem_toArray, List.getElem_cons_zero, List.getElem_cons_succ, List.setIfInBounds_toArray, List.set_cons_zero, List.set_cons_succ]
      refine wpAnyH_take (i := 11) (oi := _) (v := ?_) rfl (by kernel_rfl) (by kernel_rfl) (by kernel_rfl) (fun _ _ _ h => h) (Or.inl ⟨by rfl, ?_⟩) (by assumption) ?_
      rotate_left
      · intro w' hSw; have hq := HNM.out w'; go_simp; all_goals (with_reducible rfl)
      try simp only [Act.put, List.getElem_toArray, List.getElem_cons_zero, List.getElem_cons_succ, List.setIfInBounds_toArray, List.set_cons_zero, List.set_cons_succ]
      refine wpAnyH_take (i := 12) (oi := _) (v := ?_) rfl (by kernel_rfl) (by kernel_rfl) (by kernel_rfl) (fun _ _ _ h => h) (Or.inl ⟨by rfl, ?_⟩) (by assumption) ?_
      rotate_left
      · intro w' hSw; go_simp; all_goals (with_reducible rfl)
      try simp only [Act.put, List.getElem_toArray, List.getElem_cons_zero, List.getElem_cons_succ, List.setIfInBounds_toArray, List.set_cons_zero, List.set_cons_succ]
      refine wpAnyH_take (i := 13) (oi := _) (v := ?_) rfl (by kernel_rfl) (by kernel_rfl) (by kernel_rfl) (fun _ _ _ h => h) (Or.inl ⟨by rfl, ?_⟩) (by assumption) ?_
      rotate_left
      · intro w' hSw; go_simp; all_goals (with_reducible rfl)
      try simp only [Act.put, List.getElem_toArray, List.getElem_cons_zero, List.getElem_cons_succ, List.setIfInBounds_toArray, List.set_cons_zero, List.set_cons_succ]
      refine wpAnyH_take (i := 14) (oi := _) (v := ?_) rfl (by kernel_rfl) (by kernel_rfl) (by kernel_rfl) (fun _ _ _ h => h) (Or.inl ⟨by rfl, ?_⟩) (by assumption) ?_
      rotate_left
      · intro w' hSw; go_simp; all_goals (with_reducible rfl)
      try simp only [Act.put, List.getElem_toArray, List.getElem_cons_zero, List.getElem_cons_succ, List.setIfInBounds_toArray, List.set_cons_zero, List.set_cons_succ]
      refine wpAnyH_take (i := 15) (oi := _) (v := ?_) rfl (by kernel_rfl) (by kernel_rfl) (by kernel_rfl) (fun _ _ _ h => h) (Or.inl ⟨by rfl, ?_⟩) (by assumption) ?_
      rotate_left
      · intro w' hSw; go_simp; all_goals (with_reducible rfl)
      try simp only [Act.put, List.getElem_toArray, List.getElem_cons_zero, List.getElem_cons_succ, List.setIfInBounds_toArray, List.set_cons_zero, List.set_cons_succ]
      refine wpAnyH_take (i := 16) (oi := _) (v := ?_) rfl (by kernel_rfl) (by kernel_rfl) (by kernel_rfl) (fun _ _ _ h => h) (Or.inl ⟨by rfl, ?_⟩) (by assumption) ?_
      rotate_left
      · intro w' hSw; go_simp; all_goals (with_reducible rfl)
      try simp only [Act.put, List.getElem_toArray, List.getElem_cons_zero, List.getElem_cons_succ, List.setIfInBounds_toArray, List.set_cons_zero, List.set_cons_succ]
      refine wpAnyH_take (i := 17) (oi := _) (v := ?_) rfl (by kernel_rfl) (by kernel_rfl) (by kernel_rfl) (fun _ _ _ h => h) (Or.inl ⟨by rfl, ?_⟩) (by assumption) ?_
      rotate_left
      · intro w' hSw; go_simp; all_goals (with_reducible rfl)
      try simp only [Act.put, List.getElem_toArray, List.getElem_cons_zero, List.getElem_cons_succ, List.setIfInBounds_toArray, List.set_cons_zero, List.set_cons_succ]
      refine wpAnyH_take (i := 18) (oi := _) (v := ?_) rfl (by kernel_rfl) (by kernel_rfl) (by kernel_rfl) (fun _ _ _ h => h) (Or.inl ⟨by rfl, ?_⟩) (by assumption) ?_
      rotate_left
      · intro w' hSw; go_simp; all_goals (with_reducible rfl)
      try simp only [Act.put, List.getElem_toArray, List.getElem_cons_zero, List.getElem_cons_succ, List.setIfInBounds_toArray, List.set_cons_zero, List.set_cons_succ]
      refine wpAnyH_take (i := 19) (oi := _) (v := ?_) rfl (by kernel_rfl) (by kernel_rfl) (by kernel_rfl) (fun _ _ _ h => h) (Or.inl ⟨by rfl, ?_⟩) (by assumption) ?_
      rotate_left
      · intro w' hSw; go_simp; all_goals (with_reducible rfl)
      try simp only [Act.put, List.getElem_toArray, List.getElem_cons_zero, List.getElem_cons_succ, List.setIfInBounds_toArray, List.set_cons_zero, List.set_cons_succ]
      refine wpAnyH_take (i := 20) (oi := _) (v := ?_) rfl (by kernel_rfl) (by kernel_rfl) (by kernel_rfl) (fun _ _ _ h => h) (Or.inl ⟨by rfl, ?_⟩) (by assumption) ?_
      rotate_left
      · intro w' hSw; go_simp; all_goals (with_reducible rfl)
      try simp only [Act.put, List.getElem_toArray, List.getElem_cons_zero, List.getElem_cons_succ, List.setIfInBounds_toArray, List.set_cons_zero, List.set_cons_succ]
      refine wpAnyH_take (i := 21) (oi := _) (v := ?_) rfl (by kernel_rfl) (by kernel_rfl) (by kernel_rfl) (fun _ _ _ h => h) (Or.inl ⟨by rfl, ?_⟩) (by assumption) ?_
      rotate_left
      · intro w' hSw; go_simp; all_goals (with_reducible rfl)
      try simp only [Act.put, List.getElem_toArray, List.getElem_cons_zero, List.getElem_cons_succ, List.setIfInBounds_toArray, List.set_cons_zero, List.set_cons_succ]
      refine wpAnyH_take (i := 22) (oi := _) (v := ?_) rfl (by kernel_rfl) (by kernel_rfl) (by kernel_rfl) (fun _ _ _ h => h) (Or.inl ⟨by rfl, ?_⟩) (by assumption) ?_
      rotate_left
      · intro w' hSw; go_simp; all_goals (with_reducible rfl)
      try simp only [Act.put, List.getElem_toArray, List.getElem_cons_zero, List.getElem_cons_succ, List.setIfInBounds_toArray, List.set_cons_zero, List.set_cons_succ]
      refine wpAnyH_take (i := 23) (oi := _) (v := ?_) rfl (by kernel_rfl) (by kernel_rfl) (by kernel_rfl) (fun _ _ _ h => h) (Or.inl ⟨by rfl, ?_⟩) (by assumption) ?_
      rotate_left
      · intro w' hSw; obtain ⟨k0, k1, k2, k3, k4, k5, k6, k7⟩ := hSw; have c0 := cell_of_heap k7 0 (v := .int .i64 b.stops) rfl; have c1 := cell_of_heap k7 1 (v := .int .i64 b.cells) rfl; have c2 := cell_of_heap k7 2 (v := .int .i64 b.mutes) rfl; have c3 := cell_of_heap k7 3 (v := .int .i64 b.muteMost) rfl; have c4 := cell_of_heap k7 4 (v := .int .i64 b.lifts) rfl; have c5 := cell_of_heap k7 5 (v := .int .i64 b.liftMost) rfl; have c6 := cell_of_heap k7 6 (v := .int .i64 b.steps) rfl; go_simp; all_goals (with_reducible rfl)
      try simp only [Act.put, List.getElem_toArray, List.getElem_cons_zero, List.getElem_cons_succ, List.setIfInBounds_toArray, List.set_cons_zero, List.set_cons_succ]
      refine wpAnyH_take (i := 24) (oi := _) (v := ?_) rfl (by kernel_rfl) (by kernel_rfl) (by kernel_rfl) (fun _ _ _ h => h) (Or.inl ⟨by rfl, ?_⟩) (by assumption) ?_
      rotate_left
      · intro w' hSw; obtain ⟨k0, k1, k2, k3, k4, k5, k6, k7⟩ := hSw; have c0 := cell_of_heap k0 0 (v := .int .i64 b.stops) rfl; have c1 := cell_of_heap k0 1 (v := .int .i64 b.cells) rfl; have c2 := cell_of_heap k0 2 (v := .int .i64 b.mutes) rfl; have c3 := cell_of_heap k0 3 (v := .int .i64 b.muteMost) rfl; have c4 := cell_of_heap k0 4 (v := .int .i64 b.lifts) rfl; have c5 := cell_of_heap k0 5 (v := .int .i64 b.liftMost) rfl; have c6 := cell_of_heap k0 6 (v := .int .i64 b.steps) rfl; go_simp; all_goals (with_reducible rfl)
      try simp only [Act.put, List.getElem_toArray, List.getElem_cons_zero, List.getElem_cons_succ, List.setIfInBounds_toArray, List.set_cons_zero, List.set_cons_succ]
      refine wpAnyH_take (i := 25) (oi := _) (v := ?_) rfl (by kernel_rfl) (by kernel_rfl) (by kernel_rfl) (fun _ _ _ h => h) (Or.inl ⟨by rfl, ?_⟩) (by assumption) ?_
      rotate_left
      · intro w' hSw; have hq := HNB.out w'; go_simp; all_goals (with_reducible rfl)
      try simp only [Act.put, List.getElem_toArray, List.getElem_cons_zero, List.getElem_cons_succ, List.setIfInBounds_toArray, List.set_cons_zero, List.set_cons_succ]
      refine wpAnyH_take (i := 26) (oi := _) (v := ?_) rfl (by kernel_rfl) (by kernel_rfl) (by kernel_rfl) (fun _ _ _ h => h) (Or.inl ⟨by rfl, ?_⟩) (by assumption) ?_
      rotate_left
      · intro w' hSw; go_simp; all_goals (with_reducible rfl)
      try simp only [Act.put, List.getElem_toArray, List.getElem_cons_zero, List.getElem_cons_succ, List.setIfInBounds_toArray, List.set_cons_zero, List.set_cons_succ]
      refine wpAnyH_take (i := 27) (oi := _) (v := ?_) rfl (by kernel_rfl) (by kernel_rfl) (by kernel_rfl) (fun _ _ _ h => h) (Or.inl ⟨by rfl, ?_⟩) (by assumption) ?_
      rotate_left
      · intro w' hSw; go_simp; all_goals (with_reducible rfl)
      try simp only [Act.put, List.getElem_toArray, List.getElem_cons_zero, List.getElem_cons_succ, List.setIfInBounds_toArray, List.set_cons_zero, List.set_cons_succ]
      refine wpAnyH_take (i := 28) (oi := _) (v := ?_) rfl (by kernel_rfl) (by kernel_rfl) (by kernel_rfl) (fun _ _ _ h => h) (Or.inl ⟨by rfl, ?_⟩) (by assumption) ?_
      rotate_left
      · intro w' hSw; obtain ⟨k0, k1, k2, k3, k4, k5, k6, k7⟩ := hSw; have c0 := cell_of_heap k0 0 (v := .int .i64 b.stops) rfl; have c1 := cell_of_heap k0 1 (v := .int .i64 b.cells) rfl; have c2 := cell_of_heap k0 2 (v := .int .i64 b.mutes) rfl; have c3 := cell_of_heap k0 3 (v := .int .i64 b.muteMost) rfl; have c4 := cell_of_heap k0 4 (v := .int .i64 b.lifts) rfl; have c5 := cell_of_heap k0 5 (v := .int .i64 b.liftMost) rfl; have c6 := cell_of_heap k0 6 (v := .int .i64 b.steps) rfl; go_simp; all_goals (with_reducible rfl)
      try simp only [Act.put, List.getElem_toArray, List.getElem_cons_zero, List.getElem_cons_succ, List.setIfInBounds_toArray, List.set_cons_zero, List.set_cons_succ]
      refine wpAnyH_take (i := 30) (oi := _) (v := ?_) rfl (by kernel_rfl) (by kernel_rfl) (by kernel_rfl) (fun _ _ _ h => h) (Or.inl ⟨by rfl, ?_⟩) (by assumption) ?_
      rotate_left
      · intro w' hSw; obtain ⟨k0, k1, k2, k3, k4, k5, k6, k7⟩ := hSw; have c0 := cell_of_heap k0 0 (v := .int .i64 b.stops) rfl; have c1 := cell_of_heap k0 1 (v := .int .i64 b.cells) rfl; have c2 := cell_of_heap k0 2 (v := .int .i64 b.mutes) rfl; have c3 := cell_of_heap k0 3 (v := .int .i64 b.muteMost) rfl; have c4 := cell_of_heap k0 4 (v := .int .i64 b.lifts) rfl; have c5 := cell_of_heap k0 5 (v := .int .i64 b.liftMost) rfl; have c6 := cell_of_heap k0 6 (v := .int .i64 b.steps) rfl; go_simp; all_goals (with_reducible rfl)
      try simp only [Act.put, List.getElem_toArray, List.getElem_cons_zero, List.getElem_cons_succ, List.setIfInBounds_toArray, List.set_cons_zero, List.set_cons_succ]
      refine wpAnyH_ready (rs := [29]) (by kernel_rfl) (by simp) ?_
      refine AllReadyH.cons (o := _) rfl (fun K9 hK => ?_) AllReadyH.nil
      go_simp
      go_at_call 15; with_reducible refine (HBY2.out _ (BB.out _ U26.out)).mono ?_; rintro e w27 ⟨D1, hD1, hs1, rfl, b9⟩
      have HD1 := Lib.hid hD1
      clear hD1 hs1
      have SX : w27.heap[w.heap.size + 1 + 1]? = some (.cells #[.int .i64 b.stops, .int .i64 b.cells, .int .i64 b.mutes, .int .i64 b.muteMost, .int .i64 b.lifts, .int .i64 b.liftMost, .int .i64 b.steps] 36 (0, 0)) ∧ w27.heap[w.heap.size + 1 + 1 + 1]? = some (.cells #[.int .i64 c.stops, .int .i64 c.cells, .int .i64 c.mutes, .int .i64 c.muteMost, .int .i64 c.lifts, .int .i64 c.liftMost, .int .i64 c.steps] 36 (0, 0)) ∧ w27.heap[w.heap.size + 1 + 1 + 1 + 1]? = some (.cells #[.int .i64 f.kind, .int .i64 f.a, .int .i64 f.n] 38 (0, 0)) ∧ w27.heap[P1]? = some (.cells #[.int .i64 BP.stops, .int .i64 BP.cells, .int .i64 BP.mutes, .int .i64 BP.muteMost, .int .i64 BP.lifts, .int .i64 BP.liftMost, .int .i64 BP.steps] 36 (0, 0)) ∧ w27.heap[P2]? = some (.cells #[.int .i64 BP.stops, .int .i64 BP.cells, .int .i64 BP.mutes, .int .i64 BP.muteMost, .int .i64 BP.lifts, .int .i64 BP.liftMost, .int .i64 BP.steps] 36 (0, 0)) ∧ w27.heap[M1]? = some (.cells #[.int .i64 BM.stops, .int .i64 BM.cells, .int .i64 BM.mutes, .int .i64 BM.muteMost, .int .i64 BM.lifts, .int .i64 BM.liftMost, .int .i64 BM.steps] 36 (0, 0)) ∧ w27.heap[M2]? = some (.cells #[.int .i64 BM.stops, .int .i64 BM.cells, .int .i64 BM.mutes, .int .i64 BM.muteMost, .int .i64 BM.lifts, .int .i64 BM.liftMost, .int .i64 BM.steps] 36 (0, 0)) ∧ w27.heap[Z1]? = some (.cells #[.int .i64 b.stops, .int .i64 b.cells, .int .i64 b.mutes, .int .i64 b.muteMost, .int .i64 b.lifts, .int .i64 b.liftMost, .int .i64 b.steps] 36 (0, 0)) := by
        obtain ⟨k0, k1, k2, k3, k4, k5, k6, k7⟩ := hHeld
        exact ⟨keep_heap k0 b9, keep_heap k1 b9, keep_heap k2 b9, keep_heap k3 b9, keep_heap k4 b9, keep_heap k5 b9, keep_heap k6 b9, keep_heap k7 b9⟩
      clear hHeld
      have U27 := Lib.hid (U26.out.trans (b9.mono U26.out.size))
      have Pw27 := Lib.hid (keep_heap Pw26.out b9)
      have Qw27 := Lib.hid (keep_heap Qw26.out b9)
      have Mw27 := Lib.hid (keep_heap Mw26.out b9)
      have Nw27 := Lib.hid (keep_heap Nw26.out b9)
      have Zw27 := Lib.hid (keep_heap Zw26.out b9)
      clear b9
      go_simp
      refine hK.out _ _ SX (fun hHeld => ?_)
      clear hK K9 SX
      try simp only [Act.put, List.getElem_toArray, List.getElem_cons_zero, List.getElem_cons_succ, List.setIfInBounds_toArray, List.set_cons_zero, List.set_cons_succ]
      refine wpAnyH_ready (rs := [31]) (by kernel_rfl) (by simp) ?_
      refine AllReadyH.cons (o := _) rfl (fun K9 hK => ?_) AllReadyH.nil
      go_simp
      go_at_call 16; with_reducible refine (HB3.out _).mono ?_; rintro e w28 ⟨D2, hD2, hs2, rfl, b9⟩
      obtain rfl : D1 = D2 := bs_inj (HD1.out.trans hD2.symm)
      clear hD2 hs2
      have SX : w28.heap[w.heap.size + 1 + 1]? = some (.cells #[.int .i64 b.stops, .int .i64 b.cells, .int .i64 b.mutes, .int .i64 b.muteMost, .int .i64 b.lifts, .int .i64 b.liftMost, .int .i64 b.steps] 36 (0, 0)) ∧ w28.heap[w.heap.size + 1 + 1 + 1]? = some (.cells #[.int .i64 c.stops, .int .i64 c.cells, .int .i64 c.mutes, .int .i64 c.muteMost, .int .i64 c.lifts, .int .i64 c.liftMost, .int .i64 c.steps] 36 (0, 0)) ∧ w28.heap[w.heap.size + 1 + 1 + 1 + 1]? = some (.cells #[.int .i64 f.kind, .int .i64 f.a, .int .i64 f.n] 38 (0, 0)) ∧ w28.heap[P1]? = some (.cells #[.int .i64 BP.stops, .int .i64 BP.cells, .int .i64 BP.mutes, .int .i64 BP.muteMost, .int .i64 BP.lifts, .int .i64 BP.liftMost, .int .i64 BP.steps] 36 (0, 0)) ∧ w28.heap[P2]? = some (.cells #[.int .i64 BP.stops, .int .i64 BP.cells, .int .i64 BP.mutes, .int .i64 BP.muteMost, .int .i64 BP.lifts, .int .i64 BP.liftMost, .int .i64 BP.steps] 36 (0, 0)) ∧ w28.heap[M1]? = some (.cells #[.int .i64 BM.stops, .int .i64 BM.cells, .int .i64 BM.mutes, .int .i64 BM.muteMost, .int .i64 BM.lifts, .int .i64 BM.liftMost, .int .i64 BM.steps] 36 (0, 0)) ∧ w28.heap[M2]? = some (.cells #[.int .i64 BM.stops, .int .i64 BM.cells, .int .i64 BM.mutes, .int .i64 BM.muteMost, .int .i64 BM.lifts, .int .i64 BM.liftMost, .int .i64 BM.steps] 36 (0, 0)) ∧ w28.heap[Z1]? = some (.cells #[.int .i64 b.stops, .int .i64 b.cells, .int .i64 b.mutes, .int .i64 b.muteMost, .int .i64 b.lifts, .int .i64 b.liftMost, .int .i64 b.steps] 36 (0, 0)) := by
        obtain ⟨k0, k1, k2, k3, k4, k5, k6, k7⟩ := hHeld
        exact ⟨keep_heap k0 b9, keep_heap k1 b9, keep_heap k2 b9, keep_heap k3 b9, keep_heap k4 b9, keep_heap k5 b9, keep_heap k6 b9, keep_heap k7 b9⟩
      clear hHeld
      have U28 := Lib.hid (U27.out.trans (b9.mono U27.out.size))
      have Pw28 := Lib.hid (keep_heap Pw27.out b9)
      have Qw28 := Lib.hid (keep_heap Qw27.out b9)
      have Mw28 := Lib.hid (keep_heap Mw27.out b9)
      have Nw28 := Lib.hid (keep_heap Nw27.out b9)
      have Zw28 := Lib.hid (keep_heap Zw27.out b9)
      clear b9
      go_simp
      refine hK.out _ _ SX (fun hHeld => ?_)
      clear hK K9 SX
      try simp only [Act.put, List.getElem_toArray, List.getElem_cons_zero, List.getElem_cons_succ, List.setIfInBounds_toArray, List.set_cons_zero, List.set_cons_succ]
      have hDn : (D1 != D1) = false := by
        show (!(D1.data == D1.data)) = false
        rw [beq_self_eq_true]; rfl
      refine wpAnyH_take (i := 32) (oi := _) (v := ?_) rfl (by kernel_rfl) (by kernel_rfl) (by kernel_rfl) (fun _ _ _ h => h) (Or.inl ⟨by rfl, ?_⟩) (by assumption) ?_
      rotate_left
      · intro w' hSw; go_simp; all_goals (with_reducible rfl)
      try simp only [Act.put, List.getElem_toArray, List.getElem_cons_zero, List.getElem_cons_succ, List.setIfInBounds_toArray, List.set_cons_zero, List.set_cons_succ]
      refine wpAnyH_take (i := 33) (oi := _) (v := ?_) rfl (by kernel_rfl) (by kernel_rfl) (by kernel_rfl) (fun _ _ _ h => h) (Or.inl ⟨by rfl, ?_⟩) (by assumption) ?_
      rotate_left
      · intro w' hSw; go_simp; all_goals (with_reducible rfl)
      try simp only [Act.put, List.getElem_toArray, List.getElem_cons_zero, List.getElem_cons_succ, List.setIfInBounds_toArray, List.set_cons_zero, List.set_cons_succ]
      refine wpAnyH_take (i := 34) (oi := _) (v := ?_) rfl (by kernel_rfl) (by kernel_rfl) (by kernel_rfl) (fun _ _ _ h => h) (Or.inl ⟨by rfl, ?_⟩) (by assumption) ?_
      rotate_left
      · intro w' hSw; go_simp; all_goals (with_reducible rfl)
      try simp only [Act.put, List.getElem_toArray, List.getElem_cons_zero, List.getElem_cons_succ, List.setIfInBounds_toArray, List.set_cons_zero, List.set_cons_succ]
      refine wpAnyH_take (i := 35) (oi := _) (v := ?_) rfl (by kernel_rfl) (by kernel_rfl) (by kernel_rfl) (fun _ _ _ h => h) (Or.inl ⟨by rfl, ?_⟩) (by assumption) ?_
      rotate_left
      · intro w' hSw; obtain ⟨k0, k1, k2, k3, k4, k5, k6, k7⟩ := hSw; have c0 := cell_of_heap k0 0 (v := .int .i64 b.stops) rfl; have c1 := cell_of_heap k0 1 (v := .int .i64 b.cells) rfl; have c2 := cell_of_heap k0 2 (v := .int .i64 b.mutes) rfl; have c3 := cell_of_heap k0 3 (v := .int .i64 b.muteMost) rfl; have c4 := cell_of_heap k0 4 (v := .int .i64 b.lifts) rfl; have c5 := cell_of_heap k0 5 (v := .int .i64 b.liftMost) rfl; have c6 := cell_of_heap k0 6 (v := .int .i64 b.steps) rfl; go_simp; all_goals (with_reducible rfl)
      try simp only [Act.put, List.getElem_toArray, List.getElem_cons_zero, List.getElem_cons_succ, List.setIfInBounds_toArray, List.set_cons_zero, List.set_cons_succ]
      refine wpAnyH_take (i := 36) (oi := _) (v := ?_) rfl (by kernel_rfl) (by kernel_rfl) (by kernel_rfl) (fun _ _ _ h => h) (Or.inl ⟨by rfl, ?_⟩) (by assumption) ?_
      rotate_left
      · intro w' hSw; obtain ⟨k0, k1, k2, k3, k4, k5, k6, k7⟩ := hSw; have c0 := cell_of_heap k2 0 (v := .int .i64 f.kind) rfl; have c1 := cell_of_heap k2 1 (v := .int .i64 f.a) rfl; have c2 := cell_of_heap k2 2 (v := .int .i64 f.n) rfl; go_simp; all_goals (with_reducible rfl)
      try simp only [Act.put, List.getElem_toArray, List.getElem_cons_zero, List.getElem_cons_succ, List.setIfInBounds_toArray, List.set_cons_zero, List.set_cons_succ]
      refine wpAnyH_take (i := 38) (oi := _) (v := ?_) rfl (by kernel_rfl) (by kernel_rfl) (by kernel_rfl) (fun _ _ _ h => h) (Or.inl ⟨by rfl, ?_⟩) (by assumption) ?_
      rotate_left
      · intro w' hSw; obtain ⟨k0, k1, k2, k3, k4, k5, k6, k7⟩ := hSw; have c0 := cell_of_heap k0 0 (v := .int .i64 b.stops) rfl; have c1 := cell_of_heap k0 1 (v := .int .i64 b.cells) rfl; have c2 := cell_of_heap k0 2 (v := .int .i64 b.mutes) rfl; have c3 := cell_of_heap k0 3 (v := .int .i64 b.muteMost) rfl; have c4 := cell_of_heap k0 4 (v := .int .i64 b.lifts) rfl; have c5 := cell_of_heap k0 5 (v := .int .i64 b.liftMost) rfl; have c6 := cell_of_heap k0 6 (v := .int .i64 b.steps) rfl; go_simp; all_goals (with_reducible rfl)
      try simp only [Act.put, List.getElem_toArray, List.getElem_cons_zero, List.getElem_cons_succ, List.setIfInBounds_toArray, List.set_cons_zero, List.set_cons_succ]
      refine wpAnyH_take (i := 39) (oi := _) (v := ?_) rfl (by kernel_rfl) (by kernel_rfl) (by kernel_rfl) (fun _ _ _ h => h) (Or.inl ⟨by rfl, ?_⟩) (by assumption) ?_
      rotate_left
      · intro w' hSw; obtain ⟨k0, k1, k2, k3, k4, k5, k6, k7⟩ := hSw; have c0 := cell_of_heap k2 0 (v := .int .i64 f.kind) rfl; have c1 := cell_of_heap k2 1 (v := .int .i64 f.a) rfl; have c2 := cell_of_heap k2 2 (v := .int .i64 f.n) rfl; go_simp; all_goals (with_reducible rfl)
      try simp only [Act.put, List.getElem_toArray, List.getElem_cons_zero, List.getElem_cons_succ, List.setIfInBounds_toArray, List.set_cons_zero, List.set_cons_succ]
      refine wpAnyH_ready (rs := [37]) (by kernel_rfl) (by simp) ?_
      refine AllReadyH.cons (o := _) rfl (fun K9 hK => ?_) AllReadyH.nil
      go_simp
      go_at_call 17; with_reducible refine (HAL.out _).mono ?_; rintro e w29 ⟨rfl, b9⟩
      have SX : w29.heap[w.heap.size + 1 + 1]? = some (.cells #[.int .i64 b.stops, .int .i64 b.cells, .int .i64 b.mutes, .int .i64 b.muteMost, .int .i64 b.lifts, .int .i64 b.liftMost, .int .i64 b.steps] 36 (0, 0)) ∧ w29.heap[w.heap.size + 1 + 1 + 1]? = some (.cells #[.int .i64 c.stops, .int .i64 c.cells, .int .i64 c.mutes, .int .i64 c.muteMost, .int .i64 c.lifts, .int .i64 c.liftMost, .int .i64 c.steps] 36 (0, 0)) ∧ w29.heap[w.heap.size + 1 + 1 + 1 + 1]? = some (.cells #[.int .i64 f.kind, .int .i64 f.a, .int .i64 f.n] 38 (0, 0)) ∧ w29.heap[P1]? = some (.cells #[.int .i64 BP.stops, .int .i64 BP.cells, .int .i64 BP.mutes, .int .i64 BP.muteMost, .int .i64 BP.lifts, .int .i64 BP.liftMost, .int .i64 BP.steps] 36 (0, 0)) ∧ w29.heap[P2]? = some (.cells #[.int .i64 BP.stops, .int .i64 BP.cells, .int .i64 BP.mutes, .int .i64 BP.muteMost, .int .i64 BP.lifts, .int .i64 BP.liftMost, .int .i64 BP.steps] 36 (0, 0)) ∧ w29.heap[M1]? = some (.cells #[.int .i64 BM.stops, .int .i64 BM.cells, .int .i64 BM.mutes, .int .i64 BM.muteMost, .int .i64 BM.lifts, .int .i64 BM.liftMost, .int .i64 BM.steps] 36 (0, 0)) ∧ w29.heap[M2]? = some (.cells #[.int .i64 BM.stops, .int .i64 BM.cells, .int .i64 BM.mutes, .int .i64 BM.muteMost, .int .i64 BM.lifts, .int .i64 BM.liftMost, .int .i64 BM.steps] 36 (0, 0)) ∧ w29.heap[Z1]? = some (.cells #[.int .i64 b.stops, .int .i64 b.cells, .int .i64 b.mutes, .int .i64 b.muteMost, .int .i64 b.lifts, .int .i64 b.liftMost, .int .i64 b.steps] 36 (0, 0)) := by
        obtain ⟨k0, k1, k2, k3, k4, k5, k6, k7⟩ := hHeld
        exact ⟨keep_heap k0 b9, keep_heap k1 b9, keep_heap k2 b9, keep_heap k3 b9, keep_heap k4 b9, keep_heap k5 b9, keep_heap k6 b9, keep_heap k7 b9⟩
      clear hHeld
      have U29 := Lib.hid (U28.out.trans (b9.mono U28.out.size))
      have Pw29 := Lib.hid (keep_heap Pw28.out b9)
      have Qw29 := Lib.hid (keep_heap Qw28.out b9)
      have Mw29 := Lib.hid (keep_heap Mw28.out b9)
      have Nw29 := Lib.hid (keep_heap Nw28.out b9)
      have Zw29 := Lib.hid (keep_heap Zw28.out b9)
      clear b9
      go_simp
      refine hK.out _ _ SX (fun hHeld => ?_)
      clear hK K9 SX
      try simp only [Act.put, List.getElem_toArray, List.getElem_cons_zero, List.getElem_cons_succ, List.setIfInBounds_toArray, List.set_cons_zero, List.set_cons_succ]
      refine wpAnyH_ready (rs := [40]) (by kernel_rfl) (by simp) ?_
      refine AllReadyH.cons (o := _) rfl (fun K9 hK => ?_) AllReadyH.nil
      go_simp
      go_at_call 18; with_reducible refine (HA2.out _).mono ?_; rintro e w30 ⟨rfl, b9⟩
      have SX : w30.heap[w.heap.size + 1 + 1]? = some (.cells #[.int .i64 b.stops, .int .i64 b.cells, .int .i64 b.mutes, .int .i64 b.muteMost, .int .i64 b.lifts, .int .i64 b.liftMost, .int .i64 b.steps] 36 (0, 0)) ∧ w30.heap[w.heap.size + 1 + 1 + 1]? = some (.cells #[.int .i64 c.stops, .int .i64 c.cells, .int .i64 c.mutes, .int .i64 c.muteMost, .int .i64 c.lifts, .int .i64 c.liftMost, .int .i64 c.steps] 36 (0, 0)) ∧ w30.heap[w.heap.size + 1 + 1 + 1 + 1]? = some (.cells #[.int .i64 f.kind, .int .i64 f.a, .int .i64 f.n] 38 (0, 0)) ∧ w30.heap[P1]? = some (.cells #[.int .i64 BP.stops, .int .i64 BP.cells, .int .i64 BP.mutes, .int .i64 BP.muteMost, .int .i64 BP.lifts, .int .i64 BP.liftMost, .int .i64 BP.steps] 36 (0, 0)) ∧ w30.heap[P2]? = some (.cells #[.int .i64 BP.stops, .int .i64 BP.cells, .int .i64 BP.mutes, .int .i64 BP.muteMost, .int .i64 BP.lifts, .int .i64 BP.liftMost, .int .i64 BP.steps] 36 (0, 0)) ∧ w30.heap[M1]? = some (.cells #[.int .i64 BM.stops, .int .i64 BM.cells, .int .i64 BM.mutes, .int .i64 BM.muteMost, .int .i64 BM.lifts, .int .i64 BM.liftMost, .int .i64 BM.steps] 36 (0, 0)) ∧ w30.heap[M2]? = some (.cells #[.int .i64 BM.stops, .int .i64 BM.cells, .int .i64 BM.mutes, .int .i64 BM.muteMost, .int .i64 BM.lifts, .int .i64 BM.liftMost, .int .i64 BM.steps] 36 (0, 0)) ∧ w30.heap[Z1]? = some (.cells #[.int .i64 b.stops, .int .i64 b.cells, .int .i64 b.mutes, .int .i64 b.muteMost, .int .i64 b.lifts, .int .i64 b.liftMost, .int .i64 b.steps] 36 (0, 0)) := by
        obtain ⟨k0, k1, k2, k3, k4, k5, k6, k7⟩ := hHeld
        exact ⟨keep_heap k0 b9, keep_heap k1 b9, keep_heap k2 b9, keep_heap k3 b9, keep_heap k4 b9, keep_heap k5 b9, keep_heap k6 b9, keep_heap k7 b9⟩
      clear hHeld
      have U30 := Lib.hid (U29.out.trans (b9.mono U29.out.size))
      have Pw30 := Lib.hid (keep_heap Pw29.out b9)
      have Qw30 := Lib.hid (keep_heap Qw29.out b9)
      have Mw30 := Lib.hid (keep_heap Mw29.out b9)
      have Nw30 := Lib.hid (keep_heap Nw29.out b9)
      have Zw30 := Lib.hid (keep_heap Zw29.out b9)
      clear b9
      go_simp
      refine hK.out _ _ SX (fun hHeld => ?_)
      clear hK K9 SX
      try simp only [Act.put, List.getElem_toArray, List.getElem_cons_zero, List.getElem_cons_succ, List.setIfInBounds_toArray, List.set_cons_zero, List.set_cons_succ]
      refine wpAnyH_take (i := 41) (oi := _) (v := ?_) rfl (by kernel_rfl) (by kernel_rfl) (by kernel_rfl) (fun _ _ _ h => h) (Or.inl ⟨by rfl, ?_⟩) (by assumption) ?_
      rotate_left
      · intro w' hSw; go_simp; all_goals (with_reducible rfl)
      try simp only [Act.put, List.getElem_toArray, List.getElem_cons_zero, List.getElem_cons_succ, List.setIfInBounds_toArray, List.set_cons_zero, List.set_cons_succ]
      refine wpAnyH_take (i := 42) (oi := _) (v := ?_) rfl (by kernel_rfl) (by kernel_rfl) (by kernel_rfl) (fun _ _ _ h => h) (Or.inl ⟨by rfl, ?_⟩) (by assumption) ?_
      rotate_left
      · intro w' hSw; go_simp; all_goals (with_reducible rfl)
      try simp only [Act.put, List.getElem_toArray, List.getElem_cons_zero, List.getElem_cons_succ, List.setIfInBounds_toArray, List.set_cons_zero, List.set_cons_succ]
      refine wpAnyH_take (i := 43) (oi := _) (v := ?_) rfl (by kernel_rfl) (by kernel_rfl) (by kernel_rfl) (fun _ _ _ h => h) (Or.inl ⟨by rfl, ?_⟩) (by assumption) ?_
      rotate_left
      · intro w' hSw; go_simp; all_goals (with_reducible rfl)
      try simp only [Act.put, List.getElem_toArray, List.getElem_cons_zero, List.getElem_cons_succ, List.setIfInBounds_toArray, List.set_cons_zero, List.set_cons_succ]
      refine wpAnyH_take (i := 44) (oi := _) (v := ?_) rfl (by kernel_rfl) (by kernel_rfl) (by kernel_rfl) (fun _ _ _ h => h) (Or.inl ⟨by rfl, ?_⟩) (by assumption) ?_
      rotate_left
      · intro w' hSw; obtain ⟨k0, k1, k2, k3, k4, k5, k6, k7⟩ := hSw; have c0 := cell_of_heap k0 0 (v := .int .i64 b.stops) rfl; have c1 := cell_of_heap k0 1 (v := .int .i64 b.cells) rfl; have c2 := cell_of_heap k0 2 (v := .int .i64 b.mutes) rfl; have c3 := cell_of_heap k0 3 (v := .int .i64 b.muteMost) rfl; have c4 := cell_of_heap k0 4 (v := .int .i64 b.lifts) rfl; have c5 := cell_of_heap k0 5 (v := .int .i64 b.liftMost) rfl; have c6 := cell_of_heap k0 6 (v := .int .i64 b.steps) rfl; go_simp; all_goals (with_reducible rfl)
      try simp only [Act.put, List.getElem_toArray, List.getElem_cons_zero, List.getElem_cons_succ, List.setIfInBounds_toArray, List.set_cons_zero, List.set_cons_succ]
      refine wpAnyH_take (i := 46) (oi := _) (v := ?_) rfl (by kernel_rfl) (by kernel_rfl) (by kernel_rfl) (fun _ _ _ h => h) (Or.inl ⟨by rfl, ?_⟩) (by assumption) ?_
      rotate_left
      · intro w' hSw; obtain ⟨k0, k1, k2, k3, k4, k5, k6, k7⟩ := hSw; have c0 := cell_of_heap k0 0 (v := .int .i64 b.stops) rfl; have c1 := cell_of_heap k0 1 (v := .int .i64 b.cells) rfl; have c2 := cell_of_heap k0 2 (v := .int .i64 b.mutes) rfl; have c3 := cell_of_heap k0 3 (v := .int .i64 b.muteMost) rfl; have c4 := cell_of_heap k0 4 (v := .int .i64 b.lifts) rfl; have c5 := cell_of_heap k0 5 (v := .int .i64 b.liftMost) rfl; have c6 := cell_of_heap k0 6 (v := .int .i64 b.steps) rfl; go_simp; all_goals (with_reducible rfl)
      try simp only [Act.put, List.getElem_toArray, List.getElem_cons_zero, List.getElem_cons_succ, List.setIfInBounds_toArray, List.set_cons_zero, List.set_cons_succ]
      refine wpAnyH_ready (rs := [45]) (by kernel_rfl) (by simp) ?_
      refine AllReadyH.cons (o := _) rfl (fun K9 hK => ?_) AllReadyH.nil
      go_simp
      go_at_call 19; with_reducible refine (HLE2.out _).mono ?_; rintro e w31 ⟨rfl, b9⟩
      have SX : w31.heap[w.heap.size + 1 + 1]? = some (.cells #[.int .i64 b.stops, .int .i64 b.cells, .int .i64 b.mutes, .int .i64 b.muteMost, .int .i64 b.lifts, .int .i64 b.liftMost, .int .i64 b.steps] 36 (0, 0)) ∧ w31.heap[w.heap.size + 1 + 1 + 1]? = some (.cells #[.int .i64 c.stops, .int .i64 c.cells, .int .i64 c.mutes, .int .i64 c.muteMost, .int .i64 c.lifts, .int .i64 c.liftMost, .int .i64 c.steps] 36 (0, 0)) ∧ w31.heap[w.heap.size + 1 + 1 + 1 + 1]? = some (.cells #[.int .i64 f.kind, .int .i64 f.a, .int .i64 f.n] 38 (0, 0)) ∧ w31.heap[P1]? = some (.cells #[.int .i64 BP.stops, .int .i64 BP.cells, .int .i64 BP.mutes, .int .i64 BP.muteMost, .int .i64 BP.lifts, .int .i64 BP.liftMost, .int .i64 BP.steps] 36 (0, 0)) ∧ w31.heap[P2]? = some (.cells #[.int .i64 BP.stops, .int .i64 BP.cells, .int .i64 BP.mutes, .int .i64 BP.muteMost, .int .i64 BP.lifts, .int .i64 BP.liftMost, .int .i64 BP.steps] 36 (0, 0)) ∧ w31.heap[M1]? = some (.cells #[.int .i64 BM.stops, .int .i64 BM.cells, .int .i64 BM.mutes, .int .i64 BM.muteMost, .int .i64 BM.lifts, .int .i64 BM.liftMost, .int .i64 BM.steps] 36 (0, 0)) ∧ w31.heap[M2]? = some (.cells #[.int .i64 BM.stops, .int .i64 BM.cells, .int .i64 BM.mutes, .int .i64 BM.muteMost, .int .i64 BM.lifts, .int .i64 BM.liftMost, .int .i64 BM.steps] 36 (0, 0)) ∧ w31.heap[Z1]? = some (.cells #[.int .i64 b.stops, .int .i64 b.cells, .int .i64 b.mutes, .int .i64 b.muteMost, .int .i64 b.lifts, .int .i64 b.liftMost, .int .i64 b.steps] 36 (0, 0)) := by
        obtain ⟨k0, k1, k2, k3, k4, k5, k6, k7⟩ := hHeld
        exact ⟨keep_heap k0 b9, keep_heap k1 b9, keep_heap k2 b9, keep_heap k3 b9, keep_heap k4 b9, keep_heap k5 b9, keep_heap k6 b9, keep_heap k7 b9⟩
      clear hHeld
      have U31 := Lib.hid (U30.out.trans (b9.mono U30.out.size))
      have Pw31 := Lib.hid (keep_heap Pw30.out b9)
      have Qw31 := Lib.hid (keep_heap Qw30.out b9)
      have Mw31 := Lib.hid (keep_heap Mw30.out b9)
      have Nw31 := Lib.hid (keep_heap Nw30.out b9)
      have Zw31 := Lib.hid (keep_heap Zw30.out b9)
      clear b9
      go_simp
      refine hK.out _ _ SX (fun hHeld => ?_)
      clear hK K9 SX
      try simp only [Act.put, List.getElem_toArray, List.getElem_cons_zero, List.getElem_cons_succ, List.setIfInBounds_toArray, List.set_cons_zero, List.set_cons_succ]
      refine wpAnyH_ready (rs := [47]) (by kernel_rfl) (by simp) ?_
      refine AllReadyH.cons (o := _) rfl (fun K9 hK => ?_) AllReadyH.nil
      go_simp
      go_at_call 20; with_reducible refine (HLF2.out _).mono ?_; rintro e w32 ⟨rfl, b9⟩
      have SX : w32.heap[w.heap.size + 1 + 1]? = some (.cells #[.int .i64 b.stops, .int .i64 b.cells, .int .i64 b.mutes, .int .i64 b.muteMost, .int .i64 b.lifts, .int .i64 b.liftMost, .int .i64 b.steps] 36 (0, 0)) ∧ w32.heap[w.heap.size + 1 + 1 + 1]? = some (.cells #[.int .i64 c.stops, .int .i64 c.cells, .int .i64 c.mutes, .int .i64 c.muteMost, .int .i64 c.lifts, .int .i64 c.liftMost, .int .i64 c.steps] 36 (0, 0)) ∧ w32.heap[w.heap.size + 1 + 1 + 1 + 1]? = some (.cells #[.int .i64 f.kind, .int .i64 f.a, .int .i64 f.n] 38 (0, 0)) ∧ w32.heap[P1]? = some (.cells #[.int .i64 BP.stops, .int .i64 BP.cells, .int .i64 BP.mutes, .int .i64 BP.muteMost, .int .i64 BP.lifts, .int .i64 BP.liftMost, .int .i64 BP.steps] 36 (0, 0)) ∧ w32.heap[P2]? = some (.cells #[.int .i64 BP.stops, .int .i64 BP.cells, .int .i64 BP.mutes, .int .i64 BP.muteMost, .int .i64 BP.lifts, .int .i64 BP.liftMost, .int .i64 BP.steps] 36 (0, 0)) ∧ w32.heap[M1]? = some (.cells #[.int .i64 BM.stops, .int .i64 BM.cells, .int .i64 BM.mutes, .int .i64 BM.muteMost, .int .i64 BM.lifts, .int .i64 BM.liftMost, .int .i64 BM.steps] 36 (0, 0)) ∧ w32.heap[M2]? = some (.cells #[.int .i64 BM.stops, .int .i64 BM.cells, .int .i64 BM.mutes, .int .i64 BM.muteMost, .int .i64 BM.lifts, .int .i64 BM.liftMost, .int .i64 BM.steps] 36 (0, 0)) ∧ w32.heap[Z1]? = some (.cells #[.int .i64 b.stops, .int .i64 b.cells, .int .i64 b.mutes, .int .i64 b.muteMost, .int .i64 b.lifts, .int .i64 b.liftMost, .int .i64 b.steps] 36 (0, 0)) := by
        obtain ⟨k0, k1, k2, k3, k4, k5, k6, k7⟩ := hHeld
        exact ⟨keep_heap k0 b9, keep_heap k1 b9, keep_heap k2 b9, keep_heap k3 b9, keep_heap k4 b9, keep_heap k5 b9, keep_heap k6 b9, keep_heap k7 b9⟩
      clear hHeld
      have U32 := Lib.hid (U31.out.trans (b9.mono U31.out.size))
      have Pw32 := Lib.hid (keep_heap Pw31.out b9)
      have Qw32 := Lib.hid (keep_heap Qw31.out b9)
      have Mw32 := Lib.hid (keep_heap Mw31.out b9)
      have Nw32 := Lib.hid (keep_heap Nw31.out b9)
      have Zw32 := Lib.hid (keep_heap Zw31.out b9)
      clear b9
      go_simp
      refine hK.out _ _ SX (fun hHeld => ?_)
      clear hK K9 SX
      try simp only [Act.put, List.getElem_toArray, List.getElem_cons_zero, List.getElem_cons_succ, List.setIfInBounds_toArray, List.set_cons_zero, List.set_cons_succ]
      refine wpAnyH_take (i := 48) (oi := _) (v := ?_) rfl (by kernel_rfl) (by kernel_rfl) (by kernel_rfl) (fun _ _ _ h => h) (Or.inl ⟨by rfl, ?_⟩) (by assumption) ?_
      rotate_left
      · intro w' hSw; go_simp; all_goals (with_reducible rfl)
      try simp only [Act.put, List.getElem_toArray, List.getElem_cons_zero, List.getElem_cons_succ, List.setIfInBounds_toArray, List.set_cons_zero, List.set_cons_succ]
      refine wpAnyH_take (i := 49) (oi := _) (v := ?_) rfl (by kernel_rfl) (by kernel_rfl) (by kernel_rfl) (fun _ _ _ h => h) (Or.inl ⟨by rfl, ?_⟩) (by assumption) ?_
      rotate_left
      · intro w' hSw; go_simp; all_goals (with_reducible rfl)
      try simp only [Act.put, List.getElem_toArray, List.getElem_cons_zero, List.getElem_cons_succ, List.setIfInBounds_toArray, List.set_cons_zero, List.set_cons_succ]
      refine wpAnyH_take (i := 50) (oi := _) (v := ?_) rfl (by kernel_rfl) (by kernel_rfl) (by kernel_rfl) (fun _ _ _ h => h) (Or.inl ⟨by rfl, ?_⟩) (by assumption) ?_
      rotate_left
      · intro w' hSw; go_simp; all_goals (with_reducible rfl)
      try simp only [Act.put, List.getElem_toArray, List.getElem_cons_zero, List.getElem_cons_succ, List.setIfInBounds_toArray, List.set_cons_zero, List.set_cons_succ]
      refine wpAnyH_take (i := 51) (oi := _) (v := ?_) rfl (by kernel_rfl) (by kernel_rfl) (by kernel_rfl) (fun _ _ _ h => h) (Or.inl ⟨by rfl, ?_⟩) (by assumption) ?_
      rotate_left
      · intro w' hSw; obtain ⟨k0, k1, k2, k3, k4, k5, k6, k7⟩ := hSw; have c0 := cell_of_heap k0 0 (v := .int .i64 b.stops) rfl; have c1 := cell_of_heap k0 1 (v := .int .i64 b.cells) rfl; have c2 := cell_of_heap k0 2 (v := .int .i64 b.mutes) rfl; have c3 := cell_of_heap k0 3 (v := .int .i64 b.muteMost) rfl; have c4 := cell_of_heap k0 4 (v := .int .i64 b.lifts) rfl; have c5 := cell_of_heap k0 5 (v := .int .i64 b.liftMost) rfl; have c6 := cell_of_heap k0 6 (v := .int .i64 b.steps) rfl; go_simp; all_goals (with_reducible rfl)
      try simp only [Act.put, List.getElem_toArray, List.getElem_cons_zero, List.getElem_cons_succ, List.setIfInBounds_toArray, List.set_cons_zero, List.set_cons_succ]
      refine wpAnyH_take (i := 52) (oi := _) (v := ?_) rfl (by kernel_rfl) (by kernel_rfl) (by kernel_rfl) (fun _ _ _ h => h) (Or.inl ⟨by rfl, ?_⟩) (by assumption) ?_
      rotate_left
      · intro w' hSw; obtain ⟨k0, k1, k2, k3, k4, k5, k6, k7⟩ := hSw; have c0 := cell_of_heap k1 0 (v := .int .i64 c.stops) rfl; have c1 := cell_of_heap k1 1 (v := .int .i64 c.cells) rfl; have c2 := cell_of_heap k1 2 (v := .int .i64 c.mutes) rfl; have c3 := cell_of_heap k1 3 (v := .int .i64 c.muteMost) rfl; have c4 := cell_of_heap k1 4 (v := .int .i64 c.lifts) rfl; have c5 := cell_of_heap k1 5 (v := .int .i64 c.liftMost) rfl; have c6 := cell_of_heap k1 6 (v := .int .i64 c.steps) rfl; go_simp; all_goals (with_reducible rfl)
      try simp only [Act.put, List.getElem_toArray, List.getElem_cons_zero, List.getElem_cons_succ, List.setIfInBounds_toArray, List.set_cons_zero, List.set_cons_succ]
      refine wpAnyH_take (i := 54) (oi := _) (v := ?_) rfl (by kernel_rfl) (by kernel_rfl) (by kernel_rfl) (fun _ _ _ h => h) (Or.inl ⟨by rfl, ?_⟩) (by assumption) ?_
      rotate_left
      · intro w' hSw; obtain ⟨k0, k1, k2, k3, k4, k5, k6, k7⟩ := hSw; have c0 := cell_of_heap k0 0 (v := .int .i64 b.stops) rfl; have c1 := cell_of_heap k0 1 (v := .int .i64 b.cells) rfl; have c2 := cell_of_heap k0 2 (v := .int .i64 b.mutes) rfl; have c3 := cell_of_heap k0 3 (v := .int .i64 b.muteMost) rfl; have c4 := cell_of_heap k0 4 (v := .int .i64 b.lifts) rfl; have c5 := cell_of_heap k0 5 (v := .int .i64 b.liftMost) rfl; have c6 := cell_of_heap k0 6 (v := .int .i64 b.steps) rfl; go_simp; all_goals (with_reducible rfl)
      try simp only [Act.put, List.getElem_toArray, List.getElem_cons_zero, List.getElem_cons_succ, List.setIfInBounds_toArray, List.set_cons_zero, List.set_cons_succ]
      refine wpAnyH_take (i := 55) (oi := _) (v := ?_) rfl (by kernel_rfl) (by kernel_rfl) (by kernel_rfl) (fun _ _ _ h => h) (Or.inl ⟨by rfl, ?_⟩) (by assumption) ?_
      rotate_left
      · intro w' hSw; obtain ⟨k0, k1, k2, k3, k4, k5, k6, k7⟩ := hSw; have c0 := cell_of_heap k1 0 (v := .int .i64 c.stops) rfl; have c1 := cell_of_heap k1 1 (v := .int .i64 c.cells) rfl; have c2 := cell_of_heap k1 2 (v := .int .i64 c.mutes) rfl; have c3 := cell_of_heap k1 3 (v := .int .i64 c.muteMost) rfl; have c4 := cell_of_heap k1 4 (v := .int .i64 c.lifts) rfl; have c5 := cell_of_heap k1 5 (v := .int .i64 c.liftMost) rfl; have c6 := cell_of_heap k1 6 (v := .int .i64 c.steps) rfl; go_simp; all_goals (with_reducible rfl)
      try simp only [Act.put, List.getElem_toArray, List.getElem_cons_zero, List.getElem_cons_succ, List.setIfInBounds_toArray, List.set_cons_zero, List.set_cons_succ]
      refine wpAnyH_ready (rs := [53]) (by kernel_rfl) (by simp) ?_
      refine AllReadyH.cons (o := _) rfl (fun K9 hK => ?_) AllReadyH.nil
      go_simp
      go_at_call 21; with_reducible refine (HWI.out _).mono ?_; rintro e w33 ⟨rfl, b9⟩
      have SX : w33.heap[w.heap.size + 1 + 1]? = some (.cells #[.int .i64 b.stops, .int .i64 b.cells, .int .i64 b.mutes, .int .i64 b.muteMost, .int .i64 b.lifts, .int .i64 b.liftMost, .int .i64 b.steps] 36 (0, 0)) ∧ w33.heap[w.heap.size + 1 + 1 + 1]? = some (.cells #[.int .i64 c.stops, .int .i64 c.cells, .int .i64 c.mutes, .int .i64 c.muteMost, .int .i64 c.lifts, .int .i64 c.liftMost, .int .i64 c.steps] 36 (0, 0)) ∧ w33.heap[w.heap.size + 1 + 1 + 1 + 1]? = some (.cells #[.int .i64 f.kind, .int .i64 f.a, .int .i64 f.n] 38 (0, 0)) ∧ w33.heap[P1]? = some (.cells #[.int .i64 BP.stops, .int .i64 BP.cells, .int .i64 BP.mutes, .int .i64 BP.muteMost, .int .i64 BP.lifts, .int .i64 BP.liftMost, .int .i64 BP.steps] 36 (0, 0)) ∧ w33.heap[P2]? = some (.cells #[.int .i64 BP.stops, .int .i64 BP.cells, .int .i64 BP.mutes, .int .i64 BP.muteMost, .int .i64 BP.lifts, .int .i64 BP.liftMost, .int .i64 BP.steps] 36 (0, 0)) ∧ w33.heap[M1]? = some (.cells #[.int .i64 BM.stops, .int .i64 BM.cells, .int .i64 BM.mutes, .int .i64 BM.muteMost, .int .i64 BM.lifts, .int .i64 BM.liftMost, .int .i64 BM.steps] 36 (0, 0)) ∧ w33.heap[M2]? = some (.cells #[.int .i64 BM.stops, .int .i64 BM.cells, .int .i64 BM.mutes, .int .i64 BM.muteMost, .int .i64 BM.lifts, .int .i64 BM.liftMost, .int .i64 BM.steps] 36 (0, 0)) ∧ w33.heap[Z1]? = some (.cells #[.int .i64 b.stops, .int .i64 b.cells, .int .i64 b.mutes, .int .i64 b.muteMost, .int .i64 b.lifts, .int .i64 b.liftMost, .int .i64 b.steps] 36 (0, 0)) := by
        obtain ⟨k0, k1, k2, k3, k4, k5, k6, k7⟩ := hHeld
        exact ⟨keep_heap k0 b9, keep_heap k1 b9, keep_heap k2 b9, keep_heap k3 b9, keep_heap k4 b9, keep_heap k5 b9, keep_heap k6 b9, keep_heap k7 b9⟩
      clear hHeld
      have U33 := Lib.hid (U32.out.trans (b9.mono U32.out.size))
      have Pw33 := Lib.hid (keep_heap Pw32.out b9)
      have Qw33 := Lib.hid (keep_heap Qw32.out b9)
      have Mw33 := Lib.hid (keep_heap Mw32.out b9)
      have Nw33 := Lib.hid (keep_heap Nw32.out b9)
      have Zw33 := Lib.hid (keep_heap Zw32.out b9)
      clear b9
      go_simp
      refine hK.out _ _ SX (fun hHeld => ?_)
      clear hK K9 SX
      try simp only [Act.put, List.getElem_toArray, List.getElem_cons_zero, List.getElem_cons_succ, List.setIfInBounds_toArray, List.set_cons_zero, List.set_cons_succ]
      refine wpAnyH_ready (rs := [56]) (by kernel_rfl) (by simp) ?_
      refine AllReadyH.cons (o := _) rfl (fun K9 hK => ?_) AllReadyH.nil
      go_simp
      go_at_call 22; with_reducible refine (HW2.out _).mono ?_; rintro e w34 ⟨rfl, b9⟩
      have SX : w34.heap[w.heap.size + 1 + 1]? = some (.cells #[.int .i64 b.stops, .int .i64 b.cells, .int .i64 b.mutes, .int .i64 b.muteMost, .int .i64 b.lifts, .int .i64 b.liftMost, .int .i64 b.steps] 36 (0, 0)) ∧ w34.heap[w.heap.size + 1 + 1 + 1]? = some (.cells #[.int .i64 c.stops, .int .i64 c.cells, .int .i64 c.mutes, .int .i64 c.muteMost, .int .i64 c.lifts, .int .i64 c.liftMost, .int .i64 c.steps] 36 (0, 0)) ∧ w34.heap[w.heap.size + 1 + 1 + 1 + 1]? = some (.cells #[.int .i64 f.kind, .int .i64 f.a, .int .i64 f.n] 38 (0, 0)) ∧ w34.heap[P1]? = some (.cells #[.int .i64 BP.stops, .int .i64 BP.cells, .int .i64 BP.mutes, .int .i64 BP.muteMost, .int .i64 BP.lifts, .int .i64 BP.liftMost, .int .i64 BP.steps] 36 (0, 0)) ∧ w34.heap[P2]? = some (.cells #[.int .i64 BP.stops, .int .i64 BP.cells, .int .i64 BP.mutes, .int .i64 BP.muteMost, .int .i64 BP.lifts, .int .i64 BP.liftMost, .int .i64 BP.steps] 36 (0, 0)) ∧ w34.heap[M1]? = some (.cells #[.int .i64 BM.stops, .int .i64 BM.cells, .int .i64 BM.mutes, .int .i64 BM.muteMost, .int .i64 BM.lifts, .int .i64 BM.liftMost, .int .i64 BM.steps] 36 (0, 0)) ∧ w34.heap[M2]? = some (.cells #[.int .i64 BM.stops, .int .i64 BM.cells, .int .i64 BM.mutes, .int .i64 BM.muteMost, .int .i64 BM.lifts, .int .i64 BM.liftMost, .int .i64 BM.steps] 36 (0, 0)) ∧ w34.heap[Z1]? = some (.cells #[.int .i64 b.stops, .int .i64 b.cells, .int .i64 b.mutes, .int .i64 b.muteMost, .int .i64 b.lifts, .int .i64 b.liftMost, .int .i64 b.steps] 36 (0, 0)) := by
        obtain ⟨k0, k1, k2, k3, k4, k5, k6, k7⟩ := hHeld
        exact ⟨keep_heap k0 b9, keep_heap k1 b9, keep_heap k2 b9, keep_heap k3 b9, keep_heap k4 b9, keep_heap k5 b9, keep_heap k6 b9, keep_heap k7 b9⟩
      clear hHeld
      have U34 := Lib.hid (U33.out.trans (b9.mono U33.out.size))
      have Pw34 := Lib.hid (keep_heap Pw33.out b9)
      have Qw34 := Lib.hid (keep_heap Qw33.out b9)
      have Mw34 := Lib.hid (keep_heap Mw33.out b9)
      have Nw34 := Lib.hid (keep_heap Nw33.out b9)
      have Zw34 := Lib.hid (keep_heap Zw33.out b9)
      clear b9
      go_simp
      refine hK.out _ _ SX (fun hHeld => ?_)
      clear hK K9 SX
      try simp only [Act.put, List.getElem_toArray, List.getElem_cons_zero, List.getElem_cons_succ, List.setIfInBounds_toArray, List.set_cons_zero, List.set_cons_succ]
      refine wpAnyH_take (i := 57) (oi := _) (v := ?_) rfl (by kernel_rfl) (by kernel_rfl) (by kernel_rfl) (fun _ _ _ h => h) (Or.inl ⟨by rfl, ?_⟩) (by assumption) ?_
      rotate_left
      · intro w' hSw; go_simp; all_goals (with_reducible rfl)
      try simp only [Act.put, List.getElem_toArray, List.getElem_cons_zero, List.getElem_cons_succ, List.setIfInBounds_toArray, List.set_cons_zero, List.set_cons_succ]
      refine wpAnyH_take (i := 58) (oi := _) (v := ?_) rfl (by kernel_rfl) (by kernel_rfl) (by kernel_rfl) (fun _ _ _ h => h) (Or.inl ⟨by rfl, ?_⟩) (by assumption) ?_
      rotate_left
      · intro w' hSw; go_simp; all_goals (with_reducible rfl)
      try simp only [Act.put, List.getElem_toArray, List.getElem_cons_zero, List.getElem_cons_succ, List.setIfInBounds_toArray, List.set_cons_zero, List.set_cons_succ]
      refine wpAnyH_done (by kernel_rfl) ?_ _
      clear hHeld
      clear hAn hWn hEn hLn hNn hDn HNP HNM HNB HBY2 HB3 HLE2 HLF2 HAL HA2 HWI HW2 HD1
      clear Pw34 Qw34 Mw34 Nw34 Zw34
      go_upto_region 17 with fail
      refine wp_region_held_drew (S := fun W' => W'.heap[w.heap.size]? = some (.cells #[.int .i64 s.floor.w, .int .i64 s.floor.h, .int .i64 s.floor.d, kv, ov, zv, av, hv, bv] 30 (0, 0)) ∧ W'.heap[w.heap.size + 1]? = some (.cells #[.int .i64 st.tick, shv, .slice ra nr rc, pev, dev, skv] 34 (0, 0)) ∧ W'.heap[w.heap.size + 1 + 1]? = some (.cells #[.int .i64 b.stops, .int .i64 b.cells, .int .i64 b.mutes, .int .i64 b.muteMost, .int .i64 b.lifts, .int .i64 b.liftMost, .int .i64 b.steps] 36 (0, 0))) (by kernel_rfl) ⟨(CS.out w34 U34.out), (CT.out w34 U34.out), (CB.out w34 U34.out)⟩ (fun hHeld => ?_)
      obtain ⟨w35, hwx⟩ : ∃ W, W = w34.drew := ⟨_, rfl⟩
      rw [← hwx] at hHeld ⊢
      have b9 : Below w34.heap.size w34 w35 := by subst hwx; exact ⟨rfl, rfl, rfl, Nat.le_refl _, fun _ _ => rfl⟩
      clear hwx
      have U35 := Lib.hid (U34.out.trans (b9.mono U34.out.size))
      clear b9
      try simp only [Act.put, List.getElem_toArray, List.getElem_cons_zero, List.getElem_cons_succ, List.setIfInBounds_toArray, List.set_cons_zero, List.set_cons_succ]
      refine wpAnyH_take (i := 0) (oi := _) (v := ?_) rfl (by kernel_rfl) (by kernel_rfl) (by kernel_rfl) (fun _ _ _ h => h) (Or.inl ⟨by rfl, ?_⟩) (by assumption) ?_
      rotate_left
      · intro w' hSw; go_simp; all_goals (with_reducible rfl)
      try simp only [Act.put, List.getElem_toArray, List.getElem_cons_zero, List.getElem_cons_succ, List.setIfInBounds_toArray, List.set_cons_zero, List.set_cons_succ]
      refine wpAnyH_take (i := 1) (oi := _) (v := ?_) rfl (by kernel_rfl) (by kernel_rfl) (by kernel_rfl) (fun _ _ _ h => h) (Or.inl ⟨by rfl, ?_⟩) (by assumption) ?_
      rotate_left
      · intro w' hSw; go_simp; all_goals (with_reducible rfl)
      try simp only [Act.put, List.getElem_toArray, List.getElem_cons_zero, List.getElem_cons_succ, List.setIfInBounds_toArray, List.set_cons_zero, List.set_cons_succ]
      refine wpAnyH_take (i := 2) (oi := _) (v := ?_) rfl (by kernel_rfl) (by kernel_rfl) (by kernel_rfl) (fun _ _ _ h => h) (Or.inl ⟨by rfl, ?_⟩) (by assumption) ?_
      rotate_left
      · intro w' hSw; obtain ⟨k0, k1, k2⟩ := hSw; have c0 := cell_of_heap k0 0 (v := .int .i64 s.floor.w) rfl; have c1 := cell_of_heap k0 1 (v := .int .i64 s.floor.h) rfl; have c2 := cell_of_heap k0 2 (v := .int .i64 s.floor.d) rfl; have c3 := cell_of_heap k0 3 (v := kv) rfl; have c4 := cell_of_heap k0 4 (v := ov) rfl; have c5 := cell_of_heap k0 5 (v := zv) rfl; have c6 := cell_of_heap k0 6 (v := av) rfl; have c7 := cell_of_heap k0 7 (v := hv) rfl; have c8 := cell_of_heap k0 8 (v := bv) rfl; go_simp; all_goals (with_reducible rfl)
      try simp only [Act.put, List.getElem_toArray, List.getElem_cons_zero, List.getElem_cons_succ, List.setIfInBounds_toArray, List.set_cons_zero, List.set_cons_succ]
      refine wpAnyH_take (i := 3) (oi := _) (v := ?_) rfl (by kernel_rfl) (by kernel_rfl) (by kernel_rfl) (fun _ _ _ h => h) (Or.inl ⟨by rfl, ?_⟩) (by assumption) ?_
      rotate_left
      · intro w' hSw; obtain ⟨k0, k1, k2⟩ := hSw; have c0 := cell_of_heap k1 0 (v := .int .i64 st.tick) rfl; have c1 := cell_of_heap k1 1 (v := shv) rfl; have c2 := cell_of_heap k1 2 (v := .slice ra nr rc) rfl; have c3 := cell_of_heap k1 3 (v := pev) rfl; have c4 := cell_of_heap k1 4 (v := dev) rfl; have c5 := cell_of_heap k1 5 (v := skv) rfl; go_simp; all_goals (with_reducible rfl)
      try simp only [Act.put, List.getElem_toArray, List.getElem_cons_zero, List.getElem_cons_succ, List.setIfInBounds_toArray, List.set_cons_zero, List.set_cons_succ]
      refine wpAnyH_take (i := 4) (oi := _) (v := ?_) rfl (by kernel_rfl) (by kernel_rfl) (by kernel_rfl) (fun _ _ _ h => h) (Or.inl ⟨by rfl, ?_⟩) (by assumption) ?_
      rotate_left
      · intro w' hSw; go_simp; all_goals (with_reducible rfl)
      try simp only [Act.put, List.getElem_toArray, List.getElem_cons_zero, List.getElem_cons_succ, List.setIfInBounds_toArray, List.set_cons_zero, List.set_cons_succ]
      refine wpAnyH_ready (rs := [5]) (by kernel_rfl) (by simp) ?_
      refine AllReadyH.cons (o := _) rfl (fun K9 hK => ?_) AllReadyH.nil
      go_simp
      go_at_call 23; with_reducible refine (HFI.out _ (BB.out _ U35.out)).mono ?_; rintro e w36 ⟨⟨rb, rfl, hrb⟩, b9⟩
      have HFB := Lib.hid hrb
      clear hrb
      have SX : w36.heap[w.heap.size]? = some (.cells #[.int .i64 s.floor.w, .int .i64 s.floor.h, .int .i64 s.floor.d, kv, ov, zv, av, hv, bv] 30 (0, 0)) ∧ w36.heap[w.heap.size + 1]? = some (.cells #[.int .i64 st.tick, shv, .slice ra nr rc, pev, dev, skv] 34 (0, 0)) ∧ w36.heap[w.heap.size + 1 + 1]? = some (.cells #[.int .i64 b.stops, .int .i64 b.cells, .int .i64 b.mutes, .int .i64 b.muteMost, .int .i64 b.lifts, .int .i64 b.liftMost, .int .i64 b.steps] 36 (0, 0)) := by
        obtain ⟨k0, k1, k2⟩ := hHeld
        exact ⟨keep_heap k0 b9, keep_heap k1 b9, keep_heap k2 b9⟩
      clear hHeld
      have U36 := Lib.hid (U35.out.trans (b9.mono U35.out.size))
      clear b9
      go_simp
      refine hK.out _ _ SX (fun hHeld => ?_)
      clear hK K9 SX
      try simp only [Act.put, List.getElem_toArray, List.getElem_cons_zero, List.getElem_cons_succ, List.setIfInBounds_toArray, List.set_cons_zero, List.set_cons_succ]
      cases rb with
      | false =>
        refine wpAnyH_take (i := 6) (oi := _) (v := ?_) rfl (by kernel_rfl) (by kernel_rfl) (by kernel_rfl) (fun _ _ _ h => h) (Or.inl ⟨by rfl, ?_⟩) (by assumption) ?_
        rotate_left
        · intro w' hSw; go_simp; all_goals (with_reducible rfl)
        try simp only [Act.put, List.getElem_toArray, List.getElem_cons_zero, List.getElem_cons_succ, List.setIfInBounds_toArray, List.set_cons_zero, List.set_cons_succ]
        refine wpAnyH_take (i := 7) (oi := _) (v := ?_) rfl (by kernel_rfl) (by kernel_rfl) (by kernel_rfl) (fun _ _ _ h => h) (Or.inl ⟨by rfl, ?_⟩) (by assumption) ?_
        rotate_left
        · intro w' hSw; go_simp; all_goals (with_reducible rfl)
        try simp only [Act.put, List.getElem_toArray, List.getElem_cons_zero, List.getElem_cons_succ, List.setIfInBounds_toArray, List.set_cons_zero, List.set_cons_succ]
        refine wpAnyH_take (i := 8) (oi := _) (v := undef) rfl (by kernel_rfl) (by kernel_rfl) (by kernel_rfl) (fun _ _ _ h => h) (Or.inr ⟨by rfl, rfl⟩) (by assumption) ?_
        try simp only [Act.put, List.getElem_toArray, List.getElem_cons_zero, List.getElem_cons_succ, List.setIfInBounds_toArray, List.set_cons_zero, List.set_cons_succ]
        refine wpAnyH_take (i := 9) (oi := _) (v := undef) rfl (by kernel_rfl) (by kernel_rfl) (by kernel_rfl) (fun _ _ _ h => h) (Or.inr ⟨by rfl, rfl⟩) (by assumption) ?_
        try simp only [Act.put, List.getElem_toArray, List.getElem_cons_zero, List.getElem_cons_succ, List.setIfInBounds_toArray, List.set_cons_zero, List.set_cons_succ]
        refine wpAnyH_take (i := 10) (oi := _) (v := undef) rfl (by kernel_rfl) (by kernel_rfl) (by kernel_rfl) (fun _ _ _ h => h) (Or.inr ⟨by rfl, rfl⟩) (by assumption) ?_
        try simp only [Act.put, List.getElem_toArray, List.getElem_cons_zero, List.getElem_cons_succ, List.setIfInBounds_toArray, List.set_cons_zero, List.set_cons_succ]
        refine wpAnyH_take (i := 11) (oi := _) (v := ?_) rfl (by kernel_rfl) (by kernel_rfl) (by kernel_rfl) (fun _ _ _ h => h) (Or.inl ⟨by rfl, ?_⟩) (by assumption) ?_
        rotate_left
        · intro w' hSw; go_simp; all_goals (with_reducible rfl)
        try simp only [Act.put, List.getElem_toArray, List.getElem_cons_zero, List.getElem_cons_succ, List.setIfInBounds_toArray, List.set_cons_zero, List.set_cons_succ]
        refine wpAnyH_take (i := 12) (oi := _) (v := ?_) rfl (by kernel_rfl) (by kernel_rfl) (by kernel_rfl) (fun _ _ _ h => h) (Or.inl ⟨by rfl, ?_⟩) (by assumption) ?_
        rotate_left
        · intro w' hSw; go_simp; all_goals (with_reducible rfl)
        try simp only [Act.put, List.getElem_toArray, List.getElem_cons_zero, List.getElem_cons_succ, List.setIfInBounds_toArray, List.set_cons_zero, List.set_cons_succ]
        refine wpAnyH_take (i := 13) (oi := _) (v := undef) rfl (by kernel_rfl) (by kernel_rfl) (by kernel_rfl) (fun _ _ _ h => h) (Or.inr ⟨by rfl, rfl⟩) (by assumption) ?_
        try simp only [Act.put, List.getElem_toArray, List.getElem_cons_zero, List.getElem_cons_succ, List.setIfInBounds_toArray, List.set_cons_zero, List.set_cons_succ]
        refine wpAnyH_take (i := 14) (oi := _) (v := undef) rfl (by kernel_rfl) (by kernel_rfl) (by kernel_rfl) (fun _ _ _ h => h) (Or.inr ⟨by rfl, rfl⟩) (by assumption) ?_
        try simp only [Act.put, List.getElem_toArray, List.getElem_cons_zero, List.getElem_cons_succ, List.setIfInBounds_toArray, List.set_cons_zero, List.set_cons_succ]
        refine wpAnyH_take (i := 15) (oi := _) (v := undef) rfl (by kernel_rfl) (by kernel_rfl) (by kernel_rfl) (fun _ _ _ h => h) (Or.inr ⟨by rfl, rfl⟩) (by assumption) ?_
        try simp only [Act.put, List.getElem_toArray, List.getElem_cons_zero, List.getElem_cons_succ, List.setIfInBounds_toArray, List.set_cons_zero, List.set_cons_succ]
        refine wpAnyH_take (i := 16) (oi := _) (v := undef) rfl (by kernel_rfl) (by kernel_rfl) (by kernel_rfl) (fun _ _ _ h => h) (Or.inr ⟨by rfl, rfl⟩) (by assumption) ?_
        try simp only [Act.put, List.getElem_toArray, List.getElem_cons_zero, List.getElem_cons_succ, List.setIfInBounds_toArray, List.set_cons_zero, List.set_cons_succ]
        refine wpAnyH_take (i := 17) (oi := _) (v := undef) rfl (by kernel_rfl) (by kernel_rfl) (by kernel_rfl) (fun _ _ _ h => h) (Or.inr ⟨by rfl, rfl⟩) (by assumption) ?_
        try simp only [Act.put, List.getElem_toArray, List.getElem_cons_zero, List.getElem_cons_succ, List.setIfInBounds_toArray, List.set_cons_zero, List.set_cons_succ]
        refine wpAnyH_take (i := 18) (oi := _) (v := undef) rfl (by kernel_rfl) (by kernel_rfl) (by kernel_rfl) (fun _ _ _ h => h) (Or.inr ⟨by rfl, rfl⟩) (by assumption) ?_
        try simp only [Act.put, List.getElem_toArray, List.getElem_cons_zero, List.getElem_cons_succ, List.setIfInBounds_toArray, List.set_cons_zero, List.set_cons_succ]
        refine wpAnyH_take (i := 19) (oi := _) (v := undef) rfl (by kernel_rfl) (by kernel_rfl) (by kernel_rfl) (fun _ _ _ h => h) (Or.inr ⟨by rfl, rfl⟩) (by assumption) ?_
        try simp only [Act.put, List.getElem_toArray, List.getElem_cons_zero, List.getElem_cons_succ, List.setIfInBounds_toArray, List.set_cons_zero, List.set_cons_succ]
        refine wpAnyH_take (i := 20) (oi := _) (v := undef) rfl (by kernel_rfl) (by kernel_rfl) (by kernel_rfl) (fun _ _ _ h => h) (Or.inr ⟨by rfl, rfl⟩) (by assumption) ?_
        try simp only [Act.put, List.getElem_toArray, List.getElem_cons_zero, List.getElem_cons_succ, List.setIfInBounds_toArray, List.set_cons_zero, List.set_cons_succ]
        refine wpAnyH_take (i := 21) (oi := _) (v := undef) rfl (by kernel_rfl) (by kernel_rfl) (by kernel_rfl) (fun _ _ _ h => h) (Or.inr ⟨by rfl, rfl⟩) (by assumption) ?_
        try simp only [Act.put, List.getElem_toArray, List.getElem_cons_zero, List.getElem_cons_succ, List.setIfInBounds_toArray, List.set_cons_zero, List.set_cons_succ]
        refine wpAnyH_take (i := 22) (oi := _) (v := undef) rfl (by kernel_rfl) (by kernel_rfl) (by kernel_rfl) (fun _ _ _ h => h) (Or.inr ⟨by rfl, rfl⟩) (by assumption) ?_
        try simp only [Act.put, List.getElem_toArray, List.getElem_cons_zero, List.getElem_cons_succ, List.setIfInBounds_toArray, List.set_cons_zero, List.set_cons_succ]
        refine wpAnyH_take (i := 23) (oi := _) (v := undef) rfl (by kernel_rfl) (by kernel_rfl) (by kernel_rfl) (fun _ _ _ h => h) (Or.inr ⟨by rfl, rfl⟩) (by assumption) ?_
        try simp only [Act.put, List.getElem_toArray, List.getElem_cons_zero, List.getElem_cons_succ, List.setIfInBounds_toArray, List.set_cons_zero, List.set_cons_succ]
        refine wpAnyH_take (i := 24) (oi := _) (v := ?_) rfl (by kernel_rfl) (by kernel_rfl) (by kernel_rfl) (fun _ _ _ h => h) (Or.inl ⟨by rfl, ?_⟩) (by assumption) ?_
        rotate_left
        · intro w' hSw; go_simp; all_goals (with_reducible rfl)
        try simp only [Act.put, List.getElem_toArray, List.getElem_cons_zero, List.getElem_cons_succ, List.setIfInBounds_toArray, List.set_cons_zero, List.set_cons_succ]
        refine wpAnyH_take (i := 25) (oi := _) (v := ?_) rfl (by kernel_rfl) (by kernel_rfl) (by kernel_rfl) (fun _ _ _ h => h) (Or.inl ⟨by rfl, ?_⟩) (by assumption) ?_
        rotate_left
        · intro w' hSw; go_simp; all_goals (with_reducible rfl)
        try simp only [Act.put, List.getElem_toArray, List.getElem_cons_zero, List.getElem_cons_succ, List.setIfInBounds_toArray, List.set_cons_zero, List.set_cons_succ]
        refine wpAnyH_take (i := 26) (oi := _) (v := ?_) rfl (by kernel_rfl) (by kernel_rfl) (by kernel_rfl) (fun _ _ _ h => h) (Or.inl ⟨by rfl, ?_⟩) (by assumption) ?_
        rotate_left
        · intro w' hSw; go_simp; all_goals (with_reducible rfl)
        try simp only [Act.put, List.getElem_toArray, List.getElem_cons_zero, List.getElem_cons_succ, List.setIfInBounds_toArray, List.set_cons_zero, List.set_cons_succ]
        refine wpAnyH_done (by kernel_rfl) ?_ _
        clear hHeld
        go_wp2_with fail
        go_ret
        exact ⟨rfl, BB.out _ U36.out⟩
      | true =>
        have HF := Lib.hid (HFB.out (by trivial))
        clear HFB
        refine wpAnyH_take (i := 6) (oi := _) (v := ?_) rfl (by kernel_rfl) (by kernel_rfl) (by kernel_rfl) (fun _ _ _ h => h) (Or.inl ⟨by rfl, ?_⟩) (by assumption) ?_
        rotate_left
        · intro w' hSw; go_simp; all_goals (with_reducible rfl)
        try simp only [Act.put, List.getElem_toArray, List.getElem_cons_zero, List.getElem_cons_succ, List.setIfInBounds_toArray, List.set_cons_zero, List.set_cons_succ]
        refine wpAnyH_take (i := 7) (oi := _) (v := ?_) rfl (by kernel_rfl) (by kernel_rfl) (by kernel_rfl) (fun _ _ _ h => h) (Or.inl ⟨by rfl, ?_⟩) (by assumption) ?_
        rotate_left
        · intro w' hSw; go_simp; all_goals (with_reducible rfl)
        try simp only [Act.put, List.getElem_toArray, List.getElem_cons_zero, List.getElem_cons_succ, List.setIfInBounds_toArray, List.set_cons_zero, List.set_cons_succ]
        refine wpAnyH_take (i := 8) (oi := _) (v := ?_) rfl (by kernel_rfl) (by kernel_rfl) (by kernel_rfl) (fun _ _ _ h => h) (Or.inl ⟨by rfl, ?_⟩) (by assumption) ?_
        rotate_left
        · intro w' hSw; obtain ⟨k0, k1, k2⟩ := hSw; have c0 := cell_of_heap k2 0 (v := .int .i64 b.stops) rfl; have c1 := cell_of_heap k2 1 (v := .int .i64 b.cells) rfl; have c2 := cell_of_heap k2 2 (v := .int .i64 b.mutes) rfl; have c3 := cell_of_heap k2 3 (v := .int .i64 b.muteMost) rfl; have c4 := cell_of_heap k2 4 (v := .int .i64 b.lifts) rfl; have c5 := cell_of_heap k2 5 (v := .int .i64 b.liftMost) rfl; have c6 := cell_of_heap k2 6 (v := .int .i64 b.steps) rfl; go_simp; all_goals (with_reducible rfl)
        try simp only [Act.put, List.getElem_toArray, List.getElem_cons_zero, List.getElem_cons_succ, List.setIfInBounds_toArray, List.set_cons_zero, List.set_cons_succ]
        refine wpAnyH_ready (rs := [9]) (by kernel_rfl) (by simp) ?_
        refine AllReadyH.cons (o := _) rfl (fun K9 hK => ?_) AllReadyH.nil
        go_simp
        go_at_call 24; with_reducible refine (HLI.out _).mono ?_; rintro e w37 ⟨rfl, b9⟩
        have SX : w37.heap[w.heap.size]? = some (.cells #[.int .i64 s.floor.w, .int .i64 s.floor.h, .int .i64 s.floor.d, kv, ov, zv, av, hv, bv] 30 (0, 0)) ∧ w37.heap[w.heap.size + 1]? = some (.cells #[.int .i64 st.tick, shv, .slice ra nr rc, pev, dev, skv] 34 (0, 0)) ∧ w37.heap[w.heap.size + 1 + 1]? = some (.cells #[.int .i64 b.stops, .int .i64 b.cells, .int .i64 b.mutes, .int .i64 b.muteMost, .int .i64 b.lifts, .int .i64 b.liftMost, .int .i64 b.steps] 36 (0, 0)) := by
          obtain ⟨k0, k1, k2⟩ := hHeld
          exact ⟨keep_heap k0 b9, keep_heap k1 b9, keep_heap k2 b9⟩
        clear hHeld
        have U37 := Lib.hid (U36.out.trans (b9.mono U36.out.size))
        clear b9
        go_simp
        refine hK.out _ _ SX (fun hHeld => ?_)
        clear hK K9 SX
        try simp only [Act.put, List.getElem_toArray, List.getElem_cons_zero, List.getElem_cons_succ, List.setIfInBounds_toArray, List.set_cons_zero, List.set_cons_succ]
        cases LB with
        | false =>
          refine wpAnyH_take (i := 10) (oi := _) (v := ?_) rfl (by kernel_rfl) (by kernel_rfl) (by kernel_rfl) (fun _ _ _ h => h) (Or.inl ⟨by rfl, ?_⟩) (by assumption) ?_
          rotate_left
          · intro w' hSw; go_simp; all_goals (with_reducible rfl)
          try simp only [Act.put, List.getElem_toArray, List.getElem_cons_zero, List.getElem_cons_succ, List.setIfInBounds_toArray, List.set_cons_zero, List.set_cons_succ]
          refine wpAnyH_take (i := 11) (oi := _) (v := ?_) rfl (by kernel_rfl) (by kernel_rfl) (by kernel_rfl) (fun _ _ _ h => h) (Or.inl ⟨by rfl, ?_⟩) (by assumption) ?_
          rotate_left
          · intro w' hSw; go_simp; all_goals (with_reducible rfl)
          try simp only [Act.put, List.getElem_toArray, List.getElem_cons_zero, List.getElem_cons_succ, List.setIfInBounds_toArray, List.set_cons_zero, List.set_cons_succ]
          refine wpAnyH_take (i := 12) (oi := _) (v := ?_) rfl (by kernel_rfl) (by kernel_rfl) (by kernel_rfl) (fun _ _ _ h => h) (Or.inl ⟨by rfl, ?_⟩) (by assumption) ?_
          rotate_left
          · intro w' hSw; go_simp; all_goals (with_reducible rfl)
          try simp only [Act.put, List.getElem_toArray, List.getElem_cons_zero, List.getElem_cons_succ, List.setIfInBounds_toArray, List.set_cons_zero, List.set_cons_succ]
          refine wpAnyH_take (i := 13) (oi := _) (v := undef) rfl (by kernel_rfl) (by kernel_rfl) (by kernel_rfl) (fun _ _ _ h => h) (Or.inr ⟨by rfl, rfl⟩) (by assumption) ?_
          try simp only [Act.put, List.getElem_toArray, List.getElem_cons_zero, List.getElem_cons_succ, List.setIfInBounds_toArray, List.set_cons_zero, List.set_cons_succ]
          refine wpAnyH_take (i := 14) (oi := _) (v := undef) rfl (by kernel_rfl) (by kernel_rfl) (by kernel_rfl) (fun _ _ _ h => h) (Or.inr ⟨by rfl, rfl⟩) (by assumption) ?_
          try simp only [Act.put, List.getElem_toArray, List.getElem_cons_zero, List.getElem_cons_succ, List.setIfInBounds_toArray, List.set_cons_zero, List.set_cons_succ]
          refine wpAnyH_take (i := 15) (oi := _) (v := undef) rfl (by kernel_rfl) (by kernel_rfl) (by kernel_rfl) (fun _ _ _ h => h) (Or.inr ⟨by rfl, rfl⟩) (by assumption) ?_
          try simp only [Act.put, List.getElem_toArray, List.getElem_cons_zero, List.getElem_cons_succ, List.setIfInBounds_toArray, List.set_cons_zero, List.set_cons_succ]
          refine wpAnyH_take (i := 16) (oi := _) (v := undef) rfl (by kernel_rfl) (by kernel_rfl) (by kernel_rfl) (fun _ _ _ h => h) (Or.inr ⟨by rfl, rfl⟩) (by assumption) ?_
          try simp only [Act.put, List.getElem_toArray, List.getElem_cons_zero, List.getElem_cons_succ, List.setIfInBounds_toArray, List.set_cons_zero, List.set_cons_succ]
          refine wpAnyH_take (i := 17) (oi := _) (v := undef) rfl (by kernel_rfl) (by kernel_rfl) (by kernel_rfl) (fun _ _ _ h => h) (Or.inr ⟨by rfl, rfl⟩) (by assumption) ?_
          try simp only [Act.put, List.getElem_toArray, List.getElem_cons_zero, List.getElem_cons_succ, List.setIfInBounds_toArray, List.set_cons_zero, List.set_cons_succ]
          refine wpAnyH_take (i := 18) (oi := _) (v := undef) rfl (by kernel_rfl) (by kernel_rfl) (by kernel_rfl) (fun _ _ _ h => h) (Or.inr ⟨by rfl, rfl⟩) (by assumption) ?_
          try simp only [Act.put, List.getElem_toArray, List.getElem_cons_zero, List.getElem_cons_succ, List.setIfInBounds_toArray, List.set_cons_zero, List.set_cons_succ]
          refine wpAnyH_take (i := 19) (oi := _) (v := undef) rfl (by kernel_rfl) (by kernel_rfl) (by kernel_rfl) (fun _ _ _ h => h) (Or.inr ⟨by rfl, rfl⟩) (by assumption) ?_
          try simp only [Act.put, List.getElem_toArray, List.getElem_cons_zero, List.getElem_cons_succ, List.setIfInBounds_toArray, List.set_cons_zero, List.set_cons_succ]
          refine wpAnyH_take (i := 20) (oi := _) (v := undef) rfl (by kernel_rfl) (by kernel_rfl) (by kernel_rfl) (fun _ _ _ h => h) (Or.inr ⟨by rfl, rfl⟩) (by assumption) ?_
          try simp only [Act.put, List.getElem_toArray, List.getElem_cons_zero, List.getElem_cons_succ, List.setIfInBounds_toArray, List.set_cons_zero, List.set_cons_succ]
          refine wpAnyH_take (i := 21) (oi := _) (v := undef) rfl (by kernel_rfl) (by kernel_rfl) (by kernel_rfl) (fun _ _ _ h => h) (Or.inr ⟨by rfl, rfl⟩) (by assumption) ?_
          try simp only [Act.put, List.getElem_toArray, List.getElem_cons_zero, List.getElem_cons_succ, List.setIfInBounds_toArray, List.set_cons_zero, List.set_cons_succ]
          refine wpAnyH_take (i := 22) (oi := _) (v := undef) rfl (by kernel_rfl) (by kernel_rfl) (by kernel_rfl) (fun _ _ _ h => h) (Or.inr ⟨by rfl, rfl⟩) (by assumption) ?_
          try simp only [Act.put, List.getElem_toArray, List.getElem_cons_zero, List.getElem_cons_succ, List.setIfInBounds_toArray, List.set_cons_zero, List.set_cons_succ]
          refine wpAnyH_take (i := 23) (oi := _) (v := undef) rfl (by kernel_rfl) (by kernel_rfl) (by kernel_rfl) (fun _ _ _ h => h) (Or.inr ⟨by rfl, rfl⟩) (by assumption) ?_
          try simp only [Act.put, List.getElem_toArray, List.getElem_cons_zero, List.getElem_cons_succ, List.setIfInBounds_toArray, List.set_cons_zero, List.set_cons_succ]
          refine wpAnyH_take (i := 24) (oi := _) (v := ?_) rfl (by kernel_rfl) (by kernel_rfl) (by kernel_rfl) (fun _ _ _ h => h) (Or.inl ⟨by rfl, ?_⟩) (by assumption) ?_
          rotate_left
          · intro w' hSw; go_simp; all_goals (with_reducible rfl)
          try simp only [Act.put, List.getElem_toArray, List.getElem_cons_zero, List.getElem_cons_succ, List.setIfInBounds_toArray, List.set_cons_zero, List.set_cons_succ]
          refine wpAnyH_take (i := 25) (oi := _) (v := ?_) rfl (by kernel_rfl) (by kernel_rfl) (by kernel_rfl) (fun _ _ _ h => h) (Or.inl ⟨by rfl, ?_⟩) (by assumption) ?_
          rotate_left
          · intro w' hSw; go_simp; all_goals (with_reducible rfl)
          try simp only [Act.put, List.getElem_toArray, List.getElem_cons_zero, List.getElem_cons_succ, List.setIfInBounds_toArray, List.set_cons_zero, List.set_cons_succ]
          refine wpAnyH_take (i := 26) (oi := _) (v := ?_) rfl (by kernel_rfl) (by kernel_rfl) (by kernel_rfl) (fun _ _ _ h => h) (Or.inl ⟨by rfl, ?_⟩) (by assumption) ?_
          rotate_left
          · intro w' hSw; go_simp; all_goals (with_reducible rfl)
          try simp only [Act.put, List.getElem_toArray, List.getElem_cons_zero, List.getElem_cons_succ, List.setIfInBounds_toArray, List.set_cons_zero, List.set_cons_succ]
          refine wpAnyH_done (by kernel_rfl) ?_ _
          clear hHeld
          go_wp2_with fail
          go_ret
          exact ⟨rfl, BB.out _ U37.out⟩
        | true =>
          refine wpAnyH_take (i := 10) (oi := _) (v := ?_) rfl (by kernel_rfl) (by kernel_rfl) (by kernel_rfl) (fun _ _ _ h => h) (Or.inl ⟨by rfl, ?_⟩) (by assumption) ?_
          rotate_left
          · intro w' hSw; go_simp; all_goals (with_reducible rfl)
          try simp only [Act.put, List.getElem_toArray, List.getElem_cons_zero, List.getElem_cons_succ, List.setIfInBounds_toArray, List.set_cons_zero, List.set_cons_succ]
          refine wpAnyH_take (i := 11) (oi := _) (v := ?_) rfl (by kernel_rfl) (by kernel_rfl) (by kernel_rfl) (fun _ _ _ h => h) (Or.inl ⟨by rfl, ?_⟩) (by assumption) ?_
          rotate_left
          · intro w' hSw; go_simp; all_goals (with_reducible rfl)
          try simp only [Act.put, List.getElem_toArray, List.getElem_cons_zero, List.getElem_cons_succ, List.setIfInBounds_toArray, List.set_cons_zero, List.set_cons_succ]
          refine wpAnyH_take (i := 12) (oi := _) (v := ?_) rfl (by kernel_rfl) (by kernel_rfl) (by kernel_rfl) (fun _ _ _ h => h) (Or.inl ⟨by rfl, ?_⟩) (by assumption) ?_
          rotate_left
          · intro w' hSw; go_simp; all_goals (with_reducible rfl)
          try simp only [Act.put, List.getElem_toArray, List.getElem_cons_zero, List.getElem_cons_succ, List.setIfInBounds_toArray, List.set_cons_zero, List.set_cons_succ]
          refine wpAnyH_take (i := 13) (oi := _) (v := ?_) rfl (by kernel_rfl) (by kernel_rfl) (by kernel_rfl) (fun _ _ _ h => h) (Or.inl ⟨by rfl, ?_⟩) (by assumption) ?_
          rotate_left
          · intro w' hSw; obtain ⟨k0, k1, k2⟩ := hSw; have c0 := cell_of_heap k0 0 (v := .int .i64 s.floor.w) rfl; have c1 := cell_of_heap k0 1 (v := .int .i64 s.floor.h) rfl; have c2 := cell_of_heap k0 2 (v := .int .i64 s.floor.d) rfl; have c3 := cell_of_heap k0 3 (v := kv) rfl; have c4 := cell_of_heap k0 4 (v := ov) rfl; have c5 := cell_of_heap k0 5 (v := zv) rfl; have c6 := cell_of_heap k0 6 (v := av) rfl; have c7 := cell_of_heap k0 7 (v := hv) rfl; have c8 := cell_of_heap k0 8 (v := bv) rfl; go_simp; all_goals (with_reducible rfl)
          try simp only [Act.put, List.getElem_toArray, List.getElem_cons_zero, List.getElem_cons_succ, List.setIfInBounds_toArray, List.set_cons_zero, List.set_cons_succ]
          refine wpAnyH_take (i := 14) (oi := _) (v := ?_) rfl (by kernel_rfl) (by kernel_rfl) (by kernel_rfl) (fun _ _ _ h => h) (Or.inl ⟨by rfl, ?_⟩) (by assumption) ?_
          rotate_left
          · intro w' hSw; obtain ⟨k0, k1, k2⟩ := hSw; have c0 := cell_of_heap k1 0 (v := .int .i64 st.tick) rfl; have c1 := cell_of_heap k1 1 (v := shv) rfl; have c2 := cell_of_heap k1 2 (v := .slice ra nr rc) rfl; have c3 := cell_of_heap k1 3 (v := pev) rfl; have c4 := cell_of_heap k1 4 (v := dev) rfl; have c5 := cell_of_heap k1 5 (v := skv) rfl; go_simp; all_goals (with_reducible rfl)
          try simp only [Act.put, List.getElem_toArray, List.getElem_cons_zero, List.getElem_cons_succ, List.setIfInBounds_toArray, List.set_cons_zero, List.set_cons_succ]
          refine wpAnyH_take (i := 15) (oi := _) (v := ?_) rfl (by kernel_rfl) (by kernel_rfl) (by kernel_rfl) (fun _ _ _ h => h) (Or.inl ⟨by rfl, ?_⟩) (by assumption) ?_
          rotate_left
          · intro w' hSw; obtain ⟨k0, k1, k2⟩ := hSw; have c0 := cell_of_heap k2 0 (v := .int .i64 b.stops) rfl; have c1 := cell_of_heap k2 1 (v := .int .i64 b.cells) rfl; have c2 := cell_of_heap k2 2 (v := .int .i64 b.mutes) rfl; have c3 := cell_of_heap k2 3 (v := .int .i64 b.muteMost) rfl; have c4 := cell_of_heap k2 4 (v := .int .i64 b.lifts) rfl; have c5 := cell_of_heap k2 5 (v := .int .i64 b.liftMost) rfl; have c6 := cell_of_heap k2 6 (v := .int .i64 b.steps) rfl; go_simp; all_goals (with_reducible rfl)
          try simp only [Act.put, List.getElem_toArray, List.getElem_cons_zero, List.getElem_cons_succ, List.setIfInBounds_toArray, List.set_cons_zero, List.set_cons_succ]
          refine wpAnyH_take (i := 16) (oi := _) (v := ?_) rfl (by kernel_rfl) (by kernel_rfl) (by kernel_rfl) (fun _ _ _ h => h) (Or.inl ⟨by rfl, ?_⟩) (by assumption) ?_
          rotate_left
          · intro w' hSw; go_simp; all_goals (with_reducible rfl)
          try simp only [Act.put, List.getElem_toArray, List.getElem_cons_zero, List.getElem_cons_succ, List.setIfInBounds_toArray, List.set_cons_zero, List.set_cons_succ]
          refine wpAnyH_take (i := 18) (oi := _) (v := ?_) rfl (by kernel_rfl) (by kernel_rfl) (by kernel_rfl) (fun _ _ _ h => h) (Or.inl ⟨by rfl, ?_⟩) (by assumption) ?_
          rotate_left
          · intro w' hSw; obtain ⟨k0, k1, k2⟩ := hSw; have c0 := cell_of_heap k0 0 (v := .int .i64 s.floor.w) rfl; have c1 := cell_of_heap k0 1 (v := .int .i64 s.floor.h) rfl; have c2 := cell_of_heap k0 2 (v := .int .i64 s.floor.d) rfl; have c3 := cell_of_heap k0 3 (v := kv) rfl; have c4 := cell_of_heap k0 4 (v := ov) rfl; have c5 := cell_of_heap k0 5 (v := zv) rfl; have c6 := cell_of_heap k0 6 (v := av) rfl; have c7 := cell_of_heap k0 7 (v := hv) rfl; have c8 := cell_of_heap k0 8 (v := bv) rfl; go_simp; all_goals (with_reducible rfl)
          try simp only [Act.put, List.getElem_toArray, List.getElem_cons_zero, List.getElem_cons_succ, List.setIfInBounds_toArray, List.set_cons_zero, List.set_cons_succ]
          refine wpAnyH_take (i := 19) (oi := _) (v := ?_) rfl (by kernel_rfl) (by kernel_rfl) (by kernel_rfl) (fun _ _ _ h => h) (Or.inl ⟨by rfl, ?_⟩) (by assumption) ?_
          rotate_left
          · intro w' hSw; obtain ⟨k0, k1, k2⟩ := hSw; have c0 := cell_of_heap k1 0 (v := .int .i64 st.tick) rfl; have c1 := cell_of_heap k1 1 (v := shv) rfl; have c2 := cell_of_heap k1 2 (v := .slice ra nr rc) rfl; have c3 := cell_of_heap k1 3 (v := pev) rfl; have c4 := cell_of_heap k1 4 (v := dev) rfl; have c5 := cell_of_heap k1 5 (v := skv) rfl; go_simp; all_goals (with_reducible rfl)
          try simp only [Act.put, List.getElem_toArray, List.getElem_cons_zero, List.getElem_cons_succ, List.setIfInBounds_toArray, List.set_cons_zero, List.set_cons_succ]
          refine wpAnyH_take (i := 20) (oi := _) (v := ?_) rfl (by kernel_rfl) (by kernel_rfl) (by kernel_rfl) (fun _ _ _ h => h) (Or.inl ⟨by rfl, ?_⟩) (by assumption) ?_
          rotate_left
          · intro w' hSw; obtain ⟨k0, k1, k2⟩ := hSw; have c0 := cell_of_heap k2 0 (v := .int .i64 b.stops) rfl; have c1 := cell_of_heap k2 1 (v := .int .i64 b.cells) rfl; have c2 := cell_of_heap k2 2 (v := .int .i64 b.mutes) rfl; have c3 := cell_of_heap k2 3 (v := .int .i64 b.muteMost) rfl; have c4 := cell_of_heap k2 4 (v := .int .i64 b.lifts) rfl; have c5 := cell_of_heap k2 5 (v := .int .i64 b.liftMost) rfl; have c6 := cell_of_heap k2 6 (v := .int .i64 b.steps) rfl; go_simp; all_goals (with_reducible rfl)
          try simp only [Act.put, List.getElem_toArray, List.getElem_cons_zero, List.getElem_cons_succ, List.setIfInBounds_toArray, List.set_cons_zero, List.set_cons_succ]
          refine wpAnyH_take (i := 21) (oi := _) (v := ?_) rfl (by kernel_rfl) (by kernel_rfl) (by kernel_rfl) (fun _ _ _ h => h) (Or.inl ⟨by rfl, ?_⟩) (by assumption) ?_
          rotate_left
          · intro w' hSw; go_simp; all_goals (with_reducible rfl)
          try simp only [Act.put, List.getElem_toArray, List.getElem_cons_zero, List.getElem_cons_succ, List.setIfInBounds_toArray, List.set_cons_zero, List.set_cons_succ]
          refine wpAnyH_ready (rs := [17]) (by kernel_rfl) (by simp) ?_
          refine AllReadyH.cons (o := _) rfl (fun K9 hK => ?_) AllReadyH.nil
          go_simp
          go_at_call 26; with_reducible refine (HL1.out _ (BB.out _ U37.out) HF.out (by trivial)).mono ?_; rintro e w38 ⟨v1, l1, rfl, hv1, hl1, b9⟩
          have HV1 := Lib.hid hv1
          have HG1 := Lib.hid hl1
          clear hv1 hl1
          have SX : w38.heap[w.heap.size]? = some (.cells #[.int .i64 s.floor.w, .int .i64 s.floor.h, .int .i64 s.floor.d, kv, ov, zv, av, hv, bv] 30 (0, 0)) ∧ w38.heap[w.heap.size + 1]? = some (.cells #[.int .i64 st.tick, shv, .slice ra nr rc, pev, dev, skv] 34 (0, 0)) ∧ w38.heap[w.heap.size + 1 + 1]? = some (.cells #[.int .i64 b.stops, .int .i64 b.cells, .int .i64 b.mutes, .int .i64 b.muteMost, .int .i64 b.lifts, .int .i64 b.liftMost, .int .i64 b.steps] 36 (0, 0)) := by
            obtain ⟨k0, k1, k2⟩ := hHeld
            exact ⟨keep_heap k0 b9, keep_heap k1 b9, keep_heap k2 b9⟩
          clear hHeld
          have U38 := Lib.hid (U37.out.trans (b9.mono U37.out.size))
          clear b9
          go_simp
          refine hK.out _ _ SX (fun hHeld => ?_)
          clear hK K9 SX
          try simp only [Act.put, List.getElem_toArray, List.getElem_cons_zero, List.getElem_cons_succ, List.setIfInBounds_toArray, List.set_cons_zero, List.set_cons_succ]
          refine wpAnyH_ready (rs := [22]) (by kernel_rfl) (by simp) ?_
          refine AllReadyH.cons (o := _) rfl (fun K9 hK => ?_) AllReadyH.nil
          go_simp
          go_at_call 27; with_reducible refine (HL2.out _ (BB.out _ U38.out) HF.out (by trivial)).mono ?_; rintro e w39 ⟨v2, l2, rfl, hv2, hl2, b9⟩
          have HV3 := Lib.hid (HV1.out.keep b9)
          obtain rfl : l1 = l2 := Fa.Listed.ext HG1.out hl2
          have HV2 := Lib.hid hv2
          clear hv2 hl2
          have SX : w39.heap[w.heap.size]? = some (.cells #[.int .i64 s.floor.w, .int .i64 s.floor.h, .int .i64 s.floor.d, kv, ov, zv, av, hv, bv] 30 (0, 0)) ∧ w39.heap[w.heap.size + 1]? = some (.cells #[.int .i64 st.tick, shv, .slice ra nr rc, pev, dev, skv] 34 (0, 0)) ∧ w39.heap[w.heap.size + 1 + 1]? = some (.cells #[.int .i64 b.stops, .int .i64 b.cells, .int .i64 b.mutes, .int .i64 b.muteMost, .int .i64 b.lifts, .int .i64 b.liftMost, .int .i64 b.steps] 36 (0, 0)) := by
            obtain ⟨k0, k1, k2⟩ := hHeld
            exact ⟨keep_heap k0 b9, keep_heap k1 b9, keep_heap k2 b9⟩
          clear hHeld
          have U39 := Lib.hid (U38.out.trans (b9.mono U38.out.size))
          clear b9
          go_simp
          refine hK.out _ _ SX (fun hHeld => ?_)
          clear hK K9 SX
          try simp only [Act.put, List.getElem_toArray, List.getElem_cons_zero, List.getElem_cons_succ, List.setIfInBounds_toArray, List.set_cons_zero, List.set_cons_succ]
          have HSA : Hid (Calls Tryz.prog 25 #[v1, v2] w39 fun e w' => e = .returned (.bool true) ∧ Below w39.heap.size w39 w') := Lib.hid (by
            have h1 := sameF_any v1 v2 l1 l1 w39 HV3.out HV2.out
            rw [decide_eq_true rfl] at h1
            exact h1)
          refine wpAnyH_ready (rs := [23]) (by kernel_rfl) (by simp) ?_
          refine AllReadyH.cons (o := _) rfl (fun K9 hK => ?_) AllReadyH.nil
          go_simp
          go_at_call 25; with_reducible refine (HSA.out).mono ?_; rintro e w40 ⟨rfl, b9⟩
          have SX : w40.heap[w.heap.size]? = some (.cells #[.int .i64 s.floor.w, .int .i64 s.floor.h, .int .i64 s.floor.d, kv, ov, zv, av, hv, bv] 30 (0, 0)) ∧ w40.heap[w.heap.size + 1]? = some (.cells #[.int .i64 st.tick, shv, .slice ra nr rc, pev, dev, skv] 34 (0, 0)) ∧ w40.heap[w.heap.size + 1 + 1]? = some (.cells #[.int .i64 b.stops, .int .i64 b.cells, .int .i64 b.mutes, .int .i64 b.muteMost, .int .i64 b.lifts, .int .i64 b.liftMost, .int .i64 b.steps] 36 (0, 0)) := by
            obtain ⟨k0, k1, k2⟩ := hHeld
            exact ⟨keep_heap k0 b9, keep_heap k1 b9, keep_heap k2 b9⟩
          clear hHeld
          have U40 := Lib.hid (U39.out.trans (b9.mono U39.out.size))
          clear b9
          go_simp
          refine hK.out _ _ SX (fun hHeld => ?_)
          clear hK K9 SX
          try simp only [Act.put, List.getElem_toArray, List.getElem_cons_zero, List.getElem_cons_succ, List.setIfInBounds_toArray, List.set_cons_zero, List.set_cons_succ]
          refine wpAnyH_take (i := 24) (oi := _) (v := ?_) rfl (by kernel_rfl) (by kernel_rfl) (by kernel_rfl) (fun _ _ _ h => h) (Or.inl ⟨by rfl, ?_⟩) (by assumption) ?_
          rotate_left
          · intro w' hSw; go_simp; all_goals (with_reducible rfl)
          try simp only [Act.put, List.getElem_toArray, List.getElem_cons_zero, List.getElem_cons_succ, List.setIfInBounds_toArray, List.set_cons_zero, List.set_cons_succ]
          refine wpAnyH_take (i := 25) (oi := _) (v := ?_) rfl (by kernel_rfl) (by kernel_rfl) (by kernel_rfl) (fun _ _ _ h => h) (Or.inl ⟨by rfl, ?_⟩) (by assumption) ?_
          rotate_left
          · intro w' hSw; go_simp; all_goals (with_reducible rfl)
          try simp only [Act.put, List.getElem_toArray, List.getElem_cons_zero, List.getElem_cons_succ, List.setIfInBounds_toArray, List.set_cons_zero, List.set_cons_succ]
          refine wpAnyH_take (i := 26) (oi := _) (v := ?_) rfl (by kernel_rfl) (by kernel_rfl) (by kernel_rfl) (fun _ _ _ h => h) (Or.inl ⟨by rfl, ?_⟩) (by assumption) ?_
          rotate_left
          · intro w' hSw; go_simp; all_goals (with_reducible rfl)
          try simp only [Act.put, List.getElem_toArray, List.getElem_cons_zero, List.getElem_cons_succ, List.setIfInBounds_toArray, List.set_cons_zero, List.set_cons_succ]
          refine wpAnyH_done (by kernel_rfl) ?_ _
          clear hHeld
          go_wp2_with fail
          go_ret
          exact ⟨rfl, BB.out _ U40.out⟩
end Go.Proofs.YtcdfmgobokjcnaaGreatDoor
