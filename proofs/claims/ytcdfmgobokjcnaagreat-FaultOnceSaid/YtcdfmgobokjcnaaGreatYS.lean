/- Parts Fon of this claim, laid one behind the other: walks and the plain laws behind them; each contract states its own conditions. -/
import Derived.Test.YtcdfmgobokjcnaaGreatYM
import Derived.Test.YtcdfmgobokjcnaaGreatYR
import Derived.Test.YtcdfmgobokjcnaaGreatYO
/- The walk of FaultOnce. -/
namespace Go.Proofs.YtcdfmgobokjcnaaGreat
set_option linter.unusedSimpArgs false
set_option linter.unusedVariables false
open Go.RowKit Go.Sort

theorem light_right {b : Fa.Bud} (h : lightB b = true) : Fa.Right b ∧ b.muteMost ≤ 20 ∧ b.liftMost ≤ 20 := by
  unfold lightB at h
  rw [Bool.and_eq_true, Bool.and_eq_true, decide_eq_true_eq, decide_eq_true_eq] at h
  exact ⟨Fa.rightB_iff.1 h.1, h.2.1, h.2.2⟩
theorem light_num {b : Fa.Bud} (h : lightB b = true) : BudN b := by
  obtain ⟨⟨h1, h2, h3, h4, h5, h6, h7⟩, -⟩ := light_right h
  exact ⟨by omega, by omega, by omega, by omega, by omega, by omega, by omega⟩
theorem light_s {b : Fa.Bud} (h : lightB b = true) : BudS b := by
  obtain ⟨⟨h1, h2, h3, h4, h5, h6, h7⟩, -⟩ := light_right h
  exact ⟨by omega, by omega, by omega, by omega, by omega⟩
theorem light_nn {b : Fa.Bud} (h : lightB b = true) : Fa.Nn b := by
  obtain ⟨⟨h1, h2, h3, h4, h5, h6, h7⟩, -⟩ := light_right h
  exact ⟨by omega, by omega, by omega, by omega, by omega⟩
theorem light_left {b : Fa.Bud} (h : lightB b = true) : 0 ≤ Fa.left b ∧ Fa.left b ≤ 100 := by
  obtain ⟨⟨h1, h2, h3, h4, h5, h6, h7⟩, -⟩ := light_right h
  unfold Fa.left; omega
theorem light_spend {b c : Fa.Bud} {x : Fa.Flt} (h : lightB b = true) (hs : Fa.spend b x = some c) : lightB c = true := by
  obtain ⟨⟨h1, h2, h3, h4, h5, h6, h7⟩, k1, k2⟩ := light_right h
  obtain ⟨-, hn, rfl⟩ := Fa.spend_some (light_nn h) hs
  have w := Fa.within_rest b [x]
  obtain ⟨n1, n2, n3, n4, n5⟩ := hn
  unfold lightB
  rw [Bool.and_eq_true, Bool.and_eq_true, decide_eq_true_eq, decide_eq_true_eq]
  obtain ⟨w1, w2, w3, w4, w5, -, -⟩ := w
  refine ⟨Fa.rightB_iff.2 ⟨?_, ?_, ?_, ?_, ?_, ?_, ?_⟩, ?_, ?_⟩ <;> first | exact h6 | exact h7 | exact k1 | exact k2 | omega
/-- The cells 0, 1 .. below k. -/
def upto (k : Nat) : List Int := (List.range k).map Int.ofNat
theorem upto_len (k : Nat) : (upto k).length = k := by simp [upto]
theorem upto_succ (k : Nat) : ints (upto (k + 1)) = ints (upto k) ++ [.int .i64 (k : Int)] := by
  unfold upto ints
  rw [List.range_succ, List.map_append, List.map_append]; rfl
theorem upto_all {f : Fl.Floor} {k : Nat} (h : f.kind.length ≤ k) : Fa.AllIn f (upto k) := fun c h0 h1 => by
  unfold upto
  exact List.mem_map.2 ⟨c.toNat, List.mem_range.2 (by omega), by simp; omega⟩
set_option maxRecDepth 100000 in
set_option maxHeartbeats 64000000 in
theorem FaultOnce_any (s : Si.Site) (kv ov zv av hv bv : Value) (st : Bd.State) (shv rov pev dev skv : Value) (b : Fa.Bud) (pv : Value) (picks : List Int) (w : World)
    (h : SiV w kv ov zv av hv bv s) (ht : StV w shv rov pev dev skv st) (hn : ∀ r ∈ st.robots, RobN r) (hb : BudN b) (hp : Is w pv picks) :
    Calls Tryz.prog 5 #[siV s kv ov zv av hv bv, stV st shv rov pev dev skv, .agg (budA b), pv] w fun e w' => e = .returned (.bool true) ∧ Below w.heap.size w w' := by
  have HSM := Lib.hid (fun W => small_any W)
  have HFI := Lib.hid (fun cv cells W (hW : Below w.heap.size w W) (hc : Is W cv cells) => fits_any s kv ov zv av hv bv st shv rov pev dev skv cv cells W (h.keep hW) (ht.keep hW) hn hc)
  have HLI := Lib.hid (fun W => light_any b W)
  have HL1 := Lib.hid (fun (cs0 : List Int) (hf : FitsP s st cs0) W (sq : Bd.State) sv1 sv2 sv3 sv4 sv5 (bq : Fa.Bud) cv cs (hW : Below w.heap.size w W) (hs : StV W sv1 sv2 sv3 sv4 sv5 sq) (hr : Bd.rightB s.floor (s.shelves.length : Int) (s.robots.length : Int) sq = true) (hl : lightB bq = true) (hc : Is W cv cs) (hcl : cs.length ≤ 60) =>
    List_any s.floor kv ov zv av hv bv sq sv1 sv2 sv3 sv4 sv5 bq cv cs W (h.fl.keep hW) (FB.of hf.right.1.fl) (by have := hf.few.kl; omega) hs (right_sts hr (by have := hf.few.ns; omega) (by have := hf.few.nr; omega) (by have := hf.few.kl; omega)).1
      (light_num hl) hc (by have := (light_right hl).2.1; omega) (by have := (light_right hl).2.2; omega) (by omega))
  have HHP := Lib.hid (fun (cs0 : List Int) (hf : FitsP s st cs0) W (sq : Bd.State) sv1 sv2 sv3 sv4 sv5 (x : Fa.Flt) (hW : Below w.heap.size w W) (hs : StV W sv1 sv2 sv3 sv4 sv5 sq) (hr : Bd.rightB s.floor (s.shelves.length : Int) (s.robots.length : Int) sq = true) (hx : Fa.possB s.floor sq x = true) =>
    Happen_any s.floor kv ov zv av hv bv sq sv1 sv2 sv3 sv4 sv5 x W (h.fl.keep hW) (FB.of hf.right.1.fl) (by have := hf.few.kl; omega) hs (right_sts hr (by have := hf.few.ns; omega) (by have := hf.few.nr; omega) (by have := hf.few.kl; omega)).1
      (by have := (Bd.right_nums hr).nd; have := hf.few.kl; omega) (by have := (Bd.right_nums hr).nk; have := hf.few.kl; omega) (by
        have h1 := hr
        unfold Bd.rightB Bd.headB Bd.restB at h1
        simp only [Bool.and_eq_true] at h1
        exact (deadGo_asc h1.1.2.2.2.2.2.1).1) hx)
  obtain ⟨ha6, hc6, hb6, hd6, eh, eb⟩ : ∃ a6 c6 b6 d6, hv = .slice a6 s.shelves.length c6 ∧ bv = .slice b6 s.robots.length d6 := by
    obtain ⟨a1, c1, a2, c2, a3, c3, a4, c4, a5, c5, a6, c6, -, -, -, -, e5, e6, -⟩ := h.open
    exact ⟨a5, c5, a6, c6, e5, e6⟩
  have HBR := Lib.hid (fun (cs0 : List Int) (hf : FitsP s st cs0) W (sq : Bd.State) sv1 sv2 sv3 sv4 sv5 (hW : Below w.heap.size w W) (hs : StV W sv1 sv2 sv3 sv4 sv5 sq) (hr : Bd.rightB s.floor (s.shelves.length : Int) (s.robots.length : Int) sq = true) => by
    have h0 := right_sts hr (by have := hf.few.ns; omega) (by have := hf.few.nr; omega) (by have := hf.few.kl; omega)
    have h1 := bRight_any s.floor kv ov zv av ha6 hb6 s.shelves.length s.robots.length hc6 hd6 sq sv1 sv2 sv3 sv4 sv5 W (h.fl.keep hW) hs h0.1 h0.2
    rw [hr, ← eh, ← eb] at h1
    exact h1)
  have HPK := Lib.hid (fun W (hW : Below w.heap.size w W) => hp.keep hW)
  obtain ⟨ka, kc, rfl, hkm⟩ := h.fl.kind.form
  obtain ⟨pa, pc, rfl, hpm⟩ := hp.form
  obtain ⟨L, hL⟩ : ∃ n, s.floor.kind.length = n := ⟨_, rfl⟩
  obtain ⟨NP, hNP⟩ : ∃ n, picks.length = n := ⟨_, rfl⟩
  rw [hL] at HFI HL1 HHP HBR hkm ⊢
  rw [hNP] at HPK hpm ⊢
  have HLL := Lib.hid hL
  have HNP := Lib.hid hNP
  unfold LstPost at HL1
  unfold HapPost at HHP
  unfold siF at HL1 HHP HBR
  unfold siV at HFI ⊢
  unfold stV at HFI HL1 HHP HBR ⊢
  unfold budA at HLI HL1 ⊢
  unfold fltV at HHP
  obtain ⟨LB, hLB⟩ : ∃ B, lightB b = B := ⟨_, rfl⟩
  rw [hLB] at HLI
  have HLB := Lib.hid hLB
  have HSV := Lib.hid ht
  obtain ⟨w2, hw2⟩ : ∃ W, W = ((w.alloc (.cells #[.int .i64 s.floor.w, .int .i64 s.floor.h, .int .i64 s.floor.d, .slice ka L kc, ov, zv, av, hv, bv] 30)).alloc (.cells #[.int .i64 st.tick, shv, rov, pev, dev, skv] 34)).alloc (.cells #[.int .i64 b.stops, .int .i64 b.cells, .int .i64 b.mutes, .int .i64 b.muteMost, .int .i64 b.lifts, .int .i64 b.liftMost, .int .i64 b.steps] 36) := ⟨_, rfl⟩
  have HA := al3 w (.cells #[.int .i64 s.floor.w, .int .i64 s.floor.h, .int .i64 s.floor.d, .slice ka L kc, ov, zv, av, hv, bv] 30) (.cells #[.int .i64 st.tick, shv, rov, pev, dev, skv] 34) (.cells #[.int .i64 b.stops, .int .i64 b.cells, .int .i64 b.mutes, .int .i64 b.muteMost, .int .i64 b.lifts, .int .i64 b.liftMost, .int .i64 b.steps] 36)
  rw [← hw2] at HA
  have IS := Lib.hid HA.1
  have IT := Lib.hid HA.2.1
  have IB := Lib.hid HA.2.2.1
  have U2 := Lib.hid HA.2.2.2.1
  have SZ2 := Lib.hid HA.2.2.2.2
  have HW2 := Lib.hid hw2
  have CS : Hid (∀ W, Below w2.heap.size w2 W → W.heap[w.heap.size]? = some (.cells #[.int .i64 s.floor.w, .int .i64 s.floor.h, .int .i64 s.floor.d, .slice ka L kc, ov, zv, av, hv, bv] 30 (0, 0))) := Lib.hid (fun W hW => keep_heap IS.out hW)
  have CU : Hid (∀ W, Below w2.heap.size w2 W → W.heap[w.heap.size + 1]? = some (.cells #[.int .i64 st.tick, shv, rov, pev, dev, skv] 34 (0, 0))) := Lib.hid (fun W hW => keep_heap IT.out hW)
  have CB : Hid (∀ W, Below w2.heap.size w2 W → W.heap[w.heap.size + 1 + 1]? = some (.cells #[.int .i64 b.stops, .int .i64 b.cells, .int .i64 b.mutes, .int .i64 b.muteMost, .int .i64 b.lifts, .int .i64 b.liftMost, .int .i64 b.steps] 36 (0, 0))) := Lib.hid (fun W hW => keep_heap IB.out hW)
  have BB : Hid (∀ W, Below w2.heap.size w2 W → Below w.heap.size w W) := Lib.hid (fun W hW => U2.out.trans (hW.mono U2.out.size))
  clear h ht hn hb hp hLB hw2 HA hL hNP eh eb
  go_enter Tryz.func5, Tryz.ntmps5
  go_upto_region 1 with fail
  rw [← HW2.out]
  go_wp2_with fail
  go_at_call 6; refine (HSM.out _).mono ?_; rintro e w3 ⟨rfl, b3⟩
  have U3 := Lib.hid b3
  have O0 : Hid (w3.ownsRow w2.heap.size 3 1 (.slice none 0 0) 0 (ints (upto 0))) := Lib.hid (World.ownsRow_nil ..)
  clear b3 HSM
  obtain ⟨i0, hi, hz0, hz1, hz2⟩ := info_parts hkIInfo
  go_wp2_with fail
  go_loopw [10, 11] (fun cv iv wr => ∃ (k : Nat) (ca : Option Addr) (cc : Nat), k ≤ L ∧ k ≤ 60 ∧ iv = .int .i64 k ∧ cv = .slice ca k cc ∧ Hid (wr.ownsRow w2.heap.size 3 1 (.slice ca k cc) k (ints (upto k))) ∧ Hid (Below w2.heap.size w2 wr)) (fun _ iv _ => L - (intOf iv).toNat)
  case atStart => exact ⟨0, none, 0, by omega, by omega, rfl, rfl, O0, U3⟩
  case round =>
    clear O0 U3
    obtain ⟨k, ca, cc, hk, hk6, rfl, rfl, OC, UR⟩ := hrel
    have x0 : wr.cell? ⟨w.heap.size, 0, none⟩ = some (.int .i64 s.floor.w) := cell_of_heap (CS.out _ UR.out) 0 rfl
    have x1 : wr.cell? ⟨w.heap.size, 1, none⟩ = some (.int .i64 s.floor.h) := cell_of_heap (CS.out _ UR.out) 1 rfl
    have x2 : wr.cell? ⟨w.heap.size, 2, none⟩ = some (.int .i64 s.floor.d) := cell_of_heap (CS.out _ UR.out) 2 rfl
    have x3 : wr.cell? ⟨w.heap.size, 3, none⟩ = some (.slice ka L kc) := cell_of_heap (CS.out _ UR.out) 3 rfl
    have x4 : wr.cell? ⟨w.heap.size, 4, none⟩ = some (ov) := cell_of_heap (CS.out _ UR.out) 4 rfl
    have x5 : wr.cell? ⟨w.heap.size, 5, none⟩ = some (zv) := cell_of_heap (CS.out _ UR.out) 5 rfl
    have x6 : wr.cell? ⟨w.heap.size, 6, none⟩ = some (av) := cell_of_heap (CS.out _ UR.out) 6 rfl
    have x7 : wr.cell? ⟨w.heap.size, 7, none⟩ = some (hv) := cell_of_heap (CS.out _ UR.out) 7 rfl
    have x8 : wr.cell? ⟨w.heap.size, 8, none⟩ = some (bv) := cell_of_heap (CS.out _ UR.out) 8 rfl
    by_cases hkk : k < L ∧ k < 60
    · obtain ⟨hk1, hk2⟩ := hkk
      have k1 : (k : Int) < (L : Int) := by omega
      have k2 : (k : Int) < 60 := by omega
      have hsz : w2.heap.size ≤ wr.heap.size := UR.out.size
      go_wp2_with (at_builtin; refine wpList_append_own_at _ rfl _ _ 22 rfl w2.heap.size 3 i0 (.int .i64 0) 1 8 Tryz.underlying22 hi hz0 hz1 hz2 rfl (by decide) (.slice ca k cc) k _ rfl (OC.out.alloc _) ⟨wr.heap.size, 0, none⟩ 1 1 [.int .i64 (k : Int)] rfl rfl (Go.cell_one_new _ _ _) ?qc3 ?qc4 ?qc5 ?qc6 ?_)
      case qc3 => intro u hu; simp at hu; subst hu; rfl
      case qc4 => unfold maxLen; omega
      case qc5 => omega
      case qc6 => simp; omega
      intro v' w8 hown hgrow hnil hat
      obtain ⟨ca', cc', rfl⟩ := own_form hown
      have hbb : Below w2.heap.size wr w8 := ((Below.refl _ wr).alloc hsz _).grown hgrow (by simp; omega) (fun g hg => (OC.out.lt g hg).1)
      go_wp2_with fail
      go_roundw
      case rel => exact ⟨k + 1, ca', cc', by omega, by omega, by go_num, rfl, Lib.hid (by rw [upto_succ]; exact hown), Lib.hid (UR.out.trans hbb)⟩
      case measure => simp [intOf]; omega
    · have HKL : Hid (L ≤ k ∨ k = 60) := Lib.hid (by omega)
      have HIC : Hid (Is wr (.slice ca k cc) (upto k)) := Lib.hid (Sl.of_own OC.out (own_max OC.out))
      have HTY := OC
      have t0 : wr.cell? ⟨w.heap.size + 1, 0, none⟩ = some (.int .i64 st.tick) := cell_of_heap (CU.out _ UR.out) 0 rfl
      have t1 : wr.cell? ⟨w.heap.size + 1, 1, none⟩ = some (shv) := cell_of_heap (CU.out _ UR.out) 1 rfl
      have t2 : wr.cell? ⟨w.heap.size + 1, 2, none⟩ = some (rov) := cell_of_heap (CU.out _ UR.out) 2 rfl
      have t3 : wr.cell? ⟨w.heap.size + 1, 3, none⟩ = some (pev) := cell_of_heap (CU.out _ UR.out) 3 rfl
      have t4 : wr.cell? ⟨w.heap.size + 1, 4, none⟩ = some (dev) := cell_of_heap (CU.out _ UR.out) 4 rfl
      have t5 : wr.cell? ⟨w.heap.size + 1, 5, none⟩ = some (skv) := cell_of_heap (CU.out _ UR.out) 5 rfl
      have HCL0 : Hid ((upto k).length ≤ 60) := Lib.hid (by rw [upto_len]; exact hk6)
      have HFK := Lib.hid (HFI.out _ _ _ (BB.out _ UR.out) HIC.out)
      clear HFI
      have hlast : (k < L ∧ k = 60) ∨ k = L := by omega
      clear hkk HKL
      rcases hlast with ⟨k1, k2⟩ | k2
      · have k3 : ¬ (k : Int) < 60 := by omega
        have k4 : (k : Int) < (L : Int) := by omega
        have HK60 := Lib.hid k2
        clear k2
        go_wp2_with fail
        go_at_call 7; refine HFK.out.mono ?_; rintro e w4 ⟨⟨rb, rfl, hrb⟩, b4⟩
        have U4 := Lib.hid (UR.out.trans (b4.mono UR.out.size))
        have hrf : rb = false := by
          cases rb with
          | false => rfl
          | true => have := (hrb rfl).few.kl; have := HLL.out; have := HK60.out; omega
        subst hrf
        go_wp2_with fail
        go_ret
        exact ⟨rfl, BB.out _ U4.out⟩
      · subst k2
        have k3 : ¬ (k : Int) < (k : Int) := by omega
        go_wp2_with fail
        go_at_call 7; refine HFK.out.mono ?_; rintro e w4 ⟨⟨rb, rfl, hrb⟩, b4⟩
        have U4 := Lib.hid (UR.out.trans (b4.mono UR.out.size))
        have HRB := Lib.hid hrb
        have OC4 := Lib.hid (own_belowB OC.out b4)
        clear b4 hrb k3
        clear x0 x1 x2 x3 x4 x5 x6 x7 x8 t0 t1 t2 t3 t4 t5
        cases rb with
        | false =>
          go_wp2_with fail
          go_ret
          exact ⟨rfl, BB.out _ U4.out⟩
        | true =>
          have HF := Lib.hid (HRB.out rfl)
          clear HRB
          have u0 : w4.cell? ⟨w.heap.size + 1 + 1, 0, none⟩ = some (.int .i64 b.stops) := cell_of_heap (CB.out _ U4.out) 0 rfl
          have u1 : w4.cell? ⟨w.heap.size + 1 + 1, 1, none⟩ = some (.int .i64 b.cells) := cell_of_heap (CB.out _ U4.out) 1 rfl
          have u2 : w4.cell? ⟨w.heap.size + 1 + 1, 2, none⟩ = some (.int .i64 b.mutes) := cell_of_heap (CB.out _ U4.out) 2 rfl
          have u3 : w4.cell? ⟨w.heap.size + 1 + 1, 3, none⟩ = some (.int .i64 b.muteMost) := cell_of_heap (CB.out _ U4.out) 3 rfl
          have u4 : w4.cell? ⟨w.heap.size + 1 + 1, 4, none⟩ = some (.int .i64 b.lifts) := cell_of_heap (CB.out _ U4.out) 4 rfl
          have u5 : w4.cell? ⟨w.heap.size + 1 + 1, 5, none⟩ = some (.int .i64 b.liftMost) := cell_of_heap (CB.out _ U4.out) 5 rfl
          have u6 : w4.cell? ⟨w.heap.size + 1 + 1, 6, none⟩ = some (.int .i64 b.steps) := cell_of_heap (CB.out _ U4.out) 6 rfl
          go_wp2_with fail
          go_at_call 8; refine (HLI.out _).mono ?_; rintro e w5 ⟨rfl, b5⟩
          have U5 := Lib.hid (U4.out.trans (b5.mono U4.out.size))
          have OC5 := Lib.hid (own_belowB OC4.out b5)
          clear b5
          clear u0 u1 u2 u3 u4 u5 u6
          cases LB with
          | false =>
            go_wp2_with fail
            go_ret
            exact ⟨rfl, BB.out _ U5.out⟩
          | true =>
            by_cases hnp : 60 < NP
            · have n1 : (60 : Int) < (NP : Int) := by omega
              go_wp2_with fail
              go_ret
              exact ⟨rfl, BB.out _ U5.out⟩
            · have n1 : ¬ (60 : Int) < (NP : Int) := by omega
              have HHL := Lib.hid (HL1.out _ HF.out)
              have HHH := Lib.hid (HHP.out _ HF.out)
              have HHB := Lib.hid (HBR.out _ HF.out)
              have HLE := Lib.hid (light_left HLB.out)
              have HAI : Hid (Fa.AllIn s.floor (upto k)) := Lib.hid (upto_all (by rw [HLL.out]; exact Nat.le_refl _))
              have HNS : Hid ((upto k).length ≤ 60) := Lib.hid (by rw [upto_len]; exact hk6)
              have HS5 := Lib.hid (HSV.out.keep (BB.out _ U5.out))
              clear HL1 HHP HBR HFK HIC HTY HCL0 OC OC4 U4 UR HLI HSV hnp
              have u0 : w5.cell? ⟨w.heap.size + 1 + 1, 0, none⟩ = some (.int .i64 b.stops) := cell_of_heap (CB.out _ U5.out) 0 rfl
              have u1 : w5.cell? ⟨w.heap.size + 1 + 1, 1, none⟩ = some (.int .i64 b.cells) := cell_of_heap (CB.out _ U5.out) 1 rfl
              have u2 : w5.cell? ⟨w.heap.size + 1 + 1, 2, none⟩ = some (.int .i64 b.mutes) := cell_of_heap (CB.out _ U5.out) 2 rfl
              have u3 : w5.cell? ⟨w.heap.size + 1 + 1, 3, none⟩ = some (.int .i64 b.muteMost) := cell_of_heap (CB.out _ U5.out) 3 rfl
              have u4 : w5.cell? ⟨w.heap.size + 1 + 1, 4, none⟩ = some (.int .i64 b.lifts) := cell_of_heap (CB.out _ U5.out) 4 rfl
              have u5 : w5.cell? ⟨w.heap.size + 1 + 1, 5, none⟩ = some (.int .i64 b.liftMost) := cell_of_heap (CB.out _ U5.out) 5 rfl
              have u6 : w5.cell? ⟨w.heap.size + 1 + 1, 6, none⟩ = some (.int .i64 b.steps) := cell_of_heap (CB.out _ U5.out) 6 rfl
              have HLF := Lib.hid (Left_any b w5 (light_s HLB.out))
              unfold budA at HLF
              go_wp2_with fail
              go_at_call 13; refine HLF.out.mono ?_; rintro e w6 ⟨rfl, b6⟩
              have U6 := Lib.hid (U5.out.trans (b6.mono U5.out.size))
              have OC6 := Lib.hid (own_belowB OC5.out b6)
              have HS6 := Lib.hid (HS5.out.keep b6)
              obtain ⟨L0, hL0⟩ : ∃ q, Fa.left b = q := ⟨_, rfl⟩
              rw [hL0] at HLE ⊢
              have HL0 : Hid (L0 + 0 = L0 ∧ (0 : Int) = L0 - Fa.left b) := Lib.hid (by omega)
              have HI6 := Lib.hid (CU.out _ U6.out)
              have HJ6 := Lib.hid (CB.out _ U6.out)
              have HC6 := Lib.hid (CS.out _ U6.out)
              clear b6 OC5 HS5 U5 HLF IT IB IS CU CB CS hL0
              clear u0 u1 u2 u3 u4 u5 u6
              go_wp2_with fail
              go_loopw [13, 14] (fun nv iv wr => ∃ (i : Nat) (m : Int) (sq : Bd.State) (sv1 sv2 sv3 sv4 sv5 : Value) (bq : Fa.Bud), i ≤ NP ∧ iv = .int .i64 i ∧ nv = .int .i64 m ∧ Hid (m = L0 - Fa.left bq) ∧ Hid (StV wr sv1 sv2 sv3 sv4 sv5 sq) ∧ Hid (Bd.rightB s.floor (s.shelves.length : Int) (s.robots.length : Int) sq = true) ∧ Hid (lightB bq = true) ∧ Hid (wr.heap[w.heap.size]? = some (.cells #[.int .i64 s.floor.w, .int .i64 s.floor.h, .int .i64 s.floor.d, .slice ka k kc, ov, zv, av, hv, bv] 30 (0, 0))) ∧ Hid (wr.heap[w.heap.size + 1]? = some (.cells #[.int .i64 sq.tick, sv1, sv2, sv3, sv4, sv5] 34 (0, 0))) ∧ Hid (wr.heap[w.heap.size + 1 + 1]? = some (.cells #[.int .i64 bq.stops, .int .i64 bq.cells, .int .i64 bq.mutes, .int .i64 bq.muteMost, .int .i64 bq.lifts, .int .i64 bq.liftMost, .int .i64 bq.steps] 36 (0, 0))) ∧ Hid (wr.ownsRow w2.heap.size 3 1 (.slice ca k cc) k (ints (upto k))) ∧ Hid (Below w.heap.size w wr) ∧ Hid (w2.heap.size ≤ wr.heap.size)) (fun _ iv _ => NP - (intOf iv).toNat)
              case atStart => exact ⟨0, 0, st, shv, rov, pev, dev, skv, b, by omega, rfl, rfl, Lib.hid HL0.out.2, HS6, Lib.hid HF.out.bright, HLB, HC6, HI6, HJ6, OC6, Lib.hid (BB.out _ U6.out), Lib.hid U6.out.size⟩
              case round =>
                clear HS6 HC6 HI6 HJ6 OC6 U6 HL0 HLB BB
                obtain ⟨i, m, sq, sv1, sv2, sv3, sv4, sv5, bq, hi6, rfl, rfl, HM, HS, HR, HLT, IS, IT, IB, OC, BW, SZ⟩ := hrel
                obtain ⟨wR, hwR⟩ : ∃ W, W = wr := ⟨_, rfl⟩
                subst hwR
                have HSL := Lib.hid (light_left HLT.out)
                have hm1 : -100 ≤ m ∧ m ≤ 100 := by have h1 := HM.out; have h2 := HSL.out; have h3 := HLE.out; omega
                have lw : w.heap.size + 3 ≤ wR.heap.size := by have h1 := SZ.out; have h2 := SZ2.out; omega
                have CS : Hid (∀ W, Below wR.heap.size wR W → W.heap[w.heap.size]? = some (.cells #[.int .i64 s.floor.w, .int .i64 s.floor.h, .int .i64 s.floor.d, .slice ka k kc, ov, zv, av, hv, bv] 30 (0, 0))) := Lib.hid (fun W hW => keep_heap IS.out hW)
                have CU : Hid (∀ W, Below wR.heap.size wR W → W.heap[w.heap.size + 1]? = some (.cells #[.int .i64 sq.tick, sv1, sv2, sv3, sv4, sv5] 34 (0, 0))) := Lib.hid (fun W hW => keep_heap IT.out hW)
                have CB : Hid (∀ W, Below wR.heap.size wR W → W.heap[w.heap.size + 1 + 1]? = some (.cells #[.int .i64 bq.stops, .int .i64 bq.cells, .int .i64 bq.mutes, .int .i64 bq.muteMost, .int .i64 bq.lifts, .int .i64 bq.liftMost, .int .i64 bq.steps] 36 (0, 0))) := Lib.hid (fun W hW => keep_heap IB.out hW)
                have BB : Hid (∀ W, Below wR.heap.size wR W → Below w.heap.size w W) := Lib.hid (fun W hW => BW.out.trans (hW.mono BW.out.size))
                have OK : Hid (∀ W, Below wR.heap.size wR W → Is W (.slice ca k cc) (upto k)) := Lib.hid (fun W hW => Sl.of_own (own_belowB OC.out hW) (own_max OC.out))
                have HSK : Hid (∀ W, Below wR.heap.size wR W → StV W sv1 sv2 sv3 sv4 sv5 sq) := Lib.hid (fun W hW => HS.out.keep hW)
                have R0 := Lib.hid (Below.refl wR.heap.size wR)
                by_cases hik : i < NP
                · have i1 : (i : Int) < (NP : Int) := by omega
                  have i0 : (0 : Int) ≤ (i : Int) := by omega
                  have x0 : wR.cell? ⟨w.heap.size, 0, none⟩ = some (.int .i64 s.floor.w) := cell_of_heap IS.out 0 rfl
                  have x1 : wR.cell? ⟨w.heap.size, 1, none⟩ = some (.int .i64 s.floor.h) := cell_of_heap IS.out 1 rfl
                  have x2 : wR.cell? ⟨w.heap.size, 2, none⟩ = some (.int .i64 s.floor.d) := cell_of_heap IS.out 2 rfl
                  have x3 : wR.cell? ⟨w.heap.size, 3, none⟩ = some (.slice ka k kc) := cell_of_heap IS.out 3 rfl
                  have x4 : wR.cell? ⟨w.heap.size, 4, none⟩ = some (ov) := cell_of_heap IS.out 4 rfl
                  have x5 : wR.cell? ⟨w.heap.size, 5, none⟩ = some (zv) := cell_of_heap IS.out 5 rfl
                  have x6 : wR.cell? ⟨w.heap.size, 6, none⟩ = some (av) := cell_of_heap IS.out 6 rfl
                  have x7 : wR.cell? ⟨w.heap.size, 7, none⟩ = some (hv) := cell_of_heap IS.out 7 rfl
                  have x8 : wR.cell? ⟨w.heap.size, 8, none⟩ = some (bv) := cell_of_heap IS.out 8 rfl
                  have t0 : wR.cell? ⟨w.heap.size + 1, 0, none⟩ = some (.int .i64 sq.tick) := cell_of_heap IT.out 0 rfl
                  have t1 : wR.cell? ⟨w.heap.size + 1, 1, none⟩ = some (sv1) := cell_of_heap IT.out 1 rfl
                  have t2 : wR.cell? ⟨w.heap.size + 1, 2, none⟩ = some (sv2) := cell_of_heap IT.out 2 rfl
                  have t3 : wR.cell? ⟨w.heap.size + 1, 3, none⟩ = some (sv3) := cell_of_heap IT.out 3 rfl
                  have t4 : wR.cell? ⟨w.heap.size + 1, 4, none⟩ = some (sv4) := cell_of_heap IT.out 4 rfl
                  have t5 : wR.cell? ⟨w.heap.size + 1, 5, none⟩ = some (sv5) := cell_of_heap IT.out 5 rfl
                  have u0 : wR.cell? ⟨w.heap.size + 1 + 1, 0, none⟩ = some (.int .i64 bq.stops) := cell_of_heap IB.out 0 rfl
                  have u1 : wR.cell? ⟨w.heap.size + 1 + 1, 1, none⟩ = some (.int .i64 bq.cells) := cell_of_heap IB.out 1 rfl
                  have u2 : wR.cell? ⟨w.heap.size + 1 + 1, 2, none⟩ = some (.int .i64 bq.mutes) := cell_of_heap IB.out 2 rfl
                  have u3 : wR.cell? ⟨w.heap.size + 1 + 1, 3, none⟩ = some (.int .i64 bq.muteMost) := cell_of_heap IB.out 3 rfl
                  have u4 : wR.cell? ⟨w.heap.size + 1 + 1, 4, none⟩ = some (.int .i64 bq.lifts) := cell_of_heap IB.out 4 rfl
                  have u5 : wR.cell? ⟨w.heap.size + 1 + 1, 5, none⟩ = some (.int .i64 bq.liftMost) := cell_of_heap IB.out 5 rfl
                  have u6 : wR.cell? ⟨w.heap.size + 1 + 1, 6, none⟩ = some (.int .i64 bq.steps) := cell_of_heap IB.out 6 rfl
                  go_wp2_with fail
                  go_at_call 9; refine (HHL.out wR sq sv1 sv2 sv3 sv4 sv5 bq _ _ (BB.out _ R0.out) HS.out HR.out HLT.out (OK.out _ R0.out) HNS.out).mono ?_; rintro e w7 ⟨vl, l, rfl, hv, hl, b7⟩
                  have B7 := Lib.hid b7
                  obtain ⟨va, vc, rfl, hvm⟩ := hv.form
                  obtain ⟨lr, hlr⟩ := hl.head
                  have HL := Lib.hid hl
                  have HV := Lib.hid hv
                  have HLE1 : Hid (0 < l.length) := Lib.hid (by rw [hlr]; simp)
                  have HL00 : Hid (∀ h0 : 0 < l.length, l[0] = Fa.none3) := Lib.hid (fun h0 => by subst hlr; rfl)
                  obtain ⟨n, hn⟩ : ∃ n, l.length = n := ⟨_, rfl⟩
                  rw [hn] at HV HLE1 hvm
                  have HN := Lib.hid hn
                  rw [hn]
                  have hn0 := HLE1.out
                  have n0 : (0 : Int) < (n : Int) := by omega
                  have n1 : ¬ n = 0 := by omega
                  have n2 : ¬ (n : Int) = 0 := by omega
                  clear b7 hv hl hlr hn hn0
                  clear x0 x1 x2 x3 x4 x5 x6 x7 x8 t0 t1 t2 t3 t4 t5 u0 u1 u2 u3 u4 u5 u6
                  go_upto_region 17 with fail
                  go_cut [16] (fun v wq => v = .pointer (some ⟨w7.heap.size, 0, none⟩) ∧ ∃ X : Fa.Flt, Hid (X ∈ l) ∧ Hid (wq.heap[w7.heap.size]? = some (.cells #[.int .i64 X.kind, .int .i64 X.a, .int .i64 X.n] 38 (0, 0))) ∧ Hid (Below w7.heap.size w7 wq))
                  case first =>
                    obtain ⟨pb, po, epa, pcx⟩ := (HPK.out w7 (BB.out _ B7.out)).cell i (by rw [HNP.out]; exact hik)
                    obtain ⟨P, hP⟩ : ∃ P, picks[i]'(by rw [HNP.out]; exact hik) = P := ⟨_, rfl⟩
                    rw [hP] at pcx
                    obtain ⟨vb, vo, eva, hvb, r0, r1, r2⟩ := HV.out.cell 0 (by rw [HN.out]; exact HLE1.out)
                    rw [HL00.out (by rw [HN.out]; exact HLE1.out)] at r0 r1 r2
                    rw [Nat.zero_mul, Nat.add_zero] at r0 r1 r2
                    subst epa eva
                    have hN0 : Fa.none3 ∈ l := by have h1 := HL00.out (by rw [HN.out]; exact HLE1.out); rw [← h1]; exact List.getElem_mem _
                    have HN0 := Lib.hid hN0
                    clear hP hN0
                    obtain ⟨j, hj, hjn⟩ : ∃ j : Nat, (max 0 P % (n : Int)).toNat = j ∧ j < n := ⟨_, rfl, by have := Int.emod_nonneg (max 0 P) (b := (n : Int)) (by omega); have := Int.emod_lt_of_pos (max 0 P) (b := (n : Int)) (by omega); omega⟩
                    have j0 : (0 : Int) ≤ max 0 P % (n : Int) := Int.emod_nonneg _ (by omega)
                    have j1 : max 0 P % (n : Int) < (n : Int) := Int.emod_lt_of_pos _ (by omega)
                    have j2 : 0 ≤ max 0 P := by omega
                    have hjl : j < l.length := by rw [HN.out]; exact hjn
                    obtain ⟨vb2, vo2, e2, -, y0, y1, y2⟩ := HV.out.cell j hjl
                    injection e2 with e2; injection e2 with e2 e3; subst e2 e3
                    have HXM := Lib.hid (List.getElem_mem hjl)
                    obtain ⟨X, hX⟩ : ∃ X, l[j] = X := ⟨_, rfl⟩
                    rw [hX] at y0 y1 y2 HXM
                    rw [← hj] at y0 y1 y2
                    clear hX hjl r0 r1 r2 hj hjn
                    go_wp2_with fail
                    all_goals go_meet
                    all_goals exact ⟨rfl, X, HXM, Lib.hid (al1 _ _).1, Lib.hid (al1 _ _).2.1⟩
                  case rest =>
                    obtain ⟨rfl, X, HX, IX0, B70⟩ := hcut
                    obtain ⟨wd, hwd⟩ : ∃ W, W = wc := ⟨_, rfl⟩
                    subst hwd
                    have BD := Lib.hid (B7.out.trans (B70.out.mono B7.out.size))
                    have HOKX := Lib.hid (HL.out.ok HX.out)
                    obtain ⟨c, hsp⟩ := Fa.allows_spend HOKX.out.2.1
                    have HSP := Lib.hid hsp
                    have HLC := Lib.hid (light_spend HLT.out hsp)
                    have HVd := Lib.hid (HV.out.keep B70.out)
                    have hxl : w7.heap.size < wd.heap.size := heap_lt IX0.out
                    obtain ⟨w8, hw8⟩ : ∃ W, W = wd.alloc (.cells #[.int .i64 X.a] 3) := ⟨_, rfl⟩
                    have ga := al1 wd (.cells #[.int .i64 X.a] 3)
                    rw [← hw8] at ga
                    have BA := Lib.hid ga.2.1
                    have B8 := Lib.hid (BD.out.trans (ga.2.1.mono BD.out.size))
                    have HI8 : Hid (Is w8 (.slice (some ⟨wd.heap.size, 0, none⟩) 1 1) [X.a]) := Lib.hid (by
                      have h9 := World.ownsRow_lit (base := wd.heap.size) (e := 3) (size := 1) wd #[Value.int .i64 X.a] 1 (Nat.le_refl _) (by decide) rfl
                      rw [← hw8] at h9
                      exact Sl.of_own h9 (own_max h9))
                    have HW8 := Lib.hid hw8
                    clear hw8 ga hsp
                    have x0 : wd.cell? ⟨w.heap.size, 0, none⟩ = some (.int .i64 s.floor.w) := cell_of_heap (CS.out _ BD.out) 0 rfl
                    have x1 : wd.cell? ⟨w.heap.size, 1, none⟩ = some (.int .i64 s.floor.h) := cell_of_heap (CS.out _ BD.out) 1 rfl
                    have x2 : wd.cell? ⟨w.heap.size, 2, none⟩ = some (.int .i64 s.floor.d) := cell_of_heap (CS.out _ BD.out) 2 rfl
                    have x3 : wd.cell? ⟨w.heap.size, 3, none⟩ = some (.slice ka k kc) := cell_of_heap (CS.out _ BD.out) 3 rfl
                    have x4 : wd.cell? ⟨w.heap.size, 4, none⟩ = some (ov) := cell_of_heap (CS.out _ BD.out) 4 rfl
                    have x5 : wd.cell? ⟨w.heap.size, 5, none⟩ = some (zv) := cell_of_heap (CS.out _ BD.out) 5 rfl
                    have x6 : wd.cell? ⟨w.heap.size, 6, none⟩ = some (av) := cell_of_heap (CS.out _ BD.out) 6 rfl
                    have x7 : wd.cell? ⟨w.heap.size, 7, none⟩ = some (hv) := cell_of_heap (CS.out _ BD.out) 7 rfl
                    have x8 : wd.cell? ⟨w.heap.size, 8, none⟩ = some (bv) := cell_of_heap (CS.out _ BD.out) 8 rfl
                    have t0 : wd.cell? ⟨w.heap.size + 1, 0, none⟩ = some (.int .i64 sq.tick) := cell_of_heap (CU.out _ BD.out) 0 rfl
                    have t1 : wd.cell? ⟨w.heap.size + 1, 1, none⟩ = some (sv1) := cell_of_heap (CU.out _ BD.out) 1 rfl
                    have t2 : wd.cell? ⟨w.heap.size + 1, 2, none⟩ = some (sv2) := cell_of_heap (CU.out _ BD.out) 2 rfl
                    have t3 : wd.cell? ⟨w.heap.size + 1, 3, none⟩ = some (sv3) := cell_of_heap (CU.out _ BD.out) 3 rfl
                    have t4 : wd.cell? ⟨w.heap.size + 1, 4, none⟩ = some (sv4) := cell_of_heap (CU.out _ BD.out) 4 rfl
                    have t5 : wd.cell? ⟨w.heap.size + 1, 5, none⟩ = some (sv5) := cell_of_heap (CU.out _ BD.out) 5 rfl
                    have u0 : wd.cell? ⟨w.heap.size + 1 + 1, 0, none⟩ = some (.int .i64 bq.stops) := cell_of_heap (CB.out _ BD.out) 0 rfl
                    have u1 : wd.cell? ⟨w.heap.size + 1 + 1, 1, none⟩ = some (.int .i64 bq.cells) := cell_of_heap (CB.out _ BD.out) 1 rfl
                    have u2 : wd.cell? ⟨w.heap.size + 1 + 1, 2, none⟩ = some (.int .i64 bq.mutes) := cell_of_heap (CB.out _ BD.out) 2 rfl
                    have u3 : wd.cell? ⟨w.heap.size + 1 + 1, 3, none⟩ = some (.int .i64 bq.muteMost) := cell_of_heap (CB.out _ BD.out) 3 rfl
                    have u4 : wd.cell? ⟨w.heap.size + 1 + 1, 4, none⟩ = some (.int .i64 bq.lifts) := cell_of_heap (CB.out _ BD.out) 4 rfl
                    have u5 : wd.cell? ⟨w.heap.size + 1 + 1, 5, none⟩ = some (.int .i64 bq.liftMost) := cell_of_heap (CB.out _ BD.out) 5 rfl
                    have u6 : wd.cell? ⟨w.heap.size + 1 + 1, 6, none⟩ = some (.int .i64 bq.steps) := cell_of_heap (CB.out _ BD.out) 6 rfl
                    have y0 : wd.cell? ⟨w7.heap.size, 0, none⟩ = some (.int .i64 X.kind) := cell_of_heap IX0.out 0 rfl
                    have y1 : wd.cell? ⟨w7.heap.size, 1, none⟩ = some (.int .i64 X.a) := cell_of_heap IX0.out 1 rfl
                    have y2 : wd.cell? ⟨w7.heap.size, 2, none⟩ = some (.int .i64 X.n) := cell_of_heap IX0.out 2 rfl
                    go_wp2_with fail
                    rw [← HW8.out]
                    go_at_call 9; refine (HHL.out w8 sq sv1 sv2 sv3 sv4 sv5 bq _ _ (BB.out _ B8.out) (HSK.out _ B8.out) HR.out HLT.out HI8.out (by simp)).mono ?_; rintro e w9 ⟨vf, lf, rfl, hvf, hlf, b9⟩
                    have B9 := Lib.hid (B8.out.trans (b9.mono B8.out.size))
                    have D9 := Lib.hid (BA.out.trans (b9.mono BA.out.size))
                    obtain ⟨fa, fc, rfl, hfm⟩ := hvf.form
                    have HLF := Lib.hid (Fa.Listed.more HR.out HAI.out HL.out hlf)
                    have HVF := Lib.hid hvf
                    obtain ⟨nf, hnf⟩ : ∃ n, lf.length = n := ⟨_, rfl⟩
                    rw [hnf] at HVF hfm
                    have HNF := Lib.hid hnf
                    rw [hnf]
                    have E9 := Lib.hid (Below.refl w9.heap.size w9)
                    clear b9 hvf hlf hnf
                    clear x0 x1 x2 x3 x4 x5 x6 x7 x8 t0 t1 t2 t3 t4 t5 u0 u1 u2 u3 u4 u5 u6 y0 y1 y2
                    go_wp2_with fail
                    go_loopw [18] (fun jv wq => ∃ (j : Nat), j ≤ nf ∧ jv = .int .i64 j ∧ Hid (Below w9.heap.size w9 wq)) (fun jv _ => nf - (intOf jv).toNat)
                    case atStart => exact ⟨0, by omega, rfl, E9⟩
                    case round =>
                      clear E9
                      obtain ⟨j, hj, rfl, EQ⟩ := hrel
                      obtain ⟨wq, hwq⟩ : ∃ W, W = wr := ⟨_, rfl⟩
                      subst hwq
                      by_cases hjn : j < nf
                      · as_aux_lemma =>
                          have hjl : j < lf.length := by rw [HNF.out]; exact hjn
                          obtain ⟨fb, fo, ef, -, y0, y1, y2⟩ := (HVF.out.keep EQ.out).cell j hjl
                          subst ef
                          have HHA : Hid (∀ W, Below wd.heap.size wd W → _) := Lib.hid (fun W hW => has_any l lf[j] _ W (HVd.out.keep hW))
                          rw [decide_eq_true (HLF.out _ (List.getElem_mem hjl))] at HHA
                          obtain ⟨Y, hY⟩ : ∃ X, lf[j] = X := ⟨_, rfl⟩
                          rw [hY] at y0 y1 y2 HHA
                          unfold fltV at HHA
                          have j0 : (0 : Int) ≤ (j : Int) := by omega
                          have j1 : (j : Int) < (nf : Int) := by omega
                          have DQ := Lib.hid (D9.out.trans (EQ.out.mono D9.out.size))
                          clear hY hjl
                          go_wp2_with fail
                          go_at_call 16; refine (HHA.out _ DQ.out).mono ?_; rintro e wq2 ⟨rfl, b2⟩
                          go_wp2_with fail
                          go_roundw
                          case rel => exact ⟨j + 1, by omega, by go_num, Lib.hid (EQ.out.trans (b2.mono EQ.out.size))⟩
                          case measure => simp [intOf]; omega
                      · have hj9 : ¬ (j : Int) < (nf : Int) := by omega
                        have BJ := Lib.hid (B9.out.trans (EQ.out.mono B9.out.size))
                        have DJ := Lib.hid (D9.out.trans (EQ.out.mono D9.out.size))
                        have IXJ := Lib.hid (keep_heap IX0.out DJ.out)
                        have HSX := Lib.hid (fun W => Spend_any bq X W (light_num HLT.out))
                        rw [HSP.out] at HSX
                        unfold spendV budA fltV at HSX
                        clear B9 D9 EQ B8 HI8 HVF HLF HNF hjn
                        have u0 : wq.cell? ⟨w.heap.size + 1 + 1, 0, none⟩ = some (.int .i64 bq.stops) := cell_of_heap (CB.out _ BJ.out) 0 rfl
                        have u1 : wq.cell? ⟨w.heap.size + 1 + 1, 1, none⟩ = some (.int .i64 bq.cells) := cell_of_heap (CB.out _ BJ.out) 1 rfl
                        have u2 : wq.cell? ⟨w.heap.size + 1 + 1, 2, none⟩ = some (.int .i64 bq.mutes) := cell_of_heap (CB.out _ BJ.out) 2 rfl
                        have u3 : wq.cell? ⟨w.heap.size + 1 + 1, 3, none⟩ = some (.int .i64 bq.muteMost) := cell_of_heap (CB.out _ BJ.out) 3 rfl
                        have u4 : wq.cell? ⟨w.heap.size + 1 + 1, 4, none⟩ = some (.int .i64 bq.lifts) := cell_of_heap (CB.out _ BJ.out) 4 rfl
                        have u5 : wq.cell? ⟨w.heap.size + 1 + 1, 5, none⟩ = some (.int .i64 bq.liftMost) := cell_of_heap (CB.out _ BJ.out) 5 rfl
                        have u6 : wq.cell? ⟨w.heap.size + 1 + 1, 6, none⟩ = some (.int .i64 bq.steps) := cell_of_heap (CB.out _ BJ.out) 6 rfl
                        have y0 : wq.cell? ⟨w7.heap.size, 0, none⟩ = some (.int .i64 X.kind) := cell_of_heap IXJ.out 0 rfl
                        have y1 : wq.cell? ⟨w7.heap.size, 1, none⟩ = some (.int .i64 X.a) := cell_of_heap IXJ.out 1 rfl
                        have y2 : wq.cell? ⟨w7.heap.size, 2, none⟩ = some (.int .i64 X.n) := cell_of_heap IXJ.out 2 rfl
                        obtain ⟨wj, hwj⟩ : ∃ W, W = wq := ⟨_, rfl⟩
                        subst hwj
                        go_wp2_with fail
                        go_at_call 17; refine (HSX.out _).mono ?_; rintro e wk ⟨rfl, bk⟩
                        have BK := Lib.hid (BJ.out.trans (bk.mono BJ.out.size))
                        have DK := Lib.hid (DJ.out.trans (bk.mono DJ.out.size))
                        clear bk
                        obtain ⟨wl, hwl⟩ : ∃ W, W = wk.alloc (.cells #[.int .i64 c.stops, .int .i64 c.cells, .int .i64 c.mutes, .int .i64 c.muteMost, .int .i64 c.lifts, .int .i64 c.liftMost, .int .i64 c.steps] 36) := ⟨_, rfl⟩
                        have gl := al1 wk (.cells #[.int .i64 c.stops, .int .i64 c.cells, .int .i64 c.mutes, .int .i64 c.muteMost, .int .i64 c.lifts, .int .i64 c.liftMost, .int .i64 c.steps] 36)
                        rw [← hwl] at gl
                        have IC := Lib.hid gl.1
                        have BL := Lib.hid (BK.out.trans (gl.2.1.mono BK.out.size))
                        have DL := Lib.hid (DK.out.trans (gl.2.1.mono DK.out.size))
                        have HWL := Lib.hid hwl
                        have lk : wR.heap.size ≤ wk.heap.size := BK.out.size
                        clear gl hwl
                        clear u0 u1 u2 u3 u4 u5 u6 y0 y1 y2
                        go_upto_region 27 with fail
                        rw [← HWL.out]
                        have x0 : wl.cell? ⟨w.heap.size, 0, none⟩ = some (.int .i64 s.floor.w) := cell_of_heap (CS.out _ BL.out) 0 rfl
                        have x1 : wl.cell? ⟨w.heap.size, 1, none⟩ = some (.int .i64 s.floor.h) := cell_of_heap (CS.out _ BL.out) 1 rfl
                        have x2 : wl.cell? ⟨w.heap.size, 2, none⟩ = some (.int .i64 s.floor.d) := cell_of_heap (CS.out _ BL.out) 2 rfl
                        have x3 : wl.cell? ⟨w.heap.size, 3, none⟩ = some (.slice ka k kc) := cell_of_heap (CS.out _ BL.out) 3 rfl
                        have x4 : wl.cell? ⟨w.heap.size, 4, none⟩ = some (ov) := cell_of_heap (CS.out _ BL.out) 4 rfl
                        have x5 : wl.cell? ⟨w.heap.size, 5, none⟩ = some (zv) := cell_of_heap (CS.out _ BL.out) 5 rfl
                        have x6 : wl.cell? ⟨w.heap.size, 6, none⟩ = some (av) := cell_of_heap (CS.out _ BL.out) 6 rfl
                        have x7 : wl.cell? ⟨w.heap.size, 7, none⟩ = some (hv) := cell_of_heap (CS.out _ BL.out) 7 rfl
                        have x8 : wl.cell? ⟨w.heap.size, 8, none⟩ = some (bv) := cell_of_heap (CS.out _ BL.out) 8 rfl
                        have t0 : wl.cell? ⟨w.heap.size + 1, 0, none⟩ = some (.int .i64 sq.tick) := cell_of_heap (CU.out _ BL.out) 0 rfl
                        have t1 : wl.cell? ⟨w.heap.size + 1, 1, none⟩ = some (sv1) := cell_of_heap (CU.out _ BL.out) 1 rfl
                        have t2 : wl.cell? ⟨w.heap.size + 1, 2, none⟩ = some (sv2) := cell_of_heap (CU.out _ BL.out) 2 rfl
                        have t3 : wl.cell? ⟨w.heap.size + 1, 3, none⟩ = some (sv3) := cell_of_heap (CU.out _ BL.out) 3 rfl
                        have t4 : wl.cell? ⟨w.heap.size + 1, 4, none⟩ = some (sv4) := cell_of_heap (CU.out _ BL.out) 4 rfl
                        have t5 : wl.cell? ⟨w.heap.size + 1, 5, none⟩ = some (sv5) := cell_of_heap (CU.out _ BL.out) 5 rfl
                        have u0 : wl.cell? ⟨wk.heap.size, 0, none⟩ = some (.int .i64 c.stops) := cell_of_heap IC.out 0 rfl
                        have u1 : wl.cell? ⟨wk.heap.size, 1, none⟩ = some (.int .i64 c.cells) := cell_of_heap IC.out 1 rfl
                        have u2 : wl.cell? ⟨wk.heap.size, 2, none⟩ = some (.int .i64 c.mutes) := cell_of_heap IC.out 2 rfl
                        have u3 : wl.cell? ⟨wk.heap.size, 3, none⟩ = some (.int .i64 c.muteMost) := cell_of_heap IC.out 3 rfl
                        have u4 : wl.cell? ⟨wk.heap.size, 4, none⟩ = some (.int .i64 c.lifts) := cell_of_heap IC.out 4 rfl
                        have u5 : wl.cell? ⟨wk.heap.size, 5, none⟩ = some (.int .i64 c.liftMost) := cell_of_heap IC.out 5 rfl
                        have u6 : wl.cell? ⟨wk.heap.size, 6, none⟩ = some (.int .i64 c.steps) := cell_of_heap IC.out 6 rfl
                        go_wp2_with fail
                        go_at_call 9; refine (HHL.out wl sq sv1 sv2 sv3 sv4 sv5 c _ _ (BB.out _ BL.out) (HSK.out _ BL.out) HR.out HLC.out (OK.out _ BL.out) HNS.out).mono ?_; rintro e wm ⟨vg, lg, rfl, hvg, hlg, bm⟩
                        have BM := Lib.hid (BL.out.trans (bm.mono BL.out.size))
                        have DM := Lib.hid (DL.out.trans (bm.mono DL.out.size))
                        have ICM := Lib.hid (keep_heap IC.out bm)
                        obtain ⟨fg, fh, rfl, hgm⟩ := hvg.form
                        have HLG := Lib.hid (Fa.Listed.less (light_nn HLT.out) HSP.out HL.out hlg)
                        have HVG := Lib.hid hvg
                        obtain ⟨ng, hng⟩ : ∃ n, lg.length = n := ⟨_, rfl⟩
                        rw [hng] at HVG hgm
                        have HNG := Lib.hid hng
                        rw [hng]
                        have EM := Lib.hid (Below.refl wm.heap.size wm)
                        clear bm hvg hlg hng
                        clear x0 x1 x2 x3 x4 x5 x6 x7 x8 t0 t1 t2 t3 t4 t5 u0 u1 u2 u3 u4 u5 u6
                        go_wp2_with fail
                        go_loopw [22] (fun jv wq => ∃ (j : Nat), j ≤ ng ∧ jv = .int .i64 j ∧ Hid (Below wm.heap.size wm wq)) (fun jv _ => ng - (intOf jv).toNat)
                        case atStart => exact ⟨0, by omega, rfl, EM⟩
                        case round =>
                          clear EM
                          obtain ⟨j2, hj2, rfl, EQ⟩ := hrel
                          obtain ⟨wq, hwq⟩ : ∃ W, W = wr := ⟨_, rfl⟩
                          subst hwq
                          by_cases hjn : j2 < ng
                          · as_aux_lemma =>
                              have hjl : j2 < lg.length := by rw [HNG.out]; exact hjn
                              obtain ⟨fb, fo, ef, -, y0, y1, y2⟩ := (HVG.out.keep EQ.out).cell j2 hjl
                              subst ef
                              have HHA : Hid (∀ W, Below wd.heap.size wd W → _) := Lib.hid (fun W hW => has_any l lg[j2] _ W (HVd.out.keep hW))
                              rw [decide_eq_true (HLG.out _ (List.getElem_mem hjl))] at HHA
                              obtain ⟨Y, hY⟩ : ∃ X, lg[j2] = X := ⟨_, rfl⟩
                              rw [hY] at y0 y1 y2 HHA
                              unfold fltV at HHA
                              have j0 : (0 : Int) ≤ (j2 : Int) := by omega
                              have j1 : (j2 : Int) < (ng : Int) := by omega
                              have DQ := Lib.hid (DM.out.trans (EQ.out.mono DM.out.size))
                              clear hY hjl
                              go_wp2_with fail
                              go_at_call 16; refine (HHA.out _ DQ.out).mono ?_; rintro e wq2 ⟨rfl, b2⟩
                              go_wp2_with fail
                              go_roundw
                              case rel => exact ⟨j2 + 1, by omega, by go_num, Lib.hid (EQ.out.trans (b2.mono EQ.out.size))⟩
                              case measure => simp [intOf]; omega
                          · have hj8 : ¬ (j2 : Int) < (ng : Int) := by omega
                            have BN := Lib.hid (BM.out.trans (EQ.out.mono BM.out.size))
                            have DN := Lib.hid (DM.out.trans (EQ.out.mono DM.out.size))
                            have IXN := Lib.hid (keep_heap IX0.out DN.out)
                            have ICN := Lib.hid (keep_heap ICM.out EQ.out)
                            clear BM DM EQ HVG HLG HNG hjn ICM
                            have x0 : wq.cell? ⟨w.heap.size, 0, none⟩ = some (.int .i64 s.floor.w) := cell_of_heap (CS.out _ BN.out) 0 rfl
                            have x1 : wq.cell? ⟨w.heap.size, 1, none⟩ = some (.int .i64 s.floor.h) := cell_of_heap (CS.out _ BN.out) 1 rfl
                            have x2 : wq.cell? ⟨w.heap.size, 2, none⟩ = some (.int .i64 s.floor.d) := cell_of_heap (CS.out _ BN.out) 2 rfl
                            have x3 : wq.cell? ⟨w.heap.size, 3, none⟩ = some (.slice ka k kc) := cell_of_heap (CS.out _ BN.out) 3 rfl
                            have x4 : wq.cell? ⟨w.heap.size, 4, none⟩ = some (ov) := cell_of_heap (CS.out _ BN.out) 4 rfl
                            have x5 : wq.cell? ⟨w.heap.size, 5, none⟩ = some (zv) := cell_of_heap (CS.out _ BN.out) 5 rfl
                            have x6 : wq.cell? ⟨w.heap.size, 6, none⟩ = some (av) := cell_of_heap (CS.out _ BN.out) 6 rfl
                            have x7 : wq.cell? ⟨w.heap.size, 7, none⟩ = some (hv) := cell_of_heap (CS.out _ BN.out) 7 rfl
                            have x8 : wq.cell? ⟨w.heap.size, 8, none⟩ = some (bv) := cell_of_heap (CS.out _ BN.out) 8 rfl
                            have t0 : wq.cell? ⟨w.heap.size + 1, 0, none⟩ = some (.int .i64 sq.tick) := cell_of_heap (CU.out _ BN.out) 0 rfl
                            have t1 : wq.cell? ⟨w.heap.size + 1, 1, none⟩ = some (sv1) := cell_of_heap (CU.out _ BN.out) 1 rfl
                            have t2 : wq.cell? ⟨w.heap.size + 1, 2, none⟩ = some (sv2) := cell_of_heap (CU.out _ BN.out) 2 rfl
                            have t3 : wq.cell? ⟨w.heap.size + 1, 3, none⟩ = some (sv3) := cell_of_heap (CU.out _ BN.out) 3 rfl
                            have t4 : wq.cell? ⟨w.heap.size + 1, 4, none⟩ = some (sv4) := cell_of_heap (CU.out _ BN.out) 4 rfl
                            have t5 : wq.cell? ⟨w.heap.size + 1, 5, none⟩ = some (sv5) := cell_of_heap (CU.out _ BN.out) 5 rfl
                            have y0 : wq.cell? ⟨w7.heap.size, 0, none⟩ = some (.int .i64 X.kind) := cell_of_heap IXN.out 0 rfl
                            have y1 : wq.cell? ⟨w7.heap.size, 1, none⟩ = some (.int .i64 X.a) := cell_of_heap IXN.out 1 rfl
                            have y2 : wq.cell? ⟨w7.heap.size, 2, none⟩ = some (.int .i64 X.n) := cell_of_heap IXN.out 2 rfl
                            obtain ⟨wn, hwn⟩ : ∃ W, W = wq := ⟨_, rfl⟩
                            subst hwn
                            go_wp2_with fail
                            go_at_call 18; refine (HHH.out wn sq sv1 sv2 sv3 sv4 sv5 X (BB.out _ BN.out) (HSK.out _ BN.out) HR.out HOKX.out.1).mono ?_; rintro e wo ⟨z1, z2, z3, z4, z5, rfl, hso, bo⟩
                            have BO := Lib.hid (BN.out.trans (bo.mono BN.out.size))
                            have DO := Lib.hid (DN.out.trans (bo.mono DN.out.size))
                            have IXO := Lib.hid (keep_heap IX0.out DO.out)
                            have ICO := Lib.hid (keep_heap ICN.out bo)
                            have hno := BN.out.size
                            obtain ⟨sn, hsn⟩ : ∃ q, Fa.hap sq X = q := ⟨_, rfl⟩
                            have HSN := Lib.hid hsn
                            have HRN : Hid (Bd.rightB s.floor (s.shelves.length : Int) (s.robots.length : Int) sn = true) := Lib.hid (by rw [← hsn]; exact Fa.hap_right HR.out HOKX.out.1)
                            rw [hsn] at hso
                            rw [hsn]
                            have SO := Lib.hid (hso.lower (B2 := wR.heap.size) hno)
                            clear hso bo hsn
                            clear x0 x1 x2 x3 x4 x5 x6 x7 x8 t0 t1 t2 t3 t4 t5 y0 y1 y2
                            have one1 : (#[Value.int .i64 sn.tick, z1, z2, z3, z4, z5] : Array Value).all (·.oneCell') = true := by
                              obtain ⟨g1, c1, rfl⟩ := own_form SO.out.o1
                              obtain ⟨g2, c2, rfl⟩ := own_form SO.out.o2
                              obtain ⟨g3, c3, rfl⟩ := own_form SO.out.o3
                              obtain ⟨g4, c4, rfl⟩ := own_form SO.out.o4
                              obtain ⟨g5, c5, rfl⟩ := own_form SO.out.o5
                              simp [Value.oneCell']
                            have IT1 := Lib.hid (CU.out _ BO.out)
                            go_upto_region 34 with (refine wpList_store_row rfl 34 (.tmp 5) (.tmp 132) rfl (w.heap.size + 1) #[.int .i64 sn.tick, z1, z2, z3, z4, z5] rfl rfl 34 _ IT1.out (by kernel_rfl) rfl one1 ?_)
                            obtain ⟨wp, hwp⟩ : ∃ W, W = wo.setRow (w.heap.size + 1) #[.int .i64 sn.tick, z1, z2, z3, z4, z5] := ⟨_, rfl⟩
                            have BP : Hid (Below (w.heap.size + 1) wo wp) := Lib.hid (by rw [hwp]; exact below_setRow _ (Below.refl _ wo) (Nat.le_refl _))
                            have GP : Hid (∀ g, g ≠ w.heap.size + 1 → wp.heap[g]? = wo.heap[g]?) := Lib.hid (fun g hg => by rw [hwp]; exact setRow_other wo _ g _ hg)
                            have ITP : Hid (wp.heap[w.heap.size + 1]? = some (.cells #[.int .i64 sn.tick, z1, z2, z3, z4, z5] 34 (0, 0))) := Lib.hid (by rw [hwp]; exact setRow_heap _ _ _ _ _ _ IT1.out)
                            have SP : Hid (StO wp wR.heap.size z1 z2 z3 z4 z5 sn) := Lib.hid (by rw [hwp]; exact SO.out.setRow _ (by omega))
                            have OP : Hid (wp.ownsRow w2.heap.size 3 1 (.slice ca k cc) k (ints (upto k))) := Lib.hid (by rw [hwp]; exact own_setRow _ (own_belowB OC.out BO.out) (by have := SZ2.out; omega))
                            rw [← hwp]
                            have ISP := Lib.hid ((GP.out (w.heap.size) (by omega)).trans (CS.out _ BO.out))
                            have IBP := Lib.hid ((GP.out (w.heap.size + 1 + 1) (by omega)).trans (CB.out _ BO.out))
                            have ICP := Lib.hid ((GP.out wk.heap.size (by omega)).trans ICO.out)
                            have l7 := B7.out.size
                            have IXP := Lib.hid ((GP.out w7.heap.size (by omega)).trans IXO.out)
                            clear one1 hwp
                            have u0 : wp.cell? ⟨wk.heap.size, 0, none⟩ = some (.int .i64 c.stops) := cell_of_heap ICP.out 0 rfl
                            have u1 : wp.cell? ⟨wk.heap.size, 1, none⟩ = some (.int .i64 c.cells) := cell_of_heap ICP.out 1 rfl
                            have u2 : wp.cell? ⟨wk.heap.size, 2, none⟩ = some (.int .i64 c.mutes) := cell_of_heap ICP.out 2 rfl
                            have u3 : wp.cell? ⟨wk.heap.size, 3, none⟩ = some (.int .i64 c.muteMost) := cell_of_heap ICP.out 3 rfl
                            have u4 : wp.cell? ⟨wk.heap.size, 4, none⟩ = some (.int .i64 c.lifts) := cell_of_heap ICP.out 4 rfl
                            have u5 : wp.cell? ⟨wk.heap.size, 5, none⟩ = some (.int .i64 c.liftMost) := cell_of_heap ICP.out 5 rfl
                            have u6 : wp.cell? ⟨wk.heap.size, 6, none⟩ = some (.int .i64 c.steps) := cell_of_heap ICP.out 6 rfl
                            go_upto_region 35 with (refine wpList_store_row rfl 36 (.tmp 6) (.tmp 133) rfl (w.heap.size + 1 + 1) #[.int .i64 c.stops, .int .i64 c.cells, .int .i64 c.mutes, .int .i64 c.muteMost, .int .i64 c.lifts, .int .i64 c.liftMost, .int .i64 c.steps] rfl rfl 36 _ IBP.out (by kernel_rfl) rfl (by simp [Value.oneCell']) ?_)
                            obtain ⟨wv, hwv⟩ : ∃ W, W = wp.setRow (w.heap.size + 1 + 1) #[.int .i64 c.stops, .int .i64 c.cells, .int .i64 c.mutes, .int .i64 c.muteMost, .int .i64 c.lifts, .int .i64 c.liftMost, .int .i64 c.steps] := ⟨_, rfl⟩
                            have BV : Hid (Below (w.heap.size + 1 + 1) wp wv) := Lib.hid (by rw [hwv]; exact below_setRow _ (Below.refl _ wp) (Nat.le_refl _))
                            have GV : Hid (∀ g, g ≠ w.heap.size + 1 + 1 → wv.heap[g]? = wp.heap[g]?) := Lib.hid (fun g hg => by rw [hwv]; exact setRow_other wp _ g _ hg)
                            have IBV : Hid (wv.heap[w.heap.size + 1 + 1]? = some (.cells #[.int .i64 c.stops, .int .i64 c.cells, .int .i64 c.mutes, .int .i64 c.muteMost, .int .i64 c.lifts, .int .i64 c.liftMost, .int .i64 c.steps] 36 (0, 0))) := Lib.hid (by rw [hwv]; exact setRow_heap _ _ _ _ _ _ IBP.out)
                            have SV : Hid (StO wv wR.heap.size z1 z2 z3 z4 z5 sn) := Lib.hid (by rw [hwv]; exact SP.out.setRow _ (by omega))
                            have OV : Hid (wv.ownsRow w2.heap.size 3 1 (.slice ca k cc) k (ints (upto k))) := Lib.hid (by rw [hwv]; exact own_setRow _ OP.out (by have := SZ2.out; omega))
                            rw [← hwv]
                            have ISV := Lib.hid ((GV.out (w.heap.size) (by omega)).trans ISP.out)
                            have ITV := Lib.hid ((GV.out (w.heap.size + 1) (by omega)).trans ITP.out)
                            have IXV := Lib.hid ((GV.out w7.heap.size (by omega)).trans IXP.out)
                            have BWV : Hid (Below w.heap.size w wv) := Lib.hid ((BB.out _ BO.out).trans ((BP.out.mono (by omega)).trans (BV.out.mono (by omega))))
                            have SZV : Hid (w2.heap.size ≤ wv.heap.size) := Lib.hid (by have h1 := BV.out.size; have h2 := BP.out.size; have h3 := BO.out.size; have h4 := SZ.out; omega)
                            clear hwv GP GV BP BV ISP ITP IXP IBP ICP ICO IXO SP OP SO IT1 CS CU CB OK HSK BO DO BN DN BL DL BK DK ICN IXN IC IXJ BJ DJ BD B7 B70 BA HV HVd R0 HW8 HWL IS IT IB HS OC
                            clear u0 u1 u2 u3 u4 u5 u6
                            have y0 : wv.cell? ⟨w7.heap.size, 0, none⟩ = some (.int .i64 X.kind) := cell_of_heap IXV.out 0 rfl
                            have y1 : wv.cell? ⟨w7.heap.size, 1, none⟩ = some (.int .i64 X.a) := cell_of_heap IXV.out 1 rfl
                            have y2 : wv.cell? ⟨w7.heap.size, 2, none⟩ = some (.int .i64 X.n) := cell_of_heap IXV.out 2 rfl
                            have HLS := Lib.hid (Fa.left_spend (light_nn HLT.out) HSP.out)
                            have HCN := Lib.hid (light_left HLC.out)
                            simp only [Act.put]
                            go_upto_if 136 with fail
                            go_cut [13] (fun v wq => Hid (wq = wv) ∧ ∃ m2 : Int, v = .int .i64 m2 ∧ Hid (m2 = L0 - Fa.left c))
                            case first =>
                              by_cases hk0 : X.kind = 0
                              · have e0 : (X.kind == 0) = true := by simpa using hk0
                                have HM2 : Hid (m = L0 - Fa.left c) := Lib.hid (by have h1 := HLS.out; have h2 := HM.out; rw [if_pos hk0] at h1; omega)
                                clear hk0
                                go_wp2_with fail
                                go_meet
                                exact ⟨Lib.hid rfl, m, rfl, HM2⟩
                              · have e0 : (X.kind == 0) = false := by simpa using hk0
                                have HM2 : Hid (m + 1 = L0 - Fa.left c) := Lib.hid (by have h1 := HLS.out; have h2 := HM.out; rw [if_neg hk0] at h1; omega)
                                have e1 : IntKind.i64.wrap (m + 1) = m + 1 := by rw [IntKind.wrap_i64]; omega
                                clear hk0
                                go_wp2_with fail
                                go_meet
                                exact ⟨Lib.hid rfl, m + 1, rfl, HM2⟩
                            case rest =>
                              obtain ⟨hwc, m2, rfl, HM2⟩ := hcut
                              obtain ⟨we, hwe⟩ : ∃ W, W = wc := ⟨_, rfl⟩
                              have hwc2 : wv = we := (hwe.trans hwc.out).symm
                              rw [hwc2] at IBV SV OV ISV ITV IXV BWV SZV
                              rw [← hwe]
                              clear hwc hwe hwc2 y0 y1 y2
                              have hm2 : -100 ≤ m2 ∧ m2 ≤ 100 := by have h1 := HM2.out; have h2 := HCN.out; have h3 := HLE.out; omega
                              have ls : w.heap.size < we.heap.size := heap_lt ISV.out
                              have lt : w.heap.size + 1 < we.heap.size := heap_lt ITV.out
                              have lu : w.heap.size + 1 + 1 < we.heap.size := heap_lt IBV.out
                              have ly : w7.heap.size < we.heap.size := heap_lt IXV.out
                              have x0 : we.cell? ⟨w.heap.size, 0, none⟩ = some (.int .i64 s.floor.w) := cell_of_heap ISV.out 0 rfl
                              have x1 : we.cell? ⟨w.heap.size, 1, none⟩ = some (.int .i64 s.floor.h) := cell_of_heap ISV.out 1 rfl
                              have x2 : we.cell? ⟨w.heap.size, 2, none⟩ = some (.int .i64 s.floor.d) := cell_of_heap ISV.out 2 rfl
                              have x3 : we.cell? ⟨w.heap.size, 3, none⟩ = some (.slice ka k kc) := cell_of_heap ISV.out 3 rfl
                              have x4 : we.cell? ⟨w.heap.size, 4, none⟩ = some (ov) := cell_of_heap ISV.out 4 rfl
                              have x5 : we.cell? ⟨w.heap.size, 5, none⟩ = some (zv) := cell_of_heap ISV.out 5 rfl
                              have x6 : we.cell? ⟨w.heap.size, 6, none⟩ = some (av) := cell_of_heap ISV.out 6 rfl
                              have x7 : we.cell? ⟨w.heap.size, 7, none⟩ = some (hv) := cell_of_heap ISV.out 7 rfl
                              have x8 : we.cell? ⟨w.heap.size, 8, none⟩ = some (bv) := cell_of_heap ISV.out 8 rfl
                              have t0 : we.cell? ⟨w.heap.size + 1, 0, none⟩ = some (.int .i64 sn.tick) := cell_of_heap ITV.out 0 rfl
                              have t1 : we.cell? ⟨w.heap.size + 1, 1, none⟩ = some (z1) := cell_of_heap ITV.out 1 rfl
                              have t2 : we.cell? ⟨w.heap.size + 1, 2, none⟩ = some (z2) := cell_of_heap ITV.out 2 rfl
                              have t3 : we.cell? ⟨w.heap.size + 1, 3, none⟩ = some (z3) := cell_of_heap ITV.out 3 rfl
                              have t4 : we.cell? ⟨w.heap.size + 1, 4, none⟩ = some (z4) := cell_of_heap ITV.out 4 rfl
                              have t5 : we.cell? ⟨w.heap.size + 1, 5, none⟩ = some (z5) := cell_of_heap ITV.out 5 rfl
                              have u0 : we.cell? ⟨w.heap.size + 1 + 1, 0, none⟩ = some (.int .i64 c.stops) := cell_of_heap IBV.out 0 rfl
                              have u1 : we.cell? ⟨w.heap.size + 1 + 1, 1, none⟩ = some (.int .i64 c.cells) := cell_of_heap IBV.out 1 rfl
                              have u2 : we.cell? ⟨w.heap.size + 1 + 1, 2, none⟩ = some (.int .i64 c.mutes) := cell_of_heap IBV.out 2 rfl
                              have u3 : we.cell? ⟨w.heap.size + 1 + 1, 3, none⟩ = some (.int .i64 c.muteMost) := cell_of_heap IBV.out 3 rfl
                              have u4 : we.cell? ⟨w.heap.size + 1 + 1, 4, none⟩ = some (.int .i64 c.lifts) := cell_of_heap IBV.out 4 rfl
                              have u5 : we.cell? ⟨w.heap.size + 1 + 1, 5, none⟩ = some (.int .i64 c.liftMost) := cell_of_heap IBV.out 5 rfl
                              have u6 : we.cell? ⟨w.heap.size + 1 + 1, 6, none⟩ = some (.int .i64 c.steps) := cell_of_heap IBV.out 6 rfl
                              have y0 : we.cell? ⟨w7.heap.size, 0, none⟩ = some (.int .i64 X.kind) := cell_of_heap IXV.out 0 rfl
                              have y1 : we.cell? ⟨w7.heap.size, 1, none⟩ = some (.int .i64 X.a) := cell_of_heap IXV.out 1 rfl
                              have y2 : we.cell? ⟨w7.heap.size, 2, none⟩ = some (.int .i64 X.n) := cell_of_heap IXV.out 2 rfl
                              have HBW : Hid (∀ W, Below we.heap.size we W → Below w.heap.size w W) := Lib.hid (fun W hW => BWV.out.trans (hW.mono BWV.out.size))
                              have HRI := Lib.hid (fun W (hW : Below we.heap.size we W) => HHB.out W sn z1 z2 z3 z4 z5 (HBW.out W hW) (SV.out.stv.keep hW) HRN.out)
                              have HLI2 := Lib.hid (fun W (hW : Below we.heap.size we W) => HHL.out W sn z1 z2 z3 z4 z5 c (.slice ca k cc) (upto k) (HBW.out W hW) (SV.out.stv.keep hW) HRN.out HLC.out (Sl.of_own (own_belowB OV.out hW) (own_max OV.out)) HNS.out)
                              have HLF2 := Lib.hid (fun W => Left_any c W (light_s HLC.out))
                              unfold budA at HLF2
                              have HGO : Hid (X.kind = 1 ∨ X.kind = 2 → ∀ l2, Fa.Listed s.floor sn c (upto k) l2 → X ∉ l2) := Lib.hid (fun hk l2 h2 => Fa.hap_gone hk HOKX.out.1 (by rw [HSN.out]; exact h2))
                              have HM3 : Hid (m2 + Fa.left c = L0) := Lib.hid (by have h1 := HM2.out; omega)
                              have REL : Hid (∀ W, Below we.heap.size we W → (∃ (i' : Nat) (m' : Int) (sq : Bd.State) (q1 q2 q3 q4 q5 : Value) (bq : Fa.Bud), i' ≤ NP ∧ (Value.int .i64 ((i + 1 : Nat) : Int)) = .int .i64 i' ∧ Value.int .i64 m2 = .int .i64 m' ∧ Hid (m' = L0 - Fa.left bq) ∧ Hid (StV W q1 q2 q3 q4 q5 sq) ∧ Hid (Bd.rightB s.floor (s.shelves.length : Int) (s.robots.length : Int) sq = true) ∧ Hid (lightB bq = true) ∧ Hid (W.heap[w.heap.size]? = some (.cells #[.int .i64 s.floor.w, .int .i64 s.floor.h, .int .i64 s.floor.d, .slice ka k kc, ov, zv, av, hv, bv] 30 (0, 0))) ∧ Hid (W.heap[w.heap.size + 1]? = some (.cells #[.int .i64 sq.tick, q1, q2, q3, q4, q5] 34 (0, 0))) ∧ Hid (W.heap[w.heap.size + 1 + 1]? = some (.cells #[.int .i64 bq.stops, .int .i64 bq.cells, .int .i64 bq.mutes, .int .i64 bq.muteMost, .int .i64 bq.lifts, .int .i64 bq.liftMost, .int .i64 bq.steps] 36 (0, 0))) ∧ Hid (W.ownsRow w2.heap.size 3 1 (.slice ca k cc) k (ints (upto k))) ∧ Hid (Below w.heap.size w W) ∧ Hid (w2.heap.size ≤ W.heap.size))) := Lib.hid (fun W hW =>
                                ⟨i + 1, m2, sn, z1, z2, z3, z4, z5, c, by omega, rfl, rfl, HM2, Lib.hid (SV.out.stv.keep hW), HRN, HLC, Lib.hid (keep_heap ISV.out hW), Lib.hid (keep_heap ITV.out hW), Lib.hid (keep_heap IBV.out hW), Lib.hid (own_belowB OV.out hW), Lib.hid (HBW.out W hW), Lib.hid (Nat.le_trans SZV.out hW.size)⟩)
                              obtain ⟨cl, hcl⟩ : ∃ q, Fa.left c = q := ⟨_, rfl⟩
                              rw [hcl] at HLF2 HM3 HCN
                              have hm4 : IntKind.i64.wrap L0 = L0 := by have h2 := HLE.out; rw [IntKind.wrap_i64]; omega
                              have hm5 : m2 + cl = L0 := HM3.out
                              clear hcl SV OV ISV ITV IBV IXV BWV SZV HRN HM2 HM3 HCN HLS HSN HLC HSP HOKX HL HM HSL HLT HR
                              go_upto_region 37 with fail
                              by_cases hk1 : X.kind = 1
                              · have e1 : (X.kind == 1) = true := by simpa using hk1
                                have HK1 := Lib.hid hk1
                                clear hk1
                                refine wp_region_held_drew (S := fun W' => W'.cell? ⟨w.heap.size, 0, none⟩ = some (.int .i64 s.floor.w) ∧ W'.cell? ⟨w.heap.size, 1, none⟩ = some (.int .i64 s.floor.h) ∧ W'.cell? ⟨w.heap.size, 2, none⟩ = some (.int .i64 s.floor.d) ∧ W'.cell? ⟨w.heap.size, 3, none⟩ = some (.slice ka k kc) ∧ W'.cell? ⟨w.heap.size, 4, none⟩ = some (ov) ∧ W'.cell? ⟨w.heap.size, 5, none⟩ = some (zv) ∧ W'.cell? ⟨w.heap.size, 6, none⟩ = some (av) ∧ W'.cell? ⟨w.heap.size, 7, none⟩ = some (hv) ∧ W'.cell? ⟨w.heap.size, 8, none⟩ = some (bv) ∧ W'.cell? ⟨w.heap.size + 1, 0, none⟩ = some (.int .i64 sn.tick) ∧ W'.cell? ⟨w.heap.size + 1, 1, none⟩ = some (z1) ∧ W'.cell? ⟨w.heap.size + 1, 2, none⟩ = some (z2) ∧ W'.cell? ⟨w.heap.size + 1, 3, none⟩ = some (z3) ∧ W'.cell? ⟨w.heap.size + 1, 4, none⟩ = some (z4) ∧ W'.cell? ⟨w.heap.size + 1, 5, none⟩ = some (z5) ∧ W'.cell? ⟨w.heap.size + 1 + 1, 0, none⟩ = some (.int .i64 c.stops) ∧ W'.cell? ⟨w.heap.size + 1 + 1, 1, none⟩ = some (.int .i64 c.cells) ∧ W'.cell? ⟨w.heap.size + 1 + 1, 2, none⟩ = some (.int .i64 c.mutes) ∧ W'.cell? ⟨w.heap.size + 1 + 1, 3, none⟩ = some (.int .i64 c.muteMost) ∧ W'.cell? ⟨w.heap.size + 1 + 1, 4, none⟩ = some (.int .i64 c.lifts) ∧ W'.cell? ⟨w.heap.size + 1 + 1, 5, none⟩ = some (.int .i64 c.liftMost) ∧ W'.cell? ⟨w.heap.size + 1 + 1, 6, none⟩ = some (.int .i64 c.steps) ∧ W'.cell? ⟨w7.heap.size, 0, none⟩ = some (.int .i64 X.kind) ∧ W'.cell? ⟨w7.heap.size, 1, none⟩ = some (.int .i64 X.a) ∧ W'.cell? ⟨w7.heap.size, 2, none⟩ = some (.int .i64 X.n)) (by kernel_rfl) ⟨x0, x1, x2, x3, x4, x5, x6, x7, x8, t0, t1, t2, t3, t4, t5, u0, u1, u2, u3, u4, u5, u6, y0, y1, y2⟩ (fun hHeld => ?_)
                                obtain ⟨wx, hwx⟩ : ∃ W, W = we.drew := ⟨_, rfl⟩
                                rw [← hwx] at hHeld ⊢
                                have BX0 : Hid (Below we.heap.size we wx) := Lib.hid (by subst hwx; exact ⟨rfl, rfl, rfl, Nat.le_refl _, fun _ _ => rfl⟩)
                                clear hwx
                                refine wpAnyH_take (i := 0) (oi := _) (v := ?_) rfl (by kernel_rfl) (by kernel_rfl) (by kernel_rfl) (fun _ _ _ h => h) (Or.inl ⟨by rfl, ?_⟩) (by assumption) ?_
                                rotate_left
                                · intro w hSw; obtain ⟨k0, k1, k2, k3, k4, k5, k6, k7, k8, k9, k10, k11, k12, k13, k14, k15, k16, k17, k18, k19, k20, k21, k22, k23, k24⟩ := hSw; go_simp; all_goals (with_reducible rfl)
                                try simp only [Act.put, List.getElem_toArray, List.getElem_cons_zero, List.getElem_cons_succ, List.setIfInBounds_toArray, List.set_cons_zero, List.set_cons_succ]
                                refine wpAnyH_take (i := 1) (oi := _) (v := ?_) rfl (by kernel_rfl) (by kernel_rfl) (by kernel_rfl) (fun _ _ _ h => h) (Or.inl ⟨by rfl, ?_⟩) (by assumption) ?_
                                rotate_left
                                · intro w hSw; obtain ⟨k0, k1, k2, k3, k4, k5, k6, k7, k8, k9, k10, k11, k12, k13, k14, k15, k16, k17, k18, k19, k20, k21, k22, k23, k24⟩ := hSw; go_simp; all_goals (with_reducible rfl)
                                try simp only [Act.put, List.getElem_toArray, List.getElem_cons_zero, List.getElem_cons_succ, List.setIfInBounds_toArray, List.set_cons_zero, List.set_cons_succ]
                                refine wpAnyH_ready (rs := [2]) (by kernel_rfl) (by simp) ?_
                                refine AllReadyH.cons (o := _) rfl (fun K hK => ?_) AllReadyH.nil
                                go_simp
                                go_at_call 19; with_reducible refine (HRI.out _ BX0.out).mono ?_; rintro e w5 ⟨rfl, b5⟩
                                have BX1 := Lib.hid (BX0.out.trans (b5.mono BX0.out.size))
                                clear b5
                                go_wp2_with fail
                                refine hK.out _ _ ?_ (fun hHeld => ?_)
                                · exact ⟨(BX1.out.cell (p := ⟨w.heap.size, 0, none⟩) ls).trans x0, (BX1.out.cell (p := ⟨w.heap.size, 1, none⟩) ls).trans x1, (BX1.out.cell (p := ⟨w.heap.size, 2, none⟩) ls).trans x2, (BX1.out.cell (p := ⟨w.heap.size, 3, none⟩) ls).trans x3, (BX1.out.cell (p := ⟨w.heap.size, 4, none⟩) ls).trans x4, (BX1.out.cell (p := ⟨w.heap.size, 5, none⟩) ls).trans x5, (BX1.out.cell (p := ⟨w.heap.size, 6, none⟩) ls).trans x6, (BX1.out.cell (p := ⟨w.heap.size, 7, none⟩) ls).trans x7, (BX1.out.cell (p := ⟨w.heap.size, 8, none⟩) ls).trans x8, (BX1.out.cell (p := ⟨w.heap.size + 1, 0, none⟩) lt).trans t0, (BX1.out.cell (p := ⟨w.heap.size + 1, 1, none⟩) lt).trans t1, (BX1.out.cell (p := ⟨w.heap.size + 1, 2, none⟩) lt).trans t2, (BX1.out.cell (p := ⟨w.heap.size + 1, 3, none⟩) lt).trans t3, (BX1.out.cell (p := ⟨w.heap.size + 1, 4, none⟩) lt).trans t4, (BX1.out.cell (p := ⟨w.heap.size + 1, 5, none⟩) lt).trans t5, (BX1.out.cell (p := ⟨w.heap.size + 1 + 1, 0, none⟩) lu).trans u0, (BX1.out.cell (p := ⟨w.heap.size + 1 + 1, 1, none⟩) lu).trans u1, (BX1.out.cell (p := ⟨w.heap.size + 1 + 1, 2, none⟩) lu).trans u2, (BX1.out.cell (p := ⟨w.heap.size + 1 + 1, 3, none⟩) lu).trans u3, (BX1.out.cell (p := ⟨w.heap.size + 1 + 1, 4, none⟩) lu).trans u4, (BX1.out.cell (p := ⟨w.heap.size + 1 + 1, 5, none⟩) lu).trans u5, (BX1.out.cell (p := ⟨w.heap.size + 1 + 1, 6, none⟩) lu).trans u6, (BX1.out.cell (p := ⟨w7.heap.size, 0, none⟩) ly).trans y0, (BX1.out.cell (p := ⟨w7.heap.size, 1, none⟩) ly).trans y1, (BX1.out.cell (p := ⟨w7.heap.size, 2, none⟩) ly).trans y2⟩
                                clear hK K
                                try simp only [Act.put, List.getElem_toArray, List.getElem_cons_zero, List.getElem_cons_succ, List.setIfInBounds_toArray, List.set_cons_zero, List.set_cons_succ]
                                refine wpAnyH_take (i := 3) (oi := _) (v := ?_) rfl (by kernel_rfl) (by kernel_rfl) (by kernel_rfl) (fun _ _ _ h => h) (Or.inl ⟨by rfl, ?_⟩) (by assumption) ?_
                                rotate_left
                                · intro w hSw; obtain ⟨k0, k1, k2, k3, k4, k5, k6, k7, k8, k9, k10, k11, k12, k13, k14, k15, k16, k17, k18, k19, k20, k21, k22, k23, k24⟩ := hSw; go_simp; all_goals (with_reducible rfl)
                                try simp only [Act.put, List.getElem_toArray, List.getElem_cons_zero, List.getElem_cons_succ, List.setIfInBounds_toArray, List.set_cons_zero, List.set_cons_succ]
                                refine wpAnyH_take (i := 4) (oi := _) (v := ?_) rfl (by kernel_rfl) (by kernel_rfl) (by kernel_rfl) (fun _ _ _ h => h) (Or.inl ⟨by rfl, ?_⟩) (by assumption) ?_
                                rotate_left
                                · intro w hSw; obtain ⟨k0, k1, k2, k3, k4, k5, k6, k7, k8, k9, k10, k11, k12, k13, k14, k15, k16, k17, k18, k19, k20, k21, k22, k23, k24⟩ := hSw; go_simp; all_goals (with_reducible rfl)
                                try simp only [Act.put, List.getElem_toArray, List.getElem_cons_zero, List.getElem_cons_succ, List.setIfInBounds_toArray, List.set_cons_zero, List.set_cons_succ]
                                refine wpAnyH_take (i := 5) (oi := _) (v := ?_) rfl (by kernel_rfl) (by kernel_rfl) (by kernel_rfl) (fun _ _ _ h => h) (Or.inl ⟨by rfl, ?_⟩) (by assumption) ?_
                                rotate_left
                                · intro w hSw; obtain ⟨k0, k1, k2, k3, k4, k5, k6, k7, k8, k9, k10, k11, k12, k13, k14, k15, k16, k17, k18, k19, k20, k21, k22, k23, k24⟩ := hSw; go_simp; all_goals (with_reducible rfl)
                                try simp only [Act.put, List.getElem_toArray, List.getElem_cons_zero, List.getElem_cons_succ, List.setIfInBounds_toArray, List.set_cons_zero, List.set_cons_succ]
                                refine wpAnyH_take (i := 6) (oi := _) (v := ?_) rfl (by kernel_rfl) (by kernel_rfl) (by kernel_rfl) (fun _ _ _ h => h) (Or.inl ⟨by rfl, ?_⟩) (by assumption) ?_
                                rotate_left
                                · intro w hSw; obtain ⟨k0, k1, k2, k3, k4, k5, k6, k7, k8, k9, k10, k11, k12, k13, k14, k15, k16, k17, k18, k19, k20, k21, k22, k23, k24⟩ := hSw; go_simp; all_goals (with_reducible rfl)
                                try simp only [Act.put, List.getElem_toArray, List.getElem_cons_zero, List.getElem_cons_succ, List.setIfInBounds_toArray, List.set_cons_zero, List.set_cons_succ]
                                refine wpAnyH_take (i := 7) (oi := _) (v := ?_) rfl (by kernel_rfl) (by kernel_rfl) (by kernel_rfl) (fun _ _ _ h => h) (Or.inl ⟨by rfl, ?_⟩) (by assumption) ?_
                                rotate_left
                                · intro w hSw; obtain ⟨k0, k1, k2, k3, k4, k5, k6, k7, k8, k9, k10, k11, k12, k13, k14, k15, k16, k17, k18, k19, k20, k21, k22, k23, k24⟩ := hSw; go_simp; all_goals (with_reducible rfl)
                                try simp only [Act.put, List.getElem_toArray, List.getElem_cons_zero, List.getElem_cons_succ, List.setIfInBounds_toArray, List.set_cons_zero, List.set_cons_succ]
                                refine wpAnyH_take (i := 8) (oi := _) (v := ?_) rfl (by kernel_rfl) (by kernel_rfl) (by kernel_rfl) (fun _ _ _ h => h) (Or.inl ⟨by rfl, ?_⟩) (by assumption) ?_
                                rotate_left
                                · intro w hSw; obtain ⟨k0, k1, k2, k3, k4, k5, k6, k7, k8, k9, k10, k11, k12, k13, k14, k15, k16, k17, k18, k19, k20, k21, k22, k23, k24⟩ := hSw; go_simp; all_goals (with_reducible rfl)
                                try simp only [Act.put, List.getElem_toArray, List.getElem_cons_zero, List.getElem_cons_succ, List.setIfInBounds_toArray, List.set_cons_zero, List.set_cons_succ]
                                refine wpAnyH_take (i := 9) (oi := _) (v := undef) rfl (by kernel_rfl) (by kernel_rfl) (by kernel_rfl) (fun _ _ _ h => h) (Or.inr ⟨by rfl, rfl⟩) (by assumption) ?_
                                try simp only [Act.put, List.getElem_toArray, List.getElem_cons_zero, List.getElem_cons_succ, List.setIfInBounds_toArray, List.set_cons_zero, List.set_cons_succ]
                                refine wpAnyH_take (i := 10) (oi := _) (v := undef) rfl (by kernel_rfl) (by kernel_rfl) (by kernel_rfl) (fun _ _ _ h => h) (Or.inr ⟨by rfl, rfl⟩) (by assumption) ?_
                                try simp only [Act.put, List.getElem_toArray, List.getElem_cons_zero, List.getElem_cons_succ, List.setIfInBounds_toArray, List.set_cons_zero, List.set_cons_succ]
                                refine wpAnyH_take (i := 11) (oi := _) (v := undef) rfl (by kernel_rfl) (by kernel_rfl) (by kernel_rfl) (fun _ _ _ h => h) (Or.inr ⟨by rfl, rfl⟩) (by assumption) ?_
                                try simp only [Act.put, List.getElem_toArray, List.getElem_cons_zero, List.getElem_cons_succ, List.setIfInBounds_toArray, List.set_cons_zero, List.set_cons_succ]
                                refine wpAnyH_take (i := 12) (oi := _) (v := ?_) rfl (by kernel_rfl) (by kernel_rfl) (by kernel_rfl) (fun _ _ _ h => h) (Or.inl ⟨by rfl, ?_⟩) (by assumption) ?_
                                rotate_left
                                · intro w hSw; obtain ⟨k0, k1, k2, k3, k4, k5, k6, k7, k8, k9, k10, k11, k12, k13, k14, k15, k16, k17, k18, k19, k20, k21, k22, k23, k24⟩ := hSw; go_simp; all_goals (with_reducible rfl)
                                try simp only [Act.put, List.getElem_toArray, List.getElem_cons_zero, List.getElem_cons_succ, List.setIfInBounds_toArray, List.set_cons_zero, List.set_cons_succ]
                                refine wpAnyH_take (i := 13) (oi := _) (v := ?_) rfl (by kernel_rfl) (by kernel_rfl) (by kernel_rfl) (fun _ _ _ h => h) (Or.inl ⟨by rfl, ?_⟩) (by assumption) ?_
                                rotate_left
                                · intro w hSw; obtain ⟨k0, k1, k2, k3, k4, k5, k6, k7, k8, k9, k10, k11, k12, k13, k14, k15, k16, k17, k18, k19, k20, k21, k22, k23, k24⟩ := hSw; go_simp; all_goals (with_reducible rfl)
                                try simp only [Act.put, List.getElem_toArray, List.getElem_cons_zero, List.getElem_cons_succ, List.setIfInBounds_toArray, List.set_cons_zero, List.set_cons_succ]
                                refine wpAnyH_take (i := 14) (oi := _) (v := ?_) rfl (by kernel_rfl) (by kernel_rfl) (by kernel_rfl) (fun _ _ _ h => h) (Or.inl ⟨by rfl, ?_⟩) (by assumption) ?_
                                rotate_left
                                · intro w hSw; obtain ⟨k0, k1, k2, k3, k4, k5, k6, k7, k8, k9, k10, k11, k12, k13, k14, k15, k16, k17, k18, k19, k20, k21, k22, k23, k24⟩ := hSw; go_simp; all_goals (with_reducible rfl)
                                try simp only [Act.put, List.getElem_toArray, List.getElem_cons_zero, List.getElem_cons_succ, List.setIfInBounds_toArray, List.set_cons_zero, List.set_cons_succ]
                                refine wpAnyH_take (i := 15) (oi := _) (v := ?_) rfl (by kernel_rfl) (by kernel_rfl) (by kernel_rfl) (fun _ _ _ h => h) (Or.inl ⟨by rfl, ?_⟩) (by assumption) ?_
                                rotate_left
                                · intro w hSw; obtain ⟨k0, k1, k2, k3, k4, k5, k6, k7, k8, k9, k10, k11, k12, k13, k14, k15, k16, k17, k18, k19, k20, k21, k22, k23, k24⟩ := hSw; go_simp; all_goals (with_reducible rfl)
                                try simp only [Act.put, List.getElem_toArray, List.getElem_cons_zero, List.getElem_cons_succ, List.setIfInBounds_toArray, List.set_cons_zero, List.set_cons_succ]
                                refine wpAnyH_take (i := 16) (oi := _) (v := ?_) rfl (by kernel_rfl) (by kernel_rfl) (by kernel_rfl) (fun _ _ _ h => h) (Or.inl ⟨by rfl, ?_⟩) (by assumption) ?_
                                rotate_left
                                · intro w hSw; obtain ⟨k0, k1, k2, k3, k4, k5, k6, k7, k8, k9, k10, k11, k12, k13, k14, k15, k16, k17, k18, k19, k20, k21, k22, k23, k24⟩ := hSw; go_simp; all_goals (with_reducible rfl)
                                try simp only [Act.put, List.getElem_toArray, List.getElem_cons_zero, List.getElem_cons_succ, List.setIfInBounds_toArray, List.set_cons_zero, List.set_cons_succ]
                                refine wpAnyH_take (i := 17) (oi := _) (v := ?_) rfl (by kernel_rfl) (by kernel_rfl) (by kernel_rfl) (fun _ _ _ h => h) (Or.inl ⟨by rfl, ?_⟩) (by assumption) ?_
                                rotate_left
                                · intro w hSw; obtain ⟨k0, k1, k2, k3, k4, k5, k6, k7, k8, k9, k10, k11, k12, k13, k14, k15, k16, k17, k18, k19, k20, k21, k22, k23, k24⟩ := hSw; go_simp; all_goals (with_reducible rfl)
                                try simp only [Act.put, List.getElem_toArray, List.getElem_cons_zero, List.getElem_cons_succ, List.setIfInBounds_toArray, List.set_cons_zero, List.set_cons_succ]
                                refine wpAnyH_take (i := 19) (oi := _) (v := ?_) rfl (by kernel_rfl) (by kernel_rfl) (by kernel_rfl) (fun _ _ _ h => h) (Or.inl ⟨by rfl, ?_⟩) (by assumption) ?_
                                rotate_left
                                · intro w hSw; obtain ⟨k0, k1, k2, k3, k4, k5, k6, k7, k8, k9, k10, k11, k12, k13, k14, k15, k16, k17, k18, k19, k20, k21, k22, k23, k24⟩ := hSw; go_simp; all_goals (with_reducible rfl)
                                try simp only [Act.put, List.getElem_toArray, List.getElem_cons_zero, List.getElem_cons_succ, List.setIfInBounds_toArray, List.set_cons_zero, List.set_cons_succ]
                                refine wpAnyH_ready (rs := [18]) (by kernel_rfl) (by simp) ?_
                                refine AllReadyH.cons (o := _) rfl (fun K hK => ?_) AllReadyH.nil
                                go_simp
                                go_at_call 9; with_reducible refine (HLI2.out _ BX1.out).mono ?_; rintro e w6 ⟨v2, l2, rfl, hv2, hl2, b6⟩
                                have HV2 := Lib.hid hv2
                                have HG2 := Lib.hid (HGO.out (.inl HK1.out) l2 hl2)
                                have BX2 := Lib.hid (BX1.out.trans (b6.mono BX1.out.size))
                                have HHA2 := Lib.hid (has_any l2 X v2 w6 hv2)
                                rw [decide_eq_false HG2.out] at HHA2
                                unfold fltV at HHA2
                                clear b6 hv2 hl2
                                go_wp2_with fail
                                refine hK.out _ _ ?_ (fun hHeld => ?_)
                                · exact ⟨(BX2.out.cell (p := ⟨w.heap.size, 0, none⟩) ls).trans x0, (BX2.out.cell (p := ⟨w.heap.size, 1, none⟩) ls).trans x1, (BX2.out.cell (p := ⟨w.heap.size, 2, none⟩) ls).trans x2, (BX2.out.cell (p := ⟨w.heap.size, 3, none⟩) ls).trans x3, (BX2.out.cell (p := ⟨w.heap.size, 4, none⟩) ls).trans x4, (BX2.out.cell (p := ⟨w.heap.size, 5, none⟩) ls).trans x5, (BX2.out.cell (p := ⟨w.heap.size, 6, none⟩) ls).trans x6, (BX2.out.cell (p := ⟨w.heap.size, 7, none⟩) ls).trans x7, (BX2.out.cell (p := ⟨w.heap.size, 8, none⟩) ls).trans x8, (BX2.out.cell (p := ⟨w.heap.size + 1, 0, none⟩) lt).trans t0, (BX2.out.cell (p := ⟨w.heap.size + 1, 1, none⟩) lt).trans t1, (BX2.out.cell (p := ⟨w.heap.size + 1, 2, none⟩) lt).trans t2, (BX2.out.cell (p := ⟨w.heap.size + 1, 3, none⟩) lt).trans t3, (BX2.out.cell (p := ⟨w.heap.size + 1, 4, none⟩) lt).trans t4, (BX2.out.cell (p := ⟨w.heap.size + 1, 5, none⟩) lt).trans t5, (BX2.out.cell (p := ⟨w.heap.size + 1 + 1, 0, none⟩) lu).trans u0, (BX2.out.cell (p := ⟨w.heap.size + 1 + 1, 1, none⟩) lu).trans u1, (BX2.out.cell (p := ⟨w.heap.size + 1 + 1, 2, none⟩) lu).trans u2, (BX2.out.cell (p := ⟨w.heap.size + 1 + 1, 3, none⟩) lu).trans u3, (BX2.out.cell (p := ⟨w.heap.size + 1 + 1, 4, none⟩) lu).trans u4, (BX2.out.cell (p := ⟨w.heap.size + 1 + 1, 5, none⟩) lu).trans u5, (BX2.out.cell (p := ⟨w.heap.size + 1 + 1, 6, none⟩) lu).trans u6, (BX2.out.cell (p := ⟨w7.heap.size, 0, none⟩) ly).trans y0, (BX2.out.cell (p := ⟨w7.heap.size, 1, none⟩) ly).trans y1, (BX2.out.cell (p := ⟨w7.heap.size, 2, none⟩) ly).trans y2⟩
                                clear hK K
                                try simp only [Act.put, List.getElem_toArray, List.getElem_cons_zero, List.getElem_cons_succ, List.setIfInBounds_toArray, List.set_cons_zero, List.set_cons_succ]
                                refine wpAnyH_ready (rs := [20]) (by kernel_rfl) (by simp) ?_
                                refine AllReadyH.cons (o := _) rfl (fun K hK => ?_) AllReadyH.nil
                                go_simp
                                go_at_call 16; with_reducible refine HHA2.out.mono ?_; rintro e w8b ⟨rfl, b8⟩
                                have BX3 := Lib.hid (BX2.out.trans (b8.mono BX2.out.size))
                                clear b8
                                go_wp2_with fail
                                refine hK.out _ _ ?_ (fun hHeld => ?_)
                                · exact ⟨(BX3.out.cell (p := ⟨w.heap.size, 0, none⟩) ls).trans x0, (BX3.out.cell (p := ⟨w.heap.size, 1, none⟩) ls).trans x1, (BX3.out.cell (p := ⟨w.heap.size, 2, none⟩) ls).trans x2, (BX3.out.cell (p := ⟨w.heap.size, 3, none⟩) ls).trans x3, (BX3.out.cell (p := ⟨w.heap.size, 4, none⟩) ls).trans x4, (BX3.out.cell (p := ⟨w.heap.size, 5, none⟩) ls).trans x5, (BX3.out.cell (p := ⟨w.heap.size, 6, none⟩) ls).trans x6, (BX3.out.cell (p := ⟨w.heap.size, 7, none⟩) ls).trans x7, (BX3.out.cell (p := ⟨w.heap.size, 8, none⟩) ls).trans x8, (BX3.out.cell (p := ⟨w.heap.size + 1, 0, none⟩) lt).trans t0, (BX3.out.cell (p := ⟨w.heap.size + 1, 1, none⟩) lt).trans t1, (BX3.out.cell (p := ⟨w.heap.size + 1, 2, none⟩) lt).trans t2, (BX3.out.cell (p := ⟨w.heap.size + 1, 3, none⟩) lt).trans t3, (BX3.out.cell (p := ⟨w.heap.size + 1, 4, none⟩) lt).trans t4, (BX3.out.cell (p := ⟨w.heap.size + 1, 5, none⟩) lt).trans t5, (BX3.out.cell (p := ⟨w.heap.size + 1 + 1, 0, none⟩) lu).trans u0, (BX3.out.cell (p := ⟨w.heap.size + 1 + 1, 1, none⟩) lu).trans u1, (BX3.out.cell (p := ⟨w.heap.size + 1 + 1, 2, none⟩) lu).trans u2, (BX3.out.cell (p := ⟨w.heap.size + 1 + 1, 3, none⟩) lu).trans u3, (BX3.out.cell (p := ⟨w.heap.size + 1 + 1, 4, none⟩) lu).trans u4, (BX3.out.cell (p := ⟨w.heap.size + 1 + 1, 5, none⟩) lu).trans u5, (BX3.out.cell (p := ⟨w.heap.size + 1 + 1, 6, none⟩) lu).trans u6, (BX3.out.cell (p := ⟨w7.heap.size, 0, none⟩) ly).trans y0, (BX3.out.cell (p := ⟨w7.heap.size, 1, none⟩) ly).trans y1, (BX3.out.cell (p := ⟨w7.heap.size, 2, none⟩) ly).trans y2⟩
                                clear hK K
                                try simp only [Act.put, List.getElem_toArray, List.getElem_cons_zero, List.getElem_cons_succ, List.setIfInBounds_toArray, List.set_cons_zero, List.set_cons_succ]
                                refine wpAnyH_take (i := 21) (oi := _) (v := ?_) rfl (by kernel_rfl) (by kernel_rfl) (by kernel_rfl) (fun _ _ _ h => h) (Or.inl ⟨by rfl, ?_⟩) (by assumption) ?_
                                rotate_left
                                · intro w hSw; obtain ⟨k0, k1, k2, k3, k4, k5, k6, k7, k8, k9, k10, k11, k12, k13, k14, k15, k16, k17, k18, k19, k20, k21, k22, k23, k24⟩ := hSw; go_simp; all_goals (with_reducible rfl)
                                try simp only [Act.put, List.getElem_toArray, List.getElem_cons_zero, List.getElem_cons_succ, List.setIfInBounds_toArray, List.set_cons_zero, List.set_cons_succ]
                                refine wpAnyH_take (i := 22) (oi := _) (v := ?_) rfl (by kernel_rfl) (by kernel_rfl) (by kernel_rfl) (fun _ _ _ h => h) (Or.inl ⟨by rfl, ?_⟩) (by assumption) ?_
                                rotate_left
                                · intro w hSw; obtain ⟨k0, k1, k2, k3, k4, k5, k6, k7, k8, k9, k10, k11, k12, k13, k14, k15, k16, k17, k18, k19, k20, k21, k22, k23, k24⟩ := hSw; go_simp; all_goals (with_reducible rfl)
                                try simp only [Act.put, List.getElem_toArray, List.getElem_cons_zero, List.getElem_cons_succ, List.setIfInBounds_toArray, List.set_cons_zero, List.set_cons_succ]
                                refine wpAnyH_take (i := 23) (oi := _) (v := ?_) rfl (by kernel_rfl) (by kernel_rfl) (by kernel_rfl) (fun _ _ _ h => h) (Or.inl ⟨by rfl, ?_⟩) (by assumption) ?_
                                rotate_left
                                · intro w hSw; obtain ⟨k0, k1, k2, k3, k4, k5, k6, k7, k8, k9, k10, k11, k12, k13, k14, k15, k16, k17, k18, k19, k20, k21, k22, k23, k24⟩ := hSw; go_simp; all_goals (with_reducible rfl)
                                try simp only [Act.put, List.getElem_toArray, List.getElem_cons_zero, List.getElem_cons_succ, List.setIfInBounds_toArray, List.set_cons_zero, List.set_cons_succ]
                                refine wpAnyH_take (i := 24) (oi := _) (v := ?_) rfl (by kernel_rfl) (by kernel_rfl) (by kernel_rfl) (fun _ _ _ h => h) (Or.inl ⟨by rfl, ?_⟩) (by assumption) ?_
                                rotate_left
                                · intro w hSw; obtain ⟨k0, k1, k2, k3, k4, k5, k6, k7, k8, k9, k10, k11, k12, k13, k14, k15, k16, k17, k18, k19, k20, k21, k22, k23, k24⟩ := hSw; go_simp; all_goals (with_reducible rfl)
                                try simp only [Act.put, List.getElem_toArray, List.getElem_cons_zero, List.getElem_cons_succ, List.setIfInBounds_toArray, List.set_cons_zero, List.set_cons_succ]
                                refine wpAnyH_take (i := 25) (oi := _) (v := ?_) rfl (by kernel_rfl) (by kernel_rfl) (by kernel_rfl) (fun _ _ _ h => h) (Or.inl ⟨by rfl, ?_⟩) (by assumption) ?_
                                rotate_left
                                · intro w hSw; obtain ⟨k0, k1, k2, k3, k4, k5, k6, k7, k8, k9, k10, k11, k12, k13, k14, k15, k16, k17, k18, k19, k20, k21, k22, k23, k24⟩ := hSw; go_simp; all_goals (with_reducible rfl)
                                try simp only [Act.put, List.getElem_toArray, List.getElem_cons_zero, List.getElem_cons_succ, List.setIfInBounds_toArray, List.set_cons_zero, List.set_cons_succ]
                                refine wpAnyH_take (i := 28) (oi := _) (v := ?_) rfl (by kernel_rfl) (by kernel_rfl) (by kernel_rfl) (fun _ _ _ h => h) (Or.inl ⟨by rfl, ?_⟩) (by assumption) ?_
                                rotate_left
                                · intro w hSw; obtain ⟨k0, k1, k2, k3, k4, k5, k6, k7, k8, k9, k10, k11, k12, k13, k14, k15, k16, k17, k18, k19, k20, k21, k22, k23, k24⟩ := hSw; go_simp; all_goals (with_reducible rfl)
                                try simp only [Act.put, List.getElem_toArray, List.getElem_cons_zero, List.getElem_cons_succ, List.setIfInBounds_toArray, List.set_cons_zero, List.set_cons_succ]
                                refine wpAnyH_ready (rs := [26]) (by kernel_rfl) (by simp) ?_
                                refine AllReadyH.cons (o := _) rfl (fun K hK => ?_) AllReadyH.nil
                                go_simp
                                go_at_call 13; with_reducible refine (HLF2.out _).mono ?_; rintro e w9b ⟨rfl, b9⟩
                                have BX9 := Lib.hid (BX3.out.trans (b9.mono BX3.out.size))
                                clear b9
                                go_wp2_with fail
                                refine hK.out _ _ ?_ (fun hHeld => ?_)
                                · exact ⟨(BX9.out.cell (p := ⟨w.heap.size, 0, none⟩) ls).trans x0, (BX9.out.cell (p := ⟨w.heap.size, 1, none⟩) ls).trans x1, (BX9.out.cell (p := ⟨w.heap.size, 2, none⟩) ls).trans x2, (BX9.out.cell (p := ⟨w.heap.size, 3, none⟩) ls).trans x3, (BX9.out.cell (p := ⟨w.heap.size, 4, none⟩) ls).trans x4, (BX9.out.cell (p := ⟨w.heap.size, 5, none⟩) ls).trans x5, (BX9.out.cell (p := ⟨w.heap.size, 6, none⟩) ls).trans x6, (BX9.out.cell (p := ⟨w.heap.size, 7, none⟩) ls).trans x7, (BX9.out.cell (p := ⟨w.heap.size, 8, none⟩) ls).trans x8, (BX9.out.cell (p := ⟨w.heap.size + 1, 0, none⟩) lt).trans t0, (BX9.out.cell (p := ⟨w.heap.size + 1, 1, none⟩) lt).trans t1, (BX9.out.cell (p := ⟨w.heap.size + 1, 2, none⟩) lt).trans t2, (BX9.out.cell (p := ⟨w.heap.size + 1, 3, none⟩) lt).trans t3, (BX9.out.cell (p := ⟨w.heap.size + 1, 4, none⟩) lt).trans t4, (BX9.out.cell (p := ⟨w.heap.size + 1, 5, none⟩) lt).trans t5, (BX9.out.cell (p := ⟨w.heap.size + 1 + 1, 0, none⟩) lu).trans u0, (BX9.out.cell (p := ⟨w.heap.size + 1 + 1, 1, none⟩) lu).trans u1, (BX9.out.cell (p := ⟨w.heap.size + 1 + 1, 2, none⟩) lu).trans u2, (BX9.out.cell (p := ⟨w.heap.size + 1 + 1, 3, none⟩) lu).trans u3, (BX9.out.cell (p := ⟨w.heap.size + 1 + 1, 4, none⟩) lu).trans u4, (BX9.out.cell (p := ⟨w.heap.size + 1 + 1, 5, none⟩) lu).trans u5, (BX9.out.cell (p := ⟨w.heap.size + 1 + 1, 6, none⟩) lu).trans u6, (BX9.out.cell (p := ⟨w7.heap.size, 0, none⟩) ly).trans y0, (BX9.out.cell (p := ⟨w7.heap.size, 1, none⟩) ly).trans y1, (BX9.out.cell (p := ⟨w7.heap.size, 2, none⟩) ly).trans y2⟩
                                clear hK K
                                try simp only [Act.put, List.getElem_toArray, List.getElem_cons_zero, List.getElem_cons_succ, List.setIfInBounds_toArray, List.set_cons_zero, List.set_cons_succ]
                                refine wpAnyH_take (i := 27) (oi := _) (v := ?_) rfl (by kernel_rfl) (by kernel_rfl) (by kernel_rfl) (fun _ _ _ h => h) (Or.inl ⟨by rfl, ?_⟩) (by assumption) ?_
                                rotate_left
                                · intro w hSw; obtain ⟨k0, k1, k2, k3, k4, k5, k6, k7, k8, k9, k10, k11, k12, k13, k14, k15, k16, k17, k18, k19, k20, k21, k22, k23, k24⟩ := hSw; go_simp; all_goals (with_reducible rfl)
                                try simp only [Act.put, List.getElem_toArray, List.getElem_cons_zero, List.getElem_cons_succ, List.setIfInBounds_toArray, List.set_cons_zero, List.set_cons_succ]
                                refine wpAnyH_take (i := 29) (oi := _) (v := ?_) rfl (by kernel_rfl) (by kernel_rfl) (by kernel_rfl) (fun _ _ _ h => h) (Or.inl ⟨by rfl, ?_⟩) (by assumption) ?_
                                rotate_left
                                · intro w hSw; obtain ⟨k0, k1, k2, k3, k4, k5, k6, k7, k8, k9, k10, k11, k12, k13, k14, k15, k16, k17, k18, k19, k20, k21, k22, k23, k24⟩ := hSw; go_simp; all_goals (with_reducible rfl)
                                try simp only [Act.put, List.getElem_toArray, List.getElem_cons_zero, List.getElem_cons_succ, List.setIfInBounds_toArray, List.set_cons_zero, List.set_cons_succ]
                                refine wpAnyH_take (i := 30) (oi := _) (v := ?_) rfl (by kernel_rfl) (by kernel_rfl) (by kernel_rfl) (fun _ _ _ h => h) (Or.inl ⟨by rfl, ?_⟩) (by assumption) ?_
                                rotate_left
                                · intro w hSw; obtain ⟨k0, k1, k2, k3, k4, k5, k6, k7, k8, k9, k10, k11, k12, k13, k14, k15, k16, k17, k18, k19, k20, k21, k22, k23, k24⟩ := hSw; go_simp; all_goals (with_reducible rfl)
                                try simp only [Act.put, List.getElem_toArray, List.getElem_cons_zero, List.getElem_cons_succ, List.setIfInBounds_toArray, List.set_cons_zero, List.set_cons_succ]
                                refine wpAnyH_done (by kernel_rfl) ?_ _
                                go_wp2_with fail
                                go_roundw
                                case rel =>
                                  obtain ⟨i', m', sq', q1, q2, q3, q4, q5, bq', r1, r2, r3, r4, r5, r6, r7, r8, r9, ra, rb, rc, rd⟩ := REL.out _ BX9.out
                                  exact ⟨i', m', sq', q1, q2, q3, q4, q5, bq', r1, by rw [← r2]; go_num, r3, r4, r5, r6, r7, r8, r9, ra, rb, rc, rd⟩
                                case measure => simp [intOf]; omega
                              · have e1 : (X.kind == 1) = false := by simpa using hk1
                                by_cases hk2 : X.kind = 2
                                · have e2 : (X.kind == 2) = true := by simpa using hk2
                                  have HK1 := Lib.hid hk2
                                  clear hk1 hk2
                                  refine wp_region_held_drew (S := fun W' => W'.cell? ⟨w.heap.size, 0, none⟩ = some (.int .i64 s.floor.w) ∧ W'.cell? ⟨w.heap.size, 1, none⟩ = some (.int .i64 s.floor.h) ∧ W'.cell? ⟨w.heap.size, 2, none⟩ = some (.int .i64 s.floor.d) ∧ W'.cell? ⟨w.heap.size, 3, none⟩ = some (.slice ka k kc) ∧ W'.cell? ⟨w.heap.size, 4, none⟩ = some (ov) ∧ W'.cell? ⟨w.heap.size, 5, none⟩ = some (zv) ∧ W'.cell? ⟨w.heap.size, 6, none⟩ = some (av) ∧ W'.cell? ⟨w.heap.size, 7, none⟩ = some (hv) ∧ W'.cell? ⟨w.heap.size, 8, none⟩ = some (bv) ∧ W'.cell? ⟨w.heap.size + 1, 0, none⟩ = some (.int .i64 sn.tick) ∧ W'.cell? ⟨w.heap.size + 1, 1, none⟩ = some (z1) ∧ W'.cell? ⟨w.heap.size + 1, 2, none⟩ = some (z2) ∧ W'.cell? ⟨w.heap.size + 1, 3, none⟩ = some (z3) ∧ W'.cell? ⟨w.heap.size + 1, 4, none⟩ = some (z4) ∧ W'.cell? ⟨w.heap.size + 1, 5, none⟩ = some (z5) ∧ W'.cell? ⟨w.heap.size + 1 + 1, 0, none⟩ = some (.int .i64 c.stops) ∧ W'.cell? ⟨w.heap.size + 1 + 1, 1, none⟩ = some (.int .i64 c.cells) ∧ W'.cell? ⟨w.heap.size + 1 + 1, 2, none⟩ = some (.int .i64 c.mutes) ∧ W'.cell? ⟨w.heap.size + 1 + 1, 3, none⟩ = some (.int .i64 c.muteMost) ∧ W'.cell? ⟨w.heap.size + 1 + 1, 4, none⟩ = some (.int .i64 c.lifts) ∧ W'.cell? ⟨w.heap.size + 1 + 1, 5, none⟩ = some (.int .i64 c.liftMost) ∧ W'.cell? ⟨w.heap.size + 1 + 1, 6, none⟩ = some (.int .i64 c.steps) ∧ W'.cell? ⟨w7.heap.size, 0, none⟩ = some (.int .i64 X.kind) ∧ W'.cell? ⟨w7.heap.size, 1, none⟩ = some (.int .i64 X.a) ∧ W'.cell? ⟨w7.heap.size, 2, none⟩ = some (.int .i64 X.n)) (by kernel_rfl) ⟨x0, x1, x2, x3, x4, x5, x6, x7, x8, t0, t1, t2, t3, t4, t5, u0, u1, u2, u3, u4, u5, u6, y0, y1, y2⟩ (fun hHeld => ?_)
                                  obtain ⟨wx, hwx⟩ : ∃ W, W = we.drew := ⟨_, rfl⟩
                                  rw [← hwx] at hHeld ⊢
                                  have BX0 : Hid (Below we.heap.size we wx) := Lib.hid (by subst hwx; exact ⟨rfl, rfl, rfl, Nat.le_refl _, fun _ _ => rfl⟩)
                                  clear hwx
                                  refine wpAnyH_take (i := 0) (oi := _) (v := ?_) rfl (by kernel_rfl) (by kernel_rfl) (by kernel_rfl) (fun _ _ _ h => h) (Or.inl ⟨by rfl, ?_⟩) (by assumption) ?_
                                  rotate_left
                                  · intro w hSw; obtain ⟨k0, k1, k2, k3, k4, k5, k6, k7, k8, k9, k10, k11, k12, k13, k14, k15, k16, k17, k18, k19, k20, k21, k22, k23, k24⟩ := hSw; go_simp; all_goals (with_reducible rfl)
                                  try simp only [Act.put, List.getElem_toArray, List.getElem_cons_zero, List.getElem_cons_succ, List.setIfInBounds_toArray, List.set_cons_zero, List.set_cons_succ]
                                  refine wpAnyH_take (i := 1) (oi := _) (v := ?_) rfl (by kernel_rfl) (by kernel_rfl) (by kernel_rfl) (fun _ _ _ h => h) (Or.inl ⟨by rfl, ?_⟩) (by assumption) ?_
                                  rotate_left
                                  · intro w hSw; obtain ⟨k0, k1, k2, k3, k4, k5, k6, k7, k8, k9, k10, k11, k12, k13, k14, k15, k16, k17, k18, k19, k20, k21, k22, k23, k24⟩ := hSw; go_simp; all_goals (with_reducible rfl)
                                  try simp only [Act.put, List.getElem_toArray, List.getElem_cons_zero, List.getElem_cons_succ, List.setIfInBounds_toArray, List.set_cons_zero, List.set_cons_succ]
                                  refine wpAnyH_ready (rs := [2]) (by kernel_rfl) (by simp) ?_
                                  refine AllReadyH.cons (o := _) rfl (fun K hK => ?_) AllReadyH.nil
                                  go_simp
                                  go_at_call 19; with_reducible refine (HRI.out _ BX0.out).mono ?_; rintro e w5 ⟨rfl, b5⟩
                                  have BX1 := Lib.hid (BX0.out.trans (b5.mono BX0.out.size))
                                  clear b5
                                  go_wp2_with fail
                                  refine hK.out _ _ ?_ (fun hHeld => ?_)
                                  · exact ⟨(BX1.out.cell (p := ⟨w.heap.size, 0, none⟩) ls).trans x0, (BX1.out.cell (p := ⟨w.heap.size, 1, none⟩) ls).trans x1, (BX1.out.cell (p := ⟨w.heap.size, 2, none⟩) ls).trans x2, (BX1.out.cell (p := ⟨w.heap.size, 3, none⟩) ls).trans x3, (BX1.out.cell (p := ⟨w.heap.size, 4, none⟩) ls).trans x4, (BX1.out.cell (p := ⟨w.heap.size, 5, none⟩) ls).trans x5, (BX1.out.cell (p := ⟨w.heap.size, 6, none⟩) ls).trans x6, (BX1.out.cell (p := ⟨w.heap.size, 7, none⟩) ls).trans x7, (BX1.out.cell (p := ⟨w.heap.size, 8, none⟩) ls).trans x8, (BX1.out.cell (p := ⟨w.heap.size + 1, 0, none⟩) lt).trans t0, (BX1.out.cell (p := ⟨w.heap.size + 1, 1, none⟩) lt).trans t1, (BX1.out.cell (p := ⟨w.heap.size + 1, 2, none⟩) lt).trans t2, (BX1.out.cell (p := ⟨w.heap.size + 1, 3, none⟩) lt).trans t3, (BX1.out.cell (p := ⟨w.heap.size + 1, 4, none⟩) lt).trans t4, (BX1.out.cell (p := ⟨w.heap.size + 1, 5, none⟩) lt).trans t5, (BX1.out.cell (p := ⟨w.heap.size + 1 + 1, 0, none⟩) lu).trans u0, (BX1.out.cell (p := ⟨w.heap.size + 1 + 1, 1, none⟩) lu).trans u1, (BX1.out.cell (p := ⟨w.heap.size + 1 + 1, 2, none⟩) lu).trans u2, (BX1.out.cell (p := ⟨w.heap.size + 1 + 1, 3, none⟩) lu).trans u3, (BX1.out.cell (p := ⟨w.heap.size + 1 + 1, 4, none⟩) lu).trans u4, (BX1.out.cell (p := ⟨w.heap.size + 1 + 1, 5, none⟩) lu).trans u5, (BX1.out.cell (p := ⟨w.heap.size + 1 + 1, 6, none⟩) lu).trans u6, (BX1.out.cell (p := ⟨w7.heap.size, 0, none⟩) ly).trans y0, (BX1.out.cell (p := ⟨w7.heap.size, 1, none⟩) ly).trans y1, (BX1.out.cell (p := ⟨w7.heap.size, 2, none⟩) ly).trans y2⟩
                                  clear hK K
                                  try simp only [Act.put, List.getElem_toArray, List.getElem_cons_zero, List.getElem_cons_succ, List.setIfInBounds_toArray, List.set_cons_zero, List.set_cons_succ]
                                  refine wpAnyH_take (i := 3) (oi := _) (v := ?_) rfl (by kernel_rfl) (by kernel_rfl) (by kernel_rfl) (fun _ _ _ h => h) (Or.inl ⟨by rfl, ?_⟩) (by assumption) ?_
                                  rotate_left
                                  · intro w hSw; obtain ⟨k0, k1, k2, k3, k4, k5, k6, k7, k8, k9, k10, k11, k12, k13, k14, k15, k16, k17, k18, k19, k20, k21, k22, k23, k24⟩ := hSw; go_simp; all_goals (with_reducible rfl)
                                  try simp only [Act.put, List.getElem_toArray, List.getElem_cons_zero, List.getElem_cons_succ, List.setIfInBounds_toArray, List.set_cons_zero, List.set_cons_succ]
                                  refine wpAnyH_take (i := 4) (oi := _) (v := ?_) rfl (by kernel_rfl) (by kernel_rfl) (by kernel_rfl) (fun _ _ _ h => h) (Or.inl ⟨by rfl, ?_⟩) (by assumption) ?_
                                  rotate_left
                                  · intro w hSw; obtain ⟨k0, k1, k2, k3, k4, k5, k6, k7, k8, k9, k10, k11, k12, k13, k14, k15, k16, k17, k18, k19, k20, k21, k22, k23, k24⟩ := hSw; go_simp; all_goals (with_reducible rfl)
                                  try simp only [Act.put, List.getElem_toArray, List.getElem_cons_zero, List.getElem_cons_succ, List.setIfInBounds_toArray, List.set_cons_zero, List.set_cons_succ]
                                  refine wpAnyH_take (i := 5) (oi := _) (v := ?_) rfl (by kernel_rfl) (by kernel_rfl) (by kernel_rfl) (fun _ _ _ h => h) (Or.inl ⟨by rfl, ?_⟩) (by assumption) ?_
                                  rotate_left
                                  · intro w hSw; obtain ⟨k0, k1, k2, k3, k4, k5, k6, k7, k8, k9, k10, k11, k12, k13, k14, k15, k16, k17, k18, k19, k20, k21, k22, k23, k24⟩ := hSw; go_simp; all_goals (with_reducible rfl)
                                  try simp only [Act.put, List.getElem_toArray, List.getElem_cons_zero, List.getElem_cons_succ, List.setIfInBounds_toArray, List.set_cons_zero, List.set_cons_succ]
                                  refine wpAnyH_take (i := 6) (oi := _) (v := ?_) rfl (by kernel_rfl) (by kernel_rfl) (by kernel_rfl) (fun _ _ _ h => h) (Or.inl ⟨by rfl, ?_⟩) (by assumption) ?_
                                  rotate_left
                                  · intro w hSw; obtain ⟨k0, k1, k2, k3, k4, k5, k6, k7, k8, k9, k10, k11, k12, k13, k14, k15, k16, k17, k18, k19, k20, k21, k22, k23, k24⟩ := hSw; go_simp; all_goals (with_reducible rfl)
                                  try simp only [Act.put, List.getElem_toArray, List.getElem_cons_zero, List.getElem_cons_succ, List.setIfInBounds_toArray, List.set_cons_zero, List.set_cons_succ]
                                  refine wpAnyH_take (i := 7) (oi := _) (v := ?_) rfl (by kernel_rfl) (by kernel_rfl) (by kernel_rfl) (fun _ _ _ h => h) (Or.inl ⟨by rfl, ?_⟩) (by assumption) ?_
                                  rotate_left
                                  · intro w hSw; obtain ⟨k0, k1, k2, k3, k4, k5, k6, k7, k8, k9, k10, k11, k12, k13, k14, k15, k16, k17, k18, k19, k20, k21, k22, k23, k24⟩ := hSw; go_simp; all_goals (with_reducible rfl)
                                  try simp only [Act.put, List.getElem_toArray, List.getElem_cons_zero, List.getElem_cons_succ, List.setIfInBounds_toArray, List.set_cons_zero, List.set_cons_succ]
                                  refine wpAnyH_take (i := 8) (oi := _) (v := ?_) rfl (by kernel_rfl) (by kernel_rfl) (by kernel_rfl) (fun _ _ _ h => h) (Or.inl ⟨by rfl, ?_⟩) (by assumption) ?_
                                  rotate_left
                                  · intro w hSw; obtain ⟨k0, k1, k2, k3, k4, k5, k6, k7, k8, k9, k10, k11, k12, k13, k14, k15, k16, k17, k18, k19, k20, k21, k22, k23, k24⟩ := hSw; go_simp; all_goals (with_reducible rfl)
                                  try simp only [Act.put, List.getElem_toArray, List.getElem_cons_zero, List.getElem_cons_succ, List.setIfInBounds_toArray, List.set_cons_zero, List.set_cons_succ]
                                  refine wpAnyH_take (i := 9) (oi := _) (v := ?_) rfl (by kernel_rfl) (by kernel_rfl) (by kernel_rfl) (fun _ _ _ h => h) (Or.inl ⟨by rfl, ?_⟩) (by assumption) ?_
                                  rotate_left
                                  · intro w hSw; obtain ⟨k0, k1, k2, k3, k4, k5, k6, k7, k8, k9, k10, k11, k12, k13, k14, k15, k16, k17, k18, k19, k20, k21, k22, k23, k24⟩ := hSw; go_simp; all_goals (with_reducible rfl)
                                  try simp only [Act.put, List.getElem_toArray, List.getElem_cons_zero, List.getElem_cons_succ, List.setIfInBounds_toArray, List.set_cons_zero, List.set_cons_succ]
                                  refine wpAnyH_take (i := 10) (oi := _) (v := ?_) rfl (by kernel_rfl) (by kernel_rfl) (by kernel_rfl) (fun _ _ _ h => h) (Or.inl ⟨by rfl, ?_⟩) (by assumption) ?_
                                  rotate_left
                                  · intro w hSw; obtain ⟨k0, k1, k2, k3, k4, k5, k6, k7, k8, k9, k10, k11, k12, k13, k14, k15, k16, k17, k18, k19, k20, k21, k22, k23, k24⟩ := hSw; go_simp; all_goals (with_reducible rfl)
                                  try simp only [Act.put, List.getElem_toArray, List.getElem_cons_zero, List.getElem_cons_succ, List.setIfInBounds_toArray, List.set_cons_zero, List.set_cons_succ]
                                  refine wpAnyH_take (i := 11) (oi := _) (v := ?_) rfl (by kernel_rfl) (by kernel_rfl) (by kernel_rfl) (fun _ _ _ h => h) (Or.inl ⟨by rfl, ?_⟩) (by assumption) ?_
                                  rotate_left
                                  · intro w hSw; obtain ⟨k0, k1, k2, k3, k4, k5, k6, k7, k8, k9, k10, k11, k12, k13, k14, k15, k16, k17, k18, k19, k20, k21, k22, k23, k24⟩ := hSw; go_simp; all_goals (with_reducible rfl)
                                  try simp only [Act.put, List.getElem_toArray, List.getElem_cons_zero, List.getElem_cons_succ, List.setIfInBounds_toArray, List.set_cons_zero, List.set_cons_succ]
                                  refine wpAnyH_take (i := 12) (oi := _) (v := ?_) rfl (by kernel_rfl) (by kernel_rfl) (by kernel_rfl) (fun _ _ _ h => h) (Or.inl ⟨by rfl, ?_⟩) (by assumption) ?_
                                  rotate_left
                                  · intro w hSw; obtain ⟨k0, k1, k2, k3, k4, k5, k6, k7, k8, k9, k10, k11, k12, k13, k14, k15, k16, k17, k18, k19, k20, k21, k22, k23, k24⟩ := hSw; go_simp; all_goals (with_reducible rfl)
                                  try simp only [Act.put, List.getElem_toArray, List.getElem_cons_zero, List.getElem_cons_succ, List.setIfInBounds_toArray, List.set_cons_zero, List.set_cons_succ]
                                  refine wpAnyH_take (i := 13) (oi := _) (v := ?_) rfl (by kernel_rfl) (by kernel_rfl) (by kernel_rfl) (fun _ _ _ h => h) (Or.inl ⟨by rfl, ?_⟩) (by assumption) ?_
                                  rotate_left
                                  · intro w hSw; obtain ⟨k0, k1, k2, k3, k4, k5, k6, k7, k8, k9, k10, k11, k12, k13, k14, k15, k16, k17, k18, k19, k20, k21, k22, k23, k24⟩ := hSw; go_simp; all_goals (with_reducible rfl)
                                  try simp only [Act.put, List.getElem_toArray, List.getElem_cons_zero, List.getElem_cons_succ, List.setIfInBounds_toArray, List.set_cons_zero, List.set_cons_succ]
                                  refine wpAnyH_take (i := 14) (oi := _) (v := ?_) rfl (by kernel_rfl) (by kernel_rfl) (by kernel_rfl) (fun _ _ _ h => h) (Or.inl ⟨by rfl, ?_⟩) (by assumption) ?_
                                  rotate_left
                                  · intro w hSw; obtain ⟨k0, k1, k2, k3, k4, k5, k6, k7, k8, k9, k10, k11, k12, k13, k14, k15, k16, k17, k18, k19, k20, k21, k22, k23, k24⟩ := hSw; go_simp; all_goals (with_reducible rfl)
                                  try simp only [Act.put, List.getElem_toArray, List.getElem_cons_zero, List.getElem_cons_succ, List.setIfInBounds_toArray, List.set_cons_zero, List.set_cons_succ]
                                  refine wpAnyH_take (i := 15) (oi := _) (v := ?_) rfl (by kernel_rfl) (by kernel_rfl) (by kernel_rfl) (fun _ _ _ h => h) (Or.inl ⟨by rfl, ?_⟩) (by assumption) ?_
                                  rotate_left
                                  · intro w hSw; obtain ⟨k0, k1, k2, k3, k4, k5, k6, k7, k8, k9, k10, k11, k12, k13, k14, k15, k16, k17, k18, k19, k20, k21, k22, k23, k24⟩ := hSw; go_simp; all_goals (with_reducible rfl)
                                  try simp only [Act.put, List.getElem_toArray, List.getElem_cons_zero, List.getElem_cons_succ, List.setIfInBounds_toArray, List.set_cons_zero, List.set_cons_succ]
                                  refine wpAnyH_take (i := 16) (oi := _) (v := ?_) rfl (by kernel_rfl) (by kernel_rfl) (by kernel_rfl) (fun _ _ _ h => h) (Or.inl ⟨by rfl, ?_⟩) (by assumption) ?_
                                  rotate_left
                                  · intro w hSw; obtain ⟨k0, k1, k2, k3, k4, k5, k6, k7, k8, k9, k10, k11, k12, k13, k14, k15, k16, k17, k18, k19, k20, k21, k22, k23, k24⟩ := hSw; go_simp; all_goals (with_reducible rfl)
                                  try simp only [Act.put, List.getElem_toArray, List.getElem_cons_zero, List.getElem_cons_succ, List.setIfInBounds_toArray, List.set_cons_zero, List.set_cons_succ]
                                  refine wpAnyH_take (i := 17) (oi := _) (v := ?_) rfl (by kernel_rfl) (by kernel_rfl) (by kernel_rfl) (fun _ _ _ h => h) (Or.inl ⟨by rfl, ?_⟩) (by assumption) ?_
                                  rotate_left
                                  · intro w hSw; obtain ⟨k0, k1, k2, k3, k4, k5, k6, k7, k8, k9, k10, k11, k12, k13, k14, k15, k16, k17, k18, k19, k20, k21, k22, k23, k24⟩ := hSw; go_simp; all_goals (with_reducible rfl)
                                  try simp only [Act.put, List.getElem_toArray, List.getElem_cons_zero, List.getElem_cons_succ, List.setIfInBounds_toArray, List.set_cons_zero, List.set_cons_succ]
                                  refine wpAnyH_take (i := 19) (oi := _) (v := ?_) rfl (by kernel_rfl) (by kernel_rfl) (by kernel_rfl) (fun _ _ _ h => h) (Or.inl ⟨by rfl, ?_⟩) (by assumption) ?_
                                  rotate_left
                                  · intro w hSw; obtain ⟨k0, k1, k2, k3, k4, k5, k6, k7, k8, k9, k10, k11, k12, k13, k14, k15, k16, k17, k18, k19, k20, k21, k22, k23, k24⟩ := hSw; go_simp; all_goals (with_reducible rfl)
                                  try simp only [Act.put, List.getElem_toArray, List.getElem_cons_zero, List.getElem_cons_succ, List.setIfInBounds_toArray, List.set_cons_zero, List.set_cons_succ]
                                  refine wpAnyH_ready (rs := [18]) (by kernel_rfl) (by simp) ?_
                                  refine AllReadyH.cons (o := _) rfl (fun K hK => ?_) AllReadyH.nil
                                  go_simp
                                  go_at_call 9; with_reducible refine (HLI2.out _ BX1.out).mono ?_; rintro e w6 ⟨v2, l2, rfl, hv2, hl2, b6⟩
                                  have HV2 := Lib.hid hv2
                                  have HG2 := Lib.hid (HGO.out (.inr HK1.out) l2 hl2)
                                  have BX2 := Lib.hid (BX1.out.trans (b6.mono BX1.out.size))
                                  have HHA2 := Lib.hid (has_any l2 X v2 w6 hv2)
                                  rw [decide_eq_false HG2.out] at HHA2
                                  unfold fltV at HHA2
                                  clear b6 hv2 hl2
                                  go_wp2_with fail
                                  refine hK.out _ _ ?_ (fun hHeld => ?_)
                                  · exact ⟨(BX2.out.cell (p := ⟨w.heap.size, 0, none⟩) ls).trans x0, (BX2.out.cell (p := ⟨w.heap.size, 1, none⟩) ls).trans x1, (BX2.out.cell (p := ⟨w.heap.size, 2, none⟩) ls).trans x2, (BX2.out.cell (p := ⟨w.heap.size, 3, none⟩) ls).trans x3, (BX2.out.cell (p := ⟨w.heap.size, 4, none⟩) ls).trans x4, (BX2.out.cell (p := ⟨w.heap.size, 5, none⟩) ls).trans x5, (BX2.out.cell (p := ⟨w.heap.size, 6, none⟩) ls).trans x6, (BX2.out.cell (p := ⟨w.heap.size, 7, none⟩) ls).trans x7, (BX2.out.cell (p := ⟨w.heap.size, 8, none⟩) ls).trans x8, (BX2.out.cell (p := ⟨w.heap.size + 1, 0, none⟩) lt).trans t0, (BX2.out.cell (p := ⟨w.heap.size + 1, 1, none⟩) lt).trans t1, (BX2.out.cell (p := ⟨w.heap.size + 1, 2, none⟩) lt).trans t2, (BX2.out.cell (p := ⟨w.heap.size + 1, 3, none⟩) lt).trans t3, (BX2.out.cell (p := ⟨w.heap.size + 1, 4, none⟩) lt).trans t4, (BX2.out.cell (p := ⟨w.heap.size + 1, 5, none⟩) lt).trans t5, (BX2.out.cell (p := ⟨w.heap.size + 1 + 1, 0, none⟩) lu).trans u0, (BX2.out.cell (p := ⟨w.heap.size + 1 + 1, 1, none⟩) lu).trans u1, (BX2.out.cell (p := ⟨w.heap.size + 1 + 1, 2, none⟩) lu).trans u2, (BX2.out.cell (p := ⟨w.heap.size + 1 + 1, 3, none⟩) lu).trans u3, (BX2.out.cell (p := ⟨w.heap.size + 1 + 1, 4, none⟩) lu).trans u4, (BX2.out.cell (p := ⟨w.heap.size + 1 + 1, 5, none⟩) lu).trans u5, (BX2.out.cell (p := ⟨w.heap.size + 1 + 1, 6, none⟩) lu).trans u6, (BX2.out.cell (p := ⟨w7.heap.size, 0, none⟩) ly).trans y0, (BX2.out.cell (p := ⟨w7.heap.size, 1, none⟩) ly).trans y1, (BX2.out.cell (p := ⟨w7.heap.size, 2, none⟩) ly).trans y2⟩
                                  clear hK K
                                  try simp only [Act.put, List.getElem_toArray, List.getElem_cons_zero, List.getElem_cons_succ, List.setIfInBounds_toArray, List.set_cons_zero, List.set_cons_succ]
                                  refine wpAnyH_ready (rs := [20]) (by kernel_rfl) (by simp) ?_
                                  refine AllReadyH.cons (o := _) rfl (fun K hK => ?_) AllReadyH.nil
                                  go_simp
                                  go_at_call 16; with_reducible refine HHA2.out.mono ?_; rintro e w8b ⟨rfl, b8⟩
                                  have BX3 := Lib.hid (BX2.out.trans (b8.mono BX2.out.size))
                                  clear b8
                                  go_wp2_with fail
                                  refine hK.out _ _ ?_ (fun hHeld => ?_)
                                  · exact ⟨(BX3.out.cell (p := ⟨w.heap.size, 0, none⟩) ls).trans x0, (BX3.out.cell (p := ⟨w.heap.size, 1, none⟩) ls).trans x1, (BX3.out.cell (p := ⟨w.heap.size, 2, none⟩) ls).trans x2, (BX3.out.cell (p := ⟨w.heap.size, 3, none⟩) ls).trans x3, (BX3.out.cell (p := ⟨w.heap.size, 4, none⟩) ls).trans x4, (BX3.out.cell (p := ⟨w.heap.size, 5, none⟩) ls).trans x5, (BX3.out.cell (p := ⟨w.heap.size, 6, none⟩) ls).trans x6, (BX3.out.cell (p := ⟨w.heap.size, 7, none⟩) ls).trans x7, (BX3.out.cell (p := ⟨w.heap.size, 8, none⟩) ls).trans x8, (BX3.out.cell (p := ⟨w.heap.size + 1, 0, none⟩) lt).trans t0, (BX3.out.cell (p := ⟨w.heap.size + 1, 1, none⟩) lt).trans t1, (BX3.out.cell (p := ⟨w.heap.size + 1, 2, none⟩) lt).trans t2, (BX3.out.cell (p := ⟨w.heap.size + 1, 3, none⟩) lt).trans t3, (BX3.out.cell (p := ⟨w.heap.size + 1, 4, none⟩) lt).trans t4, (BX3.out.cell (p := ⟨w.heap.size + 1, 5, none⟩) lt).trans t5, (BX3.out.cell (p := ⟨w.heap.size + 1 + 1, 0, none⟩) lu).trans u0, (BX3.out.cell (p := ⟨w.heap.size + 1 + 1, 1, none⟩) lu).trans u1, (BX3.out.cell (p := ⟨w.heap.size + 1 + 1, 2, none⟩) lu).trans u2, (BX3.out.cell (p := ⟨w.heap.size + 1 + 1, 3, none⟩) lu).trans u3, (BX3.out.cell (p := ⟨w.heap.size + 1 + 1, 4, none⟩) lu).trans u4, (BX3.out.cell (p := ⟨w.heap.size + 1 + 1, 5, none⟩) lu).trans u5, (BX3.out.cell (p := ⟨w.heap.size + 1 + 1, 6, none⟩) lu).trans u6, (BX3.out.cell (p := ⟨w7.heap.size, 0, none⟩) ly).trans y0, (BX3.out.cell (p := ⟨w7.heap.size, 1, none⟩) ly).trans y1, (BX3.out.cell (p := ⟨w7.heap.size, 2, none⟩) ly).trans y2⟩
                                  clear hK K
                                  try simp only [Act.put, List.getElem_toArray, List.getElem_cons_zero, List.getElem_cons_succ, List.setIfInBounds_toArray, List.set_cons_zero, List.set_cons_succ]
                                  refine wpAnyH_take (i := 21) (oi := _) (v := ?_) rfl (by kernel_rfl) (by kernel_rfl) (by kernel_rfl) (fun _ _ _ h => h) (Or.inl ⟨by rfl, ?_⟩) (by assumption) ?_
                                  rotate_left
                                  · intro w hSw; obtain ⟨k0, k1, k2, k3, k4, k5, k6, k7, k8, k9, k10, k11, k12, k13, k14, k15, k16, k17, k18, k19, k20, k21, k22, k23, k24⟩ := hSw; go_simp; all_goals (with_reducible rfl)
                                  try simp only [Act.put, List.getElem_toArray, List.getElem_cons_zero, List.getElem_cons_succ, List.setIfInBounds_toArray, List.set_cons_zero, List.set_cons_succ]
                                  refine wpAnyH_take (i := 22) (oi := _) (v := ?_) rfl (by kernel_rfl) (by kernel_rfl) (by kernel_rfl) (fun _ _ _ h => h) (Or.inl ⟨by rfl, ?_⟩) (by assumption) ?_
                                  rotate_left
                                  · intro w hSw; obtain ⟨k0, k1, k2, k3, k4, k5, k6, k7, k8, k9, k10, k11, k12, k13, k14, k15, k16, k17, k18, k19, k20, k21, k22, k23, k24⟩ := hSw; go_simp; all_goals (with_reducible rfl)
                                  try simp only [Act.put, List.getElem_toArray, List.getElem_cons_zero, List.getElem_cons_succ, List.setIfInBounds_toArray, List.set_cons_zero, List.set_cons_succ]
                                  refine wpAnyH_take (i := 23) (oi := _) (v := ?_) rfl (by kernel_rfl) (by kernel_rfl) (by kernel_rfl) (fun _ _ _ h => h) (Or.inl ⟨by rfl, ?_⟩) (by assumption) ?_
                                  rotate_left
                                  · intro w hSw; obtain ⟨k0, k1, k2, k3, k4, k5, k6, k7, k8, k9, k10, k11, k12, k13, k14, k15, k16, k17, k18, k19, k20, k21, k22, k23, k24⟩ := hSw; go_simp; all_goals (with_reducible rfl)
                                  try simp only [Act.put, List.getElem_toArray, List.getElem_cons_zero, List.getElem_cons_succ, List.setIfInBounds_toArray, List.set_cons_zero, List.set_cons_succ]
                                  refine wpAnyH_take (i := 24) (oi := _) (v := ?_) rfl (by kernel_rfl) (by kernel_rfl) (by kernel_rfl) (fun _ _ _ h => h) (Or.inl ⟨by rfl, ?_⟩) (by assumption) ?_
                                  rotate_left
                                  · intro w hSw; obtain ⟨k0, k1, k2, k3, k4, k5, k6, k7, k8, k9, k10, k11, k12, k13, k14, k15, k16, k17, k18, k19, k20, k21, k22, k23, k24⟩ := hSw; go_simp; all_goals (with_reducible rfl)
                                  try simp only [Act.put, List.getElem_toArray, List.getElem_cons_zero, List.getElem_cons_succ, List.setIfInBounds_toArray, List.set_cons_zero, List.set_cons_succ]
                                  refine wpAnyH_take (i := 25) (oi := _) (v := ?_) rfl (by kernel_rfl) (by kernel_rfl) (by kernel_rfl) (fun _ _ _ h => h) (Or.inl ⟨by rfl, ?_⟩) (by assumption) ?_
                                  rotate_left
                                  · intro w hSw; obtain ⟨k0, k1, k2, k3, k4, k5, k6, k7, k8, k9, k10, k11, k12, k13, k14, k15, k16, k17, k18, k19, k20, k21, k22, k23, k24⟩ := hSw; go_simp; all_goals (with_reducible rfl)
                                  try simp only [Act.put, List.getElem_toArray, List.getElem_cons_zero, List.getElem_cons_succ, List.setIfInBounds_toArray, List.set_cons_zero, List.set_cons_succ]
                                  refine wpAnyH_take (i := 28) (oi := _) (v := ?_) rfl (by kernel_rfl) (by kernel_rfl) (by kernel_rfl) (fun _ _ _ h => h) (Or.inl ⟨by rfl, ?_⟩) (by assumption) ?_
                                  rotate_left
                                  · intro w hSw; obtain ⟨k0, k1, k2, k3, k4, k5, k6, k7, k8, k9, k10, k11, k12, k13, k14, k15, k16, k17, k18, k19, k20, k21, k22, k23, k24⟩ := hSw; go_simp; all_goals (with_reducible rfl)
                                  try simp only [Act.put, List.getElem_toArray, List.getElem_cons_zero, List.getElem_cons_succ, List.setIfInBounds_toArray, List.set_cons_zero, List.set_cons_succ]
                                  refine wpAnyH_ready (rs := [26]) (by kernel_rfl) (by simp) ?_
                                  refine AllReadyH.cons (o := _) rfl (fun K hK => ?_) AllReadyH.nil
                                  go_simp
                                  go_at_call 13; with_reducible refine (HLF2.out _).mono ?_; rintro e w9b ⟨rfl, b9⟩
                                  have BX9 := Lib.hid (BX3.out.trans (b9.mono BX3.out.size))
                                  clear b9
                                  go_wp2_with fail
                                  refine hK.out _ _ ?_ (fun hHeld => ?_)
                                  · exact ⟨(BX9.out.cell (p := ⟨w.heap.size, 0, none⟩) ls).trans x0, (BX9.out.cell (p := ⟨w.heap.size, 1, none⟩) ls).trans x1, (BX9.out.cell (p := ⟨w.heap.size, 2, none⟩) ls).trans x2, (BX9.out.cell (p := ⟨w.heap.size, 3, none⟩) ls).trans x3, (BX9.out.cell (p := ⟨w.heap.size, 4, none⟩) ls).trans x4, (BX9.out.cell (p := ⟨w.heap.size, 5, none⟩) ls).trans x5, (BX9.out.cell (p := ⟨w.heap.size, 6, none⟩) ls).trans x6, (BX9.out.cell (p := ⟨w.heap.size, 7, none⟩) ls).trans x7, (BX9.out.cell (p := ⟨w.heap.size, 8, none⟩) ls).trans x8, (BX9.out.cell (p := ⟨w.heap.size + 1, 0, none⟩) lt).trans t0, (BX9.out.cell (p := ⟨w.heap.size + 1, 1, none⟩) lt).trans t1, (BX9.out.cell (p := ⟨w.heap.size + 1, 2, none⟩) lt).trans t2, (BX9.out.cell (p := ⟨w.heap.size + 1, 3, none⟩) lt).trans t3, (BX9.out.cell (p := ⟨w.heap.size + 1, 4, none⟩) lt).trans t4, (BX9.out.cell (p := ⟨w.heap.size + 1, 5, none⟩) lt).trans t5, (BX9.out.cell (p := ⟨w.heap.size + 1 + 1, 0, none⟩) lu).trans u0, (BX9.out.cell (p := ⟨w.heap.size + 1 + 1, 1, none⟩) lu).trans u1, (BX9.out.cell (p := ⟨w.heap.size + 1 + 1, 2, none⟩) lu).trans u2, (BX9.out.cell (p := ⟨w.heap.size + 1 + 1, 3, none⟩) lu).trans u3, (BX9.out.cell (p := ⟨w.heap.size + 1 + 1, 4, none⟩) lu).trans u4, (BX9.out.cell (p := ⟨w.heap.size + 1 + 1, 5, none⟩) lu).trans u5, (BX9.out.cell (p := ⟨w.heap.size + 1 + 1, 6, none⟩) lu).trans u6, (BX9.out.cell (p := ⟨w7.heap.size, 0, none⟩) ly).trans y0, (BX9.out.cell (p := ⟨w7.heap.size, 1, none⟩) ly).trans y1, (BX9.out.cell (p := ⟨w7.heap.size, 2, none⟩) ly).trans y2⟩
                                  clear hK K
                                  try simp only [Act.put, List.getElem_toArray, List.getElem_cons_zero, List.getElem_cons_succ, List.setIfInBounds_toArray, List.set_cons_zero, List.set_cons_succ]
                                  refine wpAnyH_take (i := 27) (oi := _) (v := ?_) rfl (by kernel_rfl) (by kernel_rfl) (by kernel_rfl) (fun _ _ _ h => h) (Or.inl ⟨by rfl, ?_⟩) (by assumption) ?_
                                  rotate_left
                                  · intro w hSw; obtain ⟨k0, k1, k2, k3, k4, k5, k6, k7, k8, k9, k10, k11, k12, k13, k14, k15, k16, k17, k18, k19, k20, k21, k22, k23, k24⟩ := hSw; go_simp; all_goals (with_reducible rfl)
                                  try simp only [Act.put, List.getElem_toArray, List.getElem_cons_zero, List.getElem_cons_succ, List.setIfInBounds_toArray, List.set_cons_zero, List.set_cons_succ]
                                  refine wpAnyH_take (i := 29) (oi := _) (v := ?_) rfl (by kernel_rfl) (by kernel_rfl) (by kernel_rfl) (fun _ _ _ h => h) (Or.inl ⟨by rfl, ?_⟩) (by assumption) ?_
                                  rotate_left
                                  · intro w hSw; obtain ⟨k0, k1, k2, k3, k4, k5, k6, k7, k8, k9, k10, k11, k12, k13, k14, k15, k16, k17, k18, k19, k20, k21, k22, k23, k24⟩ := hSw; go_simp; all_goals (with_reducible rfl)
                                  try simp only [Act.put, List.getElem_toArray, List.getElem_cons_zero, List.getElem_cons_succ, List.setIfInBounds_toArray, List.set_cons_zero, List.set_cons_succ]
                                  refine wpAnyH_take (i := 30) (oi := _) (v := ?_) rfl (by kernel_rfl) (by kernel_rfl) (by kernel_rfl) (fun _ _ _ h => h) (Or.inl ⟨by rfl, ?_⟩) (by assumption) ?_
                                  rotate_left
                                  · intro w hSw; obtain ⟨k0, k1, k2, k3, k4, k5, k6, k7, k8, k9, k10, k11, k12, k13, k14, k15, k16, k17, k18, k19, k20, k21, k22, k23, k24⟩ := hSw; go_simp; all_goals (with_reducible rfl)
                                  try simp only [Act.put, List.getElem_toArray, List.getElem_cons_zero, List.getElem_cons_succ, List.setIfInBounds_toArray, List.set_cons_zero, List.set_cons_succ]
                                  refine wpAnyH_done (by kernel_rfl) ?_ _
                                  go_wp2_with fail
                                  go_roundw
                                  case rel =>
                                    obtain ⟨i', m', sq', q1, q2, q3, q4, q5, bq', r1, r2, r3, r4, r5, r6, r7, r8, r9, ra, rb, rc, rd⟩ := REL.out _ BX9.out
                                    exact ⟨i', m', sq', q1, q2, q3, q4, q5, bq', r1, by rw [← r2]; go_num, r3, r4, r5, r6, r7, r8, r9, ra, rb, rc, rd⟩
                                  case measure => simp [intOf]; omega
                                · have e2 : (X.kind == 2) = false := by simpa using hk2
                                  clear hk1 hk2
                                  refine wp_region_held_drew (S := fun W' => W'.cell? ⟨w.heap.size, 0, none⟩ = some (.int .i64 s.floor.w) ∧ W'.cell? ⟨w.heap.size, 1, none⟩ = some (.int .i64 s.floor.h) ∧ W'.cell? ⟨w.heap.size, 2, none⟩ = some (.int .i64 s.floor.d) ∧ W'.cell? ⟨w.heap.size, 3, none⟩ = some (.slice ka k kc) ∧ W'.cell? ⟨w.heap.size, 4, none⟩ = some (ov) ∧ W'.cell? ⟨w.heap.size, 5, none⟩ = some (zv) ∧ W'.cell? ⟨w.heap.size, 6, none⟩ = some (av) ∧ W'.cell? ⟨w.heap.size, 7, none⟩ = some (hv) ∧ W'.cell? ⟨w.heap.size, 8, none⟩ = some (bv) ∧ W'.cell? ⟨w.heap.size + 1, 0, none⟩ = some (.int .i64 sn.tick) ∧ W'.cell? ⟨w.heap.size + 1, 1, none⟩ = some (z1) ∧ W'.cell? ⟨w.heap.size + 1, 2, none⟩ = some (z2) ∧ W'.cell? ⟨w.heap.size + 1, 3, none⟩ = some (z3) ∧ W'.cell? ⟨w.heap.size + 1, 4, none⟩ = some (z4) ∧ W'.cell? ⟨w.heap.size + 1, 5, none⟩ = some (z5) ∧ W'.cell? ⟨w.heap.size + 1 + 1, 0, none⟩ = some (.int .i64 c.stops) ∧ W'.cell? ⟨w.heap.size + 1 + 1, 1, none⟩ = some (.int .i64 c.cells) ∧ W'.cell? ⟨w.heap.size + 1 + 1, 2, none⟩ = some (.int .i64 c.mutes) ∧ W'.cell? ⟨w.heap.size + 1 + 1, 3, none⟩ = some (.int .i64 c.muteMost) ∧ W'.cell? ⟨w.heap.size + 1 + 1, 4, none⟩ = some (.int .i64 c.lifts) ∧ W'.cell? ⟨w.heap.size + 1 + 1, 5, none⟩ = some (.int .i64 c.liftMost) ∧ W'.cell? ⟨w.heap.size + 1 + 1, 6, none⟩ = some (.int .i64 c.steps) ∧ W'.cell? ⟨w7.heap.size, 0, none⟩ = some (.int .i64 X.kind) ∧ W'.cell? ⟨w7.heap.size, 1, none⟩ = some (.int .i64 X.a) ∧ W'.cell? ⟨w7.heap.size, 2, none⟩ = some (.int .i64 X.n)) (by kernel_rfl) ⟨x0, x1, x2, x3, x4, x5, x6, x7, x8, t0, t1, t2, t3, t4, t5, u0, u1, u2, u3, u4, u5, u6, y0, y1, y2⟩ (fun hHeld => ?_)
                                  obtain ⟨wx, hwx⟩ : ∃ W, W = we.drew := ⟨_, rfl⟩
                                  rw [← hwx] at hHeld ⊢
                                  have BX0 : Hid (Below we.heap.size we wx) := Lib.hid (by subst hwx; exact ⟨rfl, rfl, rfl, Nat.le_refl _, fun _ _ => rfl⟩)
                                  clear hwx
                                  refine wpAnyH_take (i := 0) (oi := _) (v := ?_) rfl (by kernel_rfl) (by kernel_rfl) (by kernel_rfl) (fun _ _ _ h => h) (Or.inl ⟨by rfl, ?_⟩) (by assumption) ?_
                                  rotate_left
                                  · intro w hSw; obtain ⟨k0, k1, k2, k3, k4, k5, k6, k7, k8, k9, k10, k11, k12, k13, k14, k15, k16, k17, k18, k19, k20, k21, k22, k23, k24⟩ := hSw; go_simp; all_goals (with_reducible rfl)
                                  try simp only [Act.put, List.getElem_toArray, List.getElem_cons_zero, List.getElem_cons_succ, List.setIfInBounds_toArray, List.set_cons_zero, List.set_cons_succ]
                                  refine wpAnyH_take (i := 1) (oi := _) (v := ?_) rfl (by kernel_rfl) (by kernel_rfl) (by kernel_rfl) (fun _ _ _ h => h) (Or.inl ⟨by rfl, ?_⟩) (by assumption) ?_
                                  rotate_left
                                  · intro w hSw; obtain ⟨k0, k1, k2, k3, k4, k5, k6, k7, k8, k9, k10, k11, k12, k13, k14, k15, k16, k17, k18, k19, k20, k21, k22, k23, k24⟩ := hSw; go_simp; all_goals (with_reducible rfl)
                                  try simp only [Act.put, List.getElem_toArray, List.getElem_cons_zero, List.getElem_cons_succ, List.setIfInBounds_toArray, List.set_cons_zero, List.set_cons_succ]
                                  refine wpAnyH_ready (rs := [2]) (by kernel_rfl) (by simp) ?_
                                  refine AllReadyH.cons (o := _) rfl (fun K hK => ?_) AllReadyH.nil
                                  go_simp
                                  go_at_call 19; with_reducible refine (HRI.out _ BX0.out).mono ?_; rintro e w5 ⟨rfl, b5⟩
                                  have BX1 := Lib.hid (BX0.out.trans (b5.mono BX0.out.size))
                                  clear b5
                                  go_wp2_with fail
                                  refine hK.out _ _ ?_ (fun hHeld => ?_)
                                  · exact ⟨(BX1.out.cell (p := ⟨w.heap.size, 0, none⟩) ls).trans x0, (BX1.out.cell (p := ⟨w.heap.size, 1, none⟩) ls).trans x1, (BX1.out.cell (p := ⟨w.heap.size, 2, none⟩) ls).trans x2, (BX1.out.cell (p := ⟨w.heap.size, 3, none⟩) ls).trans x3, (BX1.out.cell (p := ⟨w.heap.size, 4, none⟩) ls).trans x4, (BX1.out.cell (p := ⟨w.heap.size, 5, none⟩) ls).trans x5, (BX1.out.cell (p := ⟨w.heap.size, 6, none⟩) ls).trans x6, (BX1.out.cell (p := ⟨w.heap.size, 7, none⟩) ls).trans x7, (BX1.out.cell (p := ⟨w.heap.size, 8, none⟩) ls).trans x8, (BX1.out.cell (p := ⟨w.heap.size + 1, 0, none⟩) lt).trans t0, (BX1.out.cell (p := ⟨w.heap.size + 1, 1, none⟩) lt).trans t1, (BX1.out.cell (p := ⟨w.heap.size + 1, 2, none⟩) lt).trans t2, (BX1.out.cell (p := ⟨w.heap.size + 1, 3, none⟩) lt).trans t3, (BX1.out.cell (p := ⟨w.heap.size + 1, 4, none⟩) lt).trans t4, (BX1.out.cell (p := ⟨w.heap.size + 1, 5, none⟩) lt).trans t5, (BX1.out.cell (p := ⟨w.heap.size + 1 + 1, 0, none⟩) lu).trans u0, (BX1.out.cell (p := ⟨w.heap.size + 1 + 1, 1, none⟩) lu).trans u1, (BX1.out.cell (p := ⟨w.heap.size + 1 + 1, 2, none⟩) lu).trans u2, (BX1.out.cell (p := ⟨w.heap.size + 1 + 1, 3, none⟩) lu).trans u3, (BX1.out.cell (p := ⟨w.heap.size + 1 + 1, 4, none⟩) lu).trans u4, (BX1.out.cell (p := ⟨w.heap.size + 1 + 1, 5, none⟩) lu).trans u5, (BX1.out.cell (p := ⟨w.heap.size + 1 + 1, 6, none⟩) lu).trans u6, (BX1.out.cell (p := ⟨w7.heap.size, 0, none⟩) ly).trans y0, (BX1.out.cell (p := ⟨w7.heap.size, 1, none⟩) ly).trans y1, (BX1.out.cell (p := ⟨w7.heap.size, 2, none⟩) ly).trans y2⟩
                                  clear hK K
                                  try simp only [Act.put, List.getElem_toArray, List.getElem_cons_zero, List.getElem_cons_succ, List.setIfInBounds_toArray, List.set_cons_zero, List.set_cons_succ]
                                  refine wpAnyH_take (i := 3) (oi := _) (v := ?_) rfl (by kernel_rfl) (by kernel_rfl) (by kernel_rfl) (fun _ _ _ h => h) (Or.inl ⟨by rfl, ?_⟩) (by assumption) ?_
                                  rotate_left
                                  · intro w hSw; obtain ⟨k0, k1, k2, k3, k4, k5, k6, k7, k8, k9, k10, k11, k12, k13, k14, k15, k16, k17, k18, k19, k20, k21, k22, k23, k24⟩ := hSw; go_simp; all_goals (with_reducible rfl)
                                  try simp only [Act.put, List.getElem_toArray, List.getElem_cons_zero, List.getElem_cons_succ, List.setIfInBounds_toArray, List.set_cons_zero, List.set_cons_succ]
                                  refine wpAnyH_take (i := 4) (oi := _) (v := ?_) rfl (by kernel_rfl) (by kernel_rfl) (by kernel_rfl) (fun _ _ _ h => h) (Or.inl ⟨by rfl, ?_⟩) (by assumption) ?_
                                  rotate_left
                                  · intro w hSw; obtain ⟨k0, k1, k2, k3, k4, k5, k6, k7, k8, k9, k10, k11, k12, k13, k14, k15, k16, k17, k18, k19, k20, k21, k22, k23, k24⟩ := hSw; go_simp; all_goals (with_reducible rfl)
                                  try simp only [Act.put, List.getElem_toArray, List.getElem_cons_zero, List.getElem_cons_succ, List.setIfInBounds_toArray, List.set_cons_zero, List.set_cons_succ]
                                  refine wpAnyH_take (i := 5) (oi := _) (v := ?_) rfl (by kernel_rfl) (by kernel_rfl) (by kernel_rfl) (fun _ _ _ h => h) (Or.inl ⟨by rfl, ?_⟩) (by assumption) ?_
                                  rotate_left
                                  · intro w hSw; obtain ⟨k0, k1, k2, k3, k4, k5, k6, k7, k8, k9, k10, k11, k12, k13, k14, k15, k16, k17, k18, k19, k20, k21, k22, k23, k24⟩ := hSw; go_simp; all_goals (with_reducible rfl)
                                  try simp only [Act.put, List.getElem_toArray, List.getElem_cons_zero, List.getElem_cons_succ, List.setIfInBounds_toArray, List.set_cons_zero, List.set_cons_succ]
                                  refine wpAnyH_take (i := 6) (oi := _) (v := ?_) rfl (by kernel_rfl) (by kernel_rfl) (by kernel_rfl) (fun _ _ _ h => h) (Or.inl ⟨by rfl, ?_⟩) (by assumption) ?_
                                  rotate_left
                                  · intro w hSw; obtain ⟨k0, k1, k2, k3, k4, k5, k6, k7, k8, k9, k10, k11, k12, k13, k14, k15, k16, k17, k18, k19, k20, k21, k22, k23, k24⟩ := hSw; go_simp; all_goals (with_reducible rfl)
                                  try simp only [Act.put, List.getElem_toArray, List.getElem_cons_zero, List.getElem_cons_succ, List.setIfInBounds_toArray, List.set_cons_zero, List.set_cons_succ]
                                  refine wpAnyH_take (i := 7) (oi := _) (v := ?_) rfl (by kernel_rfl) (by kernel_rfl) (by kernel_rfl) (fun _ _ _ h => h) (Or.inl ⟨by rfl, ?_⟩) (by assumption) ?_
                                  rotate_left
                                  · intro w hSw; obtain ⟨k0, k1, k2, k3, k4, k5, k6, k7, k8, k9, k10, k11, k12, k13, k14, k15, k16, k17, k18, k19, k20, k21, k22, k23, k24⟩ := hSw; go_simp; all_goals (with_reducible rfl)
                                  try simp only [Act.put, List.getElem_toArray, List.getElem_cons_zero, List.getElem_cons_succ, List.setIfInBounds_toArray, List.set_cons_zero, List.set_cons_succ]
                                  refine wpAnyH_take (i := 8) (oi := _) (v := ?_) rfl (by kernel_rfl) (by kernel_rfl) (by kernel_rfl) (fun _ _ _ h => h) (Or.inl ⟨by rfl, ?_⟩) (by assumption) ?_
                                  rotate_left
                                  · intro w hSw; obtain ⟨k0, k1, k2, k3, k4, k5, k6, k7, k8, k9, k10, k11, k12, k13, k14, k15, k16, k17, k18, k19, k20, k21, k22, k23, k24⟩ := hSw; go_simp; all_goals (with_reducible rfl)
                                  try simp only [Act.put, List.getElem_toArray, List.getElem_cons_zero, List.getElem_cons_succ, List.setIfInBounds_toArray, List.set_cons_zero, List.set_cons_succ]
                                  refine wpAnyH_take (i := 9) (oi := _) (v := ?_) rfl (by kernel_rfl) (by kernel_rfl) (by kernel_rfl) (fun _ _ _ h => h) (Or.inl ⟨by rfl, ?_⟩) (by assumption) ?_
                                  rotate_left
                                  · intro w hSw; obtain ⟨k0, k1, k2, k3, k4, k5, k6, k7, k8, k9, k10, k11, k12, k13, k14, k15, k16, k17, k18, k19, k20, k21, k22, k23, k24⟩ := hSw; go_simp; all_goals (with_reducible rfl)
                                  try simp only [Act.put, List.getElem_toArray, List.getElem_cons_zero, List.getElem_cons_succ, List.setIfInBounds_toArray, List.set_cons_zero, List.set_cons_succ]
                                  refine wpAnyH_take (i := 10) (oi := _) (v := ?_) rfl (by kernel_rfl) (by kernel_rfl) (by kernel_rfl) (fun _ _ _ h => h) (Or.inl ⟨by rfl, ?_⟩) (by assumption) ?_
                                  rotate_left
                                  · intro w hSw; obtain ⟨k0, k1, k2, k3, k4, k5, k6, k7, k8, k9, k10, k11, k12, k13, k14, k15, k16, k17, k18, k19, k20, k21, k22, k23, k24⟩ := hSw; go_simp; all_goals (with_reducible rfl)
                                  try simp only [Act.put, List.getElem_toArray, List.getElem_cons_zero, List.getElem_cons_succ, List.setIfInBounds_toArray, List.set_cons_zero, List.set_cons_succ]
                                  refine wpAnyH_take (i := 11) (oi := _) (v := ?_) rfl (by kernel_rfl) (by kernel_rfl) (by kernel_rfl) (fun _ _ _ h => h) (Or.inl ⟨by rfl, ?_⟩) (by assumption) ?_
                                  rotate_left
                                  · intro w hSw; obtain ⟨k0, k1, k2, k3, k4, k5, k6, k7, k8, k9, k10, k11, k12, k13, k14, k15, k16, k17, k18, k19, k20, k21, k22, k23, k24⟩ := hSw; go_simp; all_goals (with_reducible rfl)
                                  try simp only [Act.put, List.getElem_toArray, List.getElem_cons_zero, List.getElem_cons_succ, List.setIfInBounds_toArray, List.set_cons_zero, List.set_cons_succ]
                                  refine wpAnyH_take (i := 12) (oi := _) (v := ?_) rfl (by kernel_rfl) (by kernel_rfl) (by kernel_rfl) (fun _ _ _ h => h) (Or.inl ⟨by rfl, ?_⟩) (by assumption) ?_
                                  rotate_left
                                  · intro w hSw; obtain ⟨k0, k1, k2, k3, k4, k5, k6, k7, k8, k9, k10, k11, k12, k13, k14, k15, k16, k17, k18, k19, k20, k21, k22, k23, k24⟩ := hSw; go_simp; all_goals (with_reducible rfl)
                                  try simp only [Act.put, List.getElem_toArray, List.getElem_cons_zero, List.getElem_cons_succ, List.setIfInBounds_toArray, List.set_cons_zero, List.set_cons_succ]
                                  refine wpAnyH_take (i := 13) (oi := _) (v := ?_) rfl (by kernel_rfl) (by kernel_rfl) (by kernel_rfl) (fun _ _ _ h => h) (Or.inl ⟨by rfl, ?_⟩) (by assumption) ?_
                                  rotate_left
                                  · intro w hSw; obtain ⟨k0, k1, k2, k3, k4, k5, k6, k7, k8, k9, k10, k11, k12, k13, k14, k15, k16, k17, k18, k19, k20, k21, k22, k23, k24⟩ := hSw; go_simp; all_goals (with_reducible rfl)
                                  try simp only [Act.put, List.getElem_toArray, List.getElem_cons_zero, List.getElem_cons_succ, List.setIfInBounds_toArray, List.set_cons_zero, List.set_cons_succ]
                                  refine wpAnyH_take (i := 14) (oi := _) (v := undef) rfl (by kernel_rfl) (by kernel_rfl) (by kernel_rfl) (fun _ _ _ h => h) (Or.inr ⟨by rfl, rfl⟩) (by assumption) ?_
                                  try simp only [Act.put, List.getElem_toArray, List.getElem_cons_zero, List.getElem_cons_succ, List.setIfInBounds_toArray, List.set_cons_zero, List.set_cons_succ]
                                  refine wpAnyH_take (i := 15) (oi := _) (v := undef) rfl (by kernel_rfl) (by kernel_rfl) (by kernel_rfl) (fun _ _ _ h => h) (Or.inr ⟨by rfl, rfl⟩) (by assumption) ?_
                                  try simp only [Act.put, List.getElem_toArray, List.getElem_cons_zero, List.getElem_cons_succ, List.setIfInBounds_toArray, List.set_cons_zero, List.set_cons_succ]
                                  refine wpAnyH_take (i := 16) (oi := _) (v := undef) rfl (by kernel_rfl) (by kernel_rfl) (by kernel_rfl) (fun _ _ _ h => h) (Or.inr ⟨by rfl, rfl⟩) (by assumption) ?_
                                  try simp only [Act.put, List.getElem_toArray, List.getElem_cons_zero, List.getElem_cons_succ, List.setIfInBounds_toArray, List.set_cons_zero, List.set_cons_succ]
                                  refine wpAnyH_take (i := 17) (oi := _) (v := undef) rfl (by kernel_rfl) (by kernel_rfl) (by kernel_rfl) (fun _ _ _ h => h) (Or.inr ⟨by rfl, rfl⟩) (by assumption) ?_
                                  try simp only [Act.put, List.getElem_toArray, List.getElem_cons_zero, List.getElem_cons_succ, List.setIfInBounds_toArray, List.set_cons_zero, List.set_cons_succ]
                                  refine wpAnyH_take (i := 18) (oi := _) (v := undef) rfl (by kernel_rfl) (by kernel_rfl) (by kernel_rfl) (fun _ _ _ h => h) (Or.inr ⟨by rfl, rfl⟩) (by assumption) ?_
                                  try simp only [Act.put, List.getElem_toArray, List.getElem_cons_zero, List.getElem_cons_succ, List.setIfInBounds_toArray, List.set_cons_zero, List.set_cons_succ]
                                  refine wpAnyH_take (i := 19) (oi := _) (v := undef) rfl (by kernel_rfl) (by kernel_rfl) (by kernel_rfl) (fun _ _ _ h => h) (Or.inr ⟨by rfl, rfl⟩) (by assumption) ?_
                                  try simp only [Act.put, List.getElem_toArray, List.getElem_cons_zero, List.getElem_cons_succ, List.setIfInBounds_toArray, List.set_cons_zero, List.set_cons_succ]
                                  refine wpAnyH_take (i := 20) (oi := _) (v := undef) rfl (by kernel_rfl) (by kernel_rfl) (by kernel_rfl) (fun _ _ _ h => h) (Or.inr ⟨by rfl, rfl⟩) (by assumption) ?_
                                  try simp only [Act.put, List.getElem_toArray, List.getElem_cons_zero, List.getElem_cons_succ, List.setIfInBounds_toArray, List.set_cons_zero, List.set_cons_succ]
                                  refine wpAnyH_take (i := 21) (oi := _) (v := ?_) rfl (by kernel_rfl) (by kernel_rfl) (by kernel_rfl) (fun _ _ _ h => h) (Or.inl ⟨by rfl, ?_⟩) (by assumption) ?_
                                  rotate_left
                                  · intro w hSw; obtain ⟨k0, k1, k2, k3, k4, k5, k6, k7, k8, k9, k10, k11, k12, k13, k14, k15, k16, k17, k18, k19, k20, k21, k22, k23, k24⟩ := hSw; go_simp; all_goals (with_reducible rfl)
                                  try simp only [Act.put, List.getElem_toArray, List.getElem_cons_zero, List.getElem_cons_succ, List.setIfInBounds_toArray, List.set_cons_zero, List.set_cons_succ]
                                  refine wpAnyH_take (i := 22) (oi := _) (v := ?_) rfl (by kernel_rfl) (by kernel_rfl) (by kernel_rfl) (fun _ _ _ h => h) (Or.inl ⟨by rfl, ?_⟩) (by assumption) ?_
                                  rotate_left
                                  · intro w hSw; obtain ⟨k0, k1, k2, k3, k4, k5, k6, k7, k8, k9, k10, k11, k12, k13, k14, k15, k16, k17, k18, k19, k20, k21, k22, k23, k24⟩ := hSw; go_simp; all_goals (with_reducible rfl)
                                  try simp only [Act.put, List.getElem_toArray, List.getElem_cons_zero, List.getElem_cons_succ, List.setIfInBounds_toArray, List.set_cons_zero, List.set_cons_succ]
                                  refine wpAnyH_take (i := 23) (oi := _) (v := ?_) rfl (by kernel_rfl) (by kernel_rfl) (by kernel_rfl) (fun _ _ _ h => h) (Or.inl ⟨by rfl, ?_⟩) (by assumption) ?_
                                  rotate_left
                                  · intro w hSw; obtain ⟨k0, k1, k2, k3, k4, k5, k6, k7, k8, k9, k10, k11, k12, k13, k14, k15, k16, k17, k18, k19, k20, k21, k22, k23, k24⟩ := hSw; go_simp; all_goals (with_reducible rfl)
                                  try simp only [Act.put, List.getElem_toArray, List.getElem_cons_zero, List.getElem_cons_succ, List.setIfInBounds_toArray, List.set_cons_zero, List.set_cons_succ]
                                  refine wpAnyH_take (i := 24) (oi := _) (v := ?_) rfl (by kernel_rfl) (by kernel_rfl) (by kernel_rfl) (fun _ _ _ h => h) (Or.inl ⟨by rfl, ?_⟩) (by assumption) ?_
                                  rotate_left
                                  · intro w hSw; obtain ⟨k0, k1, k2, k3, k4, k5, k6, k7, k8, k9, k10, k11, k12, k13, k14, k15, k16, k17, k18, k19, k20, k21, k22, k23, k24⟩ := hSw; go_simp; all_goals (with_reducible rfl)
                                  try simp only [Act.put, List.getElem_toArray, List.getElem_cons_zero, List.getElem_cons_succ, List.setIfInBounds_toArray, List.set_cons_zero, List.set_cons_succ]
                                  refine wpAnyH_take (i := 25) (oi := _) (v := ?_) rfl (by kernel_rfl) (by kernel_rfl) (by kernel_rfl) (fun _ _ _ h => h) (Or.inl ⟨by rfl, ?_⟩) (by assumption) ?_
                                  rotate_left
                                  · intro w hSw; obtain ⟨k0, k1, k2, k3, k4, k5, k6, k7, k8, k9, k10, k11, k12, k13, k14, k15, k16, k17, k18, k19, k20, k21, k22, k23, k24⟩ := hSw; go_simp; all_goals (with_reducible rfl)
                                  try simp only [Act.put, List.getElem_toArray, List.getElem_cons_zero, List.getElem_cons_succ, List.setIfInBounds_toArray, List.set_cons_zero, List.set_cons_succ]
                                  refine wpAnyH_take (i := 28) (oi := _) (v := ?_) rfl (by kernel_rfl) (by kernel_rfl) (by kernel_rfl) (fun _ _ _ h => h) (Or.inl ⟨by rfl, ?_⟩) (by assumption) ?_
                                  rotate_left
                                  · intro w hSw; obtain ⟨k0, k1, k2, k3, k4, k5, k6, k7, k8, k9, k10, k11, k12, k13, k14, k15, k16, k17, k18, k19, k20, k21, k22, k23, k24⟩ := hSw; go_simp; all_goals (with_reducible rfl)
                                  try simp only [Act.put, List.getElem_toArray, List.getElem_cons_zero, List.getElem_cons_succ, List.setIfInBounds_toArray, List.set_cons_zero, List.set_cons_succ]
                                  refine wpAnyH_ready (rs := [26]) (by kernel_rfl) (by simp) ?_
                                  refine AllReadyH.cons (o := _) rfl (fun K hK => ?_) AllReadyH.nil
                                  go_simp
                                  go_at_call 13; with_reducible refine (HLF2.out _).mono ?_; rintro e w9b ⟨rfl, b9⟩
                                  have BX9 := Lib.hid (BX1.out.trans (b9.mono BX1.out.size))
                                  clear b9
                                  go_wp2_with fail
                                  refine hK.out _ _ ?_ (fun hHeld => ?_)
                                  · exact ⟨(BX9.out.cell (p := ⟨w.heap.size, 0, none⟩) ls).trans x0, (BX9.out.cell (p := ⟨w.heap.size, 1, none⟩) ls).trans x1, (BX9.out.cell (p := ⟨w.heap.size, 2, none⟩) ls).trans x2, (BX9.out.cell (p := ⟨w.heap.size, 3, none⟩) ls).trans x3, (BX9.out.cell (p := ⟨w.heap.size, 4, none⟩) ls).trans x4, (BX9.out.cell (p := ⟨w.heap.size, 5, none⟩) ls).trans x5, (BX9.out.cell (p := ⟨w.heap.size, 6, none⟩) ls).trans x6, (BX9.out.cell (p := ⟨w.heap.size, 7, none⟩) ls).trans x7, (BX9.out.cell (p := ⟨w.heap.size, 8, none⟩) ls).trans x8, (BX9.out.cell (p := ⟨w.heap.size + 1, 0, none⟩) lt).trans t0, (BX9.out.cell (p := ⟨w.heap.size + 1, 1, none⟩) lt).trans t1, (BX9.out.cell (p := ⟨w.heap.size + 1, 2, none⟩) lt).trans t2, (BX9.out.cell (p := ⟨w.heap.size + 1, 3, none⟩) lt).trans t3, (BX9.out.cell (p := ⟨w.heap.size + 1, 4, none⟩) lt).trans t4, (BX9.out.cell (p := ⟨w.heap.size + 1, 5, none⟩) lt).trans t5, (BX9.out.cell (p := ⟨w.heap.size + 1 + 1, 0, none⟩) lu).trans u0, (BX9.out.cell (p := ⟨w.heap.size + 1 + 1, 1, none⟩) lu).trans u1, (BX9.out.cell (p := ⟨w.heap.size + 1 + 1, 2, none⟩) lu).trans u2, (BX9.out.cell (p := ⟨w.heap.size + 1 + 1, 3, none⟩) lu).trans u3, (BX9.out.cell (p := ⟨w.heap.size + 1 + 1, 4, none⟩) lu).trans u4, (BX9.out.cell (p := ⟨w.heap.size + 1 + 1, 5, none⟩) lu).trans u5, (BX9.out.cell (p := ⟨w.heap.size + 1 + 1, 6, none⟩) lu).trans u6, (BX9.out.cell (p := ⟨w7.heap.size, 0, none⟩) ly).trans y0, (BX9.out.cell (p := ⟨w7.heap.size, 1, none⟩) ly).trans y1, (BX9.out.cell (p := ⟨w7.heap.size, 2, none⟩) ly).trans y2⟩
                                  clear hK K
                                  try simp only [Act.put, List.getElem_toArray, List.getElem_cons_zero, List.getElem_cons_succ, List.setIfInBounds_toArray, List.set_cons_zero, List.set_cons_succ]
                                  refine wpAnyH_take (i := 27) (oi := _) (v := ?_) rfl (by kernel_rfl) (by kernel_rfl) (by kernel_rfl) (fun _ _ _ h => h) (Or.inl ⟨by rfl, ?_⟩) (by assumption) ?_
                                  rotate_left
                                  · intro w hSw; obtain ⟨k0, k1, k2, k3, k4, k5, k6, k7, k8, k9, k10, k11, k12, k13, k14, k15, k16, k17, k18, k19, k20, k21, k22, k23, k24⟩ := hSw; go_simp; all_goals (with_reducible rfl)
                                  try simp only [Act.put, List.getElem_toArray, List.getElem_cons_zero, List.getElem_cons_succ, List.setIfInBounds_toArray, List.set_cons_zero, List.set_cons_succ]
                                  refine wpAnyH_take (i := 29) (oi := _) (v := ?_) rfl (by kernel_rfl) (by kernel_rfl) (by kernel_rfl) (fun _ _ _ h => h) (Or.inl ⟨by rfl, ?_⟩) (by assumption) ?_
                                  rotate_left
                                  · intro w hSw; obtain ⟨k0, k1, k2, k3, k4, k5, k6, k7, k8, k9, k10, k11, k12, k13, k14, k15, k16, k17, k18, k19, k20, k21, k22, k23, k24⟩ := hSw; go_simp; all_goals (with_reducible rfl)
                                  try simp only [Act.put, List.getElem_toArray, List.getElem_cons_zero, List.getElem_cons_succ, List.setIfInBounds_toArray, List.set_cons_zero, List.set_cons_succ]
                                  refine wpAnyH_take (i := 30) (oi := _) (v := ?_) rfl (by kernel_rfl) (by kernel_rfl) (by kernel_rfl) (fun _ _ _ h => h) (Or.inl ⟨by rfl, ?_⟩) (by assumption) ?_
                                  rotate_left
                                  · intro w hSw; obtain ⟨k0, k1, k2, k3, k4, k5, k6, k7, k8, k9, k10, k11, k12, k13, k14, k15, k16, k17, k18, k19, k20, k21, k22, k23, k24⟩ := hSw; go_simp; all_goals (with_reducible rfl)
                                  try simp only [Act.put, List.getElem_toArray, List.getElem_cons_zero, List.getElem_cons_succ, List.setIfInBounds_toArray, List.set_cons_zero, List.set_cons_succ]
                                  refine wpAnyH_done (by kernel_rfl) ?_ _
                                  go_wp2_with fail
                                  go_roundw
                                  case rel =>
                                    obtain ⟨i', m', sq', q1, q2, q3, q4, q5, bq', r1, r2, r3, r4, r5, r6, r7, r8, r9, ra, rb, rc, rd⟩ := REL.out _ BX9.out
                                    exact ⟨i', m', sq', q1, q2, q3, q4, q5, bq', r1, by rw [← r2]; go_num, r3, r4, r5, r6, r7, r8, r9, ra, rb, rc, rd⟩
                                  case measure => simp [intOf]; omega
                · have hi9 : ¬ (i : Int) < (NP : Int) := by omega
                  have HLF := Lib.hid (Left_any bq wR (light_s HLT.out))
                  unfold budA at HLF
                  have u0 : wR.cell? ⟨w.heap.size + 1 + 1, 0, none⟩ = some (.int .i64 bq.stops) := cell_of_heap IB.out 0 rfl
                  have u1 : wR.cell? ⟨w.heap.size + 1 + 1, 1, none⟩ = some (.int .i64 bq.cells) := cell_of_heap IB.out 1 rfl
                  have u2 : wR.cell? ⟨w.heap.size + 1 + 1, 2, none⟩ = some (.int .i64 bq.mutes) := cell_of_heap IB.out 2 rfl
                  have u3 : wR.cell? ⟨w.heap.size + 1 + 1, 3, none⟩ = some (.int .i64 bq.muteMost) := cell_of_heap IB.out 3 rfl
                  have u4 : wR.cell? ⟨w.heap.size + 1 + 1, 4, none⟩ = some (.int .i64 bq.lifts) := cell_of_heap IB.out 4 rfl
                  have u5 : wR.cell? ⟨w.heap.size + 1 + 1, 5, none⟩ = some (.int .i64 bq.liftMost) := cell_of_heap IB.out 5 rfl
                  have u6 : wR.cell? ⟨w.heap.size + 1 + 1, 6, none⟩ = some (.int .i64 bq.steps) := cell_of_heap IB.out 6 rfl
                  go_wp2_with fail
                  go_at_call 13; refine HLF.out.mono ?_; rintro e w7 ⟨rfl, b7⟩
                  have B7 := Lib.hid b7
                  obtain ⟨cl, hcl⟩ : ∃ q, Fa.left bq = q := ⟨_, rfl⟩
                  have HCL := Lib.hid hcl
                  rw [hcl]
                  clear b7 hcl
                  clear u0 u1 u2 u3 u4 u5 u6
                  by_cases hc0 : 0 < cl
                  · go_wp2_with fail
                    go_ret
                    exact ⟨rfl, BB.out _ B7.out⟩
                  ·
                    have x0 : w7.cell? ⟨w.heap.size, 0, none⟩ = some (.int .i64 s.floor.w) := cell_of_heap (CS.out _ B7.out) 0 rfl
                    have x1 : w7.cell? ⟨w.heap.size, 1, none⟩ = some (.int .i64 s.floor.h) := cell_of_heap (CS.out _ B7.out) 1 rfl
                    have x2 : w7.cell? ⟨w.heap.size, 2, none⟩ = some (.int .i64 s.floor.d) := cell_of_heap (CS.out _ B7.out) 2 rfl
                    have x3 : w7.cell? ⟨w.heap.size, 3, none⟩ = some (.slice ka k kc) := cell_of_heap (CS.out _ B7.out) 3 rfl
                    have x4 : w7.cell? ⟨w.heap.size, 4, none⟩ = some (ov) := cell_of_heap (CS.out _ B7.out) 4 rfl
                    have x5 : w7.cell? ⟨w.heap.size, 5, none⟩ = some (zv) := cell_of_heap (CS.out _ B7.out) 5 rfl
                    have x6 : w7.cell? ⟨w.heap.size, 6, none⟩ = some (av) := cell_of_heap (CS.out _ B7.out) 6 rfl
                    have x7 : w7.cell? ⟨w.heap.size, 7, none⟩ = some (hv) := cell_of_heap (CS.out _ B7.out) 7 rfl
                    have x8 : w7.cell? ⟨w.heap.size, 8, none⟩ = some (bv) := cell_of_heap (CS.out _ B7.out) 8 rfl
                    have t0 : w7.cell? ⟨w.heap.size + 1, 0, none⟩ = some (.int .i64 sq.tick) := cell_of_heap (CU.out _ B7.out) 0 rfl
                    have t1 : w7.cell? ⟨w.heap.size + 1, 1, none⟩ = some (sv1) := cell_of_heap (CU.out _ B7.out) 1 rfl
                    have t2 : w7.cell? ⟨w.heap.size + 1, 2, none⟩ = some (sv2) := cell_of_heap (CU.out _ B7.out) 2 rfl
                    have t3 : w7.cell? ⟨w.heap.size + 1, 3, none⟩ = some (sv3) := cell_of_heap (CU.out _ B7.out) 3 rfl
                    have t4 : w7.cell? ⟨w.heap.size + 1, 4, none⟩ = some (sv4) := cell_of_heap (CU.out _ B7.out) 4 rfl
                    have t5 : w7.cell? ⟨w.heap.size + 1, 5, none⟩ = some (sv5) := cell_of_heap (CU.out _ B7.out) 5 rfl
                    have u0 : w7.cell? ⟨w.heap.size + 1 + 1, 0, none⟩ = some (.int .i64 bq.stops) := cell_of_heap (CB.out _ B7.out) 0 rfl
                    have u1 : w7.cell? ⟨w.heap.size + 1 + 1, 1, none⟩ = some (.int .i64 bq.cells) := cell_of_heap (CB.out _ B7.out) 1 rfl
                    have u2 : w7.cell? ⟨w.heap.size + 1 + 1, 2, none⟩ = some (.int .i64 bq.mutes) := cell_of_heap (CB.out _ B7.out) 2 rfl
                    have u3 : w7.cell? ⟨w.heap.size + 1 + 1, 3, none⟩ = some (.int .i64 bq.muteMost) := cell_of_heap (CB.out _ B7.out) 3 rfl
                    have u4 : w7.cell? ⟨w.heap.size + 1 + 1, 4, none⟩ = some (.int .i64 bq.lifts) := cell_of_heap (CB.out _ B7.out) 4 rfl
                    have u5 : w7.cell? ⟨w.heap.size + 1 + 1, 5, none⟩ = some (.int .i64 bq.liftMost) := cell_of_heap (CB.out _ B7.out) 5 rfl
                    have u6 : w7.cell? ⟨w.heap.size + 1 + 1, 6, none⟩ = some (.int .i64 bq.steps) := cell_of_heap (CB.out _ B7.out) 6 rfl
                    go_wp2_with fail
                    go_at_call 9; refine (HHL.out w7 sq sv1 sv2 sv3 sv4 sv5 bq _ _ (BB.out _ B7.out) (HSK.out _ B7.out) HR.out HLT.out (OK.out _ B7.out) HNS.out).mono ?_; rintro e w8 ⟨vl, l, rfl, hv, hl, b8⟩
                    have h1 := hl.left_zero (light_nn HLT.out) (by rw [HCL.out]; omega)
                    subst h1
                    obtain ⟨va, vc, rfl, hvm⟩ := hv.form
                    go_wp2_with fail
                    go_ret
                    exact ⟨rfl, BB.out _ (B7.out.trans (b8.mono B7.out.size))⟩
end Go.Proofs.YtcdfmgobokjcnaaGreat
