/- Parts Gk of this claim, laid one behind the other: walks and the plain laws behind them; each contract states its own conditions. -/
import Derived.Test.YtcdfmgobokjcnaaGreatDoorYH
/- Walks of package taquinlaw29: small, counts. -/
namespace Go.Proofs.YtcdfmgobokjcnaaGreatDoor
set_option linter.unusedSimpArgs false
set_option linter.unusedVariables false
open Go.RowKit Go.Sort

theorem samp_fb : FB Fa.sampF := ⟨by decide, by decide, by decide, by decide, by decide, by decide⟩
theorem samp_sts : StS Fa.sampS where
  ro := by intro r hr; simp [Fa.sampS] at hr; rcases hr with rfl | rfl <;> (unfold SmC; decide)
  sh := by intro r hr; simp [Fa.sampS] at hr
  pe := by intro r hr; simp [Fa.sampS] at hr
  nr := by decide
  ns := by decide
  np := by decide
theorem samp_bn : BudN Fa.sampB := ⟨by decide, by decide, by decide, by decide, by decide, by decide, by decide⟩
theorem samp_s1 : Fa.spend Fa.sampB ⟨3, 1, 6⟩ = none := by decide
theorem samp_s2 : Fa.spend Fa.sampB ⟨3, 1, 4⟩ = some ⟨1, 0, 0, 5, 0, 0, 0⟩ := by decide
theorem samp_run : Fa.run Fa.sampB [⟨1, 0, 0⟩, ⟨1, 1, 0⟩] = (⟨0, 0, 1, 5, 0, 0, 0⟩, 1) := by decide
theorem ftv_rows {w : World} {g : Nat} {l : List Fa.Flt} {t : TypeId} (h : w.heap[g]? = some (.cells (flts l).toArray t (0, 0))) (hm : l.length ≤ maxLen) : FtV w (.slice (some ⟨g, 0, none⟩) l.length l.length) l := by
  refine ⟨some ⟨g, 0, none⟩, l.length, by simp, by simpa using hm, (fun h => by cases h), fun i hi => ⟨g, 0, rfl, heap_lt h, fun j hj => ?_⟩⟩
  have hf := get_flatten (l.map fltC) (k := 3) (fun r hr => by obtain ⟨x, -, rfl⟩ := List.mem_map.1 hr; rfl) i (by simpa using hi) j hj
  rw [← flts_eq] at hf
  obtain ⟨y, hy⟩ : ∃ y, (l.map fltC)[i][j]? = some y := ⟨(l.map fltC)[i][j]'(by simp [fltC]; exact hj), List.getElem?_eq_getElem _⟩
  rw [hy] at hf ⊢
  rw [Nat.zero_add]
  exact cell_of_heap h _ (by simpa using hf)
theorem samp_cells : (flts Fa.sampL).toArray = #[.int .i64 0, .int .i64 0, .int .i64 0, .int .i64 1, .int .i64 0, .int .i64 0, .int .i64 3, .int .i64 0, .int .i64 1, .int .i64 3, .int .i64 0, .int .i64 2, .int .i64 3, .int .i64 0, .int .i64 3, .int .i64 3, .int .i64 0, .int .i64 4, .int .i64 3, .int .i64 0, .int .i64 5] := rfl
theorem ftv_samp {w : World} {g : Nat} {t : TypeId} (h : w.heap[g]? = some (.cells #[.int .i64 0, .int .i64 0, .int .i64 0, .int .i64 1, .int .i64 0, .int .i64 0, .int .i64 3, .int .i64 0, .int .i64 1, .int .i64 3, .int .i64 0, .int .i64 2, .int .i64 3, .int .i64 0, .int .i64 3, .int .i64 3, .int .i64 0, .int .i64 4, .int .i64 3, .int .i64 0, .int .i64 5] t (0, 0))) : FtV w (.slice (some ⟨g, 0, none⟩) 7 7) Fa.sampL :=
  ftv_rows (l := Fa.sampL) (by rw [samp_cells]; exact h) (by unfold maxLen; decide)
theorem same_samp (v1 v2 : Value) (w : World) (h1 : FtV w v1 Fa.sampL) (h2 : FtV w v2 Fa.sampL) : Calls Tryz.prog 25 #[v1, v2] w fun e w' => e = .returned (.bool true) ∧ Below w.heap.size w w' := by
  have := sameF_any v1 v2 Fa.sampL Fa.sampL w h1 h2
  have e : decide (Fa.sampL = Fa.sampL) = true := by simp
  rw [e] at this
  exact this
set_option maxRecDepth 100000 in
set_option maxHeartbeats 16000000 in
theorem small_any (w : World) : Calls Tryz.prog 4 #[] w fun e w' => e = .returned (.bool true) ∧ Below w.heap.size w w' := by
  have HS := Lib.hid (fun W => sample_any W)
  have HLI := Lib.hid (fun kv ov hv rv cv W hf h hc => List_any Fa.sampF kv ov (.slice none 0 0) (.slice none 0 0) (.slice none 0 0) hv Fa.sampS (.slice none 0 0) rv (.slice none 0 0) (.slice none 0 0) (.slice none 0 0) Fa.sampB cv [3] W hf samp_fb (by decide) h samp_sts samp_bn hc (by decide) (by decide) (by decide))
  have HS1 : Hid (∀ W, _) := Lib.hid (fun W => by have := Spend_any Fa.sampB ⟨3, 1, 6⟩ W samp_bn; rw [samp_s1] at this; exact this)
  have HS2 : Hid (∀ W, _) := Lib.hid (fun W => by have := Spend_any Fa.sampB ⟨3, 1, 4⟩ W samp_bn; rw [samp_s2] at this; exact this)
  have HRU : Hid (∀ v W, FtV W v [⟨1, 0, 0⟩, ⟨1, 1, 0⟩] → _) := Lib.hid (fun v W h => by have := Run_any Fa.sampB v [⟨1, 0, 0⟩, ⟨1, 1, 0⟩] W samp_bn h; rw [samp_run] at this; exact this)
  have HSA := Lib.hid (fun v1 v2 W h1 h2 => same_samp v1 v2 W h1 h2)
  unfold SmpPost at HS
  unfold LstPost at HLI
  unfold siF stV at HS HLI
  unfold spendV fltV budA at HS1 HS2
  unfold runV at HRU
  unfold budA at HRU HLI
  simp only [Fa.sampF, Fa.sampS, Fa.sampB] at HS HLI HS1 HS2 HRU
  go_enter Tryz.func4, Tryz.ntmps4
  go_wp2_with fail
  go_at_call 28; refine (HS.out w).mono ?_; rintro e w1 ⟨kv, ov, ha, hn, hc, rv, rfl, hfl, hst, b1⟩
  obtain ⟨ka, kc, rfl, -⟩ := hfl.kind.form
  obtain ⟨oa, oc, rfl, -⟩ := hfl.out.form
  obtain ⟨ra, rc, rfl, -⟩ := hst.ro.form
  have HFL := Lib.hid hfl
  have HST := Lib.hid hst
  have B1 := Lib.hid b1
  have hA := al2 w1 (.cells #[.int .i64 0, .int .i64 0, .int .i64 0, .slice none 0 0, .slice none 0 0, .slice none 0 0, .slice none 0 0, .slice none 0 0, .slice none 0 0] 30) (.cells #[.int .i64 0, .slice none 0 0, .slice none 0 0, .slice none 0 0, .slice none 0 0, .slice none 0 0] 34)
  obtain ⟨w2, hw2⟩ : ∃ W, W = (w1.alloc (.cells #[.int .i64 0, .int .i64 0, .int .i64 0, .slice none 0 0, .slice none 0 0, .slice none 0 0, .slice none 0 0, .slice none 0 0, .slice none 0 0] 30)).alloc (.cells #[.int .i64 0, .slice none 0 0, .slice none 0 0, .slice none 0 0, .slice none 0 0, .slice none 0 0] 34) := ⟨_, rfl⟩
  rw [← hw2] at hA
  obtain ⟨hA1, hA2, hA3, hA4⟩ := hA
  have hA5 := (setRow_other w2 w1.heap.size (w1.heap.size + 1) #[.int .i64 10, .int .i64 1, .int .i64 1, .slice ka 10 kc, .slice oa 10 oc, .slice none 0 0, .slice none 0 0, .slice none 0 0, .slice ha hn hc] (by omega)).trans hA2
  have H1 := Lib.hid hA1
  have H2 := Lib.hid hA5
  have HW2 := Lib.hid hw2
  have BR1 : Below w1.heap.size w2 (w2.setRow w1.heap.size #[.int .i64 10, .int .i64 1, .int .i64 1, .slice ka 10 kc, .slice oa 10 oc, .slice none 0 0, .slice none 0 0, .slice none 0 0, .slice ha hn hc]) := ⟨rfl, rfl, rfl, by simp, fun k hk => setRow_other _ _ _ _ (by omega)⟩
  have BR2 : Below w1.heap.size (w2.setRow w1.heap.size #[.int .i64 10, .int .i64 1, .int .i64 1, .slice ka 10 kc, .slice oa 10 oc, .slice none 0 0, .slice none 0 0, .slice none 0 0, .slice ha hn hc]) ((w2.setRow w1.heap.size #[.int .i64 10, .int .i64 1, .int .i64 1, .slice ka 10 kc, .slice oa 10 oc, .slice none 0 0, .slice none 0 0, .slice none 0 0, .slice ha hn hc]).setRow (w1.heap.size + 1) #[.int .i64 0, .slice none 0 0, .slice ra 2 rc, .slice none 0 0, .slice none 0 0, .slice none 0 0]) := ⟨rfl, rfl, rfl, by simp, fun k hk => setRow_other _ _ _ _ (by omega)⟩
  have K1 : ((w2.setRow w1.heap.size #[.int .i64 10, .int .i64 1, .int .i64 1, .slice ka 10 kc, .slice oa 10 oc, .slice none 0 0, .slice none 0 0, .slice none 0 0, .slice ha hn hc]).setRow (w1.heap.size + 1) #[.int .i64 0, .slice none 0 0, .slice ra 2 rc, .slice none 0 0, .slice none 0 0, .slice none 0 0]).heap[w1.heap.size]? = some (.cells #[.int .i64 10, .int .i64 1, .int .i64 1, .slice ka 10 kc, .slice oa 10 oc, .slice none 0 0, .slice none 0 0, .slice none 0 0, .slice ha hn hc] 30 (0, 0)) := (setRow_other _ _ _ _ (by omega)).trans (setRow_heap _ _ _ _ _ _ hA1)
  have K2 : ((w2.setRow w1.heap.size #[.int .i64 10, .int .i64 1, .int .i64 1, .slice ka 10 kc, .slice oa 10 oc, .slice none 0 0, .slice none 0 0, .slice none 0 0, .slice ha hn hc]).setRow (w1.heap.size + 1) #[.int .i64 0, .slice none 0 0, .slice ra 2 rc, .slice none 0 0, .slice none 0 0, .slice none 0 0]).heap[w1.heap.size + 1]? = some (.cells #[.int .i64 0, .slice none 0 0, .slice ra 2 rc, .slice none 0 0, .slice none 0 0, .slice none 0 0] 34 (0, 0)) := setRow_heap _ _ _ _ _ _ hA5
  obtain ⟨w3, hw3⟩ : ∃ W, W = (w2.setRow w1.heap.size #[.int .i64 10, .int .i64 1, .int .i64 1, .slice ka 10 kc, .slice oa 10 oc, .slice none 0 0, .slice none 0 0, .slice none 0 0, .slice ha hn hc]).setRow (w1.heap.size + 1) #[.int .i64 0, .slice none 0 0, .slice ra 2 rc, .slice none 0 0, .slice none 0 0, .slice none 0 0] := ⟨_, rfl⟩
  rw [← hw3] at K1 K2 BR2
  have HW3 := Lib.hid hw3
  have B3 := Lib.hid (hA3.trans (BR1.trans BR2))
  have HK1 := Lib.hid K1
  have HK2 := Lib.hid K2
  clear hfl hst b1 hw2 hw3 hA1 hA2 hA3 hA4 hA5 BR1 BR2 K1 K2
  go_upto_region 2 with (first | (rw [← HW2.out]; refine wpList_store_row rfl 30 (.tmp 1) (.tmp 14) rfl w1.heap.size #[.int .i64 10, .int .i64 1, .int .i64 1, .slice ka 10 kc, .slice oa 10 oc, .slice none 0 0, .slice none 0 0, .slice none 0 0, .slice ha hn hc] rfl rfl 30 #[.int .i64 0, .int .i64 0, .int .i64 0, .slice none 0 0, .slice none 0 0, .slice none 0 0, .slice none 0 0, .slice none 0 0, .slice none 0 0] H1.out (by kernel_rfl) rfl (by kernel_rfl) ?_) | (refine wpList_store_row rfl 34 (.tmp 2) (.tmp 15) rfl (w1.heap.size + 1) #[.int .i64 0, .slice none 0 0, .slice ra 2 rc, .slice none 0 0, .slice none 0 0, .slice none 0 0] rfl rfl 34 #[.int .i64 0, .slice none 0 0, .slice none 0 0, .slice none 0 0, .slice none 0 0, .slice none 0 0] H2.out (by kernel_rfl) rfl (by kernel_rfl) ?_))
  rw [← HW3.out]
  have hA := al2 w3 (.cells #[.int .i64 1, .int .i64 0, .int .i64 1, .int .i64 5, .int .i64 0, .int .i64 0, .int .i64 0] 36) (.cells #[.int .i64 3] 3)
  obtain ⟨w5, hw5⟩ : ∃ W, W = (w3.alloc (.cells #[.int .i64 1, .int .i64 0, .int .i64 1, .int .i64 5, .int .i64 0, .int .i64 0, .int .i64 0] 36)).alloc (.cells #[.int .i64 3] 3) := ⟨_, rfl⟩
  rw [← hw5] at hA
  have IB := Lib.hid hA.1
  have B5 := Lib.hid (B1.out.trans ((B3.out.trans (hA.2.2.1.mono B3.out.size)).mono B1.out.size))
  have HIs := Lib.hid (is_new1 hA.2.1)
  have HW5 := Lib.hid hw5
  have b15 : Below w1.heap.size w1 w5 := B3.out.trans (hA.2.2.1.mono B3.out.size)
  have HLI5 := Lib.hid (HLI.out _ _ (.slice ha hn hc) _ _ w5 (HFL.out.keep b15) (HST.out.keep b15) HIs.out)
  have k1 := keep_heap HK1.out ((al1 w3 (.cells #[.int .i64 1, .int .i64 0, .int .i64 1, .int .i64 5, .int .i64 0, .int .i64 0, .int .i64 0] 36)).2.1)
  have k2 := keep_heap HK2.out ((al1 w3 (.cells #[.int .i64 1, .int .i64 0, .int .i64 1, .int .i64 5, .int .i64 0, .int .i64 0, .int .i64 0] 36)).2.1)
  have p0 := cell_of_heap k1 0 (v := .int .i64 10) rfl
  have p1 := cell_of_heap k1 1 (v := .int .i64 1) rfl
  have p2 := cell_of_heap k1 2 (v := .int .i64 1) rfl
  have p3 := cell_of_heap k1 3 (v := .slice ka 10 kc) rfl
  have p4 := cell_of_heap k1 4 (v := .slice oa 10 oc) rfl
  have p5 := cell_of_heap k1 5 (v := .slice none 0 0) rfl
  have p6 := cell_of_heap k1 6 (v := .slice none 0 0) rfl
  have p7 := cell_of_heap k1 7 (v := .slice none 0 0) rfl
  have p8 := cell_of_heap k1 8 (v := .slice ha hn hc) rfl
  have q0 := cell_of_heap k2 0 (v := .int .i64 0) rfl
  have q1 := cell_of_heap k2 1 (v := .slice none 0 0) rfl
  have q2 := cell_of_heap k2 2 (v := .slice ra 2 rc) rfl
  have q3 := cell_of_heap k2 3 (v := .slice none 0 0) rfl
  have q4 := cell_of_heap k2 4 (v := .slice none 0 0) rfl
  have q5 := cell_of_heap k2 5 (v := .slice none 0 0) rfl
  clear hA hw5 b15 k1 k2
  go_wp2_with fail
  rw [← HW5.out]
  go_at_call 26; refine HLI5.out.mono ?_; rintro e w6 ⟨v6, l6, rfl, hf6, hl6, b6⟩
  obtain rfl := Fa.samp_is hl6
  obtain ⟨fa, fc, rfl, -⟩ := hf6.form
  have HF6 := Lib.hid hf6
  have HB6 := Lib.hid (B5.out.trans (b6.mono B5.out.size))
  have IB6 := Lib.hid (keep_heap IB.out b6)
  clear hf6 hl6 b6 p0 p1 p2 p3 p4 p5 p6 p7 p8 q0 q1 q2 q3 q4 q5
  have u0 := cell_of_heap IB6.out 0 (v := .int .i64 1) rfl
  have u1 := cell_of_heap IB6.out 1 (v := .int .i64 0) rfl
  have u2 := cell_of_heap IB6.out 2 (v := .int .i64 1) rfl
  have u3 := cell_of_heap IB6.out 3 (v := .int .i64 5) rfl
  have u4 := cell_of_heap IB6.out 4 (v := .int .i64 0) rfl
  have u5 := cell_of_heap IB6.out 5 (v := .int .i64 0) rfl
  have u6 := cell_of_heap IB6.out 6 (v := .int .i64 0) rfl
  go_wp2_with fail
  go_at_call 11; refine (HS1.out w6).mono ?_; rintro e w7 ⟨rfl, b7⟩
  have a7 := al1 w7 (.cells #[.int .i64 1, .int .i64 0, .int .i64 1, .int .i64 5, .int .i64 0, .int .i64 0, .int .i64 0] 36)
  have IB8 := Lib.hid (keep_heap (keep_heap IB6.out b7) a7.2.1)
  have B68 : Hid (Below w6.heap.size w6 (w7.alloc (.cells #[.int .i64 1, .int .i64 0, .int .i64 1, .int .i64 5, .int .i64 0, .int .i64 0, .int .i64 0] 36))) := Lib.hid (b7.trans (a7.2.1.mono b7.size))
  clear b7 a7 u0 u1 u2 u3 u4 u5 u6
  have u0 := cell_of_heap IB8.out 0 (v := .int .i64 1) rfl
  have u1 := cell_of_heap IB8.out 1 (v := .int .i64 0) rfl
  have u2 := cell_of_heap IB8.out 2 (v := .int .i64 1) rfl
  have u3 := cell_of_heap IB8.out 3 (v := .int .i64 5) rfl
  have u4 := cell_of_heap IB8.out 4 (v := .int .i64 0) rfl
  have u5 := cell_of_heap IB8.out 5 (v := .int .i64 0) rfl
  have u6 := cell_of_heap IB8.out 6 (v := .int .i64 0) rfl
  go_wp2_with fail
  go_at_call 11; refine (HS2.out _).mono ?_; rintro e w9 ⟨rfl, b9⟩
  obtain ⟨g1, g2, g3, g4⟩ := al2 w9 (.cells #[.int .i64 1, .int .i64 0, .int .i64 0, .int .i64 5, .int .i64 0, .int .i64 0, .int .i64 0] 36) (.cells #[.int .i64 1, .int .i64 0, .int .i64 0, .int .i64 1, .int .i64 1, .int .i64 0] 38)
  have B69 : Hid (Below w6.heap.size w6 w9) := Lib.hid (B68.out.trans (b9.mono B68.out.size))
  have IB10 := Lib.hid (keep_heap (keep_heap IB8.out b9) (al1 w9 (.cells #[.int .i64 1, .int .i64 0, .int .i64 0, .int .i64 5, .int .i64 0, .int .i64 0, .int .i64 0] 36)).2.1)
  have I7 := Lib.hid g1
  have HFR : Hid (FtV ((w9.alloc (.cells #[.int .i64 1, .int .i64 0, .int .i64 0, .int .i64 5, .int .i64 0, .int .i64 0, .int .i64 0] 36)).alloc (.cells #[.int .i64 1, .int .i64 0, .int .i64 0, .int .i64 1, .int .i64 1, .int .i64 0] 38)) (.slice (some ⟨w9.heap.size + 1, 0, none⟩) 2 2) [⟨1, 0, 0⟩, ⟨1, 1, 0⟩]) := Lib.hid (ftv_rows (l := [⟨1, 0, 0⟩, ⟨1, 1, 0⟩]) g2 (by simp [maxLen]))
  have HRR := Lib.hid (HRU.out _ _ HFR.out)
  have B611 : Hid (Below w6.heap.size w6 ((w9.alloc (.cells #[.int .i64 1, .int .i64 0, .int .i64 0, .int .i64 5, .int .i64 0, .int .i64 0, .int .i64 0] 36)).alloc (.cells #[.int .i64 1, .int .i64 0, .int .i64 0, .int .i64 1, .int .i64 1, .int .i64 0] 38))) := Lib.hid (B69.out.trans (g3.mono B69.out.size))
  clear b9 g1 g2 g3 g4 u0 u1 u2 u3 u4 u5 u6
  have u0 := cell_of_heap IB10.out 0 (v := .int .i64 1) rfl
  have u1 := cell_of_heap IB10.out 1 (v := .int .i64 0) rfl
  have u2 := cell_of_heap IB10.out 2 (v := .int .i64 1) rfl
  have u3 := cell_of_heap IB10.out 3 (v := .int .i64 5) rfl
  have u4 := cell_of_heap IB10.out 4 (v := .int .i64 0) rfl
  have u5 := cell_of_heap IB10.out 5 (v := .int .i64 0) rfl
  have u6 := cell_of_heap IB10.out 6 (v := .int .i64 0) rfl
  go_wp2_with fail
  go_at_call 13; refine HRR.out.mono ?_; rintro e w12 ⟨rfl, b12⟩
  obtain ⟨g1, g2, g3, g4⟩ := al2 w12 (.cells #[.int .i64 0, .int .i64 0, .int .i64 1, .int .i64 5, .int .i64 0, .int .i64 0, .int .i64 0] 36) (.cells #[.int .i64 0, .int .i64 0, .int .i64 0, .int .i64 1, .int .i64 0, .int .i64 0, .int .i64 3, .int .i64 0, .int .i64 1, .int .i64 3, .int .i64 0, .int .i64 2, .int .i64 3, .int .i64 0, .int .i64 3, .int .i64 3, .int .i64 0, .int .i64 4, .int .i64 3, .int .i64 0, .int .i64 5] 38)
  have I7b := Lib.hid (keep_heap (keep_heap I7.out b12) g3)
  have I9b := Lib.hid g1
  have B612 := Lib.hid (B611.out.trans (b12.mono B611.out.size))
  have B613 : Hid (Below w6.heap.size w6 ((w12.alloc (.cells #[.int .i64 0, .int .i64 0, .int .i64 1, .int .i64 5, .int .i64 0, .int .i64 0, .int .i64 0] 36)).alloc (.cells #[.int .i64 0, .int .i64 0, .int .i64 0, .int .i64 1, .int .i64 0, .int .i64 0, .int .i64 3, .int .i64 0, .int .i64 1, .int .i64 3, .int .i64 0, .int .i64 2, .int .i64 3, .int .i64 0, .int .i64 3, .int .i64 3, .int .i64 0, .int .i64 4, .int .i64 3, .int .i64 0, .int .i64 5] 38))) := Lib.hid (B612.out.trans (g3.mono B612.out.size))
  have HFS := Lib.hid (ftv_samp g2)
  have HSS := Lib.hid (HSA.out _ _ _ (HF6.out.keep B613.out) HFS.out)
  clear b12 g1 g2 g3 g4 u0 u1 u2 u3 u4 u5 u6
  go_wp2_with fail
  go_at_call 25; refine HSS.out.mono ?_; rintro e w14 ⟨rfl, b14⟩
  have J7 := Lib.hid (keep_heap I7b.out b14)
  have J9 := Lib.hid (keep_heap I9b.out b14)
  have B614 := Lib.hid (B613.out.trans (b14.mono B613.out.size))
  have x0 := cell_of_heap J7.out 0 (v := .int .i64 1) rfl
  have x1 := cell_of_heap J7.out 1 (v := .int .i64 0) rfl
  have x2 := cell_of_heap J7.out 2 (v := .int .i64 0) rfl
  have x3 := cell_of_heap J7.out 3 (v := .int .i64 5) rfl
  have x4 := cell_of_heap J7.out 4 (v := .int .i64 0) rfl
  have x5 := cell_of_heap J7.out 5 (v := .int .i64 0) rfl
  have x6 := cell_of_heap J7.out 6 (v := .int .i64 0) rfl
  have y0 := cell_of_heap J9.out 0 (v := .int .i64 0) rfl
  have y1 := cell_of_heap J9.out 1 (v := .int .i64 0) rfl
  have y2 := cell_of_heap J9.out 2 (v := .int .i64 1) rfl
  have y3 := cell_of_heap J9.out 3 (v := .int .i64 5) rfl
  have y4 := cell_of_heap J9.out 4 (v := .int .i64 0) rfl
  have y5 := cell_of_heap J9.out 5 (v := .int .i64 0) rfl
  have y6 := cell_of_heap J9.out 6 (v := .int .i64 0) rfl
  have hq1 : ∀ W, (binOp .eql 36 (.agg #[.int .i64 1, .int .i64 0, .int .i64 0, .int .i64 5, .int .i64 0, .int .i64 0, .int .i64 0]) (.agg #[.int .i64 1, .int .i64 0, .int .i64 0, .int .i64 5, .int .i64 0, .int .i64 0, .int .i64 0])).run Tryz.prog W = .ok (.bool true) W := fun W => by have := bud_eql ⟨1, 0, 0, 5, 0, 0, 0⟩ ⟨1, 0, 0, 5, 0, 0, 0⟩ W; rw [decide_eq_true rfl] at this; exact this
  have hq2 : ∀ W, (binOp .eql 36 (.agg #[.int .i64 0, .int .i64 0, .int .i64 1, .int .i64 5, .int .i64 0, .int .i64 0, .int .i64 0]) (.agg #[.int .i64 0, .int .i64 0, .int .i64 1, .int .i64 5, .int .i64 0, .int .i64 0, .int .i64 0])).run Tryz.prog W = .ok (.bool true) W := fun W => by have := bud_eql ⟨0, 0, 1, 5, 0, 0, 0⟩ ⟨0, 0, 1, 5, 0, 0, 0⟩ W; rw [decide_eq_true rfl] at this; exact this
  clear b14
  go_wp2_with fail
  go_ret
  exact ⟨rfl, HB6.out.trans (B614.out.mono HB6.out.size)⟩
end Go.Proofs.YtcdfmgobokjcnaaGreatDoor
