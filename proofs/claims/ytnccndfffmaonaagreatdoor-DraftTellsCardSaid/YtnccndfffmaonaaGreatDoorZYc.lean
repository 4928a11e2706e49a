/- Parts DtI3, DtI4 of this claim, laid one behind the other: walks and the plain laws behind them; each contract states its own conditions. -/
import Derived.Test.YtnccndfffmaonaaGreatDoorZYa
/- The reference of layer 10: the reader's item, kinds 3, 5 (printed by mk_dti.py). -/
namespace Go.Proofs.YtnccndfffmaonaaGreatDoor
set_option linter.unusedSimpArgs false
set_option linter.unusedVariables false
open Go.RowKit

set_option maxRecDepth 100000 in
set_option maxHeartbeats 16000000 in
theorem ritem_3 (rb p : Nat) (toks : List Lx.Tok) (w : World) (h : RD rb w toks p false) (hp : p < toks.length) (hE : ∃ front e, toks = front ++ [e] ∧ e.kind = 4) (hL : Dr.LN toks) :
    Calls Tryz.prog 26 #[.pointer (some ⟨rb, 0, none⟩), .int .i64 3] w (ItR rb 3 p toks w) := by
  obtain ⟨F, hF⟩ : ∃ F, F = Dr.fields (Dr.partsOf 3) 0 (item0 3) (toks.drop p) := ⟨_, rfl⟩
  have HF := Lib.hid hF
  have HT0 : Hid (Dr.St toks F [119, 119] 0 (item0 3) p false) := Lib.hid ⟨hp, .inl ⟨rfl, hF⟩⟩
  have HS0 := Lib.hid (IS.start h 3)
  have HE := Lib.hid hE
  have HL := Lib.hid hL
  have hlt := h.lt
  clear h hF hE hL
  go_enter Tryz.func26, Tryz.ntmps26
  go_wp2_with (first | (go_at_call 24; refine (FormL_3 _).mono ?_; rintro e w2 ⟨rfl, rfl⟩))
  go_at_call 25; refine (rtake_any rb p 0 false toks _ HS0.out.hR hp _ rfl).mono ?_; rintro e wt0 ⟨T0, N0, q0, bad0, K0, L0, rfl, hn, hr, ht⟩
  have SA0 := Lib.hid (HS0.out.next hn hr)
  have HT1 := Lib.hid (HT0.out.word HE.out ht)
  have k2 : wt0.frozen? ⟨w.heap.size + 1, 2, none⟩ = false := free_of_heap SA0.out.hx 2
  have l2 : wt0.cell? ⟨w.heap.size + 1, 2, none⟩ = some (.string ⟨#[]⟩) := cell_of_heap SA0.out.hx 2 rfl
  have HS1 := Lib.hid (SA0.out.put (o := 2) (y := Dr.setName (item0 3) 0 T0) (.string ⟨T0.toArray⟩) rfl rfl)
  have ft : (Instr.field 42 (.agg #[.int .i64 K0, .string ⟨T0.toArray⟩, .int .i64 N0, .int .i64 L0]) 1).run Tryz.prog wt0 = _ := tokText K0 N0 L0 ⟨T0.toArray⟩ wt0
  have hq0 := HT1.out.1
  clear hn hr ht SA0
  go_wp2_with fail
  clear ft k2 l2
  go_at_call 25; refine (rtake_any rb q0 0 bad0 toks _ HS1.out.hR hq0 _ rfl).mono ?_; rintro e wt1 ⟨T1, N1, q1, bad1, K1, L1, rfl, hn, hr, ht⟩
  have SA1 := Lib.hid (HS1.out.next hn hr)
  have HT2 := Lib.hid (HT1.out.word HE.out ht)
  have k2 : wt1.frozen? ⟨w.heap.size + 1, 3, none⟩ = false := free_of_heap SA1.out.hx 3
  have l2 : wt1.cell? ⟨w.heap.size + 1, 3, none⟩ = some (.string ⟨#[]⟩) := cell_of_heap SA1.out.hx 3 rfl
  have HS2 := Lib.hid (SA1.out.put (o := 3) (y := Dr.setName (Dr.setName (item0 3) 0 T0) 1 T1) (.string ⟨T1.toArray⟩) rfl rfl)
  have ft : (Instr.field 42 (.agg #[.int .i64 K1, .string ⟨T1.toArray⟩, .int .i64 N1, .int .i64 L1]) 1).run Tryz.prog wt1 = _ := tokText K1 N1 L1 ⟨T1.toArray⟩ wt1
  have hq1 := HT2.out.1
  clear hn hr ht SA1
  go_wp2_with fail
  clear ft k2 l2
  go_loopw [10] (fun iv wr => ∃ (i : Nat) (x : Dr.Item) (nv : Value) (q : Nat) (bad : Bool), i ≤ 0 ∧ iv = .int .i64 i ∧ x.n.length = i ∧ Hid (IS rb (w.heap.size + 1) w wr toks x nv q bad) ∧ Hid (Dr.St toks F ([].drop i) 2 x q bad)) (fun iv _ => 0 - (intOf iv).toNat)
  case atStart => exact ⟨0, _, _, _, _, by omega, rfl, rfl, HS2, HT2⟩
  case round =>
    obtain ⟨i, x, nv, q, bad, hi, rfl, hxn, HS, HT⟩ := hrel
    clear HS0 HT0 HS1 HT1 HS2 HT2
    have HXN := Lib.hid hxn
    have hxn2 : x.n.length ≤ 0 := by omega
    clear hxn
    obtain ⟨na, nca, rfl, hnl⟩ := own_slice HS.out.hN
    have hsx : w.heap.size + 1 < wr.heap.size := HS.out.hs
    have hq := HT.out.1
    · obtain rfl : i = 0 := by omega
      have p0 : wr.cell? ⟨w.heap.size + 1, 0, none⟩ = some (.int .i64 x.kind) := cell_of_heap HS.out.hx 0 rfl
      have p1 : wr.cell? ⟨w.heap.size + 1, 1, none⟩ = some (.int .i64 x.line) := cell_of_heap HS.out.hx 1 rfl
      have p2 : wr.cell? ⟨w.heap.size + 1, 2, none⟩ = some (.string ⟨x.name.toArray⟩) := cell_of_heap HS.out.hx 2 rfl
      have p3 : wr.cell? ⟨w.heap.size + 1, 3, none⟩ = some (.string ⟨x.other.toArray⟩) := cell_of_heap HS.out.hx 3 rfl
      have p4 : wr.cell? ⟨w.heap.size + 1, 4, none⟩ = some (.slice na x.n.length nca) := cell_of_heap HS.out.hx 4 rfl
      have z0 : wr.cell? ⟨w.heap.size, 0, none⟩ = some (.int .i64 0) := cell_of_heap HS.out.hz 0 rfl
      have z1 : wr.cell? ⟨w.heap.size, 1, none⟩ = some (.int .i64 0) := cell_of_heap HS.out.hz 1 rfl
      have z2 : wr.cell? ⟨w.heap.size, 2, none⟩ = some (.string ⟨#[]⟩) := cell_of_heap HS.out.hz 2 rfl
      have z3 : wr.cell? ⟨w.heap.size, 3, none⟩ = some (.string ⟨#[]⟩) := cell_of_heap HS.out.hz 3 rfl
      have z4 : wr.cell? ⟨w.heap.size, 4, none⟩ = some (.slice none 0 0) := cell_of_heap HS.out.hz 4 rfl
      have y0 : wr.frozen? ⟨w.heap.size, 0, none⟩ = false := free_of_heap HS.out.hz 0
      have y1 : wr.frozen? ⟨w.heap.size, 1, none⟩ = false := free_of_heap HS.out.hz 1
      have y2 : wr.frozen? ⟨w.heap.size, 2, none⟩ = false := free_of_heap HS.out.hz 2
      have y3 : wr.frozen? ⟨w.heap.size, 3, none⟩ = false := free_of_heap HS.out.hz 3
      have y4 : wr.frozen? ⟨w.heap.size, 4, none⟩ = false := free_of_heap HS.out.hz 4
      go_wp2_with fail
      go_quiet (fail)
      all_goals
        go_wp2_with fail
        refine bodyPost_ret (v := itemV x (.slice na x.n.length nca)) (by simp [itemV, results, Tryz.results26, go_sem, *]) rfl (ItR.of HS.out ?_ HF.out HT.out)
        exact nb_drewN (((((NB.refl w.heap.size wr).set 0 _).set 1 _).set 2 _).set 3 _ |>.set 4 _) _
set_option maxRecDepth 100000 in
set_option maxHeartbeats 16000000 in
theorem ritem_5 (rb p : Nat) (toks : List Lx.Tok) (w : World) (h : RD rb w toks p false) (hp : p < toks.length) (hE : ∃ front e, toks = front ++ [e] ∧ e.kind = 4) (hL : Dr.LN toks) :
    Calls Tryz.prog 26 #[.pointer (some ⟨rb, 0, none⟩), .int .i64 5] w (ItR rb 5 p toks w) := by
  obtain ⟨F, hF⟩ : ∃ F, F = Dr.fields (Dr.partsOf 5) 0 (item0 5) (toks.drop p) := ⟨_, rfl⟩
  have HF := Lib.hid hF
  have HT0 : Hid (Dr.St toks F [110, 110, 110, 110] 0 (item0 5) p false) := Lib.hid ⟨hp, .inl ⟨rfl, hF⟩⟩
  have HS0 := Lib.hid (IS.start h 5)
  have HE := Lib.hid hE
  have HL := Lib.hid hL
  have hlt := h.lt
  clear h hF hE hL
  go_enter Tryz.func26, Tryz.ntmps26
  go_wp2_with (first | (go_at_call 24; refine (FormL_5 _).mono ?_; rintro e w2 ⟨rfl, rfl⟩))
  go_loopw [10] (fun iv wr => ∃ (i : Nat) (x : Dr.Item) (nv : Value) (q : Nat) (bad : Bool), i ≤ 4 ∧ iv = .int .i64 i ∧ x.n.length = i ∧ Hid (IS rb (w.heap.size + 1) w wr toks x nv q bad) ∧ Hid (Dr.St toks F ([110, 110, 110, 110].drop i) 0 x q bad)) (fun iv _ => 4 - (intOf iv).toNat)
  case atStart => exact ⟨0, _, _, _, _, by omega, rfl, rfl, HS0, HT0⟩
  case round =>
    obtain ⟨i, x, nv, q, bad, hi, rfl, hxn, HS, HT⟩ := hrel
    clear HS0 HT0
    have HXN := Lib.hid hxn
    have hxn2 : x.n.length ≤ 4 := by omega
    clear hxn
    obtain ⟨na, nca, rfl, hnl⟩ := own_slice HS.out.hN
    have hsx : w.heap.size + 1 < wr.heap.size := HS.out.hs
    have hq := HT.out.1
    by_cases him : i < 4
    · have iI1 : (i : Int) < 4 := by omega
      obtain ⟨i0, hi0, hz0, hz1, hz2⟩ := info_parts Tryz.intInfo
      have d4 : wr.cell? ⟨w.heap.size + 1, 4, none⟩ = some (.slice na x.n.length nca) := cell_of_heap HS.out.hx 4 rfl
      have k4 : wr.frozen? ⟨w.heap.size + 1, 4, none⟩ = false := free_of_heap HS.out.hx 4
      have hti : Dr.St toks F (110 :: [110, 110, 110, 110].drop (i + 1)) 0 x q bad := by
        have h := HT.out
        rwa [List.drop_eq_getElem_cons (by simp only [List.length_cons, List.length_nil]; omega), show ([110, 110, 110, 110] : List UInt8)[i]'(by simp only [List.length_cons, List.length_nil]; omega) = 110 by (match i, him with | 0, _ => rfl | 1, _ => rfl | 2, _ => rfl | 3, _ => rfl)] at h
      have HTI := Lib.hid hti
      clear hti
      have HNE := Lib.hid (fun k hk => (World.ownsRow.lt HS.out.hN k hk).1)
      go_wp2_with fail
      go_region_law
        (first | (refine step_append_lies _ (by rfl) _ _ _ (by rfl) (w.heap.size + 2) 3 i0 _ 1 8 Tryz.underlying32 hi0 hz0 hz1 hz2 rfl (by omega) (.slice na x.n.length nca) x.n.length (ints x.n) (by rfl) (by exact World.ownsRow.alloc s3.hN _) ⟨w3.heap.size, 0, none⟩ 1 1 [.int .i64 N2] (by rfl) (by rfl) (World.news_of_block (cs := #[.int .i64 N2]) (t := 3) (fr := (0, 0)) (by exact heap_alloc_new _ _)) (by simp [Value.oneCell']) (by omega) (by unfold maxLen; omega) (by omega) (by simp; omega) (w3.heap.size + 1) (by simp) ?_; intro g' cap' w4 hown4 hgrow hat hlt4; have q2 : w4.cell? ⟨w.heap.size + 1, 4, none⟩ = some (.slice na x.n.length nca) := (hgrow.cell_far ⟨w.heap.size + 1, 4, none⟩ (Nat.lt_of_lt_of_le hs3 (by simp)) (fun e => absurd (HNE.out _ e.symm) (Nat.not_le_of_lt (Nat.lt_succ_self _)))).trans ((((Below.refl _ w3).alloc (Nat.le_refl _) _).cell (p := ⟨w.heap.size + 1, 4, none⟩) hs3).trans q1); have k5 : w4.frozen? ⟨w.heap.size + 1, 4, none⟩ = false := free_of_heap ((s3.alloc (.cells #[.int .i64 N2] 3)).num N2 hown4 hgrow).1 4) | (go_simp; go_wp2_with (go_at_call 25; refine (rtake_any rb q 1 bad toks _ (by exact HS.out.hR.below (below_drewN _ _ _)) hq _ rfl).mono ?_; rintro e w3 ⟨T2, N2, q2, bad2, K2, L2, rfl, hn, hr, ht⟩; have s3 := (HS.out.next ((NB.of_below (below_drewN _ _ _)).trans hn) hr); have q1 : w3.cell? ⟨w.heap.size + 1, 4, none⟩ = some (.slice na x.n.length nca) := cell_of_heap s3.hx 4 rfl; have ft : ∀ W, (Instr.field 42 (.agg #[.int .i64 K2, .string ⟨T2.toArray⟩, .int .i64 N2, .int .i64 L2]) 2).run Tryz.prog W = .ok (.int .i64 N2) W := fun W => tokN K2 N2 L2 ⟨T2.toArray⟩ W; have hs3 := s3.hs)))
      all_goals
        have S4 := Lib.hid ((s3.alloc (.cells #[.int .i64 N2] 3)).num N2 hown4 hgrow).2
        have HT4 := Lib.hid (Dr.St.num HE.out HTI.out ht)
        have HX4 : Hid (({ x with n := x.n ++ [N2] } : Dr.Item).n.length = i + 1) := Lib.hid (by rw [← HXN.out]; simp)
        clear hown4 hgrow hat hlt4 q1 q2 k5 ft s3 hs3 ht hn hr
        go_wp2_with fail
        go_roundw
        case rel => exact ⟨i + 1, _, _, _, _, by omega, by go_num, HX4.out, S4, HT4⟩
        case measure => simp [intOf]; omega
    · obtain rfl : i = 4 := by omega
      have p0 : wr.cell? ⟨w.heap.size + 1, 0, none⟩ = some (.int .i64 x.kind) := cell_of_heap HS.out.hx 0 rfl
      have p1 : wr.cell? ⟨w.heap.size + 1, 1, none⟩ = some (.int .i64 x.line) := cell_of_heap HS.out.hx 1 rfl
      have p2 : wr.cell? ⟨w.heap.size + 1, 2, none⟩ = some (.string ⟨x.name.toArray⟩) := cell_of_heap HS.out.hx 2 rfl
      have p3 : wr.cell? ⟨w.heap.size + 1, 3, none⟩ = some (.string ⟨x.other.toArray⟩) := cell_of_heap HS.out.hx 3 rfl
      have p4 : wr.cell? ⟨w.heap.size + 1, 4, none⟩ = some (.slice na x.n.length nca) := cell_of_heap HS.out.hx 4 rfl
      have z0 : wr.cell? ⟨w.heap.size, 0, none⟩ = some (.int .i64 0) := cell_of_heap HS.out.hz 0 rfl
      have z1 : wr.cell? ⟨w.heap.size, 1, none⟩ = some (.int .i64 0) := cell_of_heap HS.out.hz 1 rfl
      have z2 : wr.cell? ⟨w.heap.size, 2, none⟩ = some (.string ⟨#[]⟩) := cell_of_heap HS.out.hz 2 rfl
      have z3 : wr.cell? ⟨w.heap.size, 3, none⟩ = some (.string ⟨#[]⟩) := cell_of_heap HS.out.hz 3 rfl
      have z4 : wr.cell? ⟨w.heap.size, 4, none⟩ = some (.slice none 0 0) := cell_of_heap HS.out.hz 4 rfl
      have y0 : wr.frozen? ⟨w.heap.size, 0, none⟩ = false := free_of_heap HS.out.hz 0
      have y1 : wr.frozen? ⟨w.heap.size, 1, none⟩ = false := free_of_heap HS.out.hz 1
      have y2 : wr.frozen? ⟨w.heap.size, 2, none⟩ = false := free_of_heap HS.out.hz 2
      have y3 : wr.frozen? ⟨w.heap.size, 3, none⟩ = false := free_of_heap HS.out.hz 3
      have y4 : wr.frozen? ⟨w.heap.size, 4, none⟩ = false := free_of_heap HS.out.hz 4
      go_wp2_with fail
      go_quiet (fail)
      all_goals
        go_wp2_with fail
        refine bodyPost_ret (v := itemV x (.slice na x.n.length nca)) (by simp [itemV, results, Tryz.results26, go_sem, *]) rfl (ItR.of HS.out ?_ HF.out HT.out)
        exact nb_drewN (((((NB.refl w.heap.size wr).set 0 _).set 1 _).set 2 _).set 3 _ |>.set 4 _) _
end Go.Proofs.YtnccndfffmaonaaGreatDoor
/- The reference of layer 10: the reader's item, kinds 4 (printed by mk_dti.py). -/
namespace Go.Proofs.YtnccndfffmaonaaGreatDoor
set_option linter.unusedSimpArgs false
set_option linter.unusedVariables false
open Go.RowKit

set_option maxRecDepth 100000 in
set_option maxHeartbeats 16000000 in
theorem ritem_4 (rb p : Nat) (toks : List Lx.Tok) (w : World) (h : RD rb w toks p false) (hp : p < toks.length) (hE : ∃ front e, toks = front ++ [e] ∧ e.kind = 4) (hL : Dr.LN toks) :
    Calls Tryz.prog 26 #[.pointer (some ⟨rb, 0, none⟩), .int .i64 4] w (ItR rb 4 p toks w) := by
  obtain ⟨F, hF⟩ : ∃ F, F = Dr.fields (Dr.partsOf 4) 0 (item0 4) (toks.drop p) := ⟨_, rfl⟩
  have HF := Lib.hid hF
  have HT0 : Hid (Dr.St toks F [110, 110, 110, 111] 0 (item0 4) p false) := Lib.hid ⟨hp, .inl ⟨rfl, hF⟩⟩
  have HS0 := Lib.hid (IS.start h 4)
  have HE := Lib.hid hE
  have HL := Lib.hid hL
  have hlt := h.lt
  clear h hF hE hL
  go_enter Tryz.func26, Tryz.ntmps26
  go_wp2_with (first | (go_at_call 24; refine (FormL_4 _).mono ?_; rintro e w2 ⟨rfl, rfl⟩))
  go_loopw [10] (fun iv wr => ∃ (i : Nat) (x : Dr.Item) (nv : Value) (q : Nat) (bad : Bool), i ≤ 3 ∧ iv = .int .i64 i ∧ x.n.length = i ∧ Hid (IS rb (w.heap.size + 1) w wr toks x nv q bad) ∧ Hid (Dr.St toks F ([110, 110, 110, 111].drop i) 0 x q bad)) (fun iv _ => 3 - (intOf iv).toNat)
  case atStart => exact ⟨0, _, _, _, _, by omega, rfl, rfl, HS0, HT0⟩
  case round =>
    obtain ⟨i, x, nv, q, bad, hi, rfl, hxn, HS, HT⟩ := hrel
    clear HS0 HT0
    have HXN := Lib.hid hxn
    have hxn2 : x.n.length ≤ 3 := by omega
    clear hxn
    obtain ⟨na, nca, rfl, hnl⟩ := own_slice HS.out.hN
    have hsx : w.heap.size + 1 < wr.heap.size := HS.out.hs
    have hq := HT.out.1
    by_cases him : i < 3
    · have iI1 : (i : Int) < 3 := by omega
      obtain ⟨i0, hi0, hz0, hz1, hz2⟩ := info_parts Tryz.intInfo
      have d4 : wr.cell? ⟨w.heap.size + 1, 4, none⟩ = some (.slice na x.n.length nca) := cell_of_heap HS.out.hx 4 rfl
      have k4 : wr.frozen? ⟨w.heap.size + 1, 4, none⟩ = false := free_of_heap HS.out.hx 4
      have hti : Dr.St toks F (110 :: [110, 110, 110, 111].drop (i + 1)) 0 x q bad := by
        have h := HT.out
        rwa [List.drop_eq_getElem_cons (by simp only [List.length_cons, List.length_nil]; omega), show ([110, 110, 110, 111] : List UInt8)[i]'(by simp only [List.length_cons, List.length_nil]; omega) = 110 by (match i, him with | 0, _ => rfl | 1, _ => rfl | 2, _ => rfl)] at h
      have HTI := Lib.hid hti
      clear hti
      have HNE := Lib.hid (fun k hk => (World.ownsRow.lt HS.out.hN k hk).1)
      go_wp2_with fail
      go_region_law
        (first | (refine step_append_lies _ (by rfl) _ _ _ (by rfl) (w.heap.size + 2) 3 i0 _ 1 8 Tryz.underlying32 hi0 hz0 hz1 hz2 rfl (by omega) (.slice na x.n.length nca) x.n.length (ints x.n) (by rfl) (by exact World.ownsRow.alloc s3.hN _) ⟨w3.heap.size, 0, none⟩ 1 1 [.int .i64 N2] (by rfl) (by rfl) (World.news_of_block (cs := #[.int .i64 N2]) (t := 3) (fr := (0, 0)) (by exact heap_alloc_new _ _)) (by simp [Value.oneCell']) (by omega) (by unfold maxLen; omega) (by omega) (by simp; omega) (w3.heap.size + 1) (by simp) ?_; intro g' cap' w4 hown4 hgrow hat hlt4; have q2 : w4.cell? ⟨w.heap.size + 1, 4, none⟩ = some (.slice na x.n.length nca) := (hgrow.cell_far ⟨w.heap.size + 1, 4, none⟩ (Nat.lt_of_lt_of_le hs3 (by simp)) (fun e => absurd (HNE.out _ e.symm) (Nat.not_le_of_lt (Nat.lt_succ_self _)))).trans ((((Below.refl _ w3).alloc (Nat.le_refl _) _).cell (p := ⟨w.heap.size + 1, 4, none⟩) hs3).trans q1); have k5 : w4.frozen? ⟨w.heap.size + 1, 4, none⟩ = false := free_of_heap ((s3.alloc (.cells #[.int .i64 N2] 3)).num N2 hown4 hgrow).1 4) | (go_simp; go_wp2_with (go_at_call 25; refine (rtake_any rb q 1 bad toks _ (by exact HS.out.hR.below (below_drewN _ _ _)) hq _ rfl).mono ?_; rintro e w3 ⟨T2, N2, q2, bad2, K2, L2, rfl, hn, hr, ht⟩; have s3 := (HS.out.next ((NB.of_below (below_drewN _ _ _)).trans hn) hr); have q1 : w3.cell? ⟨w.heap.size + 1, 4, none⟩ = some (.slice na x.n.length nca) := cell_of_heap s3.hx 4 rfl; have ft : ∀ W, (Instr.field 42 (.agg #[.int .i64 K2, .string ⟨T2.toArray⟩, .int .i64 N2, .int .i64 L2]) 2).run Tryz.prog W = .ok (.int .i64 N2) W := fun W => tokN K2 N2 L2 ⟨T2.toArray⟩ W; have hs3 := s3.hs)))
      all_goals
        have S4 := Lib.hid ((s3.alloc (.cells #[.int .i64 N2] 3)).num N2 hown4 hgrow).2
        have HT4 := Lib.hid (Dr.St.num HE.out HTI.out ht)
        have HX4 : Hid (({ x with n := x.n ++ [N2] } : Dr.Item).n.length = i + 1) := Lib.hid (by rw [← HXN.out]; simp)
        clear hown4 hgrow hat hlt4 q1 q2 k5 ft s3 hs3 ht hn hr
        go_wp2_with fail
        go_roundw
        case rel => exact ⟨i + 1, _, _, _, _, by omega, by go_num, HX4.out, S4, HT4⟩
        case measure => simp [intOf]; omega
    · obtain rfl : i = 3 := by omega
      obtain ⟨t, ht⟩ : ∃ t, toks[q]? = some t := ⟨_, List.getElem?_eq_getElem hq⟩
      have HTI : Hid (Dr.St toks F [111] 0 x q bad) := HT
      obtain ⟨g, cap, r0, hTK, hg, hnc, hcm, hn5⟩ := HS.out.hR
      have hrw : rb < wr.heap.size := HS.out.hR.lt
      obtain ⟨q0, q1, q2, q3⟩ := hTK q hq
      have hget : toks[q]'hq = t := by rw [List.getElem?_eq_getElem hq] at ht; injection ht
      rw [hget] at q0 q1 q2 q3
      obtain ⟨n, hn⟩ : ∃ n, n = toks.length := ⟨_, rfl⟩
      rw [← hn] at r0 hnc hn5
      have c0 : wr.cell? ⟨rb, 0, none⟩ = some (.slice (some ⟨g, 0, none⟩) n cap) := cell_of_heap r0 0 rfl
      have c1 : wr.cell? ⟨rb, 1, none⟩ = some (.int .i64 q) := cell_of_heap r0 1 rfl
      have c2 : wr.cell? ⟨rb, 2, none⟩ = some (.bool bad) := cell_of_heap r0 2 rfl
      have pI0 : (0 : Int) ≤ (q : Int) := by omega
      have pI1 : (q : Int) < (n : Int) := by omega
      have hgl : g < wr.heap.size := by omega
      have HTK := Lib.hid ht
      clear hTK r0 ht hget hn q1 q2 q3
      by_cases hb : bad = true ∨ t.kind ≠ 0
      · have HT5 := Lib.hid (HTI.out.opt_no HTK.out hb)
        have e1 : bad = true ∨ (bad = false ∧ ((t.kind : Int) == 0) = false) := by
          cases bad with
          | true => exact .inl rfl
          | false => right; refine ⟨rfl, ?_⟩; rcases hb with h | h
                     · cases h
                     · simp; omega
        clear hb HTI
        rcases e1 with e1 | ⟨e1, e2⟩
        · subst e1
          clear q0
          have p0 : wr.cell? ⟨w.heap.size + 1, 0, none⟩ = some (.int .i64 x.kind) := cell_of_heap HS.out.hx 0 rfl
          have p1 : wr.cell? ⟨w.heap.size + 1, 1, none⟩ = some (.int .i64 x.line) := cell_of_heap HS.out.hx 1 rfl
          have p2 : wr.cell? ⟨w.heap.size + 1, 2, none⟩ = some (.string ⟨x.name.toArray⟩) := cell_of_heap HS.out.hx 2 rfl
          have p3 : wr.cell? ⟨w.heap.size + 1, 3, none⟩ = some (.string ⟨x.other.toArray⟩) := cell_of_heap HS.out.hx 3 rfl
          have p4 : wr.cell? ⟨w.heap.size + 1, 4, none⟩ = some (.slice na x.n.length nca) := cell_of_heap HS.out.hx 4 rfl
          have z0 : wr.cell? ⟨w.heap.size, 0, none⟩ = some (.int .i64 0) := cell_of_heap HS.out.hz 0 rfl
          have z1 : wr.cell? ⟨w.heap.size, 1, none⟩ = some (.int .i64 0) := cell_of_heap HS.out.hz 1 rfl
          have z2 : wr.cell? ⟨w.heap.size, 2, none⟩ = some (.string ⟨#[]⟩) := cell_of_heap HS.out.hz 2 rfl
          have z3 : wr.cell? ⟨w.heap.size, 3, none⟩ = some (.string ⟨#[]⟩) := cell_of_heap HS.out.hz 3 rfl
          have z4 : wr.cell? ⟨w.heap.size, 4, none⟩ = some (.slice none 0 0) := cell_of_heap HS.out.hz 4 rfl
          have y0 : wr.frozen? ⟨w.heap.size, 0, none⟩ = false := free_of_heap HS.out.hz 0
          have y1 : wr.frozen? ⟨w.heap.size, 1, none⟩ = false := free_of_heap HS.out.hz 1
          have y2 : wr.frozen? ⟨w.heap.size, 2, none⟩ = false := free_of_heap HS.out.hz 2
          have y3 : wr.frozen? ⟨w.heap.size, 3, none⟩ = false := free_of_heap HS.out.hz 3
          have y4 : wr.frozen? ⟨w.heap.size, 4, none⟩ = false := free_of_heap HS.out.hz 4
          go_wp2_with fail
          go_quiet (fail)
          all_goals
            go_wp2_with fail
            refine bodyPost_ret (v := itemV x (.slice na x.n.length nca)) (by simp [itemV, results, Tryz.results26, go_sem, *]) rfl (ItR.of HS.out ?_ HF.out HT5.out)
            exact nb_drewN (((((NB.refl w.heap.size wr).set 0 _).set 1 _).set 2 _).set 3 _ |>.set 4 _) _
        · subst e1
          have p0 : wr.cell? ⟨w.heap.size + 1, 0, none⟩ = some (.int .i64 x.kind) := cell_of_heap HS.out.hx 0 rfl
          have p1 : wr.cell? ⟨w.heap.size + 1, 1, none⟩ = some (.int .i64 x.line) := cell_of_heap HS.out.hx 1 rfl
          have p2 : wr.cell? ⟨w.heap.size + 1, 2, none⟩ = some (.string ⟨x.name.toArray⟩) := cell_of_heap HS.out.hx 2 rfl
          have p3 : wr.cell? ⟨w.heap.size + 1, 3, none⟩ = some (.string ⟨x.other.toArray⟩) := cell_of_heap HS.out.hx 3 rfl
          have p4 : wr.cell? ⟨w.heap.size + 1, 4, none⟩ = some (.slice na x.n.length nca) := cell_of_heap HS.out.hx 4 rfl
          have z0 : wr.cell? ⟨w.heap.size, 0, none⟩ = some (.int .i64 0) := cell_of_heap HS.out.hz 0 rfl
          have z1 : wr.cell? ⟨w.heap.size, 1, none⟩ = some (.int .i64 0) := cell_of_heap HS.out.hz 1 rfl
          have z2 : wr.cell? ⟨w.heap.size, 2, none⟩ = some (.string ⟨#[]⟩) := cell_of_heap HS.out.hz 2 rfl
          have z3 : wr.cell? ⟨w.heap.size, 3, none⟩ = some (.string ⟨#[]⟩) := cell_of_heap HS.out.hz 3 rfl
          have z4 : wr.cell? ⟨w.heap.size, 4, none⟩ = some (.slice none 0 0) := cell_of_heap HS.out.hz 4 rfl
          have y0 : wr.frozen? ⟨w.heap.size, 0, none⟩ = false := free_of_heap HS.out.hz 0
          have y1 : wr.frozen? ⟨w.heap.size, 1, none⟩ = false := free_of_heap HS.out.hz 1
          have y2 : wr.frozen? ⟨w.heap.size, 2, none⟩ = false := free_of_heap HS.out.hz 2
          have y3 : wr.frozen? ⟨w.heap.size, 3, none⟩ = false := free_of_heap HS.out.hz 3
          have y4 : wr.frozen? ⟨w.heap.size, 4, none⟩ = false := free_of_heap HS.out.hz 4
          go_wp2_with fail
          go_quiet (fail)
          all_goals
            go_wp2_with fail
            refine bodyPost_ret (v := itemV x (.slice na x.n.length nca)) (by simp [itemV, results, Tryz.results26, go_sem, *]) rfl (ItR.of HS.out ?_ HF.out HT5.out)
            exact nb_drewN (((((NB.refl w.heap.size wr).set 0 _).set 1 _).set 2 _).set 3 _ |>.set 4 _) _
      · obtain ⟨hb1, hb2⟩ := not_or.1 hb
        have hb3 : t.kind = 0 := Decidable.not_not.1 hb2
        have hb4 : bad = false := by simpa using hb1
        have e2 : ((t.kind : Int) == 0) = true := by rw [hb3]; rfl
        have HK := Lib.hid hb3
        clear hb hb1 hb2 hb3
        subst hb4
        go_wp2_with fail
        go_quiet (fail)
        all_goals
          go_wp2_with fail
          go_at_call 25; refine (rtake_any rb q 0 false toks _ (by exact HS.out.hR.below (below_drewN _ _ _)) hq _ rfl).mono ?_; rintro e w3 ⟨T2, N2, q2, bad2, K2, L2, rfl, hn, hr, ht⟩
          have S3 := Lib.hid (HS.out.next ((NB.of_below (below_drewN _ _ _)).trans hn) hr)
          have HT5 := Lib.hid (HTI.out.opt_yes HE.out HTK.out HK.out ht)
          have k2 : w3.frozen? ⟨w.heap.size + 1, 2, none⟩ = false := free_of_heap S3.out.hx 2
          have l2 : w3.cell? ⟨w.heap.size + 1, 2, none⟩ = some (.string ⟨x.name.toArray⟩) := cell_of_heap S3.out.hx 2 rfl
          have S5 := Lib.hid (S3.out.put (o := 2) (y := Dr.setName x 0 T2) (.string ⟨T2.toArray⟩) rfl rfl)
          have ft : (Instr.field 42 (.agg #[.int .i64 K2, .string ⟨T2.toArray⟩, .int .i64 N2, .int .i64 L2]) 1).run Tryz.prog w3 = _ := tokText K2 N2 L2 ⟨T2.toArray⟩ w3
          clear hn hr ht q0 c0 c1 c2
          have p0 : w3.cell? ⟨w.heap.size + 1, 0, none⟩ = some (.int .i64 x.kind) := cell_of_heap S3.out.hx 0 rfl
          have p1 : w3.cell? ⟨w.heap.size + 1, 1, none⟩ = some (.int .i64 x.line) := cell_of_heap S3.out.hx 1 rfl
          have p2 : w3.cell? ⟨w.heap.size + 1, 2, none⟩ = some (.string ⟨x.name.toArray⟩) := cell_of_heap S3.out.hx 2 rfl
          have p3 : w3.cell? ⟨w.heap.size + 1, 3, none⟩ = some (.string ⟨x.other.toArray⟩) := cell_of_heap S3.out.hx 3 rfl
          have p4 : w3.cell? ⟨w.heap.size + 1, 4, none⟩ = some (.slice na x.n.length nca) := cell_of_heap S3.out.hx 4 rfl
          have z0 : w3.cell? ⟨w.heap.size, 0, none⟩ = some (.int .i64 0) := cell_of_heap S3.out.hz 0 rfl
          have z1 : w3.cell? ⟨w.heap.size, 1, none⟩ = some (.int .i64 0) := cell_of_heap S3.out.hz 1 rfl
          have z2 : w3.cell? ⟨w.heap.size, 2, none⟩ = some (.string ⟨#[]⟩) := cell_of_heap S3.out.hz 2 rfl
          have z3 : w3.cell? ⟨w.heap.size, 3, none⟩ = some (.string ⟨#[]⟩) := cell_of_heap S3.out.hz 3 rfl
          have z4 : w3.cell? ⟨w.heap.size, 4, none⟩ = some (.slice none 0 0) := cell_of_heap S3.out.hz 4 rfl
          have y0 : w3.frozen? ⟨w.heap.size, 0, none⟩ = false := free_of_heap S3.out.hz 0
          have y1 : w3.frozen? ⟨w.heap.size, 1, none⟩ = false := free_of_heap S3.out.hz 1
          have y2 : w3.frozen? ⟨w.heap.size, 2, none⟩ = false := free_of_heap S3.out.hz 2
          have y3 : w3.frozen? ⟨w.heap.size, 3, none⟩ = false := free_of_heap S3.out.hz 3
          have y4 : w3.frozen? ⟨w.heap.size, 4, none⟩ = false := free_of_heap S3.out.hz 4
          go_wp2_with fail
          refine bodyPost_ret (v := itemV (Dr.setName x 0 T2) (.slice na x.n.length nca)) (by simp [itemV, Dr.setName, results, Tryz.results26, go_sem, *]) rfl (ItR.of S5.out ?_ HF.out HT5.out)
          exact ((((NB.refl w.heap.size _).set 0 _).set 1 _).set 2 _).set 3 _ |>.set 4 _
end Go.Proofs.YtnccndfffmaonaaGreatDoor
