/- Parts DtI of this claim, laid one behind the other: walks and the plain laws behind them; each contract states its own conditions. -/
import Derived.Test.YtnccndfffmaonaaGreatDoorZXa
import Derived.Test.YtnccndfffmaonaaGreatDoorZU
/- The reference of layer 10: the reader's item, kind by kind (printed by mk_dti.py). -/
namespace Go.Proofs.YtnccndfffmaonaaGreatDoor
set_option linter.unusedSimpArgs false
set_option linter.unusedVariables false
open Go.RowKit

def item0 (k : Int) : Dr.Item := ⟨k, 0, [], [], []⟩
theorem IS.start {rb p : Nat} {w : World} {toks : List Lx.Tok} {bad : Bool} (h : RD rb w toks p bad) (k : Int) :
    IS rb (w.heap.size + 1) w ((w.alloc itemZ).alloc (.cells #[.int .i64 k, .int .i64 0, .string ⟨#[]⟩, .string ⟨#[]⟩, .slice none 0 0] 34)) toks (item0 k) (.slice none 0 0) p bad := by
  have hlt := h.lt
  refine ⟨?_, ?_, ⟨by simp [ints, item0], .inl ⟨rfl, rfl⟩⟩, (h.alloc _).alloc _, ((NB.refl rb w).alloc _).alloc _, rfl, hlt, by simp⟩
  · rw [heap_alloc_old _ _ (by simp)]; exact heap_alloc_new _ _
  · rw [show w.heap.size + 1 = (w.alloc itemZ).heap.size by simp]
    exact heap_alloc_new _ _
/-- What reading an item of a kind leaves. -/
def ItR (rb k p : Nat) (toks : List Lx.Tok) (w : World) (e : Ending) (w' : World) : Prop :=
  ∃ (x : Dr.Item) (nv : Value) (q : Nat) (bad : Bool) (j : Nat), e = .returned (itemV x nv) ∧ NB rb w w' ∧ RD rb w' toks q bad ∧ w'.ownsRow (w.heap.size + 2) 3 1 nv x.n.length (ints x.n) ∧
    Dr.St toks (Dr.fields (Dr.partsOf k) 0 (item0 k) (toks.drop p)) [] j x q bad
/-- The end: the item is copied into the result. -/
theorem ItR.of {rb xb k p q j : Nat} {w wr W : World} {toks : List Lx.Tok} {x : Dr.Item} {nv : Value} {bad : Bool} {F : Except (List Lx.Tok) (Dr.Item × List Lx.Tok)} (hS : IS rb xb w wr toks x nv q bad)
    (hN : NB w.heap.size wr W) (hF : F = Dr.fields (Dr.partsOf k) 0 (item0 k) (toks.drop p)) (hT : Dr.St toks F [] j x q bad) : ItR rb k p toks w (.returned (itemV x nv)) W := by
  have hw := hS.hw
  have hb := hS.hb
  have hs := hS.hs
  subst hF
  exact ⟨x, nv, q, bad, j, rfl, hS.hB.new hN (Nat.le_refl _), hS.hR.other hN hb (by omega), by have := hN.row hS.hN (by omega); rw [hw] at this; exact this, hT⟩
theorem nb_drewN {k : Nat} {w w' : World} (h : NB k w w') (n : Nat) : NB k w (w'.drewN n) := ⟨h.os, h.tape, h.output, h.size, h.block⟩

set_option maxRecDepth 100000 in
set_option maxHeartbeats 16000000 in
theorem ritem_0 (rb p : Nat) (toks : List Lx.Tok) (w : World) (h : RD rb w toks p false) (hp : p < toks.length) (hE : ∃ front e, toks = front ++ [e] ∧ e.kind = 4) (hL : Dr.LN toks) :
    Calls Tryz.prog 26 #[.pointer (some ⟨rb, 0, none⟩), .int .i64 0] w (ItR rb 0 p toks w) := by
  obtain ⟨F, hF⟩ : ∃ F, F = Dr.fields (Dr.partsOf 0) 0 (item0 0) (toks.drop p) := ⟨_, rfl⟩
  have HF := Lib.hid hF
  have HT0 : Hid (Dr.St toks F [119, 110, 110, 110, 110, 110, 110, 110] 0 (item0 0) p false) := Lib.hid ⟨hp, .inl ⟨rfl, hF⟩⟩
  have HS0 := Lib.hid (IS.start h 0)
  have HE := Lib.hid hE
  have HL := Lib.hid hL
  have hlt := h.lt
  clear h hF hE hL
  go_enter Tryz.func26, Tryz.ntmps26
  go_wp2_with (first | (go_at_call 24; refine (FormL_0 _).mono ?_; rintro e w2 ⟨rfl, rfl⟩))
  go_at_call 25; refine (rtake_any rb p 0 false toks _ HS0.out.hR hp _ rfl).mono ?_; rintro e wt0 ⟨T0, N0, q0, bad0, K0, L0, rfl, hn, hr, ht⟩
  have SA0 := Lib.hid (HS0.out.next hn hr)
  have HT1 := Lib.hid (HT0.out.word HE.out ht)
  have k2 : wt0.frozen? ⟨w.heap.size + 1, 2, none⟩ = false := free_of_heap SA0.out.hx 2
  have l2 : wt0.cell? ⟨w.heap.size + 1, 2, none⟩ = some (.string ⟨#[]⟩) := cell_of_heap SA0.out.hx 2 rfl
  have HS1 := Lib.hid (SA0.out.put (o := 2) (y := Dr.setName (item0 0) 0 T0) (.string ⟨T0.toArray⟩) rfl rfl)
  have ft : (Instr.field 42 (.agg #[.int .i64 K0, .string ⟨T0.toArray⟩, .int .i64 N0, .int .i64 L0]) 1).run Tryz.prog wt0 = _ := tokText K0 N0 L0 ⟨T0.toArray⟩ wt0
  have hq0 := HT1.out.1
  clear hn hr ht SA0
  go_wp2_with fail
  clear ft k2 l2
  go_loopw [10] (fun iv wr => ∃ (i : Nat) (x : Dr.Item) (nv : Value) (q : Nat) (bad : Bool), i ≤ 7 ∧ iv = .int .i64 i ∧ x.n.length = i ∧ Hid (IS rb (w.heap.size + 1) w wr toks x nv q bad) ∧ Hid (Dr.St toks F ([110, 110, 110, 110, 110, 110, 110].drop i) 1 x q bad)) (fun iv _ => 7 - (intOf iv).toNat)
  case atStart => exact ⟨0, _, _, _, _, by omega, rfl, rfl, HS1, HT1⟩
  case round =>
    obtain ⟨i, x, nv, q, bad, hi, rfl, hxn, HS, HT⟩ := hrel
    clear HS0 HT0 HS1 HT1
    have HXN := Lib.hid hxn
    have hxn2 : x.n.length ≤ 7 := by omega
    clear hxn
    obtain ⟨na, nca, rfl, hnl⟩ := own_slice HS.out.hN
    have hsx : w.heap.size + 1 < wr.heap.size := HS.out.hs
    have hq := HT.out.1
    by_cases him : i < 7
    · have iI1 : (i : Int) < 7 := by omega
      obtain ⟨i0, hi0, hz0, hz1, hz2⟩ := info_parts Tryz.intInfo
      have d4 : wr.cell? ⟨w.heap.size + 1, 4, none⟩ = some (.slice na x.n.length nca) := cell_of_heap HS.out.hx 4 rfl
      have k4 : wr.frozen? ⟨w.heap.size + 1, 4, none⟩ = false := free_of_heap HS.out.hx 4
      have hti : Dr.St toks F (110 :: [110, 110, 110, 110, 110, 110, 110].drop (i + 1)) 1 x q bad := by
        have h := HT.out
        rwa [List.drop_eq_getElem_cons (by simp only [List.length_cons, List.length_nil]; omega), show ([110, 110, 110, 110, 110, 110, 110] : List UInt8)[i]'(by simp only [List.length_cons, List.length_nil]; omega) = 110 by (match i, him with | 0, _ => rfl | 1, _ => rfl | 2, _ => rfl | 3, _ => rfl | 4, _ => rfl | 5, _ => rfl | 6, _ => rfl)] at h
      have HTI := Lib.hid hti
      clear hti
      have HNE := Lib.hid (fun k hk => (World.ownsRow.lt HS.out.hN k hk).1)
      go_wp2_with fail
      go_region_law
        (first | (refine step_append_lies _ (by rfl) _ _ _ (by rfl) (w.heap.size + 2) 3 i0 _ 1 8 Tryz.underlying32 hi0 hz0 hz1 hz2 rfl (by omega) (.slice na x.n.length nca) x.n.length (ints x.n) (by rfl) (by exact World.ownsRow.alloc s3.hN _) ⟨w3.heap.size, 0, none⟩ 1 1 [.int .i64 N2] (by rfl) (by rfl) (World.news_of_block (cs := #[.int .i64 N2]) (t := 3) (fr := (0, 0)) (by exact heap_alloc_new _ _)) (by simp [Value.oneCell']) (by omega) (by unfold maxLen; omega) (by omega) (by simp; omega) (w3.heap.size + 1) (by simp) ?_; intro g' cap' w4 hown4 hgrow hat hlt4; have q2 : w4.cell? ⟨w.heap.size + 1, 4, none⟩ = some (.slice na x.n.length nca) := (hgrow.cell_far ⟨w.heap.size + 1, 4, none⟩ (Nat.lt_of_lt_of_le hs3 (by simp)) (fun e => absurd (HNE.out _ e.symm) (Nat.not_le_of_lt (Nat.lt_succ_self _)))).trans ((((Below.refl _ w3).alloc (Nat.le_refl _) _).cell (p := ⟨w.heap.size + 1, 4, none⟩) hs3).trans q1); have k5 : w4.frozen? ⟨w.heap.size + 1, 4, none⟩ = false := free_of_heap ((s3.alloc (.cells #[.int .i64 N2] 3)).num N2 hown4 hgrow).1 4) | (go_simp; go_wp2_with (go_at_call 25; refine (rtake_any rb q 1 bad toks _ (by exact HS.out.hR.below (below_drewN _ _ _)) hq _ rfl).mono ?_; rintro e w3 ⟨T2, N2, q2, bad2, K2, L2, rfl, hn, hr, ht⟩; have s3 := (HS.out.next ((NB.of_below (below_drewN _ _ _)).trans hn) hr); have q1 : w3.cell? ⟨w.heap.size + 1, 4, none⟩ = some (.slice na x.n.length nca) := cell_of_heap s3.hx 4 rfl; have ft : ∀ W, (Instr.field 42 (.agg #[.int .i64 K2, .string ⟨T2.toArray⟩, .int .i64 N2, .int .i64 L2]) 2).run Tryz.prog W = .ok (.int .i64 N2) W := fun W => tokN K2 N2 L2 ⟨T2.toArray⟩ W; have hs3 := s3.hs)))
      all_goals
        have S4 := Lib.hid ((s3.alloc (.cells #[.int .i64 N2] 3)).num N2 hown4 hgrow).2
        have HT4 := Lib.hid (Dr.St.num HE.out HTI.out ht)
        have HX4 : Hid (({ x with n := x.n ++ [N2] } : Dr.Item).n.length = i + 1) := Lib.hid (by rw [← HXN.out]; simp)
        clear hown4 hgrow hat hlt4 q1 q2 k5 ft s3 hs3 ht hn hr
        go_wp2_with fail
        go_roundw
        case rel => exact ⟨i + 1, _, _, _, _, by omega, by go_num, HX4.out, S4, HT4⟩
        case measure => simp [intOf]; omega
    · obtain rfl : i = 7 := by omega
      have p0 : wr.cell? ⟨w.heap.size + 1, 0, none⟩ = some (.int .i64 x.kind) := cell_of_heap HS.out.hx 0 rfl
      have p1 : wr.cell? ⟨w.heap.size + 1, 1, none⟩ = some (.int .i64 x.line) := cell_of_heap HS.out.hx 1 rfl
      have p2 : wr.cell? ⟨w.heap.size + 1, 2, none⟩ = some (.string ⟨x.name.toArray⟩) := cell_of_heap HS.out.hx 2 rfl
      have p3 : wr.cell? ⟨w.heap.size + 1, 3, none⟩ = some (.string ⟨x.other.toArray⟩) := cell_of_heap HS.out.hx 3 rfl
      have p4 : wr.cell? ⟨w.heap.size + 1, 4, none⟩ = some (.slice na x.n.length nca) := cell_of_heap HS.out.hx 4 rfl
      have z0 : wr.cell? ⟨w.heap.size, 0, none⟩ = some (.int .i64 0) := cell_of_heap HS.out.hz 0 rfl
      have z1 : wr.cell? ⟨w.heap.size, 1, none⟩ = some (.int .i64 0) := cell_of_heap HS.out.hz 1 rfl
      have z2 : wr.cell? ⟨w.heap.size, 2, none⟩ = some (.string ⟨#[]⟩) := cell_of_heap HS.out.hz 2 rfl
      have z3 : wr.cell? ⟨w.heap.size, 3, none⟩ = some (.string ⟨#[]⟩) := cell_of_heap HS.out.hz 3 rfl
      have z4 : wr.cell? ⟨w.heap.size, 4, none⟩ = some (.slice none 0 0) := cell_of_heap HS.out.hz 4 rfl
      have y0 : wr.frozen? ⟨w.heap.size, 0, none⟩ = false := free_of_heap HS.out.hz 0
      have y1 : wr.frozen? ⟨w.heap.size, 1, none⟩ = false := free_of_heap HS.out.hz 1
      have y2 : wr.frozen? ⟨w.heap.size, 2, none⟩ = false := free_of_heap HS.out.hz 2
      have y3 : wr.frozen? ⟨w.heap.size, 3, none⟩ = false := free_of_heap HS.out.hz 3
      have y4 : wr.frozen? ⟨w.heap.size, 4, none⟩ = false := free_of_heap HS.out.hz 4
      go_wp2_with fail
      go_quiet (fail)
      all_goals
        go_wp2_with fail
        refine bodyPost_ret (v := itemV x (.slice na x.n.length nca)) (by simp [itemV, results, Tryz.results26, go_sem, *]) rfl (ItR.of HS.out ?_ HF.out HT.out)
        exact nb_drewN (((((NB.refl w.heap.size wr).set 0 _).set 1 _).set 2 _).set 3 _ |>.set 4 _) _
set_option maxRecDepth 100000 in
set_option maxHeartbeats 16000000 in
theorem ritem_1 (rb p : Nat) (toks : List Lx.Tok) (w : World) (h : RD rb w toks p false) (hp : p < toks.length) (hE : ∃ front e, toks = front ++ [e] ∧ e.kind = 4) (hL : Dr.LN toks) :
    Calls Tryz.prog 26 #[.pointer (some ⟨rb, 0, none⟩), .int .i64 1] w (ItR rb 1 p toks w) := by
  obtain ⟨F, hF⟩ : ∃ F, F = Dr.fields (Dr.partsOf 1) 0 (item0 1) (toks.drop p) := ⟨_, rfl⟩
  have HF := Lib.hid hF
  have HT0 : Hid (Dr.St toks F [119, 110, 110] 0 (item0 1) p false) := Lib.hid ⟨hp, .inl ⟨rfl, hF⟩⟩
  have HS0 := Lib.hid (IS.start h 1)
  have HE := Lib.hid hE
  have HL := Lib.hid hL
  have hlt := h.lt
  clear h hF hE hL
  go_enter Tryz.func26, Tryz.ntmps26
  go_wp2_with (first | (go_at_call 24; refine (FormL_1 _).mono ?_; rintro e w2 ⟨rfl, rfl⟩))
  go_at_call 25; refine (rtake_any rb p 0 false toks _ HS0.out.hR hp _ rfl).mono ?_; rintro e wt0 ⟨T0, N0, q0, bad0, K0, L0, rfl, hn, hr, ht⟩
  have SA0 := Lib.hid (HS0.out.next hn hr)
  have HT1 := Lib.hid (HT0.out.word HE.out ht)
  have k2 : wt0.frozen? ⟨w.heap.size + 1, 2, none⟩ = false := free_of_heap SA0.out.hx 2
  have l2 : wt0.cell? ⟨w.heap.size + 1, 2, none⟩ = some (.string ⟨#[]⟩) := cell_of_heap SA0.out.hx 2 rfl
  have HS1 := Lib.hid (SA0.out.put (o := 2) (y := Dr.setName (item0 1) 0 T0) (.string ⟨T0.toArray⟩) rfl rfl)
  have ft : (Instr.field 42 (.agg #[.int .i64 K0, .string ⟨T0.toArray⟩, .int .i64 N0, .int .i64 L0]) 1).run Tryz.prog wt0 = _ := tokText K0 N0 L0 ⟨T0.toArray⟩ wt0
  have hq0 := HT1.out.1
  clear hn hr ht SA0
  go_wp2_with fail
  clear ft k2 l2
  go_loopw [10] (fun iv wr => ∃ (i : Nat) (x : Dr.Item) (nv : Value) (q : Nat) (bad : Bool), i ≤ 2 ∧ iv = .int .i64 i ∧ x.n.length = i ∧ Hid (IS rb (w.heap.size + 1) w wr toks x nv q bad) ∧ Hid (Dr.St toks F ([110, 110].drop i) 1 x q bad)) (fun iv _ => 2 - (intOf iv).toNat)
  case atStart => exact ⟨0, _, _, _, _, by omega, rfl, rfl, HS1, HT1⟩
  case round =>
    obtain ⟨i, x, nv, q, bad, hi, rfl, hxn, HS, HT⟩ := hrel
    clear HS0 HT0 HS1 HT1
    have HXN := Lib.hid hxn
    have hxn2 : x.n.length ≤ 2 := by omega
    clear hxn
    obtain ⟨na, nca, rfl, hnl⟩ := own_slice HS.out.hN
    have hsx : w.heap.size + 1 < wr.heap.size := HS.out.hs
    have hq := HT.out.1
    by_cases him : i < 2
    · have iI1 : (i : Int) < 2 := by omega
      obtain ⟨i0, hi0, hz0, hz1, hz2⟩ := info_parts Tryz.intInfo
      have d4 : wr.cell? ⟨w.heap.size + 1, 4, none⟩ = some (.slice na x.n.length nca) := cell_of_heap HS.out.hx 4 rfl
      have k4 : wr.frozen? ⟨w.heap.size + 1, 4, none⟩ = false := free_of_heap HS.out.hx 4
      have hti : Dr.St toks F (110 :: [110, 110].drop (i + 1)) 1 x q bad := by
        have h := HT.out
        rwa [List.drop_eq_getElem_cons (by simp only [List.length_cons, List.length_nil]; omega), show ([110, 110] : List UInt8)[i]'(by simp only [List.length_cons, List.length_nil]; omega) = 110 by (match i, him with | 0, _ => rfl | 1, _ => rfl)] at h
      have HTI := Lib.hid hti
      clear hti
      have HNE := Lib.hid (fun k hk => (World.ownsRow.lt HS.out.hN k hk).1)
      go_wp2_with fail
      go_region_law
        (first | (refine step_append_lies _ (by rfl) _ _ _ (by rfl) (w.heap.size + 2) 3 i0 _ 1 8 Tryz.underlying32 hi0 hz0 hz1 hz2 rfl (by omega) (.slice na x.n.length nca) x.n.length (ints x.n) (by rfl) (by exact World.ownsRow.alloc s3.hN _) ⟨w3.heap.size, 0, none⟩ 1 1 [.int .i64 N2] (by rfl) (by rfl) (World.news_of_block (cs := #[.int .i64 N2]) (t := 3) (fr := (0, 0)) (by exact heap_alloc_new _ _)) (by simp [Value.oneCell']) (by omega) (by unfold maxLen; omega) (by omega) (by simp; omega) (w3.heap.size + 1) (by simp) ?_; intro g' cap' w4 hown4 hgrow hat hlt4; have q2 : w4.cell? ⟨w.heap.size + 1, 4, none⟩ = some (.slice na x.n.length nca) := (hgrow.cell_far ⟨w.heap.size + 1, 4, none⟩ (Nat.lt_of_lt_of_le hs3 (by simp)) (fun e => absurd (HNE.out _ e.symm) (Nat.not_le_of_lt (Nat.lt_succ_self _)))).trans ((((Below.refl _ w3).alloc (Nat.le_refl _) _).cell (p := ⟨w.heap.size + 1, 4, none⟩) hs3).trans q1); have k5 : w4.frozen? ⟨w.heap.size + 1, 4, none⟩ = false := free_of_heap ((s3.alloc (.cells #[.int .i64 N2] 3)).num N2 hown4 hgrow).1 4) | (go_simp; go_wp2_with (go_at_call 25; refine (rtake_any rb q 1 bad toks _ (by exact HS.out.hR.below (below_drewN _ _ _)) hq _ rfl).mono ?_; rintro e w3 ⟨T2, N2, q2, bad2, K2, L2, rfl, hn, hr, ht⟩; have s3 := (HS.out.next ((NB.of_below (below_drewN _ _ _)).trans hn) hr); have q1 : w3.cell? ⟨w.heap.size + 1, 4, none⟩ = some (.slice na x.n.length nca) := cell_of_heap s3.hx 4 rfl; have ft : ∀ W, (Instr.field 42 (.agg #[.int .i64 K2, .string ⟨T2.toArray⟩, .int .i64 N2, .int .i64 L2]) 2).run Tryz.prog W = .ok (.int .i64 N2) W := fun W => tokN K2 N2 L2 ⟨T2.toArray⟩ W; have hs3 := s3.hs)))
      all_goals
        have S4 := Lib.hid ((s3.alloc (.cells #[.int .i64 N2] 3)).num N2 hown4 hgrow).2
        have HT4 := Lib.hid (Dr.St.num HE.out HTI.out ht)
        have HX4 : Hid (({ x with n := x.n ++ [N2] } : Dr.Item).n.length = i + 1) := Lib.hid (by rw [← HXN.out]; simp)
        clear hown4 hgrow hat hlt4 q1 q2 k5 ft s3 hs3 ht hn hr
        go_wp2_with fail
        go_roundw
        case rel => exact ⟨i + 1, _, _, _, _, by omega, by go_num, HX4.out, S4, HT4⟩
        case measure => simp [intOf]; omega
    · obtain rfl : i = 2 := by omega
      have p0 : wr.cell? ⟨w.heap.size + 1, 0, none⟩ = some (.int .i64 x.kind) := cell_of_heap HS.out.hx 0 rfl
      have p1 : wr.cell? ⟨w.heap.size + 1, 1, none⟩ = some (.int .i64 x.line) := cell_of_heap HS.out.hx 1 rfl
      have p2 : wr.cell? ⟨w.heap.size + 1, 2, none⟩ = some (.string ⟨x.name.toArray⟩) := cell_of_heap HS.out.hx 2 rfl
      have p3 : wr.cell? ⟨w.heap.size + 1, 3, none⟩ = some (.string ⟨x.other.toArray⟩) := cell_of_heap HS.out.hx 3 rfl
      have p4 : wr.cell? ⟨w.heap.size + 1, 4, none⟩ = some (.slice na x.n.length nca) := cell_of_heap HS.out.hx 4 rfl
      have z0 : wr.cell? ⟨w.heap.size, 0, none⟩ = some (.int .i64 0) := cell_of_heap HS.out.hz 0 rfl
      have z1 : wr.cell? ⟨w.heap.size, 1, none⟩ = some (.int .i64 0) := cell_of_heap HS.out.hz 1 rfl
      have z2 : wr.cell? ⟨w.heap.size, 2, none⟩ = some (.string ⟨#[]⟩) := cell_of_heap HS.out.hz 2 rfl
      have z3 : wr.cell? ⟨w.heap.size, 3, none⟩ = some (.string ⟨#[]⟩) := cell_of_heap HS.out.hz 3 rfl
      have z4 : wr.cell? ⟨w.heap.size, 4, none⟩ = some (.slice none 0 0) := cell_of_heap HS.out.hz 4 rfl
      have y0 : wr.frozen? ⟨w.heap.size, 0, none⟩ = false := free_of_heap HS.out.hz 0
      have y1 : wr.frozen? ⟨w.heap.size, 1, none⟩ = false := free_of_heap HS.out.hz 1
      have y2 : wr.frozen? ⟨w.heap.size, 2, none⟩ = false := free_of_heap HS.out.hz 2
      have y3 : wr.frozen? ⟨w.heap.size, 3, none⟩ = false := free_of_heap HS.out.hz 3
      have y4 : wr.frozen? ⟨w.heap.size, 4, none⟩ = false := free_of_heap HS.out.hz 4
      go_wp2_with fail
      go_quiet (fail)
      all_goals
        go_wp2_with fail
        refine bodyPost_ret (v := itemV x (.slice na x.n.length nca)) (by simp [itemV, results, Tryz.results26, go_sem, *]) rfl (ItR.of HS.out ?_ HF.out HT.out)
        exact nb_drewN (((((NB.refl w.heap.size wr).set 0 _).set 1 _).set 2 _).set 3 _ |>.set 4 _) _
end Go.Proofs.YtnccndfffmaonaaGreatDoor
