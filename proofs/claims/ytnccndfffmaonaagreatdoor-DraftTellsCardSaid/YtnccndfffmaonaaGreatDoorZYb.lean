/- Parts DtI2 of this claim, laid one behind the other: walks and the plain laws behind them; each contract states its own conditions. -/
import Derived.Test.YtnccndfffmaonaaGreatDoorZYa
/- The reference of layer 10: the reader's item, kinds 2 (printed by mk_dti.py). -/
namespace Go.Proofs.YtnccndfffmaonaaGreatDoor
set_option linter.unusedSimpArgs false
set_option linter.unusedVariables false
open Go.RowKit

set_option maxRecDepth 100000 in
set_option maxHeartbeats 16000000 in
theorem ritem_2 (rb p : Nat) (toks : List Lx.Tok) (w : World) (h : RD rb w toks p false) (hp : p < toks.length) (hE : ∃ front e, toks = front ++ [e] ∧ e.kind = 4) (hL : Dr.LN toks) :
    Calls Tryz.prog 26 #[.pointer (some ⟨rb, 0, none⟩), .int .i64 2] w (ItR rb 2 p toks w) := by
  obtain ⟨F, hF⟩ : ∃ F, F = Dr.fields (Dr.partsOf 2) 0 (item0 2) (toks.drop p) := ⟨_, rfl⟩
  have HF := Lib.hid hF
  have HT0 : Hid (Dr.St toks F [110, 110, 110, 100] 0 (item0 2) p false) := Lib.hid ⟨hp, .inl ⟨rfl, hF⟩⟩
  have HS0 := Lib.hid (IS.start h 2)
  have HE := Lib.hid hE
  have HL := Lib.hid hL
  have hlt := h.lt
  clear h hF hE hL
  go_enter Tryz.func26, Tryz.ntmps26
  go_wp2_with (first | (go_at_call 24; refine (FormL_2 _).mono ?_; rintro e w2 ⟨rfl, rfl⟩))
  go_loopw [10] (fun iv wr => ∃ (i : Nat) (x : Dr.Item) (nv : Value) (q : Nat) (bad : Bool), i ≤ 4 ∧ iv = .int .i64 i ∧ x.n.length = i ∧ Hid (IS rb (w.heap.size + 1) w wr toks x nv q bad) ∧ Hid (Dr.St toks F ([110, 110, 110, 100].drop i) 0 x q bad)) (fun iv _ => 4 - (intOf iv).toNat)
  case atStart => exact ⟨0, _, _, _, _, by omega, rfl, rfl, HS0, HT0⟩
  case round =>
    obtain ⟨i, x, nv, q, bad, hi, rfl, hxn, HS, HT⟩ := hrel
    clear HS0 HT0
    have HXN := Lib.hid hxn
    have hxn2 : x.n.length ≤ 4 := by omega
    clear hxn
    obtain ⟨na, nca, rfl, hnl⟩ := own_slice HS.out.hN
    have hsx : w.heap.size + 1 < wr.heap.size := HS.out.hs
    have hq := HT.out.1
    by_cases him : i < 3
    · have iI1 : (i : Int) < 4 := by omega
      have iI3 : ((i : Int) == 3) = false := by simp; omega
      obtain ⟨i0, hi0, hz0, hz1, hz2⟩ := info_parts Tryz.intInfo
      have d4 : wr.cell? ⟨w.heap.size + 1, 4, none⟩ = some (.slice na x.n.length nca) := cell_of_heap HS.out.hx 4 rfl
      have k4 : wr.frozen? ⟨w.heap.size + 1, 4, none⟩ = false := free_of_heap HS.out.hx 4
      have hti : Dr.St toks F (110 :: [110, 110, 110, 100].drop (i + 1)) 0 x q bad := by
        have h := HT.out
        rwa [List.drop_eq_getElem_cons (by simp only [List.length_cons, List.length_nil]; omega), show ([110, 110, 110, 100] : List UInt8)[i]'(by simp only [List.length_cons, List.length_nil]; omega) = 110 by (match i, him with | 0, _ => rfl | 1, _ => rfl | 2, _ => rfl)] at h
      have HTI := Lib.hid hti
      clear hti
      have HNE := Lib.hid (fun k hk => (World.ownsRow.lt HS.out.hN k hk).1)
      go_wp2_with fail
      go_region_law
        (first | (refine step_append_lies _ (by rfl) _ _ _ (by rfl) (w.heap.size + 2) 3 i0 _ 1 8 Tryz.underlying32 hi0 hz0 hz1 hz2 rfl (by omega) (.slice na x.n.length nca) x.n.length (ints x.n) (by rfl) (by exact World.ownsRow.alloc s3.hN _) ⟨w3.heap.size, 0, none⟩ 1 1 [.int .i64 N2] (by rfl) (by rfl) (World.news_of_block (cs := #[.int .i64 N2]) (t := 3) (fr := (0, 0)) (by exact heap_alloc_new _ _)) (by simp [Value.oneCell']) (by omega) (by unfold maxLen; omega) (by omega) (by simp; omega) (w3.heap.size + 1) (by simp) ?_; intro g' cap' w4 hown4 hgrow hat hlt4; have q2 : w4.cell? ⟨w.heap.size + 1, 4, none⟩ = some (.slice na x.n.length nca) := (hgrow.cell_far ⟨w.heap.size + 1, 4, none⟩ (Nat.lt_of_lt_of_le hs3 (by simp)) (fun e => absurd (HNE.out _ e.symm) (Nat.not_le_of_lt (Nat.lt_succ_self _)))).trans ((((Below.refl _ w3).alloc (Nat.le_refl _) _).cell (p := ⟨w.heap.size + 1, 4, none⟩) hs3).trans q1); have k5 : w4.frozen? ⟨w.heap.size + 1, 4, none⟩ = false := free_of_heap ((s3.alloc (.cells #[.int .i64 N2] 3)).num N2 hown4 hgrow).1 4) | (go_simp; go_wp2_with (go_at_call 25; refine (rtake_any rb q 1 bad toks _ (by exact HS.out.hR.below (below_drewN _ _ _)) hq _ rfl).mono ?_; rintro e w3 ⟨T2, N2, q2, bad2, K2, L2, rfl, hn, hr, ht⟩; have s3 := (HS.out.next ((NB.of_below (below_drewN _ _ _)).trans hn) hr); have q1 : w3.cell? ⟨w.heap.size + 1, 4, none⟩ = some (.slice na x.n.length nca) := cell_of_heap s3.hx 4 rfl; have ft : ∀ W, (Instr.field 42 (.agg #[.int .i64 K2, .string ⟨T2.toArray⟩, .int .i64 N2, .int .i64 L2]) 2).run Tryz.prog W = .ok (.int .i64 N2) W := fun W => tokN K2 N2 L2 ⟨T2.toArray⟩ W; have hs3 := s3.hs)))
      all_goals
        have S4 := Lib.hid ((s3.alloc (.cells #[.int .i64 N2] 3)).num N2 hown4 hgrow).2
        have HT4 := Lib.hid (Dr.St.num HE.out HTI.out ht)
        have HX4 : Hid (({ x with n := x.n ++ [N2] } : Dr.Item).n.length = i + 1) := Lib.hid (by rw [← HXN.out]; simp)
        clear hown4 hgrow hat hlt4 q1 q2 k5 ft s3 hs3 ht hn hr
        go_wp2_with fail
        go_roundw
        case rel => exact ⟨i + 1, _, _, _, _, by omega, by go_num, HX4.out, S4, HT4⟩
        case measure => simp [intOf]; omega
    · by_cases hi3 : i = 3
      · subst hi3
        obtain ⟨t, ht⟩ : ∃ t, toks[q]? = some t := ⟨_, List.getElem?_eq_getElem hq⟩
        have hTI : Dr.St toks F (100 :: []) 0 x q bad := HT.out
        have HTI := Lib.hid hTI
        obtain ⟨g, cap, r0, hTK, hg, hnc, hcm, hn5⟩ := HS.out.hR
        have hrw : rb < wr.heap.size := HS.out.hR.lt
        obtain ⟨q0, q1, q2, q3⟩ := hTK q hq
        have hget : toks[q]'hq = t := by rw [List.getElem?_eq_getElem hq] at ht; injection ht
        rw [hget] at q0 q1 q2 q3
        obtain ⟨n, hn⟩ : ∃ n, n = toks.length := ⟨_, rfl⟩
        rw [← hn] at r0 hnc hn5
        have c0 : wr.cell? ⟨rb, 0, none⟩ = some (.slice (some ⟨g, 0, none⟩) n cap) := cell_of_heap r0 0 rfl
        have c1 : wr.cell? ⟨rb, 1, none⟩ = some (.int .i64 q) := cell_of_heap r0 1 rfl
        have c2 : wr.cell? ⟨rb, 2, none⟩ = some (.bool bad) := cell_of_heap r0 2 rfl
        have f2 : wr.frozen? ⟨rb, 2, none⟩ = false := free_of_heap r0 2
        have pI0 : (0 : Int) ≤ (q : Int) := by omega
        have pI1 : (q : Int) < (n : Int) := by omega
        have hgl : g < wr.heap.size := by omega
        have HTK := Lib.hid ht
        clear hTK r0 hget hn hTI q2 q3
        cases hdo : Dr.dirOf t.text with
        | none =>
          have HDir := Lib.hid (fun W => direction_any t.text W)
          rw [show dirK t.text 0 = -1 by rw [dirK_0, hdo]] at HDir
          have HT5 : ∀ y, Dr.St toks F [] 0 y q true := fun y => HTI.out.dir_no HE.out HL.out ht (.inl hdo)
          have HT5 := Lib.hid HT5
          clear hdo ht
          go_wp2_with fail
          go_region_held3 (fun w' => w'.cell? ⟨rb, 0, none⟩ = some (.slice (some ⟨g, 0, none⟩) n cap) ∧ w'.cell? ⟨rb, 1, none⟩ = some (.int .i64 q) ∧ w'.cell? ⟨g, q * 4 + 1, none⟩ = some (.string ⟨t.text.toArray⟩)) (go_keep)
            (first | (go_at_call 54; refine (HDir.out _).mono ?_; rintro e w3 ⟨rfl, b3⟩; have B3 := Lib.hid b3; have m0 := (b3.cell (p := ⟨rb, 0, none⟩) (by simpa using hrw)).trans c0; have m1 := (b3.cell (p := ⟨rb, 1, none⟩) (by simpa using hrw)).trans c1; have m2 := (b3.cell (p := ⟨g, q * 4 + 1, none⟩) (by simpa using hgl)).trans q1))
          all_goals
            have bw : Below wr.heap.size wr w3 := ((Below.refl wr.heap.size wr).drew).trans B3.out
            have S3 := Lib.hid (HS.out.next (NB.of_below bw) (HS.out.hR.below bw))
            have m3 : w3.cell? ⟨g, q * 4, none⟩ = some (.int .i64 t.kind) := (bw.cell (p := ⟨g, q * 4, none⟩) hgl).trans q0
            have m4 : w3.frozen? ⟨rb, 2, none⟩ = false := (bw.frozen (p := ⟨rb, 2, none⟩) hrw).trans f2
            have m5 : w3.cell? ⟨rb, 2, none⟩ = some (.bool bad) := (bw.cell (p := ⟨rb, 2, none⟩) hrw).trans c2
            clear b3 bw c0 c1 c2 q0 q1 f2
            go_wp2_with fail
            go_quiet (fail)
            all_goals
              have S4 := Lib.hid (S3.out.next ((NB.of_below (below_drewN _ _ nq)).set 2 (.bool true)) ((S3.out.hR.below (below_drewN _ _ nq)).setBad true))
              have d4 : (w3.drewN nq).cell? ⟨w.heap.size + 1, 4, none⟩ = some (.slice na x.n.length nca) := cell_of_heap S3.out.hx 4 rfl
              have hxl2 : w.heap.size + 1 < w3.heap.size := S3.out.hs
              have hrx : rb ≠ w.heap.size + 1 := by omega
              have HN5 := Lib.hid (show ∀ cs t, (((w3.drewN nq).setCell ⟨rb, 2, none⟩ (.bool true)).alloc (.cells cs t (0, 0))).heap[w3.heap.size]? = some (.cells cs t (0, 0)) from fun cs t => by have h := heap_alloc_new ((w3.drewN nq).setCell ⟨rb, 2, none⟩ (.bool true)) (.cells cs t (0, 0)); rwa [show ((w3.drewN nq).setCell ⟨rb, 2, none⟩ (.bool true)).heap.size = w3.heap.size by simp] at h)
              go_wp2_with (at_builtin; refine wpList_app_int rfl _ _ rfl (w.heap.size + 2) _ x.n rfl (S4.out.alloc _).hN w3.heap.size 1 (-1) rfl (HN5.out _ _) (by omega) ?q1 ?q2)
              case q1 => simp; omega
              case q2 =>
                intro v' w6 h1 h2
                obtain ⟨na2, nca2, rfl, -⟩ := own_slice h1
                obtain ⟨hx3, s4⟩ := (S4.out.alloc _).num (-1) h1 h2
                have S6 := Lib.hid s4
                have HX6 : Hid (({ x with n := x.n ++ [-1] } : Dr.Item).n.length = 3 + 1) := Lib.hid (by rw [← HXN.out]; simp)
                have d5 : w6.cell? ⟨w.heap.size + 1, 4, none⟩ = some (.slice na x.n.length nca) := cell_of_heap hx3 4 rfl
                have k5 : w6.frozen? ⟨w.heap.size + 1, 4, none⟩ = false := free_of_heap hx3 4
                clear h1 h2 hx3 s4
                go_wp2_with fail
                go_roundw
                case rel => exact ⟨4, _, _, _, _, by omega, by go_num, HX6.out, S6, Lib.hid (HT5.out _)⟩
                case measure => simp [intOf]; try omega
        | some kd =>
          by_cases hk0 : t.kind = 0
          · have HDir := Lib.hid (fun W => direction_any t.text W)
            rw [show dirK t.text 0 = (kd : Int) by rw [dirK_0, hdo]] at HDir
            have HT5 : Hid (∀ T N q2 bad2, Dr.TakeR toks q bad 0 T N q2 bad2 → Dr.St toks F [] 0 { x with n := x.n ++ [(kd : Int)] } q2 bad2) := Lib.hid (fun T N q2 bad2 hr => HTI.out.dir_yes HE.out ht hk0 hdo hr)
            have kI : (0 : Int) ≤ (kd : Int) := by omega
            have e1 : ((t.kind : Int) != 0) = false := by rw [hk0]; rfl
            clear hdo ht hk0
            go_wp2_with fail
            go_region_held3 (fun w' => w'.cell? ⟨rb, 0, none⟩ = some (.slice (some ⟨g, 0, none⟩) n cap) ∧ w'.cell? ⟨rb, 1, none⟩ = some (.int .i64 q) ∧ w'.cell? ⟨g, q * 4 + 1, none⟩ = some (.string ⟨t.text.toArray⟩)) (go_keep)
              (first | (go_at_call 54; refine (HDir.out _).mono ?_; rintro e w3 ⟨rfl, b3⟩; have B3 := Lib.hid b3; have m0 := (b3.cell (p := ⟨rb, 0, none⟩) (by simpa using hrw)).trans c0; have m1 := (b3.cell (p := ⟨rb, 1, none⟩) (by simpa using hrw)).trans c1; have m2 := (b3.cell (p := ⟨g, q * 4 + 1, none⟩) (by simpa using hgl)).trans q1))
            all_goals
              have bw : Below wr.heap.size wr w3 := ((Below.refl wr.heap.size wr).drew).trans B3.out
              have S3 := Lib.hid (HS.out.next (NB.of_below bw) (HS.out.hR.below bw))
              have m3 : w3.cell? ⟨g, q * 4, none⟩ = some (.int .i64 t.kind) := (bw.cell (p := ⟨g, q * 4, none⟩) hgl).trans q0
              have m4 : w3.frozen? ⟨rb, 2, none⟩ = false := (bw.frozen (p := ⟨rb, 2, none⟩) hrw).trans f2
              have m5 : w3.cell? ⟨rb, 2, none⟩ = some (.bool bad) := (bw.cell (p := ⟨rb, 2, none⟩) hrw).trans c2
              clear b3 bw c0 c1 c2 q0 q1 f2
              go_wp2_with fail
              go_quiet (fail)
              all_goals
                go_wp2_with fail
                go_at_call 25; refine (rtake_any rb q 0 bad toks _ (by exact S3.out.hR.below (below_drewN _ _ _)) hq _ rfl).mono ?_; rintro e w5 ⟨T2, N2, q2, bad2, K2, L2, rfl, hn, hr, ht⟩; have S4 := Lib.hid (S3.out.next ((NB.of_below (below_drewN _ _ _)).trans hn) hr); have HT6 := Lib.hid (HT5.out _ _ _ _ ht)
                clear hn hr ht
                have d4 : w5.cell? ⟨w.heap.size + 1, 4, none⟩ = some (.slice na x.n.length nca) := cell_of_heap S4.out.hx 4 rfl
                have hxl2 : w.heap.size + 1 < w5.heap.size := S4.out.hs
                go_wp2_with (at_builtin; refine wpList_app_int rfl _ _ rfl (w.heap.size + 2) _ x.n rfl (S4.out.alloc _).hN w5.heap.size 1 ((kd : Int)) rfl (heap_alloc_new _ _) (by omega) ?q1 ?q2)
                case q1 => simp; omega
                case q2 =>
                  intro v' w6 h1 h2
                  obtain ⟨na2, nca2, rfl, -⟩ := own_slice h1
                  obtain ⟨hx3, s4⟩ := (S4.out.alloc _).num ((kd : Int)) h1 h2
                  have S6 := Lib.hid s4
                  have HX6 : Hid (({ x with n := x.n ++ [(kd : Int)] } : Dr.Item).n.length = 3 + 1) := Lib.hid (by rw [← HXN.out]; simp)
                  have d5 : w6.cell? ⟨w.heap.size + 1, 4, none⟩ = some (.slice na x.n.length nca) := cell_of_heap hx3 4 rfl
                  have k5 : w6.frozen? ⟨w.heap.size + 1, 4, none⟩ = false := free_of_heap hx3 4
                  clear h1 h2 hx3 s4
                  go_wp2_with fail
                  go_roundw
                  case rel => exact ⟨4, _, _, _, _, by omega, by go_num, HX6.out, S6, HT6⟩
                  case measure => simp [intOf]; try omega
          · have HDir := Lib.hid (fun W => direction_any t.text W)
            rw [show dirK t.text 0 = (kd : Int) by rw [dirK_0, hdo]] at HDir
            have HT5 : ∀ y, Dr.St toks F [] 0 y q true := fun y => HTI.out.dir_no HE.out HL.out ht (.inr hk0)
            have kI : (0 : Int) ≤ (kd : Int) := by omega
            have e1 : ((t.kind : Int) != 0) = true := by simp; omega
            have HT5 := Lib.hid HT5
            clear hdo ht hk0
            go_wp2_with fail
            go_region_held3 (fun w' => w'.cell? ⟨rb, 0, none⟩ = some (.slice (some ⟨g, 0, none⟩) n cap) ∧ w'.cell? ⟨rb, 1, none⟩ = some (.int .i64 q) ∧ w'.cell? ⟨g, q * 4 + 1, none⟩ = some (.string ⟨t.text.toArray⟩)) (go_keep)
              (first | (go_at_call 54; refine (HDir.out _).mono ?_; rintro e w3 ⟨rfl, b3⟩; have B3 := Lib.hid b3; have m0 := (b3.cell (p := ⟨rb, 0, none⟩) (by simpa using hrw)).trans c0; have m1 := (b3.cell (p := ⟨rb, 1, none⟩) (by simpa using hrw)).trans c1; have m2 := (b3.cell (p := ⟨g, q * 4 + 1, none⟩) (by simpa using hgl)).trans q1))
            all_goals
              have bw : Below wr.heap.size wr w3 := ((Below.refl wr.heap.size wr).drew).trans B3.out
              have S3 := Lib.hid (HS.out.next (NB.of_below bw) (HS.out.hR.below bw))
              have m3 : w3.cell? ⟨g, q * 4, none⟩ = some (.int .i64 t.kind) := (bw.cell (p := ⟨g, q * 4, none⟩) hgl).trans q0
              have m4 : w3.frozen? ⟨rb, 2, none⟩ = false := (bw.frozen (p := ⟨rb, 2, none⟩) hrw).trans f2
              have m5 : w3.cell? ⟨rb, 2, none⟩ = some (.bool bad) := (bw.cell (p := ⟨rb, 2, none⟩) hrw).trans c2
              clear b3 bw c0 c1 c2 q0 q1 f2
              go_wp2_with fail
              go_quiet (fail)
              all_goals
                have S4 := Lib.hid (S3.out.next ((NB.of_below (below_drewN _ _ nq)).set 2 (.bool true)) ((S3.out.hR.below (below_drewN _ _ nq)).setBad true))
                have d4 : (w3.drewN nq).cell? ⟨w.heap.size + 1, 4, none⟩ = some (.slice na x.n.length nca) := cell_of_heap S3.out.hx 4 rfl
                have hxl2 : w.heap.size + 1 < w3.heap.size := S3.out.hs
                have hrx : rb ≠ w.heap.size + 1 := by omega
                have HN5 := Lib.hid (show ∀ cs t, (((w3.drewN nq).setCell ⟨rb, 2, none⟩ (.bool true)).alloc (.cells cs t (0, 0))).heap[w3.heap.size]? = some (.cells cs t (0, 0)) from fun cs t => by have h := heap_alloc_new ((w3.drewN nq).setCell ⟨rb, 2, none⟩ (.bool true)) (.cells cs t (0, 0)); rwa [show ((w3.drewN nq).setCell ⟨rb, 2, none⟩ (.bool true)).heap.size = w3.heap.size by simp] at h)
                go_wp2_with (at_builtin; refine wpList_app_int rfl _ _ rfl (w.heap.size + 2) _ x.n rfl (S4.out.alloc _).hN w3.heap.size 1 ((kd : Int)) rfl (HN5.out _ _) (by omega) ?q1 ?q2)
                case q1 => simp; omega
                case q2 =>
                  intro v' w6 h1 h2
                  obtain ⟨na2, nca2, rfl, -⟩ := own_slice h1
                  obtain ⟨hx3, s4⟩ := (S4.out.alloc _).num ((kd : Int)) h1 h2
                  have S6 := Lib.hid s4
                  have HX6 : Hid (({ x with n := x.n ++ [(kd : Int)] } : Dr.Item).n.length = 3 + 1) := Lib.hid (by rw [← HXN.out]; simp)
                  have d5 : w6.cell? ⟨w.heap.size + 1, 4, none⟩ = some (.slice na x.n.length nca) := cell_of_heap hx3 4 rfl
                  have k5 : w6.frozen? ⟨w.heap.size + 1, 4, none⟩ = false := free_of_heap hx3 4
                  clear h1 h2 hx3 s4
                  go_wp2_with fail
                  go_roundw
                  case rel => exact ⟨4, _, _, _, _, by omega, by go_num, HX6.out, S6, Lib.hid (HT5.out _)⟩
                  case measure => simp [intOf]; try omega
      · obtain rfl : i = 4 := by omega
        have p0 : wr.cell? ⟨w.heap.size + 1, 0, none⟩ = some (.int .i64 x.kind) := cell_of_heap HS.out.hx 0 rfl
        have p1 : wr.cell? ⟨w.heap.size + 1, 1, none⟩ = some (.int .i64 x.line) := cell_of_heap HS.out.hx 1 rfl
        have p2 : wr.cell? ⟨w.heap.size + 1, 2, none⟩ = some (.string ⟨x.name.toArray⟩) := cell_of_heap HS.out.hx 2 rfl
        have p3 : wr.cell? ⟨w.heap.size + 1, 3, none⟩ = some (.string ⟨x.other.toArray⟩) := cell_of_heap HS.out.hx 3 rfl
        have p4 : wr.cell? ⟨w.heap.size + 1, 4, none⟩ = some (.slice na x.n.length nca) := cell_of_heap HS.out.hx 4 rfl
        have z0 : wr.cell? ⟨w.heap.size, 0, none⟩ = some (.int .i64 0) := cell_of_heap HS.out.hz 0 rfl
        have z1 : wr.cell? ⟨w.heap.size, 1, none⟩ = some (.int .i64 0) := cell_of_heap HS.out.hz 1 rfl
        have z2 : wr.cell? ⟨w.heap.size, 2, none⟩ = some (.string ⟨#[]⟩) := cell_of_heap HS.out.hz 2 rfl
        have z3 : wr.cell? ⟨w.heap.size, 3, none⟩ = some (.string ⟨#[]⟩) := cell_of_heap HS.out.hz 3 rfl
        have z4 : wr.cell? ⟨w.heap.size, 4, none⟩ = some (.slice none 0 0) := cell_of_heap HS.out.hz 4 rfl
        have y0 : wr.frozen? ⟨w.heap.size, 0, none⟩ = false := free_of_heap HS.out.hz 0
        have y1 : wr.frozen? ⟨w.heap.size, 1, none⟩ = false := free_of_heap HS.out.hz 1
        have y2 : wr.frozen? ⟨w.heap.size, 2, none⟩ = false := free_of_heap HS.out.hz 2
        have y3 : wr.frozen? ⟨w.heap.size, 3, none⟩ = false := free_of_heap HS.out.hz 3
        have y4 : wr.frozen? ⟨w.heap.size, 4, none⟩ = false := free_of_heap HS.out.hz 4
        go_wp2_with fail
        go_quiet (fail)
        all_goals
          go_wp2_with fail
          refine bodyPost_ret (v := itemV x (.slice na x.n.length nca)) (by simp [itemV, results, Tryz.results26, go_sem, *]) rfl (ItR.of HS.out ?_ HF.out HT.out)
          exact nb_drewN (((((NB.refl w.heap.size wr).set 0 _).set 1 _).set 2 _).set 3 _ |>.set 4 _) _
end Go.Proofs.YtnccndfffmaonaaGreatDoor
