/- Parts TeB of this claim, laid one behind the other: walks and the plain laws behind them; each contract states its own conditions. -/
import Derived.Test.YtfcbcpfnaadpeaaGreatDoorTB
import Derived.Test.YtfcbcpfnaadpeaaGreatDoorZA
import Derived.Test.YtfcbcpfnaadpeaaGreatDoorZI
import Derived.Maps.AppendAt
namespace Go.Proofs.YtfcbcpfnaadpeaaGreatDoor
set_option maxRecDepth 100000
set_option maxHeartbeats 64000000
set_option linter.unusedSimpArgs false
set_option linter.unusedVariables false
open Go.RowKit
structure RfJ (w0 W : World) (f : Fl.Floor) (kv ov : Value) (L gs go B : Nat) (sh : List Bool) (out : List Int) : Prop where
 b0 : W.heap[w0.heap.size]? = some (.cells #[.int .i64 f.w, .int .i64 f.h, .int .i64 f.d, kv, ov] 24 (0, 0))
 hs : W.heap[gs]? = some (.cells (bools sh).toArray 4 (0, 0))
 ho : W.heap[go]? = some (.cells (ints out).toArray 3 (0, 0))
 o1 : w0.heap.size < gs
 o2 : gs < go
 o3 : go < B
 o4 : B ≤ W.heap.size
 below : Below w0.heap.size w0 W
 ls : sh.length = L
 lo : out.length = L
theorem RfJ.keep {w0 W W' : World} {f : Fl.Floor} {kv ov : Value} {L gs go B : Nat} {sh : List Bool} {out : List Int} (h : RfJ w0 W f kv ov L gs go B sh out) (hb : Below B W W') : RfJ w0 W' f kv ov L gs go B sh out := by
 have h1 := h.o1; have h2 := h.o2; have h3 := h.o3
 exact ⟨(hb.block _ (by omega)).trans h.b0, (hb.block _ (by omega)).trans h.hs, (hb.block _ (by omega)).trans h.ho, h.o1, h.o2, h.o3, Nat.le_trans h.o4 hb.size, h.below.trans (hb.mono (by omega)), h.ls, h.lo⟩
theorem RfJ.setS {w0 W : World} {f : Fl.Floor} {kv ov : Value} {L gs go B : Nat} {sh : List Bool} {out : List Int} (h : RfJ w0 W f kv ov L gs go B sh out) (c : Nat) (b : Bool) : RfJ w0 (W.setCell ⟨gs, c, none⟩ (.bool b)) f kv ov L gs go B (sh.set c b) out := by
 have h1 := h.o1; have h2 := h.o2; have h3 := h.o3
 have hp := set_heap h.hs c (.bool b)
 rw [bools_set] at hp
 exact ⟨(heap_setCell_other _ _ _ _ (by show w0.heap.size ≠ gs; omega)).trans h.b0, hp, (heap_setCell_other _ _ _ _ (by show go ≠ gs; omega)).trans h.ho, h.o1, h.o2, h.o3, by have := h.o4; simpa [World.setCell] using this, h.below.setCell (by dsimp only; omega) _, by rw [List.length_set]; exact h.ls, h.lo⟩
theorem RfJ.setO {w0 W : World} {f : Fl.Floor} {kv ov : Value} {L gs go B : Nat} {sh : List Bool} {out : List Int} (h : RfJ w0 W f kv ov L gs go B sh out) (c : Nat) (n : Int) : RfJ w0 (W.setCell ⟨go, c, none⟩ (.int .i64 n)) f kv ov L gs go B sh (out.set c n) := by
 have h1 := h.o1; have h2 := h.o2; have h3 := h.o3
 have hp := set_heap h.ho c (.int .i64 n)
 rw [ints_set] at hp
 exact ⟨(heap_setCell_other _ _ _ _ (by show w0.heap.size ≠ go; omega)).trans h.b0, (heap_setCell_other _ _ _ _ (by show gs ≠ go; omega)).trans h.hs, hp, h.o1, h.o2, h.o3, by have := h.o4; simpa [World.setCell] using this, h.below.setCell (by dsimp only; omega) _, h.ls, by rw [List.length_set]; exact h.lo⟩
theorem RfJ.cellS {w0 W : World} {f : Fl.Floor} {kv ov : Value} {L gs go B : Nat} {sh : List Bool} {out : List Int} (h : RfJ w0 W f kv ov L gs go B sh out) {c : Nat} (hc : c < L) : W.cell? ⟨gs, c, none⟩ = some (.bool (sh.getD c false)) := by
 have hl := h.ls
 exact cell_of_heap h.hs c (by simp [bools, List.getD_eq_getElem?_getD, List.getElem?_eq_getElem (show c < sh.length by omega)])
theorem RfJ.cellO {w0 W : World} {f : Fl.Floor} {kv ov : Value} {L gs go B : Nat} {sh : List Bool} {out : List Int} (h : RfJ w0 W f kv ov L gs go B sh out) {c : Nat} (hc : c < L) : W.cell? ⟨go, c, none⟩ = some (.int .i64 (out.getD c 0)) := by
 have hl := h.lo
 exact cell_of_heap h.ho c (by simp [ints, List.getD_eq_getElem?_getD, List.getElem?_eq_getElem (show c < out.length by omega)])
theorem own_setLow {w : World} {base N : Nat} {e : TypeId} {sz n : Nat} {v : Value} {xs : List Value} (h : w.ownsRow base e sz v n xs) (hN : N < base) (i : Nat) (x : Value) : (w.setCell ⟨N, i, none⟩ x).ownsRow base e sz v n xs := by
 refine ⟨h.1, ?_⟩
 rcases h.2 with h | ⟨g, cap, cur, rfl, h1, h2, h3⟩
 · exact .inl h
 · exact .inr ⟨g, cap, cur, rfl, h1, (heap_setCell_other _ _ _ _ (by dsimp only; omega)).trans h2, h3⟩
theorem teIInfo : (Tryz.prog.info? 3).map (fun i => (i.zero, i.size, i.bytes)) = some (some (.int .i64 0), 1, 8) := by kernel_rfl
theorem own_form3 {w : World} {base : Nat} {e : TypeId} {sz n : Nat} {v : Value} {xs : List Value} (h : w.ownsRow base e sz v n xs) : ∃ a cap, v = .slice a n cap := by
 rcases h.2 with ⟨rfl, rfl⟩ | ⟨g1, cap, cur, rfl, -⟩
 · exact ⟨none, 0, rfl⟩
 · exact ⟨some ⟨g1, 0, none⟩, cap, rfl⟩
theorem own_belT {w W : World} {base : Nat} {e : TypeId} {sz : Nat} {v : Value} {n : Nat} {xs : List Value} (h : w.ownsRow base e sz v n xs) (hb : Below w.heap.size w W) : W.ownsRow base e sz v n xs :=
 h.kept (row := none) ⟨hb.os, hb.tape, hb.output, hb.size, fun k hk _ => hb.block k hk⟩ (by cases hv : v.ownBlock <;> simp)
theorem nats_snoc (l : List Nat) (c : Nat) : ints ((l ++ [c]).map Int.ofNat) = ints (l.map Int.ofNat) ++ [.int .i64 (c : Int)] := by simp [ints]
theorem rSpread_any (f : Fl.Floor) (kv ov : Value) (fv av : Value) (frm avoid : List Int) (w : World) (hr : Fl.Right f) (hF : FlV w kv ov f) (hf : Is w fv frm) (ha : Is w av avoid) :
 Calls Tryz.prog 151 #[flV f kv ov, fv, av, .bool false] w (DistPost w (Fl.dist f frm avoid)) := by
 have hN := fun c d W hF hc hd => rNext_any f kv ov c d W hr hF hc hd
 have hS := fun W => rSize_any f kv ov W (.of hr)
 have hI := fun c W => rIs_any f kv ov c W (.of hr)
 have hkl := hr.kl
 have hsz := hr.sz
 have HF := hid hF
 have HA := hid ha
 have HFR := hid hf
 obtain ⟨ka, kc, rfl, hkm⟩ := hF.kind.form
 obtain ⟨oa, oc, rfl, hom⟩ := hF.out.form
 obtain ⟨aa, ac, rfl, ham⟩ := ha.form
 obtain ⟨fa, fc, rfl, hfm⟩ := hf.form
 obtain ⟨L, hL⟩ : ∃ L, f.kind.length = L := ⟨_, rfl⟩
 obtain ⟨NA, hNA⟩ : ∃ L, avoid.length = L := ⟨_, rfl⟩
 obtain ⟨NF, hNF⟩ : ∃ L, frm.length = L := ⟨_, rfl⟩
 rw [hr.ol] at hom hN hS hI HF ⊢
 rw [hL] at hkl hkm hom hN hS hI HF ⊢
 rw [hNA] at ham HA ⊢
 rw [hNF] at hfm HFR ⊢
 rw [← hkl] at hS
 have hL4 : L ≤ 4096 := by omega
 unfold flV at hN hS hI ⊢
 have HL := hid hL
 have HNA := hid hNA
 have HNF := hid hNF
 have HN := hid hN
 have HS := hid hS
 have HI := hid hI
 have HR := hid hr
 have hmi := make_ints L (L : Int) rfl (by omega)
 have hmb := make_bools L (L : Int) rfl (by omega)
 have HML : Hid ((Fl.markL f avoid).length = L) := hid (by rw [Fl.markL_len, hL])
 have HSH : Hid ((Fl.shutL f avoid).length = L) := hid (by rw [Fl.shutL_len, hL])
 have HMS : Hid (∀ c, c < L → ((Fl.markL f avoid).getD c false || decide (f.kind.getD c 0 = 0)) = (Fl.shutL f avoid).getD c false) := hid (fun c hc => Fl.mark_shut f avoid c (by rw [hL]; exact hc))
 have HBA := hid (Fl.Rf.base f avoid)
 rw [hL] at HBA
 have B1 := hid ((Below.refl _ w).alloc (Nat.le_refl _) (.cells #[.int .i64 f.w, .int .i64 f.h, .int .i64 f.d, .slice ka L kc, .slice oa L oc] 24))
 have I0 := hid (heap_alloc_new w (.cells #[.int .i64 f.w, .int .i64 f.h, .int .i64 f.d, .slice ka L kc, .slice oa L oc] 24))
 obtain ⟨i0, hi, hz0, hz1, hz2⟩ := info_parts teIInfo
 clear hF ha hf hr hL hNA hNF hkl hsz hN hS hI
 go_enter Tryz.func151, Tryz.ntmps151
 go_wp2_with fail
 go_at_call 221; refine (HS.out _).mono ?_; rintro e w1 ⟨rfl, b1⟩
 have I1 := hid ((b1.block w.heap.size (by simp)).trans I0.out)
 have B2 := hid (B1.out.trans (b1.mono B1.out.size))
 have s1 : w.heap.size < w1.heap.size := heap_lt I1.out
 clear b1 B1 I0
 obtain ⟨w2, hw2⟩ : ∃ W, W = w1.alloc (.cells (madeCells #[.bool false] L) 4) := ⟨_, rfl⟩
 have HW2 := hid hw2
 have HSH0 : Hid (w2.heap[w1.heap.size]? = some (.cells (bools (f.kind.map fun _ => false)).toArray 4 (0, 0))) := hid (by
  have e2 := made_bools f.kind
  rw [HL.out] at e2
  rw [hw2, ← e2]; try exact heap_alloc_new _ _)
 have B3 : Hid (Below w.heap.size w w2) := hid (by rw [hw2]; exact B2.out.alloc B2.out.size _)
 have I2 : Hid (w2.heap[w.heap.size]? = some (.cells #[.int .i64 f.w, .int .i64 f.h, .int .i64 f.d, .slice ka L kc, .slice oa L oc] 24 (0, 0))) := hid (by rw [hw2]; exact (heap_alloc_old _ _ s1).trans I1.out)
 have s2 : w2.heap.size = w1.heap.size + 1 := by rw [hw2]; simp
 have HZ : Hid ((avoid.take 0).foldl (Fl.mark1 f) (f.kind.map fun _ => false) = f.kind.map fun _ => false) := hid (by simp)
 clear hw2 B2 I1
 go_upto_region 2 with fail
 rw [← HW2.out]
 go_wp2_with fail
 go_loopw [10] (fun iv wr => ∃ q : Nat, q ≤ NA ∧ iv = .int .i64 q ∧ Hid (wr.heap[w1.heap.size]? = some (.cells (bools ((avoid.take q).foldl (Fl.mark1 f) (f.kind.map fun _ => false))).toArray 4 (0, 0))) ∧ Hid (wr.heap[w.heap.size]? = some (.cells #[.int .i64 f.w, .int .i64 f.h, .int .i64 f.d, .slice ka L kc, .slice oa L oc] 24 (0, 0))) ∧ Hid (Below w.heap.size w wr)) (fun iv _ => NA - (intOf iv).toNat)
 case atStart => exact ⟨0, by omega, rfl, by rw [HZ.out]; exact HSH0, I2, B3⟩
 case round =>
  clear HSH0 I2 B3 HZ
  obtain ⟨q, hq, rfl, HG, IF, BR⟩ := hrel
  obtain ⟨wo, hwo⟩ : ∃ W, W = wr := ⟨_, rfl⟩
  subst hwo
  have ln : w.heap.size < wo.heap.size := heap_lt IF.out
  by_cases hqn : q < NA
  · obtain ⟨ab, ao, e1, ac0⟩ := (HA.out.keep BR.out).cell q (by rw [HNA.out]; exact hqn)
    subst e1
    have HST : Hid ((avoid.take (q + 1)).foldl (Fl.mark1 f) (f.kind.map fun _ => false) = Fl.mark1 f ((avoid.take q).foldl (Fl.mark1 f) (f.kind.map fun _ => false)) (avoid[q]'(by rw [HNA.out]; exact hqn))) := hid (Fl.fold_step _ _ _ _ _)
    obtain ⟨C, hC⟩ : ∃ X, avoid[q]'(by rw [HNA.out]; exact hqn) = X := ⟨_, rfl⟩
    rw [hC] at ac0 HST
    have la := cell_block_lt ac0
    obtain ⟨shq, hsq⟩ : ∃ l, (avoid.take q).foldl (Fl.mark1 f) (f.kind.map fun _ => false) = l := ⟨_, rfl⟩
    have HLQ : Hid (shq.length = L) := hid (by rw [← hsq, Fl.marks_len, List.length_map, HL.out])
    rw [hsq] at HST HG
    have q0 : (0 : Int) ≤ (q : Int) := by omega
    have q1 : (q : Int) < (NA : Int) := by omega
    clear hC hsq
    have p0 : wo.cell? ⟨w.heap.size, 0, none⟩ = some (.int .i64 f.w) := cell_of_heap IF.out 0 rfl
    have p1 : wo.cell? ⟨w.heap.size, 1, none⟩ = some (.int .i64 f.h) := cell_of_heap IF.out 1 rfl
    have p2 : wo.cell? ⟨w.heap.size, 2, none⟩ = some (.int .i64 f.d) := cell_of_heap IF.out 2 rfl
    have p3 : wo.cell? ⟨w.heap.size, 3, none⟩ = some (.slice ka L kc) := cell_of_heap IF.out 3 rfl
    have p4 : wo.cell? ⟨w.heap.size, 4, none⟩ = some (.slice oa L oc) := cell_of_heap IF.out 4 rfl
    go_upto_region 5 with fail
    refine wp_region_held_drew (S := fun W' => W'.cell? ⟨w.heap.size, 0, none⟩ = some (.int .i64 f.w) ∧ W'.cell? ⟨w.heap.size, 1, none⟩ = some (.int .i64 f.h) ∧ W'.cell? ⟨w.heap.size, 2, none⟩ = some (.int .i64 f.d) ∧ W'.cell? ⟨w.heap.size, 3, none⟩ = some (.slice ka L kc) ∧ W'.cell? ⟨w.heap.size, 4, none⟩ = some (.slice oa L oc) ∧ W'.cell? ⟨ab, ao + q, none⟩ = some (.int .i64 C)) (by kernel_rfl) ⟨p0, p1, p2, p3, p4, ac0⟩ (fun hHeld => ?_)
    obtain ⟨wx, hwx⟩ : ∃ W, W = wo.drew := ⟨_, rfl⟩
    rw [← hwx] at hHeld ⊢
    have BX0 : Hid (Below wo.heap.size wo wx) := hid (by subst hwx; exact ⟨rfl, rfl, rfl, Nat.le_refl _, fun _ _ => rfl⟩)
    clear hwx
    refine tk 0 ?_
    try simp only [Act.put, zA, zB, zC, zD, zE, zF]
    refine tk 1 ?_
    try simp only [Act.put, zA, zB, zC, zD, zE, zF]
    refine tk 2 ?_
    try simp only [Act.put, zA, zB, zC, zD, zE, zF]
    refine tk 3 ?_
    try simp only [Act.put, zA, zB, zC, zD, zE, zF]
    refine tk 4 ?_
    try simp only [Act.put, zA, zB, zC, zD, zE, zF]
    refine wpAnyH_ready (rs := [5]) (by kernel_rfl) (by simp) ?_
    refine AllReadyH.cons (o := _) rfl (fun K hK => ?_) AllReadyH.nil
    go_simp
    go_at_call 170; with_reducible refine (HI.out _ _).mono ?_; rintro e w5 ⟨rfl, b5⟩
    have BX := hid (BX0.out.trans (b5.mono BX0.out.size))
    clear b5
    go_wp2_with fail
    refine hK.out _ _ ?_ (fun hHeld => ?_)
    · exact ⟨(BX.out.cell (p := ⟨w.heap.size, 0, none⟩) ln).trans p0, (BX.out.cell (p := ⟨w.heap.size, 1, none⟩) ln).trans p1, (BX.out.cell (p := ⟨w.heap.size, 2, none⟩) ln).trans p2, (BX.out.cell (p := ⟨w.heap.size, 3, none⟩) ln).trans p3, (BX.out.cell (p := ⟨w.heap.size, 4, none⟩) ln).trans p4, (BX.out.cell (p := ⟨ab, ao + q, none⟩) la).trans ac0⟩
    clear hK K
    try simp only [Act.put, zA, zB, zC, zD, zE, zF]
    refine wpAnyH_done (by kernel_rfl) ?_ _
    have HG5 := hid (keep_heap HG.out BX.out)
    have IF5 := hid (keep_heap IF.out BX.out)
    have BR5 := hid (BR.out.trans (BX.out.mono BR.out.size))
    cases hcc : Fl.isC f C with
    | false =>
     have HCC := hid hcc
     clear hcc
     go_wp2_with fail
     go_roundw
     case rel => exact ⟨q + 1, by omega, by go_num, hid (by rw [HST.out]; unfold Fl.mark1; rw [HCC.out, if_neg (by simp)]; exact HG5.out), IF5, BR5⟩
     case measure => simp [intOf]; omega
    | true =>
     have HCC := hid hcc
     obtain ⟨g0, g1⟩ := Fl.isC_lt HR.out hcc
     rw [HL.out] at g1
     obtain ⟨m, rfl⟩ : ∃ m : Nat, C = (m : Int) := ⟨C.toNat, by omega⟩
     simp only [Int.toNat_natCast] at g1
     have m1 : (m : Int) < (L : Int) := by omega
     have m0 : (0 : Int) ≤ (m : Int) := by omega
     have ac5 : w5.cell? ⟨ab, ao + q, none⟩ = some (.int .i64 (m : Int)) := (BX.out.cell (p := ⟨ab, ao + q, none⟩) la).trans ac0
     obtain ⟨v3, c3⟩ : ∃ v, w5.cell? ⟨w1.heap.size, m, none⟩ = some v := ⟨_, cell_of_heap HG5.out m (Array.getElem?_eq_getElem (by rw [List.size_toArray, bools_len, HLQ.out]; exact g1))⟩
     have f3 : w5.frozen? ⟨w1.heap.size, m, none⟩ = false := free_of_heap HG5.out m
     clear hcc ac0
     go_wp2_with fail
     go_roundw
     case rel =>
      refine ⟨q + 1, by omega, by go_num, hid ?_, hid ((heap_setCell_other _ _ _ _ (by show w.heap.size ≠ w1.heap.size; omega)).trans IF5.out), hid (BR5.out.setCell (by dsimp only; omega) _)⟩
      rw [HST.out]; unfold Fl.mark1; rw [HCC.out, if_pos rfl]
      have hp := set_heap HG5.out m (.bool true)
      rw [bools_set] at hp
      exact hp
     case measure => simp [intOf]; omega
  · have HG1 : Hid (wo.heap[w1.heap.size]? = some (.cells (bools (Fl.markL f avoid)).toArray 4 (0, 0))) := hid (by
     have h := HG.out
     rw [List.take_of_length_le (by rw [HNA.out]; omega)] at h
     exact h)
    have hq9 : ¬ (q : Int) < (NA : Int) := by omega
    clear HG hqn
    have p0 : wo.cell? ⟨w.heap.size, 0, none⟩ = some (.int .i64 f.w) := cell_of_heap IF.out 0 rfl
    have p1 : wo.cell? ⟨w.heap.size, 1, none⟩ = some (.int .i64 f.h) := cell_of_heap IF.out 1 rfl
    have p2 : wo.cell? ⟨w.heap.size, 2, none⟩ = some (.int .i64 f.d) := cell_of_heap IF.out 2 rfl
    have p3 : wo.cell? ⟨w.heap.size, 3, none⟩ = some (.slice ka L kc) := cell_of_heap IF.out 3 rfl
    have p4 : wo.cell? ⟨w.heap.size, 4, none⟩ = some (.slice oa L oc) := cell_of_heap IF.out 4 rfl
    go_wp2_with fail
    go_at_call 221; refine (HS.out _).mono ?_; rintro e w3 ⟨rfl, b3⟩
    obtain ⟨w4, hw4⟩ : ∃ W, W = w3.alloc (.cells (madeCells #[.int .i64 0] L) 3) := ⟨_, rfl⟩
    have HW4 := hid hw4
    have s3 := b3.size
    have l1 : w1.heap.size < wo.heap.size := heap_lt HG1.out
    have hb4 : Below w3.heap.size w3 w4 := by rw [hw4]; exact (Below.refl _ _).alloc (Nat.le_refl _) _
    have s4 : w4.heap.size = w3.heap.size + 1 := by rw [hw4]; simp
    have HJ : Hid (RfJ w w4 f (.slice ka L kc) (.slice oa L oc) L w1.heap.size w3.heap.size w4.heap.size (Fl.mixL (Fl.shutL f avoid) (Fl.markL f avoid) 0) (Fl.mixK (fun _ => -1) (fun _ => 0) f.kind 0)) := hid (by
     rw [Fl.mixL_zero, Fl.mixK_zero]
     refine ⟨keep_heap (keep_heap IF.out b3) hb4, keep_heap (keep_heap HG1.out b3) hb4, ?_, s1, by omega, by omega, Nat.le_refl _, BR.out.trans ((b3.mono BR.out.size).trans (hb4.mono (by omega))), HML.out, by rw [List.length_map, HL.out]⟩
     have e2 := made_ints f.kind
     rw [HL.out] at e2
     rw [hw4, ← e2]; exact heap_alloc_new _ _)
    have HB0 : Hid (w.heap.size < w4.heap.size) := hid (by omega)
    obtain ⟨gs, hgs⟩ : ∃ g, g = w1.heap.size := ⟨_, rfl⟩
    obtain ⟨go, hgo⟩ : ∃ g, g = w3.heap.size := ⟨_, rfl⟩
    obtain ⟨B, hB⟩ : ∃ g, g = w4.heap.size := ⟨_, rfl⟩
    rw [← hgs, ← hgo, ← hB] at HJ
    have HGS := hid hgs
    have HGO := hid hgo
    clear b3 hb4 hw4 HG1 IF BR s4 s3 l1 hgs hgo hB p0 p1 p2 p3 p4
    go_upto_region 8 with fail
    rw [← HW4.out, ← HGS.out, ← HGO.out]
    go_wp2_with fail
    go_loopw [12] (fun iv wr => ∃ q : Nat, q ≤ L ∧ iv = .int .i64 q ∧ Hid (RfJ w wr f (.slice ka L kc) (.slice oa L oc) L gs go B (Fl.mixL (Fl.shutL f avoid) (Fl.markL f avoid) q) (Fl.mixK (fun _ => -1) (fun _ => 0) f.kind q))) (fun iv _ => L - (intOf iv).toNat)
    case atStart => exact ⟨0, by omega, rfl, HJ⟩
    case round =>
     clear HJ
     obtain ⟨k, hk, rfl, HK⟩ := hrel
     obtain ⟨wp, hwp⟩ : ∃ W, W = wr := ⟨_, rfl⟩
     subst hwp
     by_cases hkl : k < L
     · obtain ⟨kb, ko, e1, kc0⟩ := (HF.out.keep HK.out.below).kind.cell k (by rw [HL.out]; exact hkl)
       subst e1
       have HX : Hid (∀ g h : Int → Int, (Fl.mixK g h f.kind k).set k (g (f.kind[k]'(by rw [HL.out]; exact hkl))) = Fl.mixK g h f.kind (k + 1)) := hid (fun g h => Fl.mixK_set g h f.kind k (by rw [HL.out]; exact hkl))
       have HY : Hid ((Fl.mixL (Fl.shutL f avoid) (Fl.markL f avoid) k).set k ((Fl.markL f avoid).getD k false || decide (f.kind.getD k 0 = 0)) = Fl.mixL (Fl.shutL f avoid) (Fl.markL f avoid) (k + 1)) := hid (by rw [HMS.out k hkl]; exact Fl.mixL_set (by rw [HSH.out, HML.out]) (by rw [HSH.out]; exact hkl))
       have HKD : Hid (f.kind.getD k 0 = f.kind[k]'(by rw [HL.out]; exact hkl)) := hid (getD_lt _ _ _ _)
       have cs : wp.cell? ⟨gs, k, none⟩ = some (.bool ((Fl.markL f avoid).getD k false)) := by
        have h1 := HK.out.cellS hkl
        have h2 := Fl.mixL_get (a := Fl.shutL f avoid) (b := Fl.markL f avoid) (by rw [HSH.out, HML.out]) (k := k) (by rw [HML.out]; exact hkl)
        rw [List.getD_eq_getElem?_getD, h2, ← List.getD_eq_getElem?_getD] at h1
        exact h1
       have co := HK.out.cellO hkl
       have fo : wp.frozen? ⟨go, k, none⟩ = false := free_of_heap HK.out.ho k
       have fs : wp.frozen? ⟨gs, k, none⟩ = false := free_of_heap HK.out.hs k
       obtain ⟨X, hX⟩ : ∃ X, f.kind[k]'(by rw [HL.out]; exact hkl) = X := ⟨_, rfl⟩
       obtain ⟨M, hM⟩ : ∃ X, (Fl.markL f avoid).getD k false = X := ⟨_, rfl⟩
       obtain ⟨O, hO⟩ : ∃ X, (Fl.mixK (fun _ => -1) (fun _ => 0) f.kind k).getD k 0 = X := ⟨_, rfl⟩
       rw [hX] at kc0 HX HKD
       rw [hM] at cs HY
       rw [hO] at co
       rw [HKD.out] at HY
       have o1 := HK.out.o1
       have o2 := HK.out.o2
       have ne1 : gs ≠ go := by omega
       have ne2 : go ≠ gs := by omega
       have lkb := cell_block_lt kc0
       have hw : w.heap.size < wp.heap.size := heap_lt HK.out.b0
       have nk : kb ≠ go := by
        intro e
        obtain ⟨kb2, ko2, e2, kc2⟩ := HF.out.kind.cell k (by rw [HL.out]; exact hkl)
        injection e2 with e2; injection e2 with e2 e3
        have h9 := cell_block_lt kc2
        dsimp only at h9
        omega
       have nk2 : kb ≠ gs := by
        intro e
        obtain ⟨kb2, ko2, e2, kc2⟩ := HF.out.kind.cell k (by rw [HL.out]; exact hkl)
        injection e2 with e2; injection e2 with e2 e3
        have h9 := cell_block_lt kc2
        dsimp only at h9
        omega
       have nw : w.heap.size ≠ go := by omega
       have k0 : (0 : Int) ≤ (k : Int) := by omega
       have k1 : (k : Int) < (L : Int) := by omega
       have p3 : wp.cell? ⟨w.heap.size, 3, none⟩ = some (.slice (some ⟨kb, ko, none⟩) L kc) := cell_of_heap HK.out.b0 3 rfl
       clear hX hM hO o1 o2
       cases M with
       | true =>
        rw [Bool.true_or] at HY
        go_wp2_with fail
        go_roundw
        case rel => exact ⟨k + 1, by omega, by go_num, hid (by rw [← HX.out, ← HY.out]; exact (HK.out.setO k (-1)).setS k true)⟩
        case measure => simp [intOf]; omega
       | false =>
        rw [Bool.false_or] at HY
        by_cases x0 : X = 0
        · have e0 : (X == 0) = true := by simpa using x0
          rw [decide_eq_true x0] at HY
          clear x0
          go_wp2_with fail
          go_roundw
          case rel => exact ⟨k + 1, by omega, by go_num, hid (by rw [← HX.out, ← HY.out]; exact (HK.out.setO k (-1)).setS k true)⟩
          case measure => simp [intOf]; omega
        · have e0 : (X == 0) = false := by simpa using x0
          rw [decide_eq_false x0] at HY
          clear x0
          go_wp2_with fail
          go_roundw
          case rel => exact ⟨k + 1, by omega, by go_num, hid (by rw [← HX.out, ← HY.out]; exact (HK.out.setO k (-1)).setS k false)⟩
          case measure => simp [intOf]; omega
     · have hk9 : ¬ (k : Int) < (L : Int) := by omega
       have HJ2 : Hid (RfJ w wp f (.slice ka L kc) (.slice oa L oc) L gs go B (Fl.shutL f avoid) (Fl.base0 f avoid).out) := hid (by
        have h := HK.out
        have ek : k = L := by omega
        rw [ek] at h
        have h1 := Fl.mixL_all (a := Fl.shutL f avoid) (b := Fl.markL f avoid) (by rw [HSH.out, HML.out])
        rw [HSH.out] at h1
        have h2 := Fl.mixK_all (α := Int) (fun _ => -1) (fun _ => 0) f.kind
        rw [HL.out] at h2
        rw [h1, h2] at h
        exact h)
       clear HK hkl
       have OZ : Hid (wp.ownsRow B 3 1 (.slice none 0 0) 0 (ints (([] : List Nat).map Int.ofNat))) := hid (World.ownsRow_nil ..)
       have HOK := hid (fun q => Fl.start_ok HR.out frm avoid q)
       have HZ0 : Hid ((frm.take 0).foldl (Fl.from1 f) (Fl.base0 f avoid) = Fl.base0 f avoid) := hid (by simp)
       go_wp2_with fail
       go_loopw [13, 14] (fun qv iv wr => ∃ (q : Nat) (qs : List Nat) (qa : Option Addr) (qc : Nat), q ≤ NF ∧ iv = .int .i64 q ∧ qv = .slice qa qs.length qc ∧ Hid (wr.ownsRow B 3 1 (.slice qa qs.length qc) qs.length (ints (qs.map Int.ofNat))) ∧ Hid (Fl.Rf L (Fl.shutL f avoid) qs 0 ((frm.take q).foldl (Fl.from1 f) (Fl.base0 f avoid))) ∧ Hid (RfJ w wr f (.slice ka L kc) (.slice oa L oc) L gs go B (Fl.shutL f avoid) ((frm.take q).foldl (Fl.from1 f) (Fl.base0 f avoid)).out)) (fun _ iv _ => NF - (intOf iv).toNat)
       case atStart => exact ⟨0, [], none, 0, by omega, rfl, rfl, OZ, by rw [HZ0.out]; exact HBA, by rw [HZ0.out]; exact HJ2⟩
       case round =>
        clear HJ2 OZ HBA HZ0
        obtain ⟨q, qs, qa, qc, hq, rfl, rfl, OQ, HRF, HJ⟩ := hrel
        obtain ⟨wq, hwq⟩ : ∃ W, W = wr := ⟨_, rfl⟩
        subst hwq
        obtain ⟨s, hs⟩ : ∃ s, (frm.take q).foldl (Fl.from1 f) (Fl.base0 f avoid) = s := ⟨_, rfl⟩
        obtain ⟨nq, hnq⟩ : ∃ n, qs.length = n := ⟨_, rfl⟩
        by_cases hqn : q < NF
        · obtain ⟨ab, ao, e1, ac0⟩ := (HFR.out.keep HJ.out.below).cell q (by rw [HNF.out]; exact hqn)
          subst e1
          have HST : Hid ((frm.take (q + 1)).foldl (Fl.from1 f) (Fl.base0 f avoid) = Fl.from1 f ((frm.take q).foldl (Fl.from1 f) (Fl.base0 f avoid)) (frm[q]'(by rw [HNF.out]; exact hqn))) := hid (Fl.fold_step _ _ _ _ _)
          obtain ⟨C, hC⟩ : ∃ X, frm[q]'(by rw [HNF.out]; exact hqn) = X := ⟨_, rfl⟩
          rw [hC] at ac0 HST
          rw [hs] at HST HRF HJ
          rw [hnq] at OQ ⊢
          have HNQ := hid hnq
          have q0 : (0 : Int) ≤ (q : Int) := by omega
          have q1 : (q : Int) < (NF : Int) := by omega
          have hq6 : nq ≤ L := by have := HRF.out.ql; rw [hnq] at this; omega
          clear hC hs hnq
          have p0 : wq.cell? ⟨w.heap.size, 0, none⟩ = some (.int .i64 f.w) := cell_of_heap HJ.out.b0 0 rfl
          have p1 : wq.cell? ⟨w.heap.size, 1, none⟩ = some (.int .i64 f.h) := cell_of_heap HJ.out.b0 1 rfl
          have p2 : wq.cell? ⟨w.heap.size, 2, none⟩ = some (.int .i64 f.d) := cell_of_heap HJ.out.b0 2 rfl
          have p3 : wq.cell? ⟨w.heap.size, 3, none⟩ = some (.slice ka L kc) := cell_of_heap HJ.out.b0 3 rfl
          have p4 : wq.cell? ⟨w.heap.size, 4, none⟩ = some (.slice oa L oc) := cell_of_heap HJ.out.b0 4 rfl
          go_upto_region 18 with fail
          go_wp2_with fail
          go_at_call 170; refine (HI.out _ _).mono ?_; rintro e w5 ⟨rfl, b5⟩
          have HJ5 := hid (HJ.out.keep (b5.mono HJ.out.o4))
          have OQ5 := hid (own_belT OQ.out b5)
          clear b5
          cases hcc : Fl.isC f C with
          | false =>
           have HCC := hid hcc
           clear hcc
           go_wp2_with fail
           go_roundw
           case rel => exact ⟨q + 1, qs, qa, qc, by omega, by go_num, by rw [HNQ.out], by rw [HNQ.out]; exact OQ5, hid (by rw [HST.out]; unfold Fl.from1; rw [HCC.out, if_neg (by simp)]; exact HRF.out), hid (by rw [HST.out]; unfold Fl.from1; rw [HCC.out, if_neg (by simp)]; exact HJ5.out)⟩
           case measure => simp [intOf]; omega
          | true =>
           have HCC := hid hcc
           obtain ⟨g0, g1⟩ := Fl.isC_lt HR.out hcc
           rw [HL.out] at g1
           obtain ⟨m, rfl⟩ : ∃ m : Nat, C = (m : Int) := ⟨C.toNat, by omega⟩
           simp only [Int.toNat_natCast] at g1
           have m1 : (m : Int) < (L : Int) := by omega
           have m0 : (0 : Int) ≤ (m : Int) := by omega
           have hmin : min (m : Int) ((L : Int) - 1) = (m : Int) := by omega
           have hmax : max (0 : Int) (m : Int) = (m : Int) := by omega
           have cs := HJ5.out.cellS g1
           have co := HJ5.out.cellO g1
           have HOP := hid (HRF.out.op m g1)
           have HF1 : Hid (Fl.from1 f s (m : Int) = Fl.reach s m 0) := hid (by unfold Fl.from1; rw [HCC.out, if_pos rfl, Int.toNat_natCast])
           obtain ⟨S, hS⟩ : ∃ X, (Fl.shutL f avoid).getD m false = X := ⟨_, rfl⟩
           obtain ⟨O, hO⟩ : ∃ X, s.out.getD m 0 = X := ⟨_, rfl⟩
           rw [hS] at cs HOP
           rw [hO] at co HOP
           have gm : m < L := g1
           clear hcc hS hO p0 p1 p2 p3 p4
           by_cases hm9 : 0 < m
           · have hm8 : (0 : Int) < (m : Int) := by omega
             by_cases hop : S = false ∧ O < 0
             · obtain ⟨rfl, o0⟩ := hop
               have HOT : Hid (s.op.getD m false = true) := hid (by rw [HOP.out, decide_eq_true o0]; rfl)
               have fo : w5.frozen? ⟨go, m, none⟩ = false := free_of_heap HJ5.out.ho m
               have HRE := hid (HRF.out.reach gm (n := 0) (Int.le_refl _) HOT.out)
               have HJ6 := hid (HJ5.out.setO m 0)
               have OQ6 := hid (own_setLow OQ5.out HJ5.out.o3 m (.int .i64 0))
               go_upto_region 20 with fail
               obtain ⟨w6, hw6⟩ : ∃ W, W = w5.setCell ⟨go, m, none⟩ (.int .i64 0) := ⟨_, rfl⟩
               rw [← hw6] at HJ6 OQ6 ⊢
               have hsz := HJ6.out.o4
               clear hw6 cs co fo
               go_wp2_with (at_builtin; refine wpList_append_own_at _ rfl _ _ 22 rfl B 3 i0 (.int .i64 0) 1 8 Tryz.underlying22 hi hz0 hz1 hz2 rfl (by decide) (.slice qa nq qc) nq _ rfl (OQ6.out.alloc _) ⟨w6.heap.size, 0, none⟩ 1 1 [.int .i64 (m : Int)] rfl rfl (Go.cell_one_new _ _ _) ?qc3 ?qc4 ?qc5 ?qc6 ?_)
               case qc3 => intro u hu; simp at hu; subst hu; rfl
               case qc4 => unfold maxLen; omega
               case qc5 => omega
               case qc6 => simp; omega
               intro v' w8 hown hgrow hnil hat
               obtain ⟨qa', qc', rfl⟩ := own_form3 hown
               have hbb : Below B w6 w8 := ((Below.refl _ w6).alloc hsz _).grown hgrow (by simp; omega) (fun g hg => (OQ6.out.lt g hg).1)
               go_wp2_with fail
               go_roundw
               case rel =>
                refine ⟨q + 1, qs ++ [m], qa', qc', by omega, by go_num, by rw [List.length_append, HNQ.out]; rfl, hid ?_, hid ?_, hid ?_⟩
                · rw [nats_snoc, List.length_append, HNQ.out]; exact hown
                · rw [HST.out, HF1.out]; exact HRE.out.1
                · rw [HST.out, HF1.out, HRE.out.2]; exact HJ6.out.keep hbb
               case measure => simp [intOf]; omega
             · have HOT : Hid (s.op.getD m false = false) := hid (by
                rw [HOP.out]
                cases S with
                | true => rfl
                | false => rw [decide_eq_false (fun h => hop ⟨rfl, h⟩)]; rfl)
               have HRE : Hid (Fl.reach s m 0 = s) := hid (Fl.Rf.stay HOT.out)
               have hS2 : S = true ∨ (S = false ∧ ¬ O < 0) := by
                cases S with
                | true => exact .inl rfl
                | false => exact .inr ⟨rfl, fun h => hop ⟨rfl, h⟩⟩
               clear hop
               rcases hS2 with rfl | ⟨rfl, o0⟩
               all_goals
                go_wp2_with fail
                go_roundw
                case rel => exact ⟨q + 1, qs, qa, qc, by omega, by go_num, by rw [HNQ.out], by rw [HNQ.out]; exact OQ5, hid (by rw [HST.out, HF1.out, HRE.out]; exact HRF.out), hid (by rw [HST.out, HF1.out, HRE.out]; exact HJ5.out)⟩
                case measure => simp [intOf]; omega
           · have cs0 : w5.cell? ⟨gs, 0, none⟩ = some (.bool S) := by have e : m = 0 := by omega
                                                                      rw [e] at cs; exact cs
             have co0 : w5.cell? ⟨go, 0, none⟩ = some (.int .i64 O) := by have e : m = 0 := by omega
                                                                          rw [e] at co; exact co
             by_cases hop : S = false ∧ O < 0
             · obtain ⟨rfl, o0⟩ := hop
               have HOT : Hid (s.op.getD m false = true) := hid (by rw [HOP.out, decide_eq_true o0]; rfl)
               have fo : w5.frozen? ⟨go, m, none⟩ = false := free_of_heap HJ5.out.ho m
               have HRE := hid (HRF.out.reach gm (n := 0) (Int.le_refl _) HOT.out)
               have HJ6 := hid (HJ5.out.setO m 0)
               have OQ6 := hid (own_setLow OQ5.out HJ5.out.o3 m (.int .i64 0))
               go_upto_region 20 with fail
               obtain ⟨w6, hw6⟩ : ∃ W, W = w5.setCell ⟨go, m, none⟩ (.int .i64 0) := ⟨_, rfl⟩
               rw [← hw6] at HJ6 OQ6 ⊢
               have hsz := HJ6.out.o4
               clear hw6 cs co fo cs0 co0
               go_wp2_with (at_builtin; refine wpList_append_own_at _ rfl _ _ 22 rfl B 3 i0 (.int .i64 0) 1 8 Tryz.underlying22 hi hz0 hz1 hz2 rfl (by decide) (.slice qa nq qc) nq _ rfl (OQ6.out.alloc _) ⟨w6.heap.size, 0, none⟩ 1 1 [.int .i64 (m : Int)] rfl rfl (Go.cell_one_new _ _ _) ?qc3 ?qc4 ?qc5 ?qc6 ?_)
               case qc3 => intro u hu; simp at hu; subst hu; rfl
               case qc4 => unfold maxLen; omega
               case qc5 => omega
               case qc6 => simp; omega
               intro v' w8 hown hgrow hnil hat
               obtain ⟨qa', qc', rfl⟩ := own_form3 hown
               have hbb : Below B w6 w8 := ((Below.refl _ w6).alloc hsz _).grown hgrow (by simp; omega) (fun g hg => (OQ6.out.lt g hg).1)
               go_wp2_with fail
               go_roundw
               case rel =>
                refine ⟨q + 1, qs ++ [m], qa', qc', by omega, by go_num, by rw [List.length_append, HNQ.out]; rfl, hid ?_, hid ?_, hid ?_⟩
                · rw [nats_snoc, List.length_append, HNQ.out]; exact hown
                · rw [HST.out, HF1.out]; exact HRE.out.1
                · rw [HST.out, HF1.out, HRE.out.2]; exact HJ6.out.keep hbb
               case measure => simp [intOf]; omega
             · have HOT : Hid (s.op.getD m false = false) := hid (by
                rw [HOP.out]
                cases S with
                | true => rfl
                | false => rw [decide_eq_false (fun h => hop ⟨rfl, h⟩)]; rfl)
               have HRE : Hid (Fl.reach s m 0 = s) := hid (Fl.Rf.stay HOT.out)
               have hS2 : S = true ∨ (S = false ∧ ¬ O < 0) := by
                cases S with
                | true => exact .inl rfl
                | false => exact .inr ⟨rfl, fun h => hop ⟨rfl, h⟩⟩
               clear hop
               rcases hS2 with rfl | ⟨rfl, o0⟩
               all_goals
                go_wp2_with fail
                go_roundw
                case rel => exact ⟨q + 1, qs, qa, qc, by omega, by go_num, by rw [HNQ.out], by rw [HNQ.out]; exact OQ5, hid (by rw [HST.out, HF1.out, HRE.out]; exact HRF.out), hid (by rw [HST.out, HF1.out, HRE.out]; exact HJ5.out)⟩
                case measure => simp [intOf]; omega
        · have hq9 : ¬ (q : Int) < (NF : Int) := by omega
          have hss : s = Fl.start f frm avoid := by
           rw [← hs, List.take_of_length_le (by rw [HNF.out]; omega)]; rfl
          have HO : Hid (Fl.OB s 0 ∧ Fl.QB s L ∧ Fl.rounds s ≤ L) := hid (by
           have h := HOK.out q
           rw [hs, HL.out] at h
           exact h)
          rw [hs] at HRF HJ
          obtain ⟨RES, hRES⟩ : ∃ R, R = Fl.spread f frm avoid := ⟨_, rfl⟩
          have HRES := hid hRES
          have HLP : Hid (Fl.loop f (Fl.rounds s) s = RES) := hid (by rw [hRES, hss]; rfl)
          have HBD : Hid (Fl.OB s (6 * (4096 - (Fl.rounds s : Int))) ∧ Fl.QB s L ∧ Fl.rounds s ≤ 4096) := hid ⟨HO.out.1.mono (by have := HO.out.2.2; omega), HO.out.2.1, by have := HO.out.2.2; omega⟩
          clear hss hRES HOK hqn hs hnq HO
          have HRF4 : Hid (Fl.Rf L (Fl.shutL f avoid) qs 0 s) := HRF
          go_wp2_with fail
          go_loopw [13, 16] (fun qv iv wr => ∃ (i : Nat) (qs : List Nat) (qa : Option Addr) (qc : Nat) (s : Fl.Bs), i ≤ L ∧ iv = .int .i64 i ∧ qv = .slice qa qs.length qc ∧ Hid (wr.ownsRow B 3 1 (.slice qa qs.length qc) qs.length (ints (qs.map Int.ofNat))) ∧ Hid (Fl.Rf L (Fl.shutL f avoid) qs i s) ∧ Hid (RfJ w wr f (.slice ka L kc) (.slice oa L oc) L gs go B (Fl.shutL f avoid) s.out) ∧ Hid (Fl.loop f (Fl.rounds s) s = RES) ∧ Hid (Fl.OB s (6 * (4096 - (Fl.rounds s : Int))) ∧ Fl.QB s L ∧ Fl.rounds s ≤ 4096)) (fun _ iv _ => L - (intOf iv).toNat)
          case atStart => exact ⟨0, qs, qa, qc, s, by omega, rfl, rfl, OQ, HRF4, HJ, HLP, HBD⟩
          case round =>
           clear OQ HRF HRF4 HJ HLP HBD
           obtain ⟨i, qs, qa, qc, s, hiL, rfl, rfl, OQ, HRF, HJ, HLP, HBD⟩ := hrel
           obtain ⟨wz, hwz⟩ : ∃ W, W = wr := ⟨_, rfl⟩
           subst hwz
           obtain ⟨nq, hnq⟩ : ∃ n, qs.length = n := ⟨_, rfl⟩
           have hnL : nq ≤ L := by have := HRF.out.ql; rw [hnq] at this; omega
           by_cases hin : i < nq
           · have hiq : i < qs.length := by rw [hnq]; exact hin
             obtain ⟨r, hsq, hrf1⟩ := HRF.out.pop hiq
             have hcL : qs[i] < L := HRF.out.qb _ (List.getElem_mem hiq)
             have hci : (ints (qs.map Int.ofNat))[i]? = some (.int .i64 (qs[i] : Int)) := by simp [ints, hiq]
             obtain ⟨c, hc⟩ : ∃ X, qs[i] = X := ⟨_, rfl⟩
             rw [hc] at hsq hcL hci
             rw [hnq] at OQ ⊢
             obtain ⟨g, cap2, hv2⟩ : ∃ g cap2, (Value.slice qa nq qc) = .slice (some ⟨g, 0, none⟩) nq cap2 := by
              rcases OQ.out.2 with ⟨h, h0⟩ | ⟨g, cap2, cur, h1, -⟩
              · omega
              · exact ⟨g, cap2, h1⟩
             injection hv2 with e1 _ e2
             subst e1 e2
             have cq := (OQ.out.cellAt i (by omega)).trans hci
             have hrd := Fl.rounds_pop f hsq
             have hr3 := HBD.out.2.2
             obtain ⟨s1, hs1⟩ : ∃ s1 : Fl.Bs, s1 = { s with q := r } := ⟨_, rfl⟩
             have e0 : s1.out = s.out := by rw [hs1]
             rw [← hs1] at hrd hrf1
             have HRF1 := hid hrf1
             have HJ1 : Hid (RfJ w wz f (.slice ka L kc) (.slice oa L oc) L gs go B (Fl.shutL f avoid) (Fl.goDirs f c 0 s1).out) := hid (by show RfJ _ _ _ _ _ _ _ _ _ _ s1.out; rw [e0]; exact HJ.out)
             have HRF2 : Hid (Fl.Rf L (Fl.shutL f avoid) qs (i + 1) (Fl.goDirs f c 0 s1)) := HRF1
             have HOB : Hid (∀ d : Nat, Fl.OB (Fl.goDirs f c d s1) (6 * (4096 - (Fl.rounds s : Int)) + d) ∧ Fl.QB (Fl.goDirs f c d s1) L) := hid (fun d => by
              have h1 : Fl.OB s1 (6 * (4096 - (Fl.rounds s : Int))) := by rw [hs1]; exact HBD.out.1
              have h2 : Fl.QB s1 L := by rw [hs1]; intro x hx; exact HBD.out.2.1 x (by rw [hsq]; exact List.mem_cons_of_mem _ hx)
              exact ⟨h1.goDirs (by omega) c d, h2.goDirs HR.out HL.out c d⟩)
             have HRD : Hid (∀ d : Nat, Fl.rounds (Fl.goDirs f c d s1) + 1 = Fl.rounds s) := hid (fun d => by
              rw [Fl.rounds_goDirs, ← hrd, Fl.rounds_goDirs])
             have HPOP : Hid (Fl.loop f (Fl.rounds (Fl.goDirs f c 6 s1)) (Fl.goDirs f c 6 s1) = RES) := hid (by rw [hs1, ← Fl.loop_pop f hsq]; exact HLP.out)
             obtain ⟨RS, hRS⟩ : ∃ RS, RS = Fl.rounds s := ⟨_, rfl⟩
             rw [← hRS] at HOB HRD hr3
             have HNQ := hid hnq
             have OQ1 := OQ
             have ii0 : (0 : Int) ≤ (i : Int) := by omega
             have i1 : (i : Int) < (nq : Int) := by omega
             have hiL2 : i < L := by omega
             clear hsq hrf1 hci hc hrd hs1 e0 hRS hnq hiq HLP HBD HRF HRF1
             go_wp2_with fail
             go_loopw [13, 18] (fun qv iv wr => ∃ (d : Nat) (qs : List Nat) (qa : Option Addr) (qc : Nat), d ≤ 6 ∧ iv = .int .i64 d ∧ qv = .slice qa qs.length qc ∧ Hid (wr.ownsRow B 3 1 (.slice qa qs.length qc) qs.length (ints (qs.map Int.ofNat))) ∧ Hid (Fl.Rf L (Fl.shutL f avoid) qs (i + 1) (Fl.goDirs f c d s1)) ∧ Hid (RfJ w wr f (.slice ka L kc) (.slice oa L oc) L gs go B (Fl.shutL f avoid) (Fl.goDirs f c d s1).out)) (fun _ iv _ => 6 - (intOf iv).toNat)
             case atStart => exact ⟨0, qs, some ⟨g, 0, none⟩, qc, by omega, rfl, by rw [HNQ.out], by rw [HNQ.out]; exact OQ1, HRF2, HJ1⟩
             case round =>
              clear OQ OQ1 HRF2 HJ1 HJ cq
              obtain ⟨d, qs, qa, qc, hd, rfl, rfl, OQ, HRF, HJ⟩ := hrel
              obtain ⟨wy, hwy⟩ : ∃ W, W = wr := ⟨_, rfl⟩
              subst hwy
              obtain ⟨n2, hn2⟩ : ∃ n, qs.length = n := ⟨_, rfl⟩
              have hn2L : n2 ≤ L := by have := HRF.out.ql; rw [hn2] at this; omega
              by_cases hd6 : d < 6
              · rw [hn2] at OQ ⊢
                have HN2 := hid hn2
                have d0 : (0 : Int) ≤ (d : Int) := by omega
                have d1 : (d : Int) < 6 := by omega
                have k0 : (0 : Int) ≤ (c : Int) := by omega
                have k1 : (c : Int) < (L : Int) := by omega
                clear hn2
                have p0 : wy.cell? ⟨w.heap.size, 0, none⟩ = some (.int .i64 f.w) := cell_of_heap HJ.out.b0 0 rfl
                have p1 : wy.cell? ⟨w.heap.size, 1, none⟩ = some (.int .i64 f.h) := cell_of_heap HJ.out.b0 1 rfl
                have p2 : wy.cell? ⟨w.heap.size, 2, none⟩ = some (.int .i64 f.d) := cell_of_heap HJ.out.b0 2 rfl
                have p3 : wy.cell? ⟨w.heap.size, 3, none⟩ = some (.slice ka L kc) := cell_of_heap HJ.out.b0 3 rfl
                have p4 : wy.cell? ⟨w.heap.size, 4, none⟩ = some (.slice oa L oc) := cell_of_heap HJ.out.b0 4 rfl
                cases hnx : Fl.next f c d with
                | none =>
                 have HNX := hid hnx
                 have HGD : Hid (Fl.goDirs f c (d + 1) s1 = Fl.goDirs f c d s1) := hid (by show Fl.goDir f c d (Fl.goDirs f c d s1) = _; unfold Fl.goDir; rw [hnx])
                 clear hnx
                 go_wp2_with fail
                 go_at_call 222; refine (HN.out c d _ (HF.out.keep HJ.out.below) hcL hd6).mono ?_; rintro e w10 ⟨rfl, b10⟩
                 rw [HNX.out]
                 unfold nextV
                 have HJ5 := hid (HJ.out.keep (b10.mono HJ.out.o4))
                 have OQ5 := hid (own_belT OQ.out b10)
                 clear b10
                 go_wp2_with fail
                 go_roundw
                 case rel => exact ⟨d + 1, qs, qa, qc, by omega, by go_num, by rw [HN2.out], by rw [HN2.out]; exact OQ5, by rw [HGD.out]; exact HRF, by rw [HGD.out]; exact HJ5⟩
                 case measure => simp [intOf]; omega
                | some m =>
                 have HNX := hid hnx
                 have gm : m < L := by have := Fl.next_lt HR.out hnx; rw [HL.out] at this; exact this
                 obtain ⟨x0, x1⟩ := (HOB.out d).1.get (by omega) c
                 obtain ⟨X, hX⟩ : ∃ X, (Fl.goDirs f c d s1).out.getD c 0 = X := ⟨_, rfl⟩
                 rw [hX] at x0 x1
                 have HGD : Hid (Fl.goDirs f c (d + 1) s1 = Fl.reach (Fl.goDirs f c d s1) m (X + 1)) := hid (by show Fl.goDir f c d (Fl.goDirs f c d s1) = _; unfold Fl.goDir; rw [hnx, ← hX])
                 have HXc := hid hX
                 have m1 : (m : Int) < (L : Int) := by omega
                 have m0 : (0 : Int) ≤ (m : Int) := by omega
                 clear hnx hX
                 go_wp2_with fail
                 go_at_call 222; refine (HN.out c d _ (HF.out.keep HJ.out.below) hcL hd6).mono ?_; rintro e w5 ⟨rfl, b10⟩
                 rw [HNX.out]
                 unfold nextV
                 have HJ5 := hid (HJ.out.keep (b10.mono HJ.out.o4))
                 have OQ5 := hid (own_belT OQ.out b10)
                 clear b10 p0 p1 p2 p3 p4
                 have cs := HJ5.out.cellS gm
                 have co := HJ5.out.cellO gm
                 have cc := HJ5.out.cellO hcL
                 rw [HXc.out] at cc
                 have HOP := hid (HRF.out.op m gm)
                 obtain ⟨S, hS⟩ : ∃ X, (Fl.shutL f avoid).getD m false = X := ⟨_, rfl⟩
                 obtain ⟨O, hO⟩ : ∃ X, (Fl.goDirs f c d s1).out.getD m 0 = X := ⟨_, rfl⟩
                 rw [hS] at cs HOP
                 rw [hO] at co HOP
                 clear hS hO
                 by_cases hop : S = false ∧ O < 0
                 · obtain ⟨rfl, o0⟩ := hop
                   have HOT : Hid ((Fl.goDirs f c d s1).op.getD m false = true) := hid (by rw [HOP.out, decide_eq_true o0]; rfl)
                   have fo : w5.frozen? ⟨go, m, none⟩ = false := free_of_heap HJ5.out.ho m
                   have HRE := hid (HRF.out.reach gm (n := X + 1) (by
                    have h1 := HRF.out
                    by_cases hx9 : 0 ≤ X
                    · omega
                    · omega) HOT.out)
                   have HJ6 := hid (HJ5.out.setO m (X + 1))
                   have OQ6 := hid (own_setLow OQ5.out HJ5.out.o3 m (.int .i64 (X + 1)))
                   go_upto_region 33 with fail
                   obtain ⟨w6, hw6⟩ : ∃ W, W = w5.setCell ⟨go, m, none⟩ (.int .i64 (X + 1)) := ⟨_, rfl⟩
                   rw [← hw6] at HJ6 OQ6 ⊢
                   have hsz := HJ6.out.o4
                   clear hw6 cs co cc fo
                   go_wp2_with (at_builtin; refine wpList_append_own_at _ rfl _ _ 22 rfl B 3 i0 (.int .i64 0) 1 8 Tryz.underlying22 hi hz0 hz1 hz2 rfl (by decide) (.slice qa n2 qc) n2 _ rfl (OQ6.out.alloc _) ⟨w6.heap.size, 0, none⟩ 1 1 [.int .i64 (m : Int)] rfl rfl (Go.cell_one_new _ _ _) ?qc3 ?qc4 ?qc5 ?qc6 ?_)
                   case qc3 => intro u hu; simp at hu; subst hu; rfl
                   case qc4 => unfold maxLen; omega
                   case qc5 => omega
                   case qc6 => simp; omega
                   intro v' w8 hown hgrow hnil hat
                   obtain ⟨qa', qc', rfl⟩ := own_form3 hown
                   have hbb : Below B w6 w8 := ((Below.refl _ w6).alloc hsz _).grown hgrow (by simp; omega) (fun g hg => (OQ6.out.lt g hg).1)
                   go_wp2_with fail
                   go_roundw
                   case rel =>
                    refine ⟨d + 1, qs ++ [m], qa', qc', by omega, by go_num, by rw [List.length_append, HN2.out]; rfl, hid ?_, hid ?_, hid ?_⟩
                    · rw [nats_snoc, List.length_append, HN2.out]; exact hown
                    · rw [HGD.out]; exact HRE.out.1
                    · rw [HGD.out, HRE.out.2]; exact HJ6.out.keep hbb
                   case measure => simp [intOf]; omega
                 · have HOT : Hid ((Fl.goDirs f c d s1).op.getD m false = false) := hid (by
                    rw [HOP.out]
                    cases S with
                    | true => rfl
                    | false => rw [decide_eq_false (fun h => hop ⟨rfl, h⟩)]; rfl)
                   have HRE : Hid (Fl.reach (Fl.goDirs f c d s1) m (X + 1) = Fl.goDirs f c d s1) := hid (Fl.Rf.stay HOT.out)
                   have hS2 : S = true ∨ (S = false ∧ ¬ O < 0) := by
                    cases S with
                    | true => exact .inl rfl
                    | false => exact .inr ⟨rfl, fun h => hop ⟨rfl, h⟩⟩
                   clear hop
                   rcases hS2 with rfl | ⟨rfl, o0⟩
                   all_goals
                    go_wp2_with fail
                    go_roundw
                    case rel => exact ⟨d + 1, qs, qa, qc, by omega, by go_num, by rw [HN2.out], by rw [HN2.out]; exact OQ5, hid (by rw [HGD.out, HRE.out]; exact HRF.out), hid (by rw [HGD.out, HRE.out]; exact HJ5.out)⟩
                    case measure => simp [intOf]; omega
              · have d9 : ¬ (d : Int) < 6 := by omega
                have e6 : d = 6 := by omega
                have HRF6 : Hid (Fl.Rf L (Fl.shutL f avoid) qs (i + 1) (Fl.goDirs f c 6 s1)) := hid (by have h := HRF.out; rw [e6] at h; exact h)
                have HJ6 : Hid (RfJ w wy f (.slice ka L kc) (.slice oa L oc) L gs go B (Fl.shutL f avoid) (Fl.goDirs f c 6 s1).out) := hid (by have h := HJ.out; rw [e6] at h; exact h)
                clear hd6 e6 HRF HJ hn2
                go_wp2_with fail
                go_roundw
                case rel => exact ⟨i + 1, qs, qa, qc, Fl.goDirs f c 6 s1, by omega, by go_num, rfl, OQ, HRF6, HJ6, HPOP, hid ⟨(HOB.out 6).1.mono (by have := HRD.out 6; omega), (HOB.out 6).2, by have := HRD.out 6; omega⟩⟩
                case measure => simp [intOf]; omega
           · have hi9 : ¬ (i : Int) < (nq : Int) := by omega
             have HE : Hid (s.out = Fl.dist f frm avoid) := hid (by
              have h1 := HLP.out
              rw [Fl.loop_nil f (HRF.out.done (by rw [hnq]; exact hin))] at h1
              rw [h1, HRES.out]; rfl)
             rw [hnq] at OQ ⊢
             clear hin hnq
             go_wp2_with fail
             go_ret
             refine ⟨go, L, rfl, by rw [Fl.dist_len, HL.out], by have h1 := HJ.out.o1; have h2 := HJ.out.o2; omega, ?_, HJ.out.below⟩
             rw [← HE.out]; exact HJ.out.ho
theorem rDist_any (f : Fl.Floor) (kv ov : Value) (fv av : Value) (frm avoid : List Int) (w : World) (hr : Fl.Right f) (hF : FlV w kv ov f) (hf : Is w fv frm) (ha : Is w av avoid) :
 Calls Tryz.prog 71 #[flV f kv ov, fv, av] w (DistPost w (Fl.dist f frm avoid)) := by
 have HS := hid (fun W (hW : Below w.heap.size w W) => rSpread_any f kv ov fv av frm avoid W hr (hF.keep hW) (hf.keep hW) (ha.keep hW))
 have B1 := hid ((Below.refl _ w).alloc (Nat.le_refl _) (.cells #[.int .i64 f.w, .int .i64 f.h, .int .i64 f.d, kv, ov] 24))
 unfold flV DistPost at *
 clear hF hf ha
 go_enter Tryz.func71, Tryz.ntmps71
 go_wp2_with fail
 go_at_call 151; refine (HS.out _ B1.out).mono ?_; rintro e w2 ⟨g, n, rfl, h1, h2, h3, h4⟩
 subst h1
 go_wp2_with fail
 go_ret
 exact ⟨g, _, rfl, rfl, Nat.le_trans (by have := B1.out.size; omega) h2, h3, B1.out.trans (h4.mono B1.out.size)⟩
end Go.Proofs.YtfcbcpfnaadpeaaGreatDoor
