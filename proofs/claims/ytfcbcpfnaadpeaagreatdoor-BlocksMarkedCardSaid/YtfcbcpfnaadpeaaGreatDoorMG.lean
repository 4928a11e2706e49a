/- Parts Fu of this claim, laid one behind the other: walks and the plain laws behind them; each contract states its own conditions. -/
import Derived.Test.YtfcbcpfnaadpeaaGreatDoorMF
namespace Go.Proofs.YtfcbcpfnaadpeaaGreatDoor
set_option maxRecDepth 100000
set_option maxHeartbeats 64000000
set_option linter.unusedSimpArgs false
set_option linter.unusedVariables false
open Go.RowKit
def DistPost (w : World) (l : List Int) (e : Ending) (w' : World) : Prop := ∃ g n, e = .returned (.slice (some ⟨g, 0, none⟩) n n) ∧ n = l.length ∧ w.heap.size ≤ g ∧ w'.heap[g]? = some (.cells (ints l).toArray 3 (0, 0)) ∧ Below w.heap.size w w'
theorem spread_any (f : Fl.Floor) (kv ov : Value) (fv av : Value) (frm avoid : List Int) (w : World) (hr : Fl.Right f) (hF : FlV w kv ov f) (hf : Is w fv frm) (ha : Is w av avoid) :
 Calls Tryz.prog 220 #[flV f kv ov, fv, av, .func (.func 106) #[] #[]] w (DistPost w (Fl.dist f frm avoid)) := by
 have hN := fun c d W hF hc hd => Next_any f kv ov c d W hr hF hc hd
 have hS := fun W => size_any f kv ov W (.of hr)
 have hI := fun c W => is_any f kv ov c W (.of hr)
 have hkl := hr.kl
 have hsz := hr.sz
 have HF := hid hF
 have HA := hid ha
 have HFR := hid hf
 obtain ⟨ka, kc, rfl, hkm⟩ := hF.kind.form
 obtain ⟨oa, oc, rfl, hom⟩ := hF.out.form
 obtain ⟨aa, ac, rfl, ham⟩ := ha.form
 obtain ⟨fa, fc, rfl, hfm⟩ := hf.form
 obtain ⟨L, hL⟩ : ∃ L, f.kind.length = L := ⟨_, rfl⟩
 obtain ⟨NA, hNA⟩ : ∃ L, avoid.length = L := ⟨_, rfl⟩
 obtain ⟨NF, hNF⟩ : ∃ L, frm.length = L := ⟨_, rfl⟩
 rw [hr.ol] at hom hN hS hI HF ⊢
 rw [hL] at hkl hkm hom hN hS hI HF ⊢
 rw [hNA] at ham HA ⊢
 rw [hNF] at hfm HFR ⊢
 rw [← hkl] at hS
 have hL4 : L ≤ 4096 := by omega
 unfold flV at hN hS hI ⊢
 have HL := hid hL
 have HNA := hid hNA
 have HNF := hid hNF
 have HN := hid hN
 have HS := hid hS
 have HI := hid hI
 have HR := hid hr
 have hmi := make_ints L (L : Int) rfl (by omega)
 have hmb := make_bools L (L : Int) rfl (by omega)
 have B1 := hid ((Below.refl _ w).alloc (Nat.le_refl _) (.cells #[.int .i64 f.w, .int .i64 f.h, .int .i64 f.d, .slice ka L kc, .slice oa L oc] 24))
 clear hF ha hf hr hL hNA hNF hkl hsz hN hS hI
 go_enter Tryz.func220, Tryz.ntmps220
 go_wp2_with fail
 go_at_call 115; refine (HS.out _).mono ?_; rintro e w1 ⟨rfl, b1⟩
 have I1 := hid ((b1.block w.heap.size (by simp)).trans (heap_alloc_new _ _))
 have B2 := hid (B1.out.trans (b1.mono B1.out.size))
 have s1 : w.heap.size < w1.heap.size := heap_lt I1.out
 have p0 : w1.cell? ⟨w.heap.size, 0, none⟩ = some (.int .i64 f.w) := cell_of_heap I1.out 0 rfl
 have p1 : w1.cell? ⟨w.heap.size, 1, none⟩ = some (.int .i64 f.h) := cell_of_heap I1.out 1 rfl
 have p2 : w1.cell? ⟨w.heap.size, 2, none⟩ = some (.int .i64 f.d) := cell_of_heap I1.out 2 rfl
 have p3 : w1.cell? ⟨w.heap.size, 3, none⟩ = some (.slice ka L kc) := cell_of_heap I1.out 3 rfl
 have p4 : w1.cell? ⟨w.heap.size, 4, none⟩ = some (.slice oa L oc) := cell_of_heap I1.out 4 rfl
 clear b1 B1
 go_wp2_with fail
 have BW := hid ((B2.out.alloc B2.out.size (.cells (madeCells #[.int .i64 0] L) 3)).alloc (by have := B2.out.size; simp; omega) (.cells #[.slice (some ⟨w1.heap.size, 0, none⟩) L L] 22))
 have G1 : Hid (((w1.alloc (.cells (madeCells #[.int .i64 0] L) 3)).alloc (.cells #[.slice (some ⟨w1.heap.size, 0, none⟩) L L] 22)).heap[w1.heap.size]? = some (.cells (madeCells #[.int .i64 0] L) 3 (0, 0))) := hid ((heap_alloc_old _ _ (by simp)).trans (heap_alloc_new _ _))
 have G2 := hid (heap_two3 w1 (.cells (madeCells #[.int .i64 0] L) 3) (.cells #[.slice (some ⟨w1.heap.size, 0, none⟩) L L] 22))
 have G0 : Hid (((w1.alloc (.cells (madeCells #[.int .i64 0] L) 3)).alloc (.cells #[.slice (some ⟨w1.heap.size, 0, none⟩) L L] 22)).heap[w.heap.size]? = _) := hid ((heap_alloc_old _ _ (by simp; omega)).trans ((heap_alloc_old _ _ s1).trans I1.out))
 go_at_call 115; refine (HS.out _).mono ?_; rintro e w2 ⟨rfl, b2⟩
 have HJ : Hid (SpJ w ((w2.alloc (.cells (madeCells #[.bool false] L) 4)).alloc (.cells #[.slice (some ⟨w2.heap.size, 0, none⟩) L L] 110)) ⟨w1.heap.size + 1, w2.heap.size + 1, 0, w1.heap.size, w2.heap.size⟩ f (.slice ka L kc) (.slice oa L oc) L (Fl.mixK (fun _ => -1) (fun _ => 0) f.kind 0) (Fl.mixK (fun k => decide (k ≠ 0)) (fun _ => false) f.kind 0)) := hid (by
  have hs := b2.size
  simp only [World.alloc] at hs
  have hs2 : w1.heap.size + 2 ≤ w2.heap.size := by simpa using hs
  have hb : Below w2.heap.size w2 ((w2.alloc (.cells (madeCells #[.bool false] L) 4)).alloc (.cells #[.slice (some ⟨w2.heap.size, 0, none⟩) L L] 110)) := ((Below.refl _ w2).alloc (Nat.le_refl _) _).alloc (by simp) _
  rw [Fl.mixK_zero, Fl.mixK_zero, ← HL.out]
  have e1 := made_ints f.kind
  have e2 := made_bools f.kind
  rw [HL.out] at e1 e2 ⊢
  refine ⟨keep_heap (keep_heap G0.out b2) hb, keep_heap (keep_heap G2.out b2) hb, heap_two3 _ _ _, ?_, ?_, s1, by simp, by show w1.heap.size + 1 < w2.heap.size; omega, by simp, BW.out.trans ((b2.mono BW.out.size).trans (hb.mono (by omega))), by rw [List.length_map, HL.out], by rw [List.length_map, HL.out]⟩
  · rw [← e1]; exact keep_heap (keep_heap G1.out b2) hb
  · rw [← e2]; exact (heap_alloc_old _ _ (by simp)).trans (heap_alloc_new _ _))
 have i2 := keep_heap G0.out b2
 have q0 : w2.cell? ⟨w.heap.size, 0, none⟩ = some (.int .i64 f.w) := cell_of_heap i2 0 rfl
 have q1 : w2.cell? ⟨w.heap.size, 1, none⟩ = some (.int .i64 f.h) := cell_of_heap i2 1 rfl
 have q2 : w2.cell? ⟨w.heap.size, 2, none⟩ = some (.int .i64 f.d) := cell_of_heap i2 2 rfl
 have q3 : w2.cell? ⟨w.heap.size, 3, none⟩ = some (.slice ka L kc) := cell_of_heap i2 3 rfl
 have q4 : w2.cell? ⟨w.heap.size, 4, none⟩ = some (.slice oa L oc) := cell_of_heap i2 4 rfl
 have s2 : w.heap.size < w2.heap.size := heap_lt i2
 obtain ⟨b, hb⟩ : ∃ b : SpB, b = ⟨w1.heap.size + 1, w2.heap.size + 1, 0, w1.heap.size, w2.heap.size⟩ := ⟨_, rfl⟩
 have ho : b.go = w1.heap.size := by rw [hb]
 have hbo : w1.heap.size + 1 = b.bo := by rw [hb]
 have hbp : w2.heap.size + 1 = b.bp := by rw [hb]
 rw [← hb] at HJ
 have HBO := hid hbo
 have HBP := hid hbp
 clear b2 i2 p0 p1 p2 p3 p4 G0 G1 G2 BW I1 B2 ho hbo hbp hb
 go_wp2_with fail
 rw [HBO.out, HBP.out]
 clear q0 q1 q2 q3 q4 HBO HBP
 go_loopw [32] (fun iv wr => ∃ k : Nat, k ≤ L ∧ iv = .int .i64 k ∧ Hid (SpJ w wr b f (.slice ka L kc) (.slice oa L oc) L (Fl.mixK (fun _ => -1) (fun _ => 0) f.kind k) (Fl.mixK (fun k => decide (k ≠ 0)) (fun _ => false) f.kind k))) (fun iv _ => L - (intOf iv).toNat)
 case atStart => exact ⟨0, by omega, rfl, HJ⟩
 case round =>
  obtain ⟨k, hk, rfl, HK⟩ := hrel
  by_cases hlt : k < L
  · obtain ⟨kb, ko, e1, kc0⟩ := (HF.out.keep HK.out.below).kind.cell k (by rw [HL.out]; exact hlt)
    subst e1
    obtain ⟨X, hX⟩ : ∃ X, X = f.kind[k]'(by rw [HL.out]; exact hlt) := ⟨_, rfl⟩
    rw [← hX] at kc0
    have HX : Hid (∀ (α : Type) (g h : Int → α), (Fl.mixK g h f.kind k).set k (g X) = Fl.mixK g h f.kind (k + 1)) := hid (fun α g h => by rw [hX]; exact Fl.mixK_set g h f.kind k (by rw [HL.out]; exact hlt))
    have c0 : wr.cell? ⟨b.bo, 0, none⟩ = some (.slice (some ⟨b.go, 0, none⟩) L L) := cell_of_heap HK.out.bo 0 rfl
    have c2 : wr.cell? ⟨b.bp, 0, none⟩ = some (.slice (some ⟨b.gp, 0, none⟩) L L) := cell_of_heap HK.out.bp 0 rfl
    obtain ⟨v1, c1⟩ : ∃ v, wr.cell? ⟨b.go, k, none⟩ = some v := ⟨_, cell_of_heap HK.out.go k (Array.getElem?_eq_getElem (by simp [ints, Fl.mixK_len]; rw [HL.out]; exact hlt))⟩
    obtain ⟨v3, c3⟩ : ∃ v, wr.cell? ⟨b.gp, k, none⟩ = some v := ⟨_, cell_of_heap HK.out.gp k (Array.getElem?_eq_getElem (by simp [bools, Fl.mixK_len]; rw [HL.out]; exact hlt))⟩
    have f1 : wr.frozen? ⟨b.go, k, none⟩ = false := free_of_heap HK.out.go k
    have f3 : wr.frozen? ⟨b.gp, k, none⟩ = false := free_of_heap HK.out.gp k
    have o2 := HK.out.o2
    have o3 := HK.out.o3
    have o4 := HK.out.o4
    have k0 : (0 : Int) ≤ (k : Int) := by omega
    have k1 : (k : Int) < (L : Int) := by omega
    have ne1 : b.go ≠ b.gp := by omega
    have ne2 : b.gp ≠ b.go := by omega
    have ne3 : b.bo ≠ b.gp := by omega
    have ne4 : b.bo ≠ b.go := by omega
    have ne5 : b.bp ≠ b.gp := by omega
    have ne6 : b.bp ≠ b.go := by omega
    clear hX
    go_wp2_with fail
    go_region
    all_goals
     go_wp2_with fail
     go_roundw
     case rel =>
      have h2 := HK.out.two k (-1) (X != 0)
      rw [HX.out Int (fun _ => -1), bne_dec, HX.out Bool (fun k => decide (k ≠ 0))] at h2
      rw [bne_dec]
      exact ⟨k + 1, by omega, by go_num, hid h2⟩
     case measure => simp [intOf]; omega
  · obtain rfl : k = L := by omega
    have HJ2 : Hid (SpJ w wr b f (.slice ka k kc) (.slice oa k oc) k (f.kind.map fun _ => -1) ((avoid.take 0).foldl (Fl.shut1 f) (f.kind.map fun k => decide (k ≠ 0)))) := hid (by
     have h := HK.out
     have e := HL.out
     rw [← e] at h ⊢
     rw [Fl.mixK_all, Fl.mixK_all] at h
     simpa using h)
    obtain ⟨wo, rfl⟩ : ∃ wo : World, wo = wr := ⟨_, rfl⟩
    clear HK HJ hlt
    go_wp2_with fail
    go_loopw [48] (fun iv wr => ∃ q : Nat, q ≤ NA ∧ iv = .int .i64 q ∧ Hid (SpJ w wr b f (.slice ka k kc) (.slice oa k oc) k (f.kind.map fun _ => -1) ((avoid.take q).foldl (Fl.shut1 f) (f.kind.map fun k => decide (k ≠ 0))))) (fun iv _ => NA - (intOf iv).toNat)
    case atStart => exact ⟨0, by omega, rfl, HJ2⟩
    case round =>
     obtain ⟨q, hq, rfl, HQ⟩ := hrel
     by_cases hqn : q < NA
     · obtain ⟨ab, ao, e1, ac0⟩ := (HA.out.keep HQ.out.below).cell q (by rw [HNA.out]; exact hqn)
       subst e1
       obtain ⟨C, hC⟩ : ∃ X, X = avoid[q]'(by rw [HNA.out]; exact hqn) := ⟨_, rfl⟩
       rw [← hC] at ac0
       have HST : Hid ((avoid.take (q + 1)).foldl (Fl.shut1 f) (f.kind.map fun k => decide (k ≠ 0)) = Fl.shut1 f ((avoid.take q).foldl (Fl.shut1 f) (f.kind.map fun k => decide (k ≠ 0))) C) := hid (by rw [hC]; exact Fl.fold_step _ _ _ _ _)
       have q0 : (0 : Int) ≤ (q : Int) := by omega
       have q1 : (q : Int) < (NA : Int) := by omega
       have p0 : wr.cell? ⟨w.heap.size, 0, none⟩ = some (.int .i64 f.w) := cell_of_heap HQ.out.b0 0 rfl
       have p1 : wr.cell? ⟨w.heap.size, 1, none⟩ = some (.int .i64 f.h) := cell_of_heap HQ.out.b0 1 rfl
       have p2 : wr.cell? ⟨w.heap.size, 2, none⟩ = some (.int .i64 f.d) := cell_of_heap HQ.out.b0 2 rfl
       have p3 : wr.cell? ⟨w.heap.size, 3, none⟩ = some (.slice ka k kc) := cell_of_heap HQ.out.b0 3 rfl
       have p4 : wr.cell? ⟨w.heap.size, 4, none⟩ = some (.slice oa k oc) := cell_of_heap HQ.out.b0 4 rfl
       cases hcc : Fl.isC f C with
       | false =>
        have HCC := hid hcc
        clear hcc hC
        go_wp2_with fail
        go_at_call 250; refine (HI.out _ _).mono ?_; rintro e w5 ⟨rfl, b5⟩
        rw [HCC.out]
        have HQ5 := hid (HQ.out.keep b5)
        clear b5
        go_wp2_with fail
        go_roundw
        case rel => exact ⟨q + 1, by omega, by go_num, hid (by rw [HST.out]; unfold Fl.shut1; rw [HCC.out, if_neg (by simp)]; exact HQ5.out)⟩
        case measure => simp [intOf]; omega
       | true =>
        have HCC := hid hcc
        obtain ⟨g0, g1⟩ := Fl.isC_lt HR.out hcc
        rw [HL.out] at g1
        obtain ⟨m, rfl⟩ : ∃ m : Nat, C = (m : Int) := ⟨C.toNat, by omega⟩
        simp only [Int.toNat_natCast] at g1
        have m1 : (m : Int) < (k : Int) := by omega
        clear hcc hC
        go_wp2_with fail
        go_at_call 250; refine (HI.out _ _).mono ?_; rintro e w5 ⟨rfl, b5⟩
        rw [HCC.out]
        have HQ5 := hid (HQ.out.keep b5)
        clear b5 p0 p1 p2 p3 p4
        have c2 : w5.cell? ⟨b.bp, 0, none⟩ = some (.slice (some ⟨b.gp, 0, none⟩) k k) := cell_of_heap HQ5.out.bp 0 rfl
        obtain ⟨v3, c3⟩ : ∃ v, w5.cell? ⟨b.gp, m, none⟩ = some v := ⟨_, cell_of_heap HQ5.out.gp m (Array.getElem?_eq_getElem (by have h5 := HQ5.out.lp; rw [List.size_toArray, bools_len, h5]; exact g1))⟩
        have f3 : w5.frozen? ⟨b.gp, m, none⟩ = false := free_of_heap HQ5.out.gp m
        go_wp2_with fail
        go_roundw
        case rel =>
         have h2 := HQ5.out.one m false
         exact ⟨q + 1, by omega, by go_num, hid (by rw [HST.out]; unfold Fl.shut1; rw [HCC.out, if_pos rfl]; exact h2)⟩
        case measure => simp [intOf]; omega
     · obtain rfl : q = NA := by omega
       have HI0 : Hid (SpJ w wr b f (.slice ka k kc) (.slice oa k oc) k (f.kind.map fun _ => -1) (Fl.open0 f avoid)) := hid (by
        have h := HQ.out
        rw [List.take_of_length_le (by rw [HNA.out]; omega)] at h
        exact h)
       have H0 := hid ((HI0.out.withq wr.heap.size).queue rfl)
       obtain ⟨w6, rfl⟩ : ∃ wo : World, wo = wr := ⟨_, rfl⟩
       obtain ⟨b', hb'⟩ : ∃ b' : SpB, b' = ⟨b.bo, b.bp, w6.heap.size, b.go, b.gp⟩ := ⟨_, rfl⟩
       rw [← hb'] at H0
       have e1 : b.bo = b'.bo := by rw [hb']
       have e2 : b.bp = b'.bp := by rw [hb']
       have e3 : b.go = b'.go := by rw [hb']
       have e4 : b.gp = b'.gp := by rw [hb']
       have e5 : w6.heap.size = b'.bq := by rw [hb']
       have E5 := hid e5
       have E1 := hid e1
       have E2 := hid e2
       have HZ : Hid (SpI w (w6.alloc (.cells #[.slice none 0 0] 22)) b' f (.slice ka k kc) (.slice oa k oc) k ((frm.take 0).foldl (Fl.from1 f) (Fl.base0 f avoid))) := hid (by exact H0.out)
       clear HQ HI0 H0 hqn HJ2 hb' e1 e2 e3 e4 e5
       go_wp2_with fail
       rw [E5.out, E1.out, E2.out]
       clear E5 E1 E2
       obtain ⟨wo, hwo⟩ : ∃ wo : World, wo = w6.alloc (.cells #[.slice none 0 0] 22) := ⟨_, rfl⟩
       rw [← hwo] at HZ ⊢
       clear hwo
       have HOK := hid (fun q => Fl.start_ok HR.out frm avoid q)
       go_loopw [62] (fun iv wr => ∃ q : Nat, q ≤ NF ∧ iv = .int .i64 q ∧ Hid (SpI w wr b' f (.slice ka k kc) (.slice oa k oc) k ((frm.take q).foldl (Fl.from1 f) (Fl.base0 f avoid)))) (fun iv _ => NF - (intOf iv).toNat)
       case atStart => exact ⟨0, by omega, rfl, HZ⟩
       case round =>
        obtain ⟨j, hj, rfl, HQ⟩ := hrel
        by_cases hjn : j < NF
        · obtain ⟨ab, ao, e1, ac0⟩ := (HFR.out.keep HQ.out.below).cell j (by rw [HNF.out]; exact hjn)
          subst e1
          obtain ⟨C, hC⟩ : ∃ X, X = frm[j]'(by rw [HNF.out]; exact hjn) := ⟨_, rfl⟩
          rw [← hC] at ac0
          have HST : Hid ((frm.take (j + 1)).foldl (Fl.from1 f) (Fl.base0 f avoid) = Fl.from1 f ((frm.take j).foldl (Fl.from1 f) (Fl.base0 f avoid)) C) := hid (by rw [hC]; exact Fl.fold_step _ _ _ _ _)
          obtain ⟨s, hs⟩ : ∃ s, s = (frm.take j).foldl (Fl.from1 f) (Fl.base0 f avoid) := ⟨_, rfl⟩
          have hqs : s.q.length < 1000000 := by
           have h1 := (HOK.out j).2.2
           rw [← hs, HL.out] at h1
           have := Fl.q_le s
           omega
          rw [← hs] at HST HQ
          have q0 : (0 : Int) ≤ (j : Int) := by omega
          have q1 : (j : Int) < (NF : Int) := by omega
          have p0 : wr.cell? ⟨w.heap.size, 0, none⟩ = some (.int .i64 f.w) := cell_of_heap HQ.out.b0 0 rfl
          have p1 : wr.cell? ⟨w.heap.size, 1, none⟩ = some (.int .i64 f.h) := cell_of_heap HQ.out.b0 1 rfl
          have p2 : wr.cell? ⟨w.heap.size, 2, none⟩ = some (.int .i64 f.d) := cell_of_heap HQ.out.b0 2 rfl
          have p3 : wr.cell? ⟨w.heap.size, 3, none⟩ = some (.slice ka k kc) := cell_of_heap HQ.out.b0 3 rfl
          have p4 : wr.cell? ⟨w.heap.size, 4, none⟩ = some (.slice oa k oc) := cell_of_heap HQ.out.b0 4 rfl
          cases hcc : Fl.isC f C with
          | false =>
           have HCC := hid hcc
           clear hcc hC hs hqs
           go_wp2_with fail
           go_at_call 250; refine (HI.out _ _).mono ?_; rintro e w7 ⟨rfl, b7⟩
           rw [HCC.out]
           have HQ5 := hid (HQ.out.keep b7)
           clear b7
           go_wp2_with fail
           go_roundw
           case rel => exact ⟨j + 1, by omega, by go_num, hid (by rw [HST.out]; unfold Fl.from1; rw [HCC.out, if_neg (by simp)]; exact HQ5.out)⟩
           case measure => simp [intOf]; omega
          | true =>
           have HCC := hid hcc
           obtain ⟨g0, g1⟩ := Fl.isC_lt HR.out hcc
           rw [HL.out] at g1
           obtain ⟨m, rfl⟩ : ∃ m : Nat, C = (m : Int) := ⟨C.toNat, by omega⟩
           simp only [Int.toNat_natCast] at g1
           have m1 : (m : Int) < (k : Int) := by omega
           clear hcc hC hs
           go_wp2_with fail
           go_at_call 250; refine (HI.out _ _).mono ?_; rintro e w7 ⟨rfl, b7⟩
           rw [HCC.out]
           have HQ5 := hid (HQ.out.keep b7)
           clear b7 p0 p1 p2 p3 p4
           go_wp2_with fail
           go_at_call 274; refine (reach_any HQ5.out m 0 g1 (by omega) hqs).mono ?_; rintro e w8 ⟨rfl, h8⟩
           have HQ8 := hid h8
           clear h8
           go_wp2_with fail
           go_roundw
           case rel => exact ⟨j + 1, by omega, by go_num, hid (by rw [HST.out]; unfold Fl.from1; rw [HCC.out, if_pos rfl]; exact HQ8.out)⟩
           case measure => simp [intOf]; omega
        · obtain rfl : j = NF := by omega
          have HB : Hid (SpI w wr b' f (.slice ka k kc) (.slice oa k oc) k (Fl.start f frm avoid)) := hid (by
           have h := HQ.out
           rw [List.take_of_length_le (by rw [HNF.out]; omega)] at h
           exact h)
          have HO : Hid (Fl.OB (Fl.start f frm avoid) 0 ∧ Fl.QB (Fl.start f frm avoid) k ∧ Fl.rounds (Fl.start f frm avoid) ≤ k) := hid (by
           have h := HOK.out j
           rw [List.take_of_length_le (by rw [HNF.out]; omega), HL.out] at h
           exact h)
          obtain ⟨w6, rfl⟩ : ∃ wo : World, wo = wr := ⟨_, rfl⟩
          obtain ⟨RES, hRES⟩ : ∃ R, R = Fl.spread f frm avoid := ⟨_, rfl⟩
          have HRES := hid hRES
          clear HQ HZ hjn hRES HOK
          go_wp2_with fail
          go_loopw [] (fun wr => ∃ s : Fl.Bs, Hid (SpI w wr b' f (.slice ka k kc) (.slice oa k oc) k s) ∧ Hid (Fl.loop f (Fl.rounds s) s = RES) ∧ Hid (Fl.OB s (6 * (4096 - (Fl.rounds s : Int))) ∧ Fl.QB s k ∧ Fl.rounds s ≤ 4096)) (fun wr => roundsAt b' wr)
          case atStart => exact ⟨_, HB, hid (by rw [HRES.out]; rfl), hid ⟨HO.out.1.mono (by have := HO.out.2.2; omega), HO.out.2.1, by have := HO.out.2.2; omega⟩⟩
          case round =>
           obtain ⟨s, HSP, HLP, HBD⟩ := hrel
           obtain ⟨wo, rfl⟩ : ∃ wo : World, wo = wr := ⟨_, rfl⟩
           obtain ⟨qv, hq1, hq2⟩ := HSP.out.bq
           have HQ1 := hid hq1
           have HQ2 := hid hq2
           clear hq1 hq2
           have c9 : wo.cell? ⟨b'.bo, 0, none⟩ = some (.slice (some ⟨b'.go, 0, none⟩) k k) := cell_of_heap HSP.out.bo 0 rfl
           cases hsq : s.q with
           | nil =>
            have hq2 := HQ2.out
            rw [hsq] at hq2
            obtain ⟨qa, qc, e, -, -⟩ := hq2.form
            have e0 : qv = .slice qa 0 qc := e
            subst e0
            have c4 : wo.cell? ⟨b'.bq, 0, none⟩ = some (.slice qa 0 qc) := cell_of_heap HQ1.out 0 rfl
            have HE : Hid (s.out = Fl.dist f frm avoid) := hid (by
             have h1 := HLP.out
             rw [Fl.loop_nil f hsq] at h1
             rw [h1, HRES.out]; rfl)
            clear hq2 hsq e
            go_wp2_with fail
            go_ret
            refine ⟨b'.go, k, rfl, by rw [Fl.dist_len, HL.out], Nat.le_of_lt HSP.out.o1, ?_, HSP.out.below⟩
            rw [← HE.out]; exact HSP.out.go
           | cons c r =>
            have hq2 : Qr wo (b'.bq + 1) 3 qv (.int .i64 c :: ints (r.map Int.ofNat)) := by
             have h := HQ2.out
             rw [hsq] at h
             exact h
            obtain ⟨a2, n2, c2, hrun, hq3⟩ := hq2.cut Tryz.underlying22 (fun W => by kernel_rfl)
            obtain ⟨qg, qo, qc, e0, hc0, hc1, hc2⟩ := hq2.head
            obtain ⟨n, hn⟩ : ∃ n, n = (ints (r.map Int.ofNat)).length + 1 := ⟨_, rfl⟩
            rw [← hn] at e0
            have n0 : (0 : Int) < (n : Int) := by omega
            have n1 : 0 < n := by omega
            have n3 : n ≤ 9223372036854775807 := by unfold maxLen at hc2; omega
            subst e0
            have HS1 := hid (HSP.out.pop _ (.slice a2 n2 c2) r HQ1.out hq3)
            have c4 : wo.cell? ⟨b'.bq, 0, none⟩ = some (.slice (some ⟨qg, qo, none⟩) n qc) := cell_of_heap HQ1.out 0 rfl
            have f4 : wo.frozen? ⟨b'.bq, 0, none⟩ = false := free_of_heap HQ1.out 0
            have HSQ := hid hsq
            have hck : c < k := HBD.out.2.1 c (by rw [hsq]; exact List.mem_cons_self ..)
            have hrd := Fl.rounds_pop f hsq
            have hr3 := HBD.out.2.2
            obtain ⟨s1, hs1⟩ : ∃ s1 : Fl.Bs, s1 = { s with q := r } := ⟨_, rfl⟩
            rw [← hs1] at HS1 hrd
            have HOB : Hid (∀ d : Nat, Fl.OB (Fl.goDirs f c d s1) (6 * (4096 - (Fl.rounds s : Int)) + d) ∧ Fl.QB (Fl.goDirs f c d s1) k) := hid (fun d => by
             have h1 : Fl.OB s1 (6 * (4096 - (Fl.rounds s : Int))) := by rw [hs1]; exact HBD.out.1
             have h2 : Fl.QB s1 k := by rw [hs1]; intro x hx; exact HBD.out.2.1 x (by rw [hsq]; exact List.mem_cons_of_mem _ hx)
             exact ⟨h1.goDirs (by omega) c d, h2.goDirs HR.out HL.out c d⟩)
            have HRD : Hid (∀ d : Nat, Fl.rounds (Fl.goDirs f c d s1) + 1 = Fl.rounds s) := hid (fun d => by
             rw [Fl.rounds_goDirs, ← hrd, Fl.rounds_goDirs])
            have HPOP : Hid (Fl.loop f (Fl.rounds (Fl.goDirs f c 6 s1)) (Fl.goDirs f c 6 s1) = RES) := hid (by rw [hs1, ← Fl.loop_pop f hsq]; exact HLP.out)
            obtain ⟨RS, hRS⟩ : ∃ RS, RS = Fl.rounds s := ⟨_, rfl⟩
            have HRS := hid hRS
            rw [← hRS] at HOB HRD hr3
            clear hq2 hq3 hn hc1 hc2 hsq hs1 hrd hRS
            go_wp2_with fail
            clear hrun c4 f4 hc0 c9
            obtain ⟨w9, hw9⟩ : ∃ w9 : World, w9 = wo.setCell ⟨b'.bq, 0, none⟩ (.slice a2 n2 c2) := ⟨_, rfl⟩
            rw [← hw9] at HS1 ⊢
            clear hw9
            go_loopw [81] (fun iv wr => ∃ d : Nat, d ≤ 6 ∧ iv = .int .i64 d ∧ Hid (SpI w wr b' f (.slice ka k kc) (.slice oa k oc) k (Fl.goDirs f c d s1))) (fun iv _ => 6 - (intOf iv).toNat)
            case atStart => exact ⟨0, by omega, rfl, HS1⟩
            case round =>
             obtain ⟨d, hd, rfl, HD⟩ := hrel
             by_cases hd6 : d < 6
             · have d0 : (0 : Int) ≤ (d : Int) := by omega
               have d1 : (d : Int) < 6 := by omega
               have k0 : (0 : Int) ≤ (c : Int) := by omega
               have k1 : (c : Int) < (k : Int) := by omega
               have p0 : wr.cell? ⟨w.heap.size, 0, none⟩ = some (.int .i64 f.w) := cell_of_heap HD.out.b0 0 rfl
               have p1 : wr.cell? ⟨w.heap.size, 1, none⟩ = some (.int .i64 f.h) := cell_of_heap HD.out.b0 1 rfl
               have p2 : wr.cell? ⟨w.heap.size, 2, none⟩ = some (.int .i64 f.d) := cell_of_heap HD.out.b0 2 rfl
               have p3 : wr.cell? ⟨w.heap.size, 3, none⟩ = some (.slice ka k kc) := cell_of_heap HD.out.b0 3 rfl
               have p4 : wr.cell? ⟨w.heap.size, 4, none⟩ = some (.slice oa k oc) := cell_of_heap HD.out.b0 4 rfl
               cases hnx : Fl.next f c d with
               | none =>
                have HNX := hid hnx
                clear hnx
                go_wp2_with fail
                go_at_call 106; refine (HN.out c d _ (HF.out.keep HD.out.below) hck hd6).mono ?_; rintro e w10 ⟨rfl, b10⟩
                rw [HNX.out]
                unfold nextV
                have HD2 := hid (HD.out.keep b10)
                clear b10
                go_wp2_with fail
                go_roundw
                case rel => exact ⟨d + 1, by omega, by go_num, hid (by show SpI w w10 b' f _ _ k (Fl.goDir f c d (Fl.goDirs f c d s1)); unfold Fl.goDir; rw [HNX.out]; exact HD2.out)⟩
                case measure => simp [intOf]; omega
               | some nn =>
                have HNX := hid hnx
                have hnk : nn < k := by have := Fl.next_lt HR.out hnx; rw [HL.out] at this; exact this
                obtain ⟨x0, x1⟩ := (HOB.out d).1.get (by omega) c
                obtain ⟨X, hX⟩ : ∃ X, X = (Fl.goDirs f c d s1).out.getD c 0 := ⟨_, rfl⟩
                rw [← hX] at x0 x1
                have hqs : (Fl.goDirs f c d s1).q.length < 1000000 := by
                 have h1 := Fl.q_le (Fl.goDirs f c d s1)
                 have h2 := HRD.out d
                 omega
                have HX := hid hX
                clear hnx hX
                go_wp2_with fail
                go_at_call 106; refine (HN.out c d _ (HF.out.keep HD.out.below) hck hd6).mono ?_; rintro e w10 ⟨rfl, b10⟩
                rw [HNX.out]
                unfold nextV
                have HD2 := hid (HD.out.keep b10)
                clear b10 p0 p1 p2 p3 p4
                have c5 : w10.cell? ⟨b'.bo, 0, none⟩ = some (.slice (some ⟨b'.go, 0, none⟩) k k) := cell_of_heap HD2.out.bo 0 rfl
                have c6 : w10.cell? ⟨b'.go, c, none⟩ = some (.int .i64 X) := cell_of_heap HD2.out.go c (by
                 have h1 := HD2.out.lo
                 have h2 : c < (Fl.goDirs f c d s1).out.length := by omega
                 rw [HX.out, getD_lt _ _ _ h2]
                 simp [ints, h2])
                go_wp2_with fail
                go_at_call 274; refine (reach_any HD2.out nn (X + 1) hnk (by omega) hqs).mono ?_; rintro e w11 ⟨rfl, h11⟩
                have HD3 := hid h11
                clear h11 c5 c6
                go_wp2_with fail
                go_roundw
                case rel => exact ⟨d + 1, by omega, by go_num, hid (by show SpI w w11 b' f _ _ k (Fl.goDir f c d (Fl.goDirs f c d s1)); unfold Fl.goDir; rw [HNX.out]; dsimp only; rw [← HX.out]; exact HD3.out)⟩
                case measure => simp [intOf]; omega
             · obtain rfl : d = 6 := by omega
               go_wp2_with fail
               go_roundw
               case rel => exact ⟨_, HD, HPOP, hid ⟨(HOB.out 6).1.mono (by have := HRD.out 6; omega), (HOB.out 6).2, by have := HRD.out 6; omega⟩⟩
               case measure =>
                rw [roundsAt_eq HD.out, roundsAt_eq HSP.out]
                have := HRD.out 6
                have h2 := HRS.out
                omega
theorem Dist_any (f : Fl.Floor) (kv ov : Value) (fv av : Value) (frm avoid : List Int) (w : World) (hr : Fl.Right f) (hF : FlV w kv ov f) (hf : Is w fv frm) (ha : Is w av avoid) :
 Calls Tryz.prog 148 #[flV f kv ov, fv, av] w (DistPost w (Fl.dist f frm avoid)) := by
 have B1 := hid ((Below.refl _ w).alloc (Nat.le_refl _) (.cells #[.int .i64 f.w, .int .i64 f.h, .int .i64 f.d, kv, ov] 24))
 have HC := hid (spread_any f kv ov fv av frm avoid _ hr (hF.keep B1.out) (hf.keep B1.out) (ha.keep B1.out))
 obtain ⟨ka, kc, rfl, hkm⟩ := hF.kind.form
 obtain ⟨oa, oc, rfl, hom⟩ := hF.out.form
 obtain ⟨aa, ac, rfl, ham⟩ := ha.form
 obtain ⟨fa, fc, rfl, hfm⟩ := hf.form
 obtain ⟨L, hL⟩ : ∃ L, f.kind.length = L := ⟨_, rfl⟩
 obtain ⟨NA, hNA⟩ : ∃ L, avoid.length = L := ⟨_, rfl⟩
 obtain ⟨NF, hNF⟩ : ∃ L, frm.length = L := ⟨_, rfl⟩
 rw [hr.ol, hL] at B1
 rw [hr.ol, hL, hNA, hNF] at HC ⊢
 unfold flV at HC ⊢
 clear hF hf ha hr hL hNA hNF hkm hom ham hfm
 go_enter Tryz.func148, Tryz.ntmps148
 go_wp2_with fail
 go_at_call 220; refine HC.out.mono ?_; rintro e w1 ⟨g, n, rfl, hn, hg, hh, hb⟩
 have HG := hid (show w.heap.size ≤ g by simp at hg; omega)
 have HH := hid hh
 have HNN := hid hn
 have B2 := hid (B1.out.trans (hb.mono B1.out.size))
 clear hn hg hh hb
 go_wp2_with fail
 go_ret
 exact ⟨g, n, rfl, HNN.out, HG.out, HH.out, B2.out⟩
end Go.Proofs.YtfcbcpfnaadpeaaGreatDoor
