/- Parts Ue of this claim, laid one behind the other: walks and the plain laws behind them; each contract states its own conditions. -/
import Derived.Test.YtfcbcpfnaadpeaaGreatDoorYN
namespace Go.Proofs.YtfcbcpfnaadpeaaGreatDoor
set_option maxRecDepth 100000
set_option maxHeartbeats 64000000
set_option linter.unusedSimpArgs false
set_option linter.unusedVariables false
open Go.RowKit
theorem small20_any (w : World) (hE : Env w) :
 Calls Tryz.prog 10 #[] w fun e w' => e = .returned (.bool true) ∧ Below w.heap.size w w' := by
 have HE := hid hE
 clear hE
 go_enter Tryz.func10, Tryz.ntmps10
 go_wp2_with fail
 go_at_call 43; refine (example20_any _).mono ?_; rintro e w1 ⟨b1, kv, ov, zv, rv, rfl, hs1⟩
 obtain ⟨a1, c1, a2, c2, a3, c3, a4, c4, a5, c5, a6, c6, rfl, rfl, rfl, h4, h5, rfl, m1, m2, m3, m4, m5, m6⟩ := hs1.open
 have B1 := hid b1
 have HS1 := hid hs1
 clear b1 hs1 m1 m2 m3 m4 m5 m6 h4 h5
 have hwb := B1.out.size
 obtain ⟨W1, hW1⟩ : ∃ W, W = w1.alloc (.cells #[.int .i64 (Si.exS 3).floor.w, .int .i64 (Si.exS 3).floor.h, .int .i64 (Si.exS 3).floor.d, .slice a1 (Si.exS 3).floor.kind.length c1, .slice a2 (Si.exS 3).floor.out.length c2, .slice a3 (Si.exS 3).zones.length c3, .slice none 0 0, .slice none 0 0, .slice a6 (Si.exS 3).robots.length c6] 30) := ⟨_, rfl⟩
 have BA1 : Hid (Below w1.heap.size w1 W1) := hid (by rw [hW1]; exact (Below.refl _ _).alloc (Nat.le_refl _) _)
 have IS1 : Hid (W1.heap[w1.heap.size]? = some (.cells #[.int .i64 (Si.exS 3).floor.w, .int .i64 (Si.exS 3).floor.h, .int .i64 (Si.exS 3).floor.d, .slice a1 (Si.exS 3).floor.kind.length c1, .slice a2 (Si.exS 3).floor.out.length c2, .slice a3 (Si.exS 3).zones.length c3, .slice none 0 0, .slice none 0 0, .slice a6 (Si.exS 3).robots.length c6] 30 (0, 0))) := hid (by rw [hW1]; exact heap_alloc_new _ _)
 have HW1 := hid hW1
 have p0 : W1.cell? ⟨w1.heap.size, 0, none⟩ = some (.int .i64 (Si.exS 3).floor.w) := cell_of_heap IS1.out 0 rfl
 have p1 : W1.cell? ⟨w1.heap.size, 1, none⟩ = some (.int .i64 (Si.exS 3).floor.h) := cell_of_heap IS1.out 1 rfl
 have p2 : W1.cell? ⟨w1.heap.size, 2, none⟩ = some (.int .i64 (Si.exS 3).floor.d) := cell_of_heap IS1.out 2 rfl
 have p3 : W1.cell? ⟨w1.heap.size, 3, none⟩ = some (.slice a1 (Si.exS 3).floor.kind.length c1) := cell_of_heap IS1.out 3 rfl
 have p4 : W1.cell? ⟨w1.heap.size, 4, none⟩ = some (.slice a2 (Si.exS 3).floor.out.length c2) := cell_of_heap IS1.out 4 rfl
 have p5 : W1.cell? ⟨w1.heap.size, 5, none⟩ = some (.slice a3 (Si.exS 3).zones.length c3) := cell_of_heap IS1.out 5 rfl
 have p6 : W1.cell? ⟨w1.heap.size, 6, none⟩ = some (.slice none 0 0) := cell_of_heap IS1.out 6 rfl
 have p7 : W1.cell? ⟨w1.heap.size, 7, none⟩ = some (.slice none 0 0) := cell_of_heap IS1.out 7 rfl
 have p8 : W1.cell? ⟨w1.heap.size, 8, none⟩ = some (.slice a6 (Si.exS 3).robots.length c6) := cell_of_heap IS1.out 8 rfl
 have BW1 := hid (B1.out.trans (BA1.out.mono hwb))
 have HSV : Hid (∀ W, Below w1.heap.size w1 W → SiV W (.slice a1 (Si.exS 3).floor.kind.length c1) (.slice a2 (Si.exS 3).floor.out.length c2) (.slice a3 (Si.exS 3).zones.length c3) (.slice none 0 0) (.slice none 0 0) (.slice a6 (Si.exS 3).robots.length c6) (Si.exS 3)) := hid (fun W hW => HS1.out.keep hW)
 clear hW1
 unfold siV
 go_upto_region 2 with fail
 rw [← HW1.out]
 go_wp2_with fail
 go_at_call 12; refine (Build_any (Si.exS 3) _ _ _ _ _ _ W1 (HSV.out W1 BA1.out) (Si.exS_ok 3 (by omega)) (by show 2 ≤ 14; omega) (HE.out.below BW1.out)).mono ?_; intro e w2 hbp
 obtain ⟨b2, sl, hsl, hcase⟩ := build_cert (by show 2 ≤ 64; omega) hbp
 have hsl3 := ex_sl hsl
 subst hsl3
 rcases hcase with ⟨hno, -⟩ | ⟨-, tv, cv, ke, sv, rfl, hcv, -⟩
 · exfalso; rw [ex_safe] at hno; cases hno
 obtain ⟨ta, tc, rfl, htm⟩ := hcv.tr.form
 obtain ⟨ca, cc, rfl, hcm⟩ := hcv.ca.form
 obtain ⟨ka, kc, rfl, hkm⟩ := hcv.ke.form
 obtain ⟨sa, sc, rfl, hsm⟩ := hcv.si.form
 have HSL := hid hsl
 have HCV := hid hcv
 have BB2 := hid (BA1.out.trans (b2.mono BA1.out.size))
 have IS2 := hid (keep_heap IS1.out b2)
 have HCK1 : Hid (∀ W, Below w1.heap.size w1 W → Below w2.heap.size w2 W → Calls Tryz.prog 13 #[siV (Si.exS 3) (.slice a1 (Si.exS 3).floor.kind.length c1) (.slice a2 (Si.exS 3).floor.out.length c2) (.slice a3 (Si.exS 3).zones.length c3) (.slice none 0 0) (.slice none 0 0) (.slice a6 (Si.exS 3).robots.length c6), .agg (certA (Ve.right (Si.exS 3) [3]) (.slice ta (Ve.right (Si.exS 3) [3]).trans.length tc) (.slice ca (Ve.right (Si.exS 3) [3]).caps.length cc) (.slice ka (Ve.right (Si.exS 3) [3]).keeps.length kc) (.slice sa (Ve.right (Si.exS 3) [3]).sips.length sc))] W fun e w' => e = .returned (.tuple #[.int .i64 (-1), .int .i64 0]) ∧ Below W.heap.size W w') := hid (fun W h1 h2 =>
  (Check_any (Si.exS 3) (Ve.right (Si.exS 3) [3]) [3] _ _ _ _ _ _ _ _ _ _ W (HSV.out W h1) exS_right (Si.exS_ok 3 (by omega)) (HCV.out.keep h2) HSL.out).mono fun e w' h => by
   obtain ⟨he, hb⟩ := h
   rw [ex_part] at he
   exact ⟨he, hb⟩)
 clear hbp hsl hcv b2 htm hcm hkm hsm
 clear p0 p1 p2 p3 p4 p5 p6 p7 p8
 obtain ⟨W2, hW2⟩ : ∃ W, W = w2.alloc (.cells #[.int .i64 (Ve.right (Si.exS 3) [3]).places, .slice ta (Ve.right (Si.exS 3) [3]).trans.length tc, .slice ca (Ve.right (Si.exS 3) [3]).caps.length cc, .slice ka (Ve.right (Si.exS 3) [3]).keeps.length kc, .int .i64 (Ve.right (Si.exS 3) [3]).robots, .slice sa (Ve.right (Si.exS 3) [3]).sips.length sc] 38) := ⟨_, rfl⟩
 have BA2 : Hid (Below w2.heap.size w2 W2) := hid (by rw [hW2]; exact (Below.refl _ _).alloc (Nat.le_refl _) _)
 have IC2 : Hid (W2.heap[w2.heap.size]? = some (.cells #[.int .i64 (Ve.right (Si.exS 3) [3]).places, .slice ta (Ve.right (Si.exS 3) [3]).trans.length tc, .slice ca (Ve.right (Si.exS 3) [3]).caps.length cc, .slice ka (Ve.right (Si.exS 3) [3]).keeps.length kc, .int .i64 (Ve.right (Si.exS 3) [3]).robots, .slice sa (Ve.right (Si.exS 3) [3]).sips.length sc] 38 (0, 0))) := hid (by rw [hW2]; exact heap_alloc_new _ _)
 have HW2 := hid hW2
 have hb2 := BB2.out.size
 have BS2 := hid (BB2.out.trans (BA2.out.mono hb2))
 have IS3 := hid (keep_heap IS2.out BA2.out)
 have p0 : W2.cell? ⟨w1.heap.size, 0, none⟩ = some (.int .i64 (Si.exS 3).floor.w) := cell_of_heap IS3.out 0 rfl
 have p1 : W2.cell? ⟨w1.heap.size, 1, none⟩ = some (.int .i64 (Si.exS 3).floor.h) := cell_of_heap IS3.out 1 rfl
 have p2 : W2.cell? ⟨w1.heap.size, 2, none⟩ = some (.int .i64 (Si.exS 3).floor.d) := cell_of_heap IS3.out 2 rfl
 have p3 : W2.cell? ⟨w1.heap.size, 3, none⟩ = some (.slice a1 (Si.exS 3).floor.kind.length c1) := cell_of_heap IS3.out 3 rfl
 have p4 : W2.cell? ⟨w1.heap.size, 4, none⟩ = some (.slice a2 (Si.exS 3).floor.out.length c2) := cell_of_heap IS3.out 4 rfl
 have p5 : W2.cell? ⟨w1.heap.size, 5, none⟩ = some (.slice a3 (Si.exS 3).zones.length c3) := cell_of_heap IS3.out 5 rfl
 have p6 : W2.cell? ⟨w1.heap.size, 6, none⟩ = some (.slice none 0 0) := cell_of_heap IS3.out 6 rfl
 have p7 : W2.cell? ⟨w1.heap.size, 7, none⟩ = some (.slice none 0 0) := cell_of_heap IS3.out 7 rfl
 have p8 : W2.cell? ⟨w1.heap.size, 8, none⟩ = some (.slice a6 (Si.exS 3).robots.length c6) := cell_of_heap IS3.out 8 rfl
 have q0 : W2.cell? ⟨w2.heap.size, 0, none⟩ = some (.int .i64 (Ve.right (Si.exS 3) [3]).places) := cell_of_heap IC2.out 0 rfl
 have q1 : W2.cell? ⟨w2.heap.size, 1, none⟩ = some (.slice ta (Ve.right (Si.exS 3) [3]).trans.length tc) := cell_of_heap IC2.out 1 rfl
 have q2 : W2.cell? ⟨w2.heap.size, 2, none⟩ = some (.slice ca (Ve.right (Si.exS 3) [3]).caps.length cc) := cell_of_heap IC2.out 2 rfl
 have q3 : W2.cell? ⟨w2.heap.size, 3, none⟩ = some (.slice ka (Ve.right (Si.exS 3) [3]).keeps.length kc) := cell_of_heap IC2.out 3 rfl
 have q4 : W2.cell? ⟨w2.heap.size, 4, none⟩ = some (.int .i64 (Ve.right (Si.exS 3) [3]).robots) := cell_of_heap IC2.out 4 rfl
 have q5 : W2.cell? ⟨w2.heap.size, 5, none⟩ = some (.slice sa (Ve.right (Si.exS 3) [3]).sips.length sc) := cell_of_heap IC2.out 5 rfl
 clear hW2
 unfold certA
 go_upto_region 3 with fail
 rw [← HW2.out]
 go_wp2_with fail
 go_at_call 13; refine (HCK1.out W2 BS2.out BA2.out).mono ?_; rintro e w3 ⟨rfl, b3⟩
 have B3 := hid (BA2.out.trans (b3.mono BA2.out.size))
 have BS3 := hid (BS2.out.trans (b3.mono BS2.out.size))
 have IC3 := hid (keep_heap IC2.out b3)
 have IS4 := hid (keep_heap IS3.out b3)
 have hcl : (Ve.right (Si.exS 3) [3]).caps.length = 2 := rfl
 clear p0 p1 p2 p3 p4 p5 p6 p7 p8
 clear q0 q1 q2 q3 q4 q5
 have q2 : w3.cell? ⟨w2.heap.size, 2, none⟩ = some (.slice ca 2 cc) := cell_of_heap IC3.out 2 rfl
 have f2 : w3.frozen? ⟨w2.heap.size, 2, none⟩ = false := free_of_heap IC3.out 2
 have lw3 : w2.heap.size < w3.heap.size := heap_lt IC3.out
 obtain ⟨W4, hW4⟩ : ∃ W, W = (w3.setCell ⟨w2.heap.size, 2, none⟩ (.slice (some ⟨w3.heap.size, 0, none⟩) 2 2)).alloc (.cells #[.int .i64 2, .int .i64 3] 3) := ⟨_, rfl⟩
 have hb3 := B3.out.size
 have BD4 : Hid (Below w2.heap.size w3 W4) := hid (by rw [hW4]; have bs : Below w2.heap.size w3 (w3.setCell ⟨w2.heap.size, 2, none⟩ (.slice (some ⟨w3.heap.size, 0, none⟩) 2 2)) := (Below.refl _ w3).setCell (show w2.heap.size ≤ (⟨w2.heap.size, 2, none⟩ : Addr).block from Nat.le_refl _) _; exact bs.alloc (Nat.le_trans hb3 bs.size) _)
 have B4 := hid (B3.out.trans BD4.out)
 have BS4 := hid (BS3.out.trans (BD4.out.mono hb2))
 have IC4 : Hid (W4.heap[w2.heap.size]? = some (.cells #[.int .i64 (Ve.right (Si.exS 3) [3]).places, .slice ta (Ve.right (Si.exS 3) [3]).trans.length tc, .slice (some ⟨w3.heap.size, 0, none⟩) 2 2, .slice ka (Ve.right (Si.exS 3) [3]).keeps.length kc, .int .i64 (Ve.right (Si.exS 3) [3]).robots, .slice sa (Ve.right (Si.exS 3) [3]).sips.length sc] 38 (0, 0))) := hid (by rw [hW4]; exact heap_old (set_heap IC3.out 2 _))
 have n1 : ∀ (W : World) (o : Obj) (k : Nat), k = W.heap.size → (W.alloc o).heap[k]? = some o := fun W o k h => by subst h; exact heap_alloc_new W o
 have IN4 : Hid (W4.heap[w3.heap.size]? = some (.cells (ints [2, 3]).toArray 3 (0, 0))) := hid (by rw [hW4]; exact n1 _ _ _ (by simp))
 have IS5 : Hid (W4.heap[w1.heap.size]? = some (.cells #[.int .i64 (Si.exS 3).floor.w, .int .i64 (Si.exS 3).floor.h, .int .i64 (Si.exS 3).floor.d, .slice a1 (Si.exS 3).floor.kind.length c1, .slice a2 (Si.exS 3).floor.out.length c2, .slice a3 (Si.exS 3).zones.length c3, .slice none 0 0, .slice none 0 0, .slice a6 (Si.exS 3).robots.length c6] 30 (0, 0))) := hid ((BD4.out.block _ (by have := heap_lt IS2.out; omega)).trans IS4.out)
 have HW4 := hid hW4
 have CV4 : Hid (CertV W4 (.slice ta (Ve.right (Si.exS 3) [3]).trans.length tc) (.slice (some ⟨w3.heap.size, 0, none⟩) 2 2) (.slice ka (Ve.right (Si.exS 3) [3]).keeps.length kc) (.slice sa (Ve.right (Si.exS 3) [3]).sips.length sc) { (Ve.right (Si.exS 3) [3]) with caps := [2, 3] }) := hid
  ⟨HCV.out.tr.keep B4.out, is_of_heap IN4.out rfl (by simp [maxLen]), HCV.out.ke.keep B4.out, HCV.out.si.keep B4.out⟩
 have HCK2 := hid (Check_any (Si.exS 3) { (Ve.right (Si.exS 3) [3]) with caps := [2, 3] } [3] _ _ _ _ _ _ _ _ _ _ W4 (HSV.out W4 BS4.out) exS_right (Si.exS_ok 3 (by omega)) CV4.out HSL.out)
 rw [ex_part2] at HCK2
 clear hW4
 go_upto_region 7 with fail
 rw [← HW4.out]
 clear q2 f2
 have p0 : W4.cell? ⟨w1.heap.size, 0, none⟩ = some (.int .i64 (Si.exS 3).floor.w) := cell_of_heap IS5.out 0 rfl
 have p1 : W4.cell? ⟨w1.heap.size, 1, none⟩ = some (.int .i64 (Si.exS 3).floor.h) := cell_of_heap IS5.out 1 rfl
 have p2 : W4.cell? ⟨w1.heap.size, 2, none⟩ = some (.int .i64 (Si.exS 3).floor.d) := cell_of_heap IS5.out 2 rfl
 have p3 : W4.cell? ⟨w1.heap.size, 3, none⟩ = some (.slice a1 (Si.exS 3).floor.kind.length c1) := cell_of_heap IS5.out 3 rfl
 have p4 : W4.cell? ⟨w1.heap.size, 4, none⟩ = some (.slice a2 (Si.exS 3).floor.out.length c2) := cell_of_heap IS5.out 4 rfl
 have p5 : W4.cell? ⟨w1.heap.size, 5, none⟩ = some (.slice a3 (Si.exS 3).zones.length c3) := cell_of_heap IS5.out 5 rfl
 have p6 : W4.cell? ⟨w1.heap.size, 6, none⟩ = some (.slice none 0 0) := cell_of_heap IS5.out 6 rfl
 have p7 : W4.cell? ⟨w1.heap.size, 7, none⟩ = some (.slice none 0 0) := cell_of_heap IS5.out 7 rfl
 have p8 : W4.cell? ⟨w1.heap.size, 8, none⟩ = some (.slice a6 (Si.exS 3).robots.length c6) := cell_of_heap IS5.out 8 rfl
 have q0 : W4.cell? ⟨w2.heap.size, 0, none⟩ = some (.int .i64 (Ve.right (Si.exS 3) [3]).places) := cell_of_heap IC4.out 0 rfl
 have q1 : W4.cell? ⟨w2.heap.size, 1, none⟩ = some (.slice ta (Ve.right (Si.exS 3) [3]).trans.length tc) := cell_of_heap IC4.out 1 rfl
 have q2 : W4.cell? ⟨w2.heap.size, 2, none⟩ = some (.slice (some ⟨w3.heap.size, 0, none⟩) 2 2) := cell_of_heap IC4.out 2 rfl
 have q3 : W4.cell? ⟨w2.heap.size, 3, none⟩ = some (.slice ka (Ve.right (Si.exS 3) [3]).keeps.length kc) := cell_of_heap IC4.out 3 rfl
 have q4 : W4.cell? ⟨w2.heap.size, 4, none⟩ = some (.int .i64 (Ve.right (Si.exS 3) [3]).robots) := cell_of_heap IC4.out 4 rfl
 have q5 : W4.cell? ⟨w2.heap.size, 5, none⟩ = some (.slice sa (Ve.right (Si.exS 3) [3]).sips.length sc) := cell_of_heap IC4.out 5 rfl
 go_wp2_with fail
 go_at_call 13; refine HCK2.out.mono ?_; rintro e w5 ⟨rfl, b5⟩
 have BS5 := hid (BS4.out.trans (b5.mono BS4.out.size))
 have IS6 := hid (keep_heap IS5.out b5)
 have HEO : Hid (Ve.errOf 2 = 25) := hid rfl
 rw [HEO.out]
 clear b5 q0 q1 q2 q3 q4 q5
 clear p0 p1 p2 p3 p4 p5 p6 p7 p8
 have p0 : w5.cell? ⟨w1.heap.size, 0, none⟩ = some (.int .i64 (Si.exS 3).floor.w) := cell_of_heap IS6.out 0 rfl
 have p1 : w5.cell? ⟨w1.heap.size, 1, none⟩ = some (.int .i64 (Si.exS 3).floor.h) := cell_of_heap IS6.out 1 rfl
 have p2 : w5.cell? ⟨w1.heap.size, 2, none⟩ = some (.int .i64 (Si.exS 3).floor.d) := cell_of_heap IS6.out 2 rfl
 have p3 : w5.cell? ⟨w1.heap.size, 3, none⟩ = some (.slice a1 (Si.exS 3).floor.kind.length c1) := cell_of_heap IS6.out 3 rfl
 have p4 : w5.cell? ⟨w1.heap.size, 4, none⟩ = some (.slice a2 (Si.exS 3).floor.out.length c2) := cell_of_heap IS6.out 4 rfl
 have p5 : w5.cell? ⟨w1.heap.size, 5, none⟩ = some (.slice a3 (Si.exS 3).zones.length c3) := cell_of_heap IS6.out 5 rfl
 have p6 : w5.cell? ⟨w1.heap.size, 6, none⟩ = some (.slice none 0 0) := cell_of_heap IS6.out 6 rfl
 have p7 : w5.cell? ⟨w1.heap.size, 7, none⟩ = some (.slice none 0 0) := cell_of_heap IS6.out 7 rfl
 have p8 : w5.cell? ⟨w1.heap.size, 8, none⟩ = some (.slice a6 (Si.exS 3).robots.length c6) := cell_of_heap IS6.out 8 rfl
 go_wp2_with fail
 go_at_call 19; refine (Gets_any (Si.exS 3) _ _ _ _ _ _ 0 1 w5 (HSV.out w5 BS5.out) exS_right (Si.exS_ok 3 (by omega))).mono ?_; rintro e w6 ⟨rfl, b6⟩
 rw [ex_g01]
 have BS6 := hid (BS5.out.trans (b6.mono BS5.out.size))
 have IS7 := hid (keep_heap IS6.out b6)
 clear b6
 clear p0 p1 p2 p3 p4 p5 p6 p7 p8
 have p0 : w6.cell? ⟨w1.heap.size, 0, none⟩ = some (.int .i64 (Si.exS 3).floor.w) := cell_of_heap IS7.out 0 rfl
 have p1 : w6.cell? ⟨w1.heap.size, 1, none⟩ = some (.int .i64 (Si.exS 3).floor.h) := cell_of_heap IS7.out 1 rfl
 have p2 : w6.cell? ⟨w1.heap.size, 2, none⟩ = some (.int .i64 (Si.exS 3).floor.d) := cell_of_heap IS7.out 2 rfl
 have p3 : w6.cell? ⟨w1.heap.size, 3, none⟩ = some (.slice a1 (Si.exS 3).floor.kind.length c1) := cell_of_heap IS7.out 3 rfl
 have p4 : w6.cell? ⟨w1.heap.size, 4, none⟩ = some (.slice a2 (Si.exS 3).floor.out.length c2) := cell_of_heap IS7.out 4 rfl
 have p5 : w6.cell? ⟨w1.heap.size, 5, none⟩ = some (.slice a3 (Si.exS 3).zones.length c3) := cell_of_heap IS7.out 5 rfl
 have p6 : w6.cell? ⟨w1.heap.size, 6, none⟩ = some (.slice none 0 0) := cell_of_heap IS7.out 6 rfl
 have p7 : w6.cell? ⟨w1.heap.size, 7, none⟩ = some (.slice none 0 0) := cell_of_heap IS7.out 7 rfl
 have p8 : w6.cell? ⟨w1.heap.size, 8, none⟩ = some (.slice a6 (Si.exS 3).robots.length c6) := cell_of_heap IS7.out 8 rfl
 go_wp2_with fail
 go_at_call 19; refine (Gets_any (Si.exS 3) _ _ _ _ _ _ 1 0 w6 (HSV.out w6 BS6.out) exS_right (Si.exS_ok 3 (by omega))).mono ?_; rintro e w7 ⟨rfl, b7⟩
 rw [ex_g10]
 have BS7 := hid (BS6.out.trans (b7.mono BS6.out.size))
 have IS8 := hid (keep_heap IS7.out b7)
 clear b7
 clear p0 p1 p2 p3 p4 p5 p6 p7 p8
 have p0 : w7.cell? ⟨w1.heap.size, 0, none⟩ = some (.int .i64 (Si.exS 3).floor.w) := cell_of_heap IS8.out 0 rfl
 have p1 : w7.cell? ⟨w1.heap.size, 1, none⟩ = some (.int .i64 (Si.exS 3).floor.h) := cell_of_heap IS8.out 1 rfl
 have p2 : w7.cell? ⟨w1.heap.size, 2, none⟩ = some (.int .i64 (Si.exS 3).floor.d) := cell_of_heap IS8.out 2 rfl
 have p3 : w7.cell? ⟨w1.heap.size, 3, none⟩ = some (.slice a1 (Si.exS 3).floor.kind.length c1) := cell_of_heap IS8.out 3 rfl
 have p4 : w7.cell? ⟨w1.heap.size, 4, none⟩ = some (.slice a2 (Si.exS 3).floor.out.length c2) := cell_of_heap IS8.out 4 rfl
 have p5 : w7.cell? ⟨w1.heap.size, 5, none⟩ = some (.slice a3 (Si.exS 3).zones.length c3) := cell_of_heap IS8.out 5 rfl
 have p6 : w7.cell? ⟨w1.heap.size, 6, none⟩ = some (.slice none 0 0) := cell_of_heap IS8.out 6 rfl
 have p7 : w7.cell? ⟨w1.heap.size, 7, none⟩ = some (.slice none 0 0) := cell_of_heap IS8.out 7 rfl
 have p8 : w7.cell? ⟨w1.heap.size, 8, none⟩ = some (.slice a6 (Si.exS 3).robots.length c6) := cell_of_heap IS8.out 8 rfl
 go_wp2_with fail
 go_at_call 14; refine (Ends_any (Si.exS 3) _ _ _ _ _ _ w7 (HSV.out w7 BS7.out) exS_right (Si.exS_ok 3 (by omega))).mono ?_; rintro e w8 ⟨b8, ev, sl8, rfl, hs8, hl8⟩
 have hsl8 := ex_sl hs8
 subst hsl8
 have BS8 := hid (BS7.out.trans (b8.mono BS7.out.size))
 have HL8 := hid hl8
 clear b8 hs8 hl8
 clear p0 p1 p2 p3 p4 p5 p6 p7 p8
 have e8 : ([3].map fun x => Si.nn (Pt.listW x)) = [[0, 1]] := by rw [List.map_singleton, Si.list_three]; rfl
 rw [e8] at HL8
 clear e8
 obtain ⟨W9, hW9⟩ : ∃ W, W = (w8.alloc (.cells #[.int .i64 0, .int .i64 1] 3)).alloc (.cells #[.slice (some ⟨w8.heap.size, 0, none⟩) 2 2] 22) := ⟨_, rfl⟩
 have B9 : Hid (Below w8.heap.size w8 W9) := hid (by rw [hW9]; exact ((Below.refl _ _).alloc (Nat.le_refl _) _).alloc (by simp) _)
 have I9 : Hid (W9.heap[w8.heap.size]? = some (.cells (ints [0, 1]).toArray 3 (0, 0))) := hid (by rw [hW9]; exact heap_two0 _ _ _)
 have J9 : Hid (W9.heap[w8.heap.size + 1]? = some (.cells #[.slice (some ⟨w8.heap.size, 0, none⟩) 2 2] 22 (0, 0))) := hid (by rw [hW9]; exact heap_two3 _ _ _)
 have L9 : Hid (Ll W9 (.slice (some ⟨w8.heap.size + 1, 0, none⟩) 1 1) [[0, 1]]) := hid ⟨[([0, 1], .slice (some ⟨w8.heap.size, 0, none⟩) 2 2)], rfl, Sl.of_own (vown_mk J9.out) (by unfold maxLen; omega), fun x hx => by
  rw [List.mem_singleton] at hx; subst hx
  exact is_of_heap I9.out rfl (by simp [maxLen])⟩
 have HW9 := hid hW9
 have HSM := hid (rSame20_any ev _ [[0, 1]] [[0, 1]] W9 (HL8.out.keep B9.out) L9.out)
 have BS9 := hid (BS8.out.trans (B9.out.mono BS8.out.size))
 rw [decide_eq_true (rfl : ([[0, 1]] : List (List Int)) = [[0, 1]])] at HSM
 clear hW9
 go_wp2_with fail
 go_at_call 17
 rw [← HW9.out]
 refine HSM.out.mono ?_; rintro e w10 ⟨rfl, b10⟩
 have BSX := hid (B1.out.trans ((BS9.out.trans (b10.mono BS9.out.size)).mono hwb))
 clear b10
 go_wp2_with fail
 go_ret
 exact ⟨rfl, BSX.out⟩
end Go.Proofs.YtfcbcpfnaadpeaaGreatDoor
