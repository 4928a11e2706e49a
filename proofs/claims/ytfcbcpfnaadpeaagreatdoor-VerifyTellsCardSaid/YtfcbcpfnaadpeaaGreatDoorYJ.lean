/- Parts Vf, Vg, Vh, Vi of this claim, laid one behind the other: walks and the plain laws behind them; each contract states its own conditions. -/
import Derived.Test.YtfcbcpfnaadpeaaGreatDoorYI
import Derived.Test.YtfcbcpfnaadpeaaGreatDoorZA
namespace Go.Proofs.YtfcbcpfnaadpeaaGreatDoor
set_option maxRecDepth 100000
set_option maxHeartbeats 64000000
set_option linter.unusedSimpArgs false
set_option linter.unusedVariables false
open Go.RowKit Go.Sort
structure CertV (w : World) (tv cv kv sv : Value) (c : Ve.Cert) : Prop where
 tr : Tr w tv c.trans
 ca : Is w cv c.caps
 ke : Is w kv c.keeps
 si : Ll w sv c.sips
def certA (c : Ve.Cert) (tv cv kv sv : Value) : Array Value := #[.int .i64 c.places, tv, cv, kv, .int .i64 c.robots, sv]
theorem CertV.keep {w W : World} {tv cv kv sv : Value} {c : Ve.Cert} (h : CertV w tv cv kv sv c) (hb : Below w.heap.size w W) : CertV W tv cv kv sv c := ⟨h.tr.keep hb, h.ca.keep hb, h.ke.keep hb, h.si.keep hb⟩
theorem vform_any (s : Si.Site) (c : Ve.Cert) (kv ov zv av sv rv tv cv ke se : Value) (B g0 : Nat) (w : World) (h : ZdV w B g0 s kv ov zv av sv rv) (hc : CertV w tv cv ke se c) :
 Calls Tryz.prog 48 #[.pointer (some ⟨B, 0, none⟩), .agg (certA c tv cv ke se)] w fun e w' => e = .returned (.bool (Ve.formB s c)) ∧ Below w.heap.size w w' := by
 obtain ⟨a1, c1, a2, c2, a3, c3, a4, c4, a5, c5, a6, c6, rfl, rfl, rfl, rfl, rfl, rfl, m1, m2, m3, m4, m5, m6⟩ := h.sv.open
 have hB := h.hB
 unfold zdC at hB
 obtain ⟨ta, tc, rfl, htm⟩ := hc.tr.form
 obtain ⟨ca, cc, rfl, hcm⟩ := hc.ca.form
 obtain ⟨ka, kc, rfl, hkm⟩ := hc.ke.form
 obtain ⟨sa, sc, rfl, hsm⟩ := hc.si.form
 unfold certA Ve.formB
 obtain ⟨P, hP⟩ : ∃ P, P = c.places := ⟨_, rfl⟩
 obtain ⟨R, hR⟩ : ∃ P, P = c.robots := ⟨_, rfl⟩
 obtain ⟨lt, hlt⟩ : ∃ P, P = c.trans.length := ⟨_, rfl⟩
 obtain ⟨lc, hlc⟩ : ∃ P, P = c.caps.length := ⟨_, rfl⟩
 obtain ⟨lk, hlk⟩ : ∃ P, P = c.keeps.length := ⟨_, rfl⟩
 obtain ⟨ls, hls⟩ : ∃ P, P = c.sips.length := ⟨_, rfl⟩
 rw [← hP, ← hR, ← hlt, ← hlc, ← hlk, ← hls]
 rw [← hlt] at htm
 rw [← hlc] at hcm
 rw [← hlk] at hkm
 rw [← hls] at hsm
 have p5 : w.cell? ⟨B, 5, none⟩ = some (.slice a3 s.zones.length c3) := cell_of_heap hB 5 rfl
 have p8 : w.cell? ⟨B, 8, none⟩ = some (.slice a6 s.robots.length c6) := cell_of_heap hB 8 rfl
 obtain ⟨n, e1⟩ : ∃ n, s.zones.length = n := ⟨_, rfl⟩
 obtain ⟨r, e2⟩ : ∃ n, s.robots.length = n := ⟨_, rfl⟩
 rw [e1] at p5 m3 ⊢
 rw [e2] at p8 m6 ⊢
 have lB : B < w.heap.size := heap_lt hB
 clear h hB e1 e2 hc hP hR hlt hlc hlk hls
 obtain ⟨W, hW⟩ : ∃ W, W = w.alloc (.cells #[.int .i64 P, .slice ta lt tc, .slice ca lc cc, .slice ka lk kc, .int .i64 R, .slice sa ls sc] 38) := ⟨_, rfl⟩
 have BW : Hid (Below w.heap.size w W) := hid (by rw [hW]; exact (Below.refl _ _).alloc (Nat.le_refl _) _)
 have IW : Hid (W.heap[w.heap.size]? = some (.cells #[.int .i64 P, .slice ta lt tc, .slice ca lc cc, .slice ka lk kc, .int .i64 R, .slice sa ls sc] 38 (0, 0))) := hid (by rw [hW]; exact heap_alloc_new _ _)
 have HW := hid hW
 have q0 : W.cell? ⟨w.heap.size, 0, none⟩ = some (.int .i64 P) := cell_of_heap IW.out 0 rfl
 have q2 : W.cell? ⟨w.heap.size, 2, none⟩ = some (.slice ca lc cc) := cell_of_heap IW.out 2 rfl
 have q3 : W.cell? ⟨w.heap.size, 3, none⟩ = some (.slice ka lk kc) := cell_of_heap IW.out 3 rfl
 have q4 : W.cell? ⟨w.heap.size, 4, none⟩ = some (.int .i64 R) := cell_of_heap IW.out 4 rfl
 have r5 : W.cell? ⟨B, 5, none⟩ = some (.slice a3 n c3) := (BW.out.cell (p := ⟨B, 5, none⟩) lB).trans p5
 have r8 : W.cell? ⟨B, 8, none⟩ = some (.slice a6 r c6) := (BW.out.cell (p := ⟨B, 8, none⟩) lB).trans p8
 clear hW p5 p8
 go_enter Tryz.func48, Tryz.ntmps48
 go_upto_region 1 with fail
 rw [← HW.out]
 by_cases h1 : P = (n : Int)
 · have t1 : (P == (n : Int)) = true := by simpa using h1
   by_cases h2 : lc = n
   · have t2 : ((lc : Int) == (n : Int)) = true := by simp; omega
     by_cases h3 : lk = n
     · have t3 : ((lk : Int) == (n : Int)) = true := by simp; omega
       by_cases h4 : R = (r : Int)
       · have t4 : (R == (r : Int)) = true := by simpa using h4
         have HF : Hid ((decide (P = (n : Int)) && (decide (lc = n) && (decide (lk = n) && decide (R = (r : Int))))) = true) := hid (by rw [decide_eq_true h1, decide_eq_true h2, decide_eq_true h3, decide_eq_true h4]; rfl)
         clear h1 h2 h3 h4
         go_wp2_with fail
         go_quiet (fail)
         go_wp2_with fail
         go_ret
         exact ⟨by rw [HF.out]; rfl, BW.out.trans (below_drewN _ _ _)⟩
       · have t4 : (R == (r : Int)) = false := by simpa using h4
         have HF : Hid ((decide (P = (n : Int)) && (decide (lc = n) && (decide (lk = n) && decide (R = (r : Int))))) = false) := hid (by rw [decide_eq_false h4]; simp)
         clear h1 h2 h3 h4
         go_wp2_with fail
         go_quiet (fail)
         go_wp2_with fail
         go_ret
         exact ⟨by rw [HF.out]; rfl, BW.out.trans (below_drewN _ _ _)⟩
     · have t3 : ((lk : Int) == (n : Int)) = false := by simp; omega
       have HF : Hid ((decide (P = (n : Int)) && (decide (lc = n) && (decide (lk = n) && decide (R = (r : Int))))) = false) := hid (by rw [decide_eq_false h3]; simp)
       clear h1 h2 h3
       go_wp2_with fail
       go_quiet (fail)
       go_wp2_with fail
       go_ret
       exact ⟨by rw [HF.out]; rfl, BW.out.trans (below_drewN _ _ _)⟩
   · have t2 : ((lc : Int) == (n : Int)) = false := by simp; omega
     have HF : Hid ((decide (P = (n : Int)) && (decide (lc = n) && (decide (lk = n) && decide (R = (r : Int))))) = false) := hid (by rw [decide_eq_false h2]; simp)
     clear h1 h2
     go_wp2_with fail
     go_quiet (fail)
     go_wp2_with fail
     go_ret
     exact ⟨by rw [HF.out]; rfl, BW.out.trans (below_drewN _ _ _)⟩
 · have t1 : (P == (n : Int)) = false := by simpa using h1
   have HF : Hid ((decide (P = (n : Int)) && (decide (lc = n) && (decide (lk = n) && decide (R = (r : Int))))) = false) := hid (by rw [decide_eq_false h1]; simp)
   clear h1
   go_wp2_with fail
   go_quiet (fail)
   go_wp2_with fail
   go_ret
   exact ⟨by rw [HF.out]; rfl, BW.out.trans (below_drewN _ _ _)⟩
open Go.RowKit Go.Sort
theorem sips1_any (va vb : Value) (xs ys : List Int) (w : World) (hx : Is w va xs) (hy : Is w vb ys) :
 Calls Tryz.prog 135 #[va, vb] w fun e w' => e = .returned (.bool (decide (xs = ys))) ∧ Dn w w' := by
 have HE := hid (vequal_any va vb xs ys w hx hy)
 obtain ⟨a, ca, rfl, hma⟩ := hx.form
 obtain ⟨b, cb, rfl, hmb⟩ := hy.form
 obtain ⟨n, hn⟩ : ∃ n, n = xs.length := ⟨_, rfl⟩
 obtain ⟨m, hm⟩ : ∃ m, m = ys.length := ⟨_, rfl⟩
 obtain ⟨G, hG⟩ : ∃ G, G = decide (xs = ys) := ⟨_, rfl⟩
 rw [← hn, ← hm, ← hG] at HE
 rw [← hn, ← hm, ← hG]
 clear hx hy hn hm hG
 go_enter Tryz.func135, Tryz.ntmps135
 go_wp2_with fail
 go_at_call 133; refine HE.out.mono ?_; rintro e w2 ⟨rfl, hd⟩
 have HD := hid hd
 clear hd
 go_wp2_with fail
 go_ret
 exact ⟨rfl, HD.out⟩
theorem vdropl_eq {α : Type} [DecidableEq α] (xs ys : List α) (k : Nat) (hx : k < xs.length) (hy : k < ys.length) : decide (xs.drop k = ys.drop k) = (decide (xs[k] = ys[k]) && decide (xs.drop (k + 1) = ys.drop (k + 1))) := by
 rw [List.drop_eq_getElem_cons hx, List.drop_eq_getElem_cons hy, Bool.eq_iff_iff, Bool.and_eq_true, decide_eq_true_eq, decide_eq_true_eq, decide_eq_true_eq, List.cons.injEq]
theorem eqRows_any (va vb : Value) (xs ys : List (List Int)) (w : World) (hx : Ll w va xs) (hy : Ll w vb ys) :
 Calls Tryz.prog 134 #[va, vb, .func (.func 135) #[] #[]] w fun e w' => e = .returned (.bool (decide (xs = ys))) ∧ Below w.heap.size w w' := by
 obtain ⟨a, ca, rfl, hma⟩ := hx.form
 obtain ⟨b, cb, rfl, hmb⟩ := hy.form
 have HX := hid hx
 have HY := hid hy
 obtain ⟨G, hG⟩ : ∃ G, G = decide (xs = ys) := ⟨_, rfl⟩
 rw [← hG]
 have HG := hid hG
 by_cases hl : xs.length = ys.length
 · obtain ⟨n, hn⟩ : ∃ n, n = xs.length := ⟨_, rfl⟩
   have HN := hid hn
   have HN2 := hid (show n = ys.length by omega)
   have hn2 : ys.length = n := by omega
   have HG0 : Hid (G = decide (xs.drop 0 = ys.drop 0)) := HG
   rw [← hn] at hma HX ⊢
   rw [hn2] at HY ⊢
   have hne : ((n : Int) != (n : Int)) = false := by simp
   clear hx hy hG hn hn2 hl hmb HG
   go_enter Tryz.func134, Tryz.ntmps134
   go_wp2_with fail
   go_loopw [17] (fun iv wr => ∃ k : Nat, k ≤ n ∧ iv = .int .i64 k ∧ Hid (G = decide (xs.drop k = ys.drop k)) ∧ Hid (Below w.heap.size w wr)) (fun iv _ => n - (intOf iv).toNat)
   case atStart => exact ⟨0, by omega, rfl, HG0, hid (Below.refl _ _)⟩
   case round =>
    obtain ⟨k, hk, rfl, HR, HW⟩ := hrel
    by_cases hkn : k < n
    · have hx : k < xs.length := by rw [← HN.out]; exact hkn
      have hy : k < ys.length := by rw [← HN2.out]; exact hkn
      obtain ⟨b1, o1, x1, e1, p1, hx1⟩ := (HX.out.keep HW.out).cell k hx
      obtain ⟨b2, o2, y1, e2, p2, hy1⟩ := (HY.out.keep HW.out).cell k hy
      subst e1 e2
      have HST := hid (HR.out.trans (vdropl_eq xs ys k hx hy))
      have HC := hid (sips1_any x1 y1 xs[k] ys[k] wr hx1 hy1)
      obtain ⟨g, hg⟩ : ∃ g, g = decide (xs[k] = ys[k]) := ⟨_, rfl⟩
      rw [← hg] at HST HC
      obtain ⟨xa, xc, hxs, hxm⟩ := hx1.form
      obtain ⟨ya, yc, hys, hym⟩ := hy1.form
      obtain ⟨n1, hn1⟩ : ∃ n1, n1 = xs[k].length := ⟨_, rfl⟩
      obtain ⟨n2, hn2⟩ : ∃ n1, n1 = ys[k].length := ⟨_, rfl⟩
      rw [← hn1] at hxs hxm
      rw [← hn2] at hys hym
      subst hxs hys
      have kI0 : (0 : Int) ≤ (k : Int) := by omega
      have kI1 : (k : Int) < (n : Int) := by omega
      clear hg hx1 hy1 hn1 hn2
      go_wp2_with fail
      go_at_call 135; refine HC.out.mono ?_; rintro e w2 ⟨rfl, hd⟩
      have B2 := hid (HW.out.trans (hd.below.mono HW.out.size))
      clear hd
      cases g with
      | true =>
       have HS : Hid (G = decide (xs.drop (k + 1) = ys.drop (k + 1))) := hid (by rw [HST.out, Bool.true_and])
       go_wp2_with fail
       go_roundw
       case rel => exact ⟨k + 1, by omega, by go_num, HS, B2⟩
       case measure => simp [intOf]; omega
      | false =>
       have HS : Hid (G = false) := hid (by rw [HST.out, Bool.false_and])
       go_wp2_with fail
       go_ret
       exact ⟨by rw [HS.out]; rfl, B2.out⟩
    · have HS : Hid (G = true) := hid (by
       rw [HR.out, List.drop_eq_nil_of_le (show xs.length ≤ k by rw [← HN.out]; omega), List.drop_eq_nil_of_le (show ys.length ≤ k by rw [← HN2.out]; omega)]
       simp)
      go_wp2_with fail
      go_ret
      exact ⟨by rw [HS.out]; rfl, HW.out⟩
 · have HS : Hid (G = false) := hid (by rw [hG]; exact decide_eq_false (fun h => hl (by rw [h])))
   have hne : ((xs.length : Int) != (ys.length : Int)) = true := by simp; omega
   obtain ⟨n, hn⟩ : ∃ n, n = xs.length := ⟨_, rfl⟩
   obtain ⟨m, hm⟩ : ∃ n, n = ys.length := ⟨_, rfl⟩
   rw [← hn] at hma hne ⊢
   rw [← hm] at hmb hne ⊢
   clear hx hy hG hn hm hl HX HY HG
   go_enter Tryz.func134, Tryz.ntmps134
   go_wp2_with fail
   go_ret
   exact ⟨by rw [HS.out]; rfl, Below.refl _ _⟩
theorem vsiphons_any (s : Si.Site) (c : Ve.Cert) (sl : List Nat) (kv ov zv av sv rv tv cv ke se : Value) (B g0 : Nat) (w : World) (h : ZdV w B g0 s kv ov zv av sv rv) (hr : Si.Right s) (hk : Si.Ok s) (hc : CertV w tv cv ke se c) (hsl : Pt.Sips (Si.linked s) s.zones.length sl) :
 Calls Tryz.prog 51 #[.pointer (some ⟨B, 0, none⟩), .agg (certA c tv cv ke se)] w fun e w' => e = .returned (.bool (Ve.sipsB sl c)) ∧ Below w.heap.size w w' := by
 obtain ⟨ta, tc, rfl, htm⟩ := hc.tr.form
 obtain ⟨ca, cc, rfl, hcm⟩ := hc.ca.form
 obtain ⟨ka, kc, rfl, hkm⟩ := hc.ke.form
 obtain ⟨sa, sc, rfl, hsm⟩ := hc.si.form
 have HEN := hid (fun W (hW : Below w.heap.size w W) => vends_any s kv ov zv av sv rv B g0 W (h.below hW) hr hk)
 have HSI := hid (fun W (hW : Below w.heap.size w W) => hc.si.keep hW)
 have HSL := hid (fun sl' (h : Pt.Sips (Si.linked s) s.zones.length sl') => Ve.sips_one h hsl)
 have HSB : Hid (Ve.sipsB sl c = decide (c.sips = Ve.sipL sl)) := hid rfl
 obtain ⟨lk, hlk⟩ : ∃ lk, lk = Si.linked s := ⟨_, rfl⟩
 obtain ⟨n, hn⟩ : ∃ n, n = s.zones.length := ⟨_, rfl⟩
 obtain ⟨G, hG⟩ : ∃ G, G = Ve.sipsB sl c := ⟨_, rfl⟩
 rw [← hG] at HSB
 rw [← hlk, ← hn] at HEN HSL
 rw [← hG]
 unfold certA
 obtain ⟨P, hP⟩ : ∃ P, P = c.places := ⟨_, rfl⟩
 obtain ⟨R, hR⟩ : ∃ P, P = c.robots := ⟨_, rfl⟩
 obtain ⟨lt, hlt⟩ : ∃ P, P = c.trans.length := ⟨_, rfl⟩
 obtain ⟨lc, hlc⟩ : ∃ P, P = c.caps.length := ⟨_, rfl⟩
 obtain ⟨ln, hln⟩ : ∃ P, P = c.keeps.length := ⟨_, rfl⟩
 obtain ⟨ls, hls⟩ : ∃ P, P = c.sips.length := ⟨_, rfl⟩
 rw [← hP, ← hR, ← hlt, ← hlc, ← hln, ← hls]
 rw [← hls] at HSI hsm
 clear h hr hk hc hsl hlk hn hG hP hR hlt hlc hln hls htm hcm hkm
 obtain ⟨W, hW⟩ : ∃ W, W = w.alloc (.cells #[.int .i64 P, .slice ta lt tc, .slice ca lc cc, .slice ka ln kc, .int .i64 R, .slice sa ls sc] 38) := ⟨_, rfl⟩
 have BW : Hid (Below w.heap.size w W) := hid (by rw [hW]; exact (Below.refl _ _).alloc (Nat.le_refl _) _)
 have IW : Hid (W.heap[w.heap.size]? = some (.cells #[.int .i64 P, .slice ta lt tc, .slice ca lc cc, .slice ka ln kc, .int .i64 R, .slice sa ls sc] 38 (0, 0))) := hid (by rw [hW]; exact heap_alloc_new _ _)
 have HW := hid hW
 have q5 : W.cell? ⟨w.heap.size, 5, none⟩ = some (.slice sa ls sc) := cell_of_heap IW.out 5 rfl
 have lw : w.heap.size < W.heap.size := heap_lt IW.out
 have hwW := BW.out.size
 clear hW
 go_enter Tryz.func51, Tryz.ntmps51
 go_upto_region 1 with fail
 rw [← HW.out]
 go_region_held3 (fun w' => w'.cell? ⟨w.heap.size, 5, none⟩ = some (.slice sa ls sc)) (go_keep)
  (first | (go_at_call 53; refine (HEN.out _ (BW.out.trans (Below.mono (show Below W.heap.size W _ from (by (repeat (with_reducible first | exact Below.refl _ _ | refine Below.drew ?_ | refine Below.alloc ?_ (by simp) _)); all_goals fail)) hwW))).mono ?_; rintro e w2 ⟨b2, ev, sl2, rfl, hs2, hl2⟩; have B2 := hid (below_then (a := W) (by (repeat (with_reducible first | exact Below.refl _ _ | refine Below.drew ?_ | refine Below.alloc ?_ (by simp) _)); all_goals fail) b2); have HL2 := hid hl2; have HE2 := hid (HSL.out _ hs2); have c5 := (B2.out.cell (p := ⟨w.heap.size, 5, none⟩) lw).trans q5; clear b2 hs2 hl2) | (go_at_call 134; refine (eqRows_any _ _ c.sips _ _ ((HSI.out _ (BW.out.trans (B2.out.mono hwW))).keep (by (repeat (with_reducible first | exact Below.refl _ _ | refine Below.drew ?_ | refine Below.alloc ?_ (by simp) _)); all_goals fail)) (HL2.out.keep (by (repeat (with_reducible first | exact Below.refl _ _ | refine Below.drew ?_ | refine Below.alloc ?_ (by simp) _)); all_goals fail))).mono ?_; rintro e w3 ⟨rfl, b3⟩; have B3 := hid (below_then (a := W) B2.out (below_then (a := w2) (by (repeat (with_reducible first | exact Below.refl _ _ | refine Below.drew ?_ | refine Below.alloc ?_ (by simp) _)); all_goals fail) b3)); have c6 := (B3.out.cell (p := ⟨w.heap.size, 5, none⟩) lw).trans q5; clear b3))
 all_goals go_wp2_with fail
 all_goals
  go_ret
  exact ⟨by rw [HSB.out, ← HE2.out]; rfl, BW.out.trans (B3.out.mono hwW)⟩
open Go.RowKit Go.Sort
theorem net1_any (u1 u2 v1 v2 : Value) (p q : List Int × List Int) (w : World) (h1 : Is w u1 p.1) (h2 : Is w u2 p.2) (k1 : Is w v1 q.1) (k2 : Is w v2 q.2) :
 Calls Tryz.prog 132 #[.agg #[u1, u2], .agg #[v1, v2]] w fun e w' => e = .returned (.bool (decide (p = q))) ∧ Below w.heap.size w w' := by
 have HE1 := hid (fun W (hW : Below w.heap.size w W) => vequal_any u1 v1 p.1 q.1 W (h1.keep hW) (k1.keep hW))
 have HE2 := hid (fun W (hW : Below w.heap.size w W) => vequal_any u2 v2 p.2 q.2 W (h2.keep hW) (k2.keep hW))
 have HD : Hid (decide (p = q) = (decide (p.1 = q.1) && decide (p.2 = q.2))) := hid (by
  rw [Bool.eq_iff_iff, Bool.and_eq_true, decide_eq_true_eq, decide_eq_true_eq, decide_eq_true_eq]
  exact ⟨fun h => by rw [h]; exact ⟨rfl, rfl⟩, fun h => Prod.ext h.1 h.2⟩)
 obtain ⟨G, hG⟩ : ∃ G, G = decide (p = q) := ⟨_, rfl⟩
 obtain ⟨G1, hG1⟩ : ∃ G, G = decide (p.1 = q.1) := ⟨_, rfl⟩
 obtain ⟨G2, hG2⟩ : ∃ G, G = decide (p.2 = q.2) := ⟨_, rfl⟩
 rw [← hG, ← hG1, ← hG2] at HD
 rw [← hG1] at HE1
 rw [← hG2] at HE2
 rw [← hG]
 obtain ⟨a1, c1, rfl, m1⟩ := h1.form
 obtain ⟨a2, c2, rfl, m2⟩ := h2.form
 obtain ⟨a3, c3, rfl, m3⟩ := k1.form
 obtain ⟨a4, c4, rfl, m4⟩ := k2.form
 obtain ⟨n1, hn1⟩ : ∃ n, n = p.1.length := ⟨_, rfl⟩
 obtain ⟨n2, hn2⟩ : ∃ n, n = p.2.length := ⟨_, rfl⟩
 obtain ⟨n3, hn3⟩ : ∃ n, n = q.1.length := ⟨_, rfl⟩
 obtain ⟨n4, hn4⟩ : ∃ n, n = q.2.length := ⟨_, rfl⟩
 rw [← hn1, ← hn3] at HE1
 rw [← hn2, ← hn4] at HE2
 rw [← hn1, ← hn2, ← hn3, ← hn4]
 clear h1 h2 k1 k2 hG hG1 hG2 hn1 hn2 hn3 hn4 m1 m2 m3 m4
 obtain ⟨W, hW⟩ : ∃ W, W = (w.alloc (.cells #[.slice a1 n1 c1, .slice a2 n2 c2] 43)).alloc (.cells #[.slice a3 n3 c3, .slice a4 n4 c4] 43) := ⟨_, rfl⟩
 have BW : Hid (Below w.heap.size w W) := hid (by rw [hW]; exact ((Below.refl _ _).alloc (Nat.le_refl _) _).alloc (by simp) _)
 have I1 : Hid (W.heap[w.heap.size]? = some (.cells #[.slice a1 n1 c1, .slice a2 n2 c2] 43 (0, 0))) := hid (by rw [hW]; exact heap_two0 _ _ _)
 have I2 : Hid (W.heap[w.heap.size + 1]? = some (.cells #[.slice a3 n3 c3, .slice a4 n4 c4] 43 (0, 0))) := hid (by rw [hW]; exact heap_two3 _ _ _)
 have HW := hid hW
 have q1 : W.cell? ⟨w.heap.size, 0, none⟩ = some (.slice a1 n1 c1) := cell_of_heap I1.out 0 rfl
 have q2 : W.cell? ⟨w.heap.size, 1, none⟩ = some (.slice a2 n2 c2) := cell_of_heap I1.out 1 rfl
 have q3 : W.cell? ⟨w.heap.size + 1, 0, none⟩ = some (.slice a3 n3 c3) := cell_of_heap I2.out 0 rfl
 have q4 : W.cell? ⟨w.heap.size + 1, 1, none⟩ = some (.slice a4 n4 c4) := cell_of_heap I2.out 1 rfl
 have l1 : w.heap.size < W.heap.size := heap_lt I1.out
 have l2 : w.heap.size + 1 < W.heap.size := heap_lt I2.out
 clear hW
 go_enter Tryz.func132, Tryz.ntmps132
 go_upto_region 1 with fail
 rw [← HW.out]
 go_wp2_with fail
 go_at_call 133; refine (HE1.out W BW.out).mono ?_; rintro e w2 ⟨rfl, hd⟩
 have B2 := hid hd.below
 have BB2 := hid (BW.out.trans (hd.below.mono BW.out.size))
 have r2 := (B2.out.cell (p := ⟨w.heap.size, 1, none⟩) l1).trans q2
 have r4 := (B2.out.cell (p := ⟨w.heap.size + 1, 1, none⟩) l2).trans q4
 clear hd q1 q2 q3 q4
 cases G1 with
 | false =>
  have HS : Hid (G = false) := hid (by rw [HD.out, Bool.false_and])
  go_wp2_with fail
  go_ret
  exact ⟨by rw [HS.out]; rfl, BB2.out⟩
 | true =>
  have HS : Hid (G = G2) := hid (by rw [HD.out, Bool.true_and])
  go_wp2_with fail
  go_at_call 133; refine (HE2.out w2 BB2.out).mono ?_; rintro e w3 ⟨rfl, hd⟩
  have BB3 := hid (BB2.out.trans (hd.below.mono BB2.out.size))
  clear hd
  go_wp2_with fail
  go_ret
  exact ⟨by rw [HS.out]; rfl, BB3.out⟩
theorem eqTrans_any (va vb : Value) (xs ys : List (List Int × List Int)) (w : World) (hx : Tr w va xs) (hy : Tr w vb ys) :
 Calls Tryz.prog 131 #[va, vb, .func (.func 132) #[] #[]] w fun e w' => e = .returned (.bool (decide (xs = ys))) ∧ Below w.heap.size w w' := by
 obtain ⟨a, ca, rfl, hma⟩ := hx.form
 obtain ⟨b, cb, rfl, hmb⟩ := hy.form
 have HX := hid hx
 have HY := hid hy
 obtain ⟨G, hG⟩ : ∃ G, G = decide (xs = ys) := ⟨_, rfl⟩
 rw [← hG]
 have HG := hid hG
 by_cases hl : xs.length = ys.length
 · obtain ⟨n, hn⟩ : ∃ n, n = xs.length := ⟨_, rfl⟩
   have HN := hid hn
   have HN2 := hid (show n = ys.length by omega)
   have hn2 : ys.length = n := by omega
   have HG0 : Hid (G = decide (xs.drop 0 = ys.drop 0)) := HG
   rw [← hn] at hma HX ⊢
   rw [hn2] at HY ⊢
   have hne : ((n : Int) != (n : Int)) = false := by simp
   clear hx hy hG hn hn2 hl hmb HG
   go_enter Tryz.func131, Tryz.ntmps131
   go_wp2_with fail
   go_loopw [17] (fun iv wr => ∃ k : Nat, k ≤ n ∧ iv = .int .i64 k ∧ Hid (G = decide (xs.drop k = ys.drop k)) ∧ Hid (Below w.heap.size w wr)) (fun iv _ => n - (intOf iv).toNat)
   case atStart => exact ⟨0, by omega, rfl, HG0, hid (Below.refl _ _)⟩
   case round =>
    obtain ⟨k, hk, rfl, HR, HW⟩ := hrel
    by_cases hkn : k < n
    · have hx : k < xs.length := by rw [← HN.out]; exact hkn
      have hy : k < ys.length := by rw [← HN2.out]; exact hkn
      obtain ⟨b1, o1, x1, x2, e1, lb1, p1, p2, hx1, hx2⟩ := (HX.out.keep HW.out).cell k hx
      obtain ⟨b2, o2, y1, y2, e2, lb2, q1, q2, hy1, hy2⟩ := (HY.out.keep HW.out).cell k hy
      subst e1 e2
      have HST := hid (HR.out.trans (vdropl_eq xs ys k hx hy))
      have HC := hid (fun W (hW : Below wr.heap.size wr W) => net1_any x1 x2 y1 y2 xs[k] ys[k] W (hx1.keep hW) (hx2.keep hW) (hy1.keep hW) (hy2.keep hW))
      obtain ⟨g, hg⟩ : ∃ g, g = decide (xs[k] = ys[k]) := ⟨_, rfl⟩
      rw [← hg] at HST HC
      obtain ⟨xa, xc, hxs, hxm⟩ := hx1.form
      obtain ⟨xd, xe, hxs2, hxm2⟩ := hx2.form
      obtain ⟨ya, yc, hys, hym⟩ := hy1.form
      obtain ⟨yd, ye, hys2, hym2⟩ := hy2.form
      obtain ⟨n1, hn1⟩ : ∃ n1, n1 = xs[k].1.length := ⟨_, rfl⟩
      obtain ⟨n2, hn2⟩ : ∃ n1, n1 = xs[k].2.length := ⟨_, rfl⟩
      obtain ⟨n3, hn3⟩ : ∃ n1, n1 = ys[k].1.length := ⟨_, rfl⟩
      obtain ⟨n4, hn4⟩ : ∃ n1, n1 = ys[k].2.length := ⟨_, rfl⟩
      rw [← hn1] at hxs hxm
      rw [← hn2] at hxs2 hxm2
      rw [← hn3] at hys hym
      rw [← hn4] at hys2 hym2
      subst hxs hxs2 hys hys2
      have kI0 : (0 : Int) ≤ (k : Int) := by omega
      have kI1 : (k : Int) < (n : Int) := by omega
      obtain ⟨W2, hW2⟩ : ∃ W, W = wr.alloc (.cells #[.slice xa n1 xc, .slice xd n2 xe] 43) := ⟨_, rfl⟩
      have BW2 : Hid (Below wr.heap.size wr W2) := hid (by rw [hW2]; exact (Below.refl _ _).alloc (Nat.le_refl _) _)
      have I2 : Hid (W2.heap[wr.heap.size]? = some (.cells #[.slice xa n1 xc, .slice xd n2 xe] 43 (0, 0))) := hid (by rw [hW2]; exact heap_alloc_new _ _)
      have HW2 := hid hW2
      have l2 : wr.heap.size < W2.heap.size := heap_lt I2.out
      have s1 := (BW2.out.cell (p := ⟨b2, o2 + k * 2, none⟩) lb2).trans q1
      have s2 := (BW2.out.cell (p := ⟨b2, o2 + k * 2 + 1, none⟩) lb2).trans q2
      obtain ⟨W3, hW3⟩ : ∃ W, W = W2.alloc (.cells #[.slice ya n3 yc, .slice yd n4 ye] 43) := ⟨_, rfl⟩
      have BW3 : Hid (Below W2.heap.size W2 W3) := hid (by rw [hW3]; exact (Below.refl _ _).alloc (Nat.le_refl _) _)
      have I3 : Hid (W3.heap[W2.heap.size]? = some (.cells #[.slice ya n3 yc, .slice yd n4 ye] 43 (0, 0))) := hid (by rw [hW3]; exact heap_alloc_new _ _)
      have I2' := hid (keep_heap I2.out BW3.out)
      have HW3 := hid hW3
      have z1 : W3.cell? ⟨wr.heap.size, 0, none⟩ = some (.slice xa n1 xc) := cell_of_heap I2'.out 0 rfl
      have z2 : W3.cell? ⟨wr.heap.size, 1, none⟩ = some (.slice xd n2 xe) := cell_of_heap I2'.out 1 rfl
      have z3 : W3.cell? ⟨W2.heap.size, 0, none⟩ = some (.slice ya n3 yc) := cell_of_heap I3.out 0 rfl
      have z4 : W3.cell? ⟨W2.heap.size, 1, none⟩ = some (.slice yd n4 ye) := cell_of_heap I3.out 1 rfl
      have BW := hid (below_then BW2.out BW3.out)
      clear hg hx1 hx2 hy1 hy2 hn1 hn2 hn3 hn4 hW2 hW3
      go_upto_region 6 with fail
      rw [← HW2.out]
      go_upto_region 7 with fail
      rw [← HW3.out]
      clear p1 p2 q1 q2 s1 s2
      go_wp2_with fail
      go_at_call 132; refine (HC.out W3 BW.out).mono ?_; rintro e w2 ⟨rfl, hd⟩
      have B2 := hid (HW.out.trans ((below_then BW.out hd).mono HW.out.size))
      clear hd z1 z2 z3 z4
      cases g with
      | true =>
       have HS : Hid (G = decide (xs.drop (k + 1) = ys.drop (k + 1))) := hid (by rw [HST.out, Bool.true_and])
       go_wp2_with fail
       go_roundw
       case rel => exact ⟨k + 1, by omega, by go_num, HS, B2⟩
       case measure => simp [intOf]; omega
      | false =>
       have HS : Hid (G = false) := hid (by rw [HST.out, Bool.false_and])
       go_wp2_with fail
       go_ret
       exact ⟨by rw [HS.out]; rfl, B2.out⟩
    · have HS : Hid (G = true) := hid (by
       rw [HR.out, List.drop_eq_nil_of_le (show xs.length ≤ k by rw [← HN.out]; omega), List.drop_eq_nil_of_le (show ys.length ≤ k by rw [← HN2.out]; omega)]
       simp)
      go_wp2_with fail
      go_ret
      exact ⟨by rw [HS.out]; rfl, HW.out⟩
 · have HS : Hid (G = false) := hid (by rw [hG]; exact decide_eq_false (fun h => hl (by rw [h])))
   have hne : ((xs.length : Int) != (ys.length : Int)) = true := by simp; omega
   obtain ⟨n, hn⟩ : ∃ n, n = xs.length := ⟨_, rfl⟩
   obtain ⟨m, hm⟩ : ∃ n, n = ys.length := ⟨_, rfl⟩
   rw [← hn] at hma hne ⊢
   rw [← hm] at hmb hne ⊢
   clear hx hy hG hn hm hl HX HY HG
   go_enter Tryz.func131, Tryz.ntmps131
   go_wp2_with fail
   go_ret
   exact ⟨by rw [HS.out]; rfl, Below.refl _ _⟩
open Go.RowKit Go.Sort
theorem vnet_any (s : Si.Site) (c : Ve.Cert) (kv ov zv av sv rv tv cv ke se : Value) (B g0 : Nat) (w : World) (h : ZdV w B g0 s kv ov zv av sv rv) (hr : Si.Right s) (hk : Si.Ok s) (hc : CertV w tv cv ke se c) :
 Calls Tryz.prog 49 #[.pointer (some ⟨B, 0, none⟩), .agg (certA c tv cv ke se)] w fun e w' => e = .returned (.bool (Ve.netB s c)) ∧ Below w.heap.size w w' := by
 obtain ⟨ta, tc, rfl, htm⟩ := hc.tr.form
 obtain ⟨ca, cc, rfl, hcm⟩ := hc.ca.form
 obtain ⟨ka, kc, rfl, hkm⟩ := hc.ke.form
 obtain ⟨sa, sc, rfl, hsm⟩ := hc.si.form
 have HLK := hid (fun W (hW : Below w.heap.size w W) => vlinks_any s kv ov zv av sv rv B g0 W (h.below hW) hr hk)
 have HTR := hid (fun W (hW : Below w.heap.size w W) => hc.tr.keep hW)
 have HNB : Hid (Ve.netB s c = decide (c.trans = Si.netT s)) := hid rfl
 have HPN := hid (pairs_net s)
 have hzn := hk.zn
 have HPL : Hid (∀ a, a ≤ 64 → (pairsTo s a).length ≤ a * 64) := hid (pairs_len s hzn)
 have HLG : Hid (∀ a (ha : a < (Si.linksL s).length), (Si.linksL s)[a] = Si.nn (Si.linksZ s a)) := hid (fun a ha => Si.linksL_get s a (by rw [Si.linksL_len] at ha; exact ha))
 have HLL := hid (Si.linksL_len s)
 obtain ⟨n, hn⟩ : ∃ n, n = s.zones.length := ⟨_, rfl⟩
 obtain ⟨G, hG⟩ : ∃ G, G = Ve.netB s c := ⟨_, rfl⟩
 rw [← hG] at HNB
 rw [← hn] at HPN HLL hzn
 rw [← hG]
 have HE3 : Hid (s.zones.length = n) := hid hn.symm
 unfold certA
 obtain ⟨P0, hP⟩ : ∃ P, P = c.places := ⟨_, rfl⟩
 obtain ⟨R, hR⟩ : ∃ P, P = c.robots := ⟨_, rfl⟩
 obtain ⟨lt, hlt⟩ : ∃ P, P = c.trans.length := ⟨_, rfl⟩
 obtain ⟨lc, hlc⟩ : ∃ P, P = c.caps.length := ⟨_, rfl⟩
 obtain ⟨ln, hln⟩ : ∃ P, P = c.keeps.length := ⟨_, rfl⟩
 obtain ⟨ls, hls⟩ : ∃ P, P = c.sips.length := ⟨_, rfl⟩
 rw [← hP, ← hR, ← hlt, ← hlc, ← hln, ← hls]
 rw [← hlt] at HTR htm
 clear h hr hk hc hn hG hP hR hlt hlc hln hls hcm hkm hsm
 obtain ⟨W, hW⟩ : ∃ W, W = w.alloc (.cells #[.int .i64 P0, .slice ta lt tc, .slice ca lc cc, .slice ka ln kc, .int .i64 R, .slice sa ls sc] 38) := ⟨_, rfl⟩
 have BW : Hid (Below w.heap.size w W) := hid (by rw [hW]; exact (Below.refl _ _).alloc (Nat.le_refl _) _)
 have IW : Hid (W.heap[w.heap.size]? = some (.cells #[.int .i64 P0, .slice ta lt tc, .slice ca lc cc, .slice ka ln kc, .int .i64 R, .slice sa ls sc] 38 (0, 0))) := hid (by rw [hW]; exact heap_alloc_new _ _)
 have HW := hid hW
 have lw : w.heap.size < W.heap.size := heap_lt IW.out
 have hwW := BW.out.size
 clear hW
 go_enter Tryz.func49, Tryz.ntmps49
 go_upto_region 1 with fail
 rw [← HW.out]
 go_wp2_with fail
 go_at_call 130; refine (HLK.out W BW.out).mono ?_; rintro e w1 ⟨lv, rfl, hl, b1⟩
 obtain ⟨la, lcc, rfl, hlm⟩ := hl.form
 have HLW := hid hl.ll
 rw [HLL.out] at hlm HLW
 rw [HLL.out]
 have I1 := hid (keep_heap IW.out b1)
 have B1 := hid (BW.out.trans (b1.mono hwW))
 have hw1 := B1.out.size
 have T0 : Hid (TrO w1 w1.heap.size (.slice none 0 0) (pairsTo s 0)) := hid (TrO.nil ..)
 clear hl b1
 go_wp2_with fail
 go_loopw [5, 13] (fun v iv wr => ∃ (a : Nat), a ≤ n ∧ iv = .int .i64 a ∧ Hid (TrO wr w1.heap.size v (pairsTo s a)) ∧ Hid (Below w1.heap.size w1 wr)) (fun _ iv _ => n - (intOf iv).toNat)
 case atStart => exact ⟨0, by omega, rfl, T0, hid (Below.refl _ _)⟩
 case round =>
  clear T0
  obtain ⟨a, ha, rfl, HT, HB⟩ := hrel
  obtain ⟨v, rfl⟩ : ∃ v, v = u5 := ⟨_, rfl⟩
  by_cases han : a < n
  · have hal : a < (Si.linksL s).length := by rw [HLL.out]; exact han
    obtain ⟨b, off, u, e1, hcu, hiu⟩ := HLW.out.cell a hal
    subst e1
    replace hcu := (HB.out.cell (p := ⟨b, off + a, none⟩) (cell_block_lt hcu)).trans hcu
    rw [HLG.out a hal] at hiu
    obtain ⟨q, hq⟩ : ∃ q, Si.linksZ s a = q := ⟨_, rfl⟩
    have HPS : Hid (pairsTo s (a + 1) = pairsTo s a ++ q.map fun b : Nat => (a, b)) := hid (by rw [pairs_succ, hq])
    have hql := linksZ_len s a
    rw [HE3.out] at hql
    have hpl := HPL.out a (by omega)
    rw [hq] at hiu hql
    obtain ⟨ua, uc, hus, -⟩ := hiu.form
    subst hus
    have HIU := hid hiu
    rw [nn_len] at hcu HIU
    obtain ⟨m, hm⟩ : ∃ m, q.length = m := ⟨_, rfl⟩
    rw [hm] at hcu HIU hql
    have HM := hid hm
    have T1 : Hid (TrO wr w1.heap.size v (pairsTo s a ++ (q.take 0).map fun b : Nat => (a, b))) := hid (by simpa using HT.out)
    obtain ⟨P, hP⟩ : ∃ P, pairsTo s a = P := ⟨_, rfl⟩
    rw [hP] at HPS T1 hpl
    have k0 : (0 : Int) ≤ (a : Int) := by omega
    have k1 : (a : Int) < (n : Int) := by omega
    obtain ⟨wo, rfl⟩ : ∃ wo : World, wo = wr := ⟨_, rfl⟩
    have hwo := HB.out.size
    clear hiu hq hm hP HT
    go_wp2_with fail
    go_loopw [5, 20] (fun v iv wr => ∃ (k : Nat), k ≤ m ∧ iv = .int .i64 k ∧ Hid (TrO wr w1.heap.size v (P ++ (q.take k).map fun b : Nat => (a, b))) ∧ Hid (Below w1.heap.size w1 wr)) (fun _ iv _ => m - (intOf iv).toNat)
    case atStart => exact ⟨0, by omega, rfl, T1, HB⟩
    case round =>
     clear T1 hcu
     obtain ⟨k, hk, rfl, HT, HBK⟩ := hrel
     obtain ⟨v, rfl⟩ : ∃ v, v = u5 := ⟨_, rfl⟩
     by_cases hkm : k < m
     · have hkq : k < q.length := by rw [HM.out]; exact hkm
       obtain ⟨x, hx⟩ : ∃ x, q[k] = x := ⟨_, rfl⟩
       obtain ⟨va, vc, hvs, -⟩ := HT.out.form
       obtain ⟨L, hL⟩ : ∃ L, (P ++ (q.take k).map fun b : Nat => (a, b)).length = L := ⟨_, rfl⟩
       have hLe : L = P.length + k := by rw [← hL, List.length_append, List.length_map, List.length_take]; omega
       rw [hL] at hvs
       subst hvs
       obtain ⟨b, off, e1, c0⟩ := (HIU.out.keep HBK.out).cell k (by rw [nn_len]; exact hkq)
       subst e1
       rw [show (Si.nn q)[k]'(by rw [nn_len]; exact hkq) = (x : Int) by simp [Si.nn, hx]] at c0
       have HTK : Hid ((q.take (k + 1)).map (fun b : Nat => (a, b)) = (q.take k).map (fun b : Nat => (a, b)) ++ [(a, x)]) := hid (by rw [List.take_succ_eq_append_getElem hkq, List.map_append, hx]; rfl)
       have HLen := hid hL
       have q0 : (0 : Int) ≤ (k : Int) := by omega
       have q1 : (k : Int) < (m : Int) := by omega
       have hbz := HBK.out.size
       have hLb : L + 1 ≤ 1000000000 := by omega
       clear hx hL hLe
       go_wp2_with (at_builtin; refine wpList_app_tran rfl (.tmp 24) (.tmp 30) rfl w1.heap.size (.slice va L vc) L _ HLen.out rfl (HT.out.below (Below.al3 (Nat.le_refl _) _ _ _)) (wr.heap.size + 2) 1 wr.heap.size (wr.heap.size + 1) (a, x) rfl (heap_thr3 wr _ _ _) (heap_old (heap_old (heap_alloc_new wr _))) (heap_old (heap_two3 wr _ _)) hLb ?c1 ?_)
       case c1 => simp; omega
       intro av cv w4 ht4 _ hb4
       have HT4 := hid ht4
       have HB4 : Hid (Below w1.heap.size w1 w4) := hid (HBK.out.trans ((Below.al3 hbz _ _ _).trans hb4))
       clear ht4 hb4 c0
       go_wp2_with fail
       go_roundw
       case rel =>
        refine ⟨k + 1, by omega, by go_num, hid ?_, HB4⟩
        have h5 := HT4.out
        rw [HTK.out, List.map_take, ← List.append_assoc]
        rw [← List.append_assoc] at h5
        exact h5
       case measure => simp [intOf]; omega
     · obtain rfl : k = m := by omega
       have HT2 : Hid (TrO wr w1.heap.size v (pairsTo s (a + 1))) := hid (by rw [HPS.out]; have := HT.out; rwa [List.take_of_length_le (by rw [HM.out]; omega)] at this)
       go_wp2_with fail
       go_roundw
       case rel => exact ⟨a + 1, by omega, by go_num, HT2, HBK⟩
       case measure => simp [intOf]; omega
  · obtain rfl : a = n := by omega
    have BR := hid (B1.out.trans (HB.out.mono hw1))
    have I2 := hid (keep_heap I1.out HB.out)
    have d1 : wr.cell? ⟨w.heap.size, 1, none⟩ = some (.slice ta lt tc) := cell_of_heap I2.out 1 rfl
    have HEQ := hid (eqTrans_any _ v c.trans _ wr (HTR.out wr BR.out) HT.out.tr)
    rw [HPN.out] at HEQ
    rw [← HNB.out] at HEQ
    go_wp2_with fail
    go_at_call 131; refine HEQ.out.mono ?_; rintro e w3 ⟨rfl, b3⟩
    have B3 := hid (BR.out.trans (b3.mono BR.out.size))
    clear b3
    go_wp2_with fail
    go_ret
    exact ⟨rfl, B3.out⟩
end Go.Proofs.YtfcbcpfnaadpeaaGreatDoor
