/- Parts TeD, TeI of this claim, laid one behind the other: walks and the plain laws behind them; each contract states its own conditions. -/
import Derived.Test.YtfcbcpfnaadpeaaGreatDoorTD
import Derived.Test.YtfcbcpfnaadpeaaGreatDoorZA
import Derived.Test.YtfcbcpfnaadpeaaGreatDoorTE
import Derived.Test.YtfcbcpfnaadpeaaGreatDoorYH
namespace Go.Proofs.YtfcbcpfnaadpeaaGreatDoor
set_option maxRecDepth 100000
set_option maxHeartbeats 64000000
set_option linter.unusedSimpArgs false
set_option linter.unusedVariables false
open Go.RowKit
theorem cmpL_same : ∀ (xs ys : List Nat) (k : Nat), k ≤ xs.length → k ≤ ys.length → xs.take k = ys.take k → Pt.cmpL xs ys = Pt.cmpL (xs.drop k) (ys.drop k)
 | _, _, 0, _, _, _ => rfl
 | [], _, k + 1, h, _, _ => by simp at h
 | _ :: _, [], k + 1, _, h, _ => by simp at h
 | x :: xs, y :: ys, k + 1, h1, h2, h => by
  rw [List.take_succ_cons, List.take_succ_cons] at h
  injection h with e h
  subst e
  rw [List.drop_succ_cons, List.drop_succ_cons, ← cmpL_same xs ys k (by simpa using h1) (by simpa using h2) h]
  conv => lhs; rw [Pt.cmpL]
  rw [if_neg (by rw [Pt.cmpN_zero.2 rfl]; simp)]
theorem cmpL_head {x y : Nat} (xs ys : List Nat) (h : x ≠ y) : decide (Pt.cmpL (x :: xs) (y :: ys) < 0) = decide (x < y) := by
 unfold Pt.cmpL
 rw [if_pos (fun e => h (Pt.cmpN_zero.1 e))]
 rw [decide_eq_decide, Pt.cmpN_neg]
theorem rLess_any (xs ys : List Nat) (va vb : Value) (w : World) (ha : Is w va (Si.nn xs)) (hb : Is w vb (Si.nn ys)) :
 Calls Tryz.prog 73 #[va, vb] w fun e w' => e = .returned (.bool (decide (Ve.cmpE xs ys < 0))) ∧ Below w.heap.size w w' := by
 obtain ⟨a1, c1, rfl, m1⟩ := ha.form
 obtain ⟨a2, c2, rfl, m2⟩ := hb.form
 have hxl : (Si.nn xs).length = xs.length := by simp [Si.nn]
 have hyl : (Si.nn ys).length = ys.length := by simp [Si.nn]
 rw [hxl] at ha m1 ⊢
 rw [hyl] at hb m2 ⊢
 by_cases hl : xs.length = ys.length
 · have hE : Ve.cmpE xs ys = Pt.cmpL xs ys := by unfold Ve.cmpE; rw [if_neg (by simpa using hl)]
   rw [hE]
   rw [← hl] at hb ⊢
   have HA := hid ha
   have HB := hid hb
   have HLE := hid hl
   obtain ⟨n, hn⟩ : ∃ n, xs.length = n := ⟨_, rfl⟩
   rw [hn] at HA HB m1 HLE ⊢
   have HN := hid hn
   obtain ⟨R, hR⟩ : ∃ r, decide (Pt.cmpL xs ys < 0) = r := ⟨_, rfl⟩
   rw [hR]
   have HR := hid hR
   have H0 : Hid (xs.take 0 = ys.take 0) := hid rfl
   clear ha hb hl hE hn hR hxl hyl m2
   go_enter Tryz.func73, Tryz.ntmps73
   go_wp2_with fail
   go_loopw [5] (fun iv wr => ∃ k : Nat, k ≤ n ∧ iv = .int .i64 k ∧ Hid (xs.take k = ys.take k) ∧ Hid (Below w.heap.size w wr)) (fun iv _ => n - (intOf iv).toNat)
   case atStart => exact ⟨0, by omega, rfl, H0, hid (Below.refl _ w)⟩
   case round =>
    obtain ⟨k, hk, rfl, HK, HU⟩ := hrel
    obtain ⟨wo, hwo⟩ : ∃ W, W = wr := ⟨_, rfl⟩
    subst hwo
    by_cases hkn : k < n
    · have k0 : (0 : Int) ≤ (k : Int) := by omega
      have k1 : (k : Int) < (n : Int) := by omega
      have hx : k < xs.length := by rw [HN.out]; exact hkn
      have hy : k < ys.length := by rw [← HLE.out]; exact hkn
      obtain ⟨xb, xo, e1, cx⟩ := (HA.out.keep HU.out).cell k (by simpa [Si.nn] using hx)
      obtain ⟨yb, yo, e2, cy⟩ := (HB.out.keep HU.out).cell k (by simpa [Si.nn] using hy)
      subst e1 e2
      have cx2 : wo.cell? ⟨xb, xo + k, none⟩ = some (.int .i64 (xs[k] : Int)) := by simpa [Si.nn] using cx
      have cy2 : wo.cell? ⟨yb, yo + k, none⟩ = some (.int .i64 (ys[k] : Int)) := by simpa [Si.nn] using cy
      have HD : Hid (xs[k] ≠ ys[k] → R = decide (xs[k] < ys[k])) := hid (fun hne => by
       rw [← HR.out, cmpL_same xs ys k (by omega) (by omega) HK.out, List.drop_eq_getElem_cons hx, List.drop_eq_getElem_cons hy]
       exact cmpL_head _ _ hne)
      have HS : Hid (xs[k] = ys[k] → xs.take (k + 1) = ys.take (k + 1)) := hid (fun he => by
       rw [List.take_succ_eq_append_getElem hx, List.take_succ_eq_append_getElem hy, HK.out, he])
      obtain ⟨X, hX⟩ : ∃ X, xs[k] = X := ⟨_, rfl⟩
      obtain ⟨Y, hY⟩ : ∃ X, ys[k] = X := ⟨_, rfl⟩
      rw [hX] at cx2 HD HS
      rw [hY] at cy2 HD HS
      clear hX hY cx cy hx hy
      by_cases he : X = Y
      · have t0 : ((X : Int) != (Y : Int)) = false := by simp [he]
        have HS2 := hid (HS.out he)
        clear he
        go_wp2_with fail
        go_quiet (fail)
        go_wp2_with fail
        all_goals go_roundw
        case rel => exact ⟨k + 1, by omega, by go_num, HS2, hid (HU.out.trans (below_drewN _ _ _))⟩
        case measure => simp [intOf]; omega
      · have t0 : ((X : Int) != (Y : Int)) = true := by simp; omega
        have HD2 := hid (HD.out he)
        clear he
        go_wp2_with fail
        go_quiet (fail)
        go_upto_region 7 with fail
        generalize hwq : wo.drewN _ = wq
        have hbq : Below w.heap.size w wq := by rw [← hwq]; exact HU.out.trans (below_drewN _ _ _)
        have cx3 : wq.cell? ⟨xb, xo + k, none⟩ = some (.int .i64 (X : Int)) := by rw [← hwq]; exact cx2
        have cy3 : wq.cell? ⟨yb, yo + k, none⟩ = some (.int .i64 (Y : Int)) := by rw [← hwq]; exact cy2
        have HBQ := hid hbq
        clear hbq hwq cx2 cy2
        go_quiet (fail)
        go_wp2_with fail
        all_goals go_ret
        all_goals exact ⟨by rw [HD2.out]; first | rfl | simp, HBQ.out.trans (below_drewN _ _ _)⟩
    · have k9 : ¬ (k : Int) < (n : Int) := by omega
      have HD3 : Hid (R = false) := hid (by
       rw [← HR.out, cmpL_same xs ys k (by have := HN.out; omega) (by have := HN.out; have := HLE.out; omega) HK.out, List.drop_eq_nil_of_le (by have := HN.out; omega), List.drop_eq_nil_of_le (by have := HN.out; have := HLE.out; omega)]
       decide)
      go_wp2_with fail
      go_ret
      exact ⟨by rw [HD3.out]; rfl, HU.out⟩
 · have hE : decide (Ve.cmpE xs ys < 0) = decide (xs.length < ys.length) := by
    unfold Ve.cmpE
    rw [if_pos hl, decide_eq_decide]
    omega
   rw [hE]
   obtain ⟨n, hn⟩ : ∃ n, xs.length = n := ⟨_, rfl⟩
   obtain ⟨m, hm⟩ : ∃ n, ys.length = n := ⟨_, rfl⟩
   rw [hn, hm] at hl ⊢
   rw [hn] at m1
   rw [hm] at m2
   have t0 : ((n : Int) != (m : Int)) = true := by simp; omega
   clear ha hb hE hn hm hxl hyl hl
   by_cases hlt : n < m
   · have t1 : (n : Int) < (m : Int) := by omega
     rw [decide_eq_true hlt]
     clear hlt
     go_enter Tryz.func73, Tryz.ntmps73
     go_wp2_with fail
     go_ret
     exact ⟨rfl, Below.refl _ _⟩
   · have t1 : ¬ (n : Int) < (m : Int) := by omega
     rw [decide_eq_false hlt]
     clear hlt
     go_enter Tryz.func73, Tryz.ntmps73
     go_wp2_with fail
     go_ret
     exact ⟨rfl, Below.refl _ _⟩
theorem nn_app (l : List Nat) (b : Nat) : ints (Si.nn (l ++ [b])) = ints (Si.nn l) ++ [.int .i64 (b : Int)] := by simp [Si.nn, ints]
theorem EndsK_len {lk : Nat → Nat → Bool} {n k : Nat} {R : List (List Nat)} (h : Vt.EndsK lk n k R) : R.length ≤ k := by
 rw [h.pe.length_eq]
 unfold Ve.endsN
 rw [List.length_map]
 exact Nat.le_trans (List.length_filter_le _ _) (by simp)
theorem ofK_len (lk : Nat → Nat → Bool) (n a k : Nat) : (Vt.ofK lk n a k).length ≤ k := by
 unfold Vt.ofK
 exact Nat.le_trans (List.length_filter_le _ _) (by simp)
theorem rEnds_any (s : Si.Site) (kv ov zv av sv rv : Value) (w : World) (h : SiV w kv ov zv av sv rv s) (hk : Si.Ok s) (hn : s.zones.length ≤ 64) :
 Calls Tryz.prog 26 #[siV s kv ov zv av sv rv] w (VePost (Si.linked s) s.zones.length w) := by
 have HST := hid (fun W (hW : Below w.heap.size w W) => Steps_any s kv ov zv av sv rv W (h.keep hW) hk (by omega))
 obtain ⟨n, en⟩ : ∃ n, s.zones.length = n := ⟨_, rfl⟩
 rw [en] at HST hn ⊢
 unfold siV at HST ⊢
 unfold StpPost at HST
 obtain ⟨lk, hlk⟩ : ∃ l, Si.linked s = l := ⟨_, rfl⟩
 rw [hlk] at HST ⊢
 have HLS := hid (fun W xs ys va vb (ha : Is W va (Si.nn xs)) (hb : Is W vb (Si.nn ys)) => rLess_any xs ys va vb W ha hb)
 obtain ⟨w1, hw1⟩ : ∃ w1, w1 = w.alloc (.cells #[.int .i64 s.floor.w, .int .i64 s.floor.h, .int .i64 s.floor.d, kv, ov, zv, av, sv, rv] 30) := ⟨_, rfl⟩
 have B1 : Hid (Below w.heap.size w w1) := hid (by rw [hw1]; exact (Below.refl _ w).alloc (Nat.le_refl _) _)
 have I1 : Hid (w1.heap[w.heap.size]? = some (.cells #[.int .i64 s.floor.w, .int .i64 s.floor.h, .int .i64 s.floor.d, kv, ov, zv, av, sv, rv] 30 (0, 0))) := hid (by rw [hw1]; exact heap_alloc_new _ _)
 have HW1 := hid hw1
 have s1 : w.heap.size < w1.heap.size := heap_lt I1.out
 obtain ⟨i0, hi, hz0, hz1, hz2⟩ := info_parts teIInfo
 clear h hk en hlk hw1
 obtain ⟨p0, p1, p2, p3, p4, p5, p6, p7, p8⟩ := cells9 I1.out
 go_enter Tryz.func26, Tryz.ntmps26
 go_upto_region 1 with fail
 rw [← HW1.out]
 go_wp2_with fail
 go_at_call 72; refine (HST.out _ B1.out).mono ?_; rintro e w2 ⟨mv, gs, rfl, htb, b2⟩
 have B2 := hid (B1.out.trans (b2.mono B1.out.size))
 have TB0 := hid htb
 obtain ⟨ma, mc, rfl⟩ := own_form3 htb.own
 have R0 : Hid (RL w2 w2.heap.size w2.heap.size (.slice none 0 0) (([] : List (List Nat)).map Si.nn)) := hid (RL.nil ..)
 have E0 := hid (Vt.EndsK.zero lk n)
 have Z0 : Hid (Below w2.heap.size w2 w2) := hid (Below.refl _ _)
 clear b2 htb HST p0 p1 p2 p3 p4 p5 p6 p7 p8
 go_wp2_with fail
 go_loopw [4, 5] (fun ov av wr => ∃ (a : Nat) (R : List (List Nat)) (oa : Option Addr) (oc : Nat), a ≤ n ∧ av = .int .i64 a ∧ ov = .slice oa R.length oc ∧ Hid (RL wr w2.heap.size w2.heap.size (.slice oa R.length oc) (R.map Si.nn)) ∧ Hid (Vt.EndsK lk n a R) ∧ Hid (Below w2.heap.size w2 wr)) (fun _ av _ => n - (intOf av).toNat)
 case atStart => exact ⟨0, [], none, 0, by omega, rfl, rfl, R0, E0, Z0⟩
 case round =>
  clear R0 E0 Z0
  obtain ⟨a, R, oa, oc, ha, rfl, rfl, HR, HE, HB⟩ := hrel
  obtain ⟨wA, hwA⟩ : ∃ W, W = wr := ⟨_, rfl⟩
  subst hwA
  obtain ⟨r, hr⟩ : ∃ n, R.length = n := ⟨_, rfl⟩
  have hrn : r ≤ n := by have := EndsK_len HE.out; omega
  rw [hr] at HR ⊢
  have HRL := hid hr
  have hs2 : w2.heap.size ≤ wA.heap.size := HB.out.size
  clear hr
  by_cases han : a < n
  · have a0 : (0 : Int) ≤ (a : Int) := by omega
    have a1 : (a : Int) < (n : Int) := by omega
    have hga : a < gs.length := by rw [TB0.out.ln]; exact han
    have TBA : Hid (∀ W, Below wA.heap.size wA W → TbB W w1.heap.size (.slice ma n mc) n n (Vt.wk lk n) gs) := hid (fun W hW => (TB0.out.below HB.out).below hW)
    obtain ⟨mg, mcap, hmv⟩ : ∃ g c, (Value.slice ma n mc) = .slice (some ⟨g, 0, none⟩) n c := by
     rcases TB0.out.own.2 with ⟨h, h0⟩ | ⟨g, cap, cur, h, -⟩
     · omega
     · exact ⟨g, cap, h⟩
    injection hmv with hm1 _ hm2
    subst hm1 hm2
    have XO : Hid (∀ W, Below wA.heap.size wA W → ∀ i, (h : i < gs.length) → W.cell? ⟨mg, i, none⟩ = some (.slice (some ⟨gs[i], 0, none⟩) n n)) := hid (fun W hW i hi => ((TBA.out W hW).own.cellAt i (by have := TB0.out.ln; omega)).trans (by simp [hi]))
    have XI : Hid (∀ W, Below wA.heap.size wA W → ∀ i j, (h : i < gs.length) → j < n → W.cell? ⟨gs[i], j, none⟩ = some (.bool (Vt.wk lk n i j))) := hid (fun W hW i j hi hj => cell_of_heap ((TBA.out W hW).row i hi) j (rowN_get _ hj))
    have L0 : Hid (wA.ownsRow wA.heap.size 3 1 (.slice none 0 0) 0 (ints (Si.nn (Vt.ofK lk n a 0)))) := hid (World.ownsRow_nil ..)
    have K0 : Hid (true = Vt.isK lk n a 0) := hid rfl
    have L1 : Hid ((Vt.ofK lk n a 0).length = 0) := hid rfl
    go_wp2_with fail
    go_loopw [6, 7, 8] (fun lv iv bv wr => ∃ (b ll : Nat) (I : Bool) (la : Option Addr) (lc : Nat), b ≤ n ∧ bv = .int .i64 b ∧ iv = .bool I ∧ lv = .slice la ll lc ∧ Hid ((Vt.ofK lk n a b).length = ll) ∧ Hid (wr.ownsRow wA.heap.size 3 1 (.slice la ll lc) ll (ints (Si.nn (Vt.ofK lk n a b)))) ∧ Hid (I = Vt.isK lk n a b) ∧ Hid (Below wA.heap.size wA wr)) (fun _ _ bv _ => n - (intOf bv).toNat)
    case atStart => exact ⟨0, 0, true, none, 0, by omega, rfl, rfl, rfl, L1, L0, K0, hid (Below.refl _ _)⟩
    case round =>
     clear L0 K0 L1
     obtain ⟨b, ll, I, la, lc, hb, rfl, rfl, rfl, HLN, HO, HI, HU⟩ := hrel
     obtain ⟨wB, hwB⟩ : ∃ W, W = wr := ⟨_, rfl⟩
     subst hwB
     have hll : ll ≤ n := by have h1 := HLN.out; have := ofK_len lk n a b; omega
     by_cases hbn : b < n
     · have b0 : (0 : Int) ≤ (b : Int) := by omega
       have b1 : (b : Int) < (n : Int) := by omega
       have hgb : b < gs.length := by rw [TB0.out.ln]; exact hbn
       have x0 := XO.out wB HU.out a hga
       have x1 := XI.out wB HU.out a b hga hbn
       have HOS := hid (Vt.ofK_succ lk n a b)
       have HIS := hid (Vt.isK_succ lk n a b)
       obtain ⟨A, hA⟩ : ∃ x, Vt.wk lk n a b = x := ⟨_, rfl⟩
       obtain ⟨D, hD⟩ : ∃ x, Vt.wk lk n b a = x := ⟨_, rfl⟩
       rw [hA] at x1 HOS HIS
       rw [hD] at HIS
       have HDD : Hid (∀ W, Below wA.heap.size wA W → W.cell? ⟨gs[b], a, none⟩ = some (.bool D)) := hid (fun W hW => by rw [← hD]; exact XI.out W hW b a hgb han)
       obtain ⟨ga, hga2⟩ : ∃ g, gs[a] = g := ⟨_, rfl⟩
       obtain ⟨gb, hgb2⟩ : ∃ g, gs[b] = g := ⟨_, rfl⟩
       have XB : Hid (∀ W, Below wA.heap.size wA W → W.cell? ⟨mg, b, none⟩ = some (.slice (some ⟨gb, 0, none⟩) n n)) := hid (fun W hW => by rw [← hgb2]; exact XO.out W hW b hgb)
       rw [hga2] at x0 x1
       rw [hgb2] at HDD
       clear hA hD hga2 hgb2
       cases A with
       | false =>
        have HO2 : Hid (Vt.ofK lk n a (b + 1) = Vt.ofK lk n a b) := hid (by rw [HOS.out]; simp)
        have HI2 : Hid (I = Vt.isK lk n a (b + 1)) := hid (by rw [HIS.out, ← HI.out]; simp)
        go_wp2_with fail
        go_roundw
        case rel => exact ⟨b + 1, ll, I, la, lc, by omega, by go_num, rfl, rfl, by rw [HO2.out]; exact HLN, by rw [HO2.out]; exact HO, HI2, HU⟩
        case measure => simp [intOf]; omega
       | true =>
        have HO2 : Hid (Vt.ofK lk n a (b + 1) = Vt.ofK lk n a b ++ [b]) := hid (by rw [HOS.out]; simp)
        have hsz : wA.heap.size ≤ wB.heap.size := HU.out.size
        go_wp2_with (at_builtin; refine wpList_append_own_at _ rfl _ _ 22 rfl wA.heap.size 3 i0 (.int .i64 0) 1 8 Tryz.underlying22 hi hz0 hz1 hz2 rfl (by decide) (.slice la ll lc) ll _ rfl (HO.out.alloc _) ⟨wB.heap.size, 0, none⟩ 1 1 [.int .i64 (b : Int)] rfl rfl (Go.cell_one_new _ _ _) ?qc3 ?qc4 ?qc5 ?qc6 ?_)
        case qc3 => first | rfl | (intro u hu; simp at hu; subst hu; rfl)
        case qc4 => unfold maxLen; omega
        case qc5 => omega
        case qc6 => first | omega | (simp; omega)
        intro v' w8 hown hgrow hnil hat
        obtain ⟨la', lc', rfl⟩ := own_form3 hown
        have hbb : Below wA.heap.size wB w8 := ((Below.refl _ wB).alloc hsz _).grown hgrow (by simp; omega) (fun g hg => (HO.out.lt g hg).1)
        have HU8 := hid (HU.out.trans hbb)
        have HO8 : Hid (w8.ownsRow wA.heap.size 3 1 (.slice la' (ll + 1) lc') (ll + 1) (ints (Si.nn (Vt.ofK lk n a (b + 1))))) := hid (by rw [HO2.out, nn_app]; exact hown)
        have HL8 : Hid ((Vt.ofK lk n a (b + 1)).length = ll + 1) := hid (by rw [HO2.out, List.length_append, HLN.out]; rfl)
        have y0 := XB.out w8 HU8.out
        have y1 := HDD.out w8 HU8.out
        clear hown hgrow hnil hat hbb x0 x1
        cases I with
        | false =>
         have HI2 : Hid (false = Vt.isK lk n a (b + 1)) := hid (by rw [HIS.out, ← HI.out]; rfl)
         go_wp2_with fail
         go_roundw
         case rel => exact ⟨b + 1, ll + 1, false, la', lc', by omega, by go_num, rfl, rfl, HL8, HO8, HI2, HU8⟩
         case measure => simp [intOf]; omega
        | true =>
         cases D with
         | false =>
          have HI2 : Hid (false = Vt.isK lk n a (b + 1)) := hid (by rw [HIS.out, ← HI.out]; rfl)
          go_wp2_with fail
          go_roundw
          case rel => exact ⟨b + 1, ll + 1, false, la', lc', by omega, by go_num, rfl, rfl, HL8, HO8, HI2, HU8⟩
          case measure => simp [intOf]; omega
         | true =>
          by_cases hab : a ≤ b
          · have t0 : (a : Int) ≤ (b : Int) := by omega
            have HI2 : Hid (true = Vt.isK lk n a (b + 1)) := hid (by rw [HIS.out, ← HI.out, decide_eq_true hab]; rfl)
            clear hab
            go_wp2_with fail
            go_roundw
            case rel => exact ⟨b + 1, ll + 1, true, la', lc', by omega, by go_num, by simp, rfl, HL8, HO8, HI2, HU8⟩
            case measure => simp [intOf]; omega
          · have t0 : ¬ (a : Int) ≤ (b : Int) := by omega
            have HI2 : Hid (false = Vt.isK lk n a (b + 1)) := hid (by rw [HIS.out, ← HI.out, decide_eq_false hab]; rfl)
            clear hab
            go_wp2_with fail
            go_roundw
            case rel => exact ⟨b + 1, ll + 1, false, la', lc', by omega, by go_num, by simp, rfl, HL8, HO8, HI2, HU8⟩
            case measure => simp [intOf]; omega
     · have b9 : ¬ (b : Int) < (n : Int) := by omega
       have heb : b = n := by omega
       have HIn : Hid (I = Vt.isK lk n a n) := hid (by have h := HI.out; rw [heb] at h; exact h)
       have HLn : Hid ((Vt.ofW lk n a).length = ll) := hid (by have h := HLN.out; rw [heb] at h; exact h)
       have HOn : Hid (wB.ownsRow wA.heap.size 3 1 (.slice la ll lc) ll (ints (Si.nn (Vt.ofW lk n a)))) := hid (by have h := HO.out; rw [heb] at h; exact h)
       have HBB := hid (HB.out.trans (HU.out.mono hs2))
       have HRB := hid (HR.out.below HU.out)
       clear HI HLN HO heb hbn
       cases I with
       | false =>
        have HEN := hid (HE.out.no han HIn.out.symm)
        go_wp2_with fail
        go_roundw
        case rel => exact ⟨a + 1, R, oa, oc, by omega, by go_num, by rw [HRL.out], by rw [HRL.out]; exact HRB, HEN, HBB⟩
        case measure => simp [intOf]; omega
       | true =>
        have LK : Hid (∀ W, Below wB.heap.size wB W → Is W (.slice la ll lc) (Si.nn (Vt.ofW lk n a)) ∧ W.ownsRow w2.heap.size 3 1 (.slice la ll lc) ll (ints (Si.nn (Vt.ofW lk n a)))) := hid (fun W hW => ⟨by have h1 := own_belT HOn.out hW; have h2 := Sl.of_own h1 (own_max h1); exact h2, own_bas (own_belT HOn.out hW) hs2⟩)
        have RK : Hid (∀ W, Below wB.heap.size wB W → RL W w2.heap.size w2.heap.size (.slice oa r oc) (R.map Si.nn)) := hid (fun W hW => HRB.out.below hW)
        have N0 : Hid (RL wB wB.heap.size w2.heap.size (.slice none 0 0) ((R.take 0).map Si.nn)) := hid (by rw [List.take_zero]; exact RL.nil ..)
        have C0 : Hid (∀ x ∈ R.take 0, Ve.cmpE x (Vt.ofW lk n a) < 0) := hid (by simp)
        go_wp2_with fail
        go_loopw [9, 10] (fun nv jv wr => ∃ (j : Nat) (na : Option Addr) (nc : Nat), j ≤ r ∧ jv = .int .i64 j ∧ nv = .slice na j nc ∧ Hid (RL wr wB.heap.size w2.heap.size (.slice na j nc) ((R.take j).map Si.nn)) ∧ Hid (∀ x ∈ R.take j, Ve.cmpE x (Vt.ofW lk n a) < 0) ∧ Hid (Below wB.heap.size wB wr)) (fun _ jv _ => r - (intOf jv).toNat)
        case atStart => exact ⟨0, none, 0, by omega, rfl, rfl, N0, C0, hid (Below.refl _ _)⟩
        case round =>
         clear N0 C0
         obtain ⟨j, na, nc, hj, rfl, rfl, HN, HC, HV⟩ := hrel
         obtain ⟨wC, hwC⟩ : ∃ W, W = wr := ⟨_, rfl⟩
         subst hwC
         have HNL : Hid (((R.take j).map Si.nn).length = j) := hid (by have := HRL.out; rw [List.length_map, List.length_take]; omega)
         by_cases hjr : j < r
         · have j0 : (0 : Int) ≤ (j : Int) := by omega
           have j1 : (j : Int) < (r : Int) := by omega
           have hmin : min (j : Int) ((r : Int) - 1) = (j : Int) := by omega
           have hjR : j < R.length := by rw [HRL.out]; exact hjr
           obtain ⟨og, u, eo, -, cu, hu⟩ := (RK.out wC HV.out).row (k := j) (by rw [List.length_map]; exact hjR)
           rw [List.getElem_map] at hu
           subst eo
           obtain ⟨ua, uc, hue, -⟩ := own_slice hu
           rw [nn_len] at hue hu
           subst hue
           have HU2 := hid hu
           have HUL := hid (fun W (hW : Below wC.heap.size wC W) => own_belT hu hW)
           have HLC := hid (HLS.out wC R[j] (Vt.ofW lk n a) _ _ (by have h2 := Sl.of_own hu (own_max hu); exact h2) (LK.out wC HV.out).1)
           have HTS := hid (List.take_succ_eq_append_getElem hjR)
           have HNX : Hid (¬ Ve.cmpE R[j] (Vt.ofW lk n a) < 0 → ∀ h : j < R.length, ¬ Ve.cmpE R[j] (Vt.ofW lk n a) < 0) := hid (fun h _ => h)
           have HCX : Hid (Ve.cmpE R[j] (Vt.ofW lk n a) < 0 → ∀ x ∈ R.take (j + 1), Ve.cmpE x (Vt.ofW lk n a) < 0) := hid (fun h x hx => by
            rw [HTS.out, List.mem_append, List.mem_singleton] at hx
            rcases hx with hx | rfl
            · exact HC.out x hx
            · exact h)
           have HSX : Hid ((R.take (j + 1)).map Si.nn = (R.take j).map Si.nn ++ [Si.nn R[j]]) := hid (by rw [HTS.out, List.map_append]; rfl)
           obtain ⟨rl, hrl⟩ : ∃ n, R[j].length = n := ⟨_, rfl⟩
           rw [hrl] at HLC cu HU2 HUL
           have HRLN : Hid ((Si.nn R[j]).length = rl) := hid (by rw [nn_len, hrl])
           by_cases hless : Ve.cmpE R[j] (Vt.ofW lk n a) < 0
           · rw [decide_eq_true hless] at HLC
             have HC2 := hid (HCX.out hless)
             have og2 : wC.cell? ⟨og, j, none⟩ = some (.slice ua rl uc) := cu
             clear hless hu hrl
             go_wp2_with fail
             go_at_call 73; refine HLC.out.mono ?_; rintro e w5 ⟨rfl, b5⟩
             have lgo := cell_block_lt og2
             have cu5 : w5.cell? ⟨og, j, none⟩ = some (.slice ua rl uc) := (b5.cell (p := ⟨og, j, none⟩) lgo).trans og2
             have HN5 := hid (HN.out.below b5)
             have HV5 := hid (HV.out.trans (b5.mono HV.out.size))
             have HU5 := hid (HUL.out _ b5)
             have hs5 : wB.heap.size ≤ w5.heap.size := HV5.out.size
             clear b5 og2 cu lgo
             go_wp2_with (at_builtin; refine wpList_app_rl rfl (.tmp 69) (.tmp 74) rfl wB.heap.size w2.heap.size (.slice na j nc) j ((R.take j).map Si.nn) HNL.out rfl (HN5.out.alloc _) w5.heap.size 1 (Si.nn (R[j]'(by rw [HRL.out]; exact hjr))) (.slice ua rl uc) rfl (heap_alloc_new _ _) (by rw [HRLN.out]; exact own_belT HU5.out ((Below.refl _ w5).alloc (Nat.le_refl _) _)) ?qd1 ?qd2 ?_)
             case qd1 => omega
             case qd2 => first | omega | (simp; omega)
             intro na' nc' w6 hr6 hgt6 hb6
             have HN6 : Hid (RL w6 wB.heap.size w2.heap.size (.slice na' (j + 1) nc') ((R.take (j + 1)).map Si.nn)) := hid (by rw [HSX.out, List.map_take]; exact hr6)
             have HV6 := hid (HV5.out.trans (((Below.refl _ w5).alloc (Nat.le_refl _) (.cells #[.slice ua rl uc] 22)).mono hs5 |>.trans hb6))
             clear hr6 hgt6 hb6 cu5
             go_wp2_with fail
             go_roundw
             case rel => exact ⟨j + 1, na', nc', by omega, by go_num, rfl, HN6, HC2, HV6⟩
             case measure => simp [intOf]; omega
           · rw [decide_eq_false hless] at HLC
             have HSTOP := hid (HNX.out hless)
             have og2 : wC.cell? ⟨og, j, none⟩ = some (.slice ua rl uc) := cu
             clear hless hu hrl
             go_wp2_with fail
             go_at_call 73; refine HLC.out.mono ?_; rintro e w5 ⟨rfl, b5⟩
             have HN5 := hid (HN.out.below b5)
             have HV5 := hid (HV.out.trans (b5.mono HV.out.size))
             clear b5 og2 cu HLC HU2 HUL HCX HNX HSX HTS HRLN
             have hs5 : wB.heap.size ≤ w5.heap.size := HV5.out.size
             have HLL : Hid ((Si.nn (Vt.ofW lk n a)).length = ll) := hid (by rw [nn_len]; exact HLn.out)
             have hjr9 : j ≤ r := hj
             go_wp2_with (at_builtin; refine wpList_app_rl rfl (.tmp 78) (.tmp 80) rfl wB.heap.size w2.heap.size (.slice na j nc) j ((R.take j).map Si.nn) HNL.out rfl (HN5.out.alloc _) w5.heap.size 1 (Si.nn (Vt.ofW lk n a)) (.slice la ll lc) rfl (heap_alloc_new _ _) (by rw [HLL.out]; exact own_belT (LK.out w5 HV5.out).2 ((Below.refl _ w5).alloc (Nat.le_refl _) _)) ?qd1 ?qd2 ?_)
             case qd1 => omega
             case qd2 => first | omega | (simp; omega)
             intro na' nc' w6 hr6 hgt6 hb6
             have HN6 : Hid (RL w6 wB.heap.size w2.heap.size (.slice na' (j + 1) nc') ((R.take j ++ Vt.ofW lk n a :: (R.drop j).take (j - j)).map Si.nn)) := hid (by rw [Nat.sub_self, List.take_zero, List.map_append, List.map_take]; exact hr6)
             have HV6 := hid (HV5.out.trans (((Below.refl _ w5).alloc (Nat.le_refl _) (.cells #[.slice la ll lc] 22)).mono hs5 |>.trans hb6))
             clear hr6 hgt6 hb6 HN5 HV5
             go_wp2_with fail
             go_loopw [9, 10] (fun nv jv wr => ∃ (t : Nat) (na : Option Addr) (nc : Nat), j ≤ t ∧ t ≤ r ∧ jv = .int .i64 t ∧ nv = .slice na (t + 1) nc ∧ Hid (RL wr wB.heap.size w2.heap.size (.slice na (t + 1) nc) ((R.take j ++ Vt.ofW lk n a :: (R.drop j).take (t - j)).map Si.nn)) ∧ Hid (Below wB.heap.size wB wr)) (fun _ jv _ => r - (intOf jv).toNat)
             case atStart => exact ⟨j, na', nc', by omega, by omega, rfl, rfl, HN6, HV6⟩
             case round =>
              clear HN6 HV6
              obtain ⟨t, na, nc, htj, htr, rfl, rfl, HN, HV⟩ := hrel
              obtain ⟨wD, hwD⟩ : ∃ W, W = wr := ⟨_, rfl⟩
              subst hwD
              by_cases htn : t < r
              · have t0 : (0 : Int) ≤ (t : Int) := by omega
                have t1 : (t : Int) < (r : Int) := by omega
                have htR : t < R.length := by rw [HRL.out]; exact htn
                obtain ⟨og, u, eo, -, cu, hu⟩ := (RK.out wD HV.out).row (k := t) (by rw [List.length_map]; exact htR)
                rw [List.getElem_map] at hu
                obtain ⟨ua, uc, hue, -⟩ := own_slice hu
                rw [nn_len] at hue hu
                subst hue
                try subst eo
                try (injection eo with eo; injection eo with eo; subst eo)
                have HUL := hid (fun W (hW : Below wD.heap.size wD W) => own_belT hu hW)
                have HSX : Hid ((R.take j ++ Vt.ofW lk n a :: (R.drop j).take (t + 1 - j)).map Si.nn = (R.take j ++ Vt.ofW lk n a :: (R.drop j).take (t - j)).map Si.nn ++ [Si.nn R[t]]) := hid (by
                 rw [show t + 1 - j = (t - j) + 1 by omega, List.take_succ_eq_append_getElem (by rw [List.length_drop]; omega), List.getElem_drop]
                 simp only [show j + (t - j) = t by omega]
                 simp)
                have HTL : Hid (((R.take j ++ Vt.ofW lk n a :: (R.drop j).take (t - j)).map Si.nn).length = t + 1) := hid (by
                 have := HRL.out
                 simp only [List.length_map, List.length_append, List.length_cons, List.length_take, List.length_drop]
                 omega)
                obtain ⟨rl2, hrl⟩ : ∃ n, R[t].length = n := ⟨_, rfl⟩
                rw [hrl] at cu HUL
                have HRLN : Hid ((Si.nn R[t]).length = rl2) := hid (by rw [nn_len, hrl])
                have hsD : wB.heap.size ≤ wD.heap.size := HV.out.size
                clear hu hrl
                go_wp2_with (at_builtin; refine wpList_app_rl rfl (.tmp 86) (.tmp 91) rfl wB.heap.size w2.heap.size (.slice na (t + 1) nc) (t + 1) ((R.take j ++ Vt.ofW lk n a :: (R.drop j).take (t - j)).map Si.nn) HTL.out rfl (HN.out.alloc _) wD.heap.size 1 (Si.nn (R[t]'(by rw [HRL.out]; exact htn))) (.slice ua rl2 uc) rfl (heap_alloc_new _ _) (by rw [HRLN.out]; exact HUL.out _ ((Below.refl _ wD).alloc (Nat.le_refl _) _)) ?qd1 ?qd2 ?_)
                case qd1 => omega
                case qd2 => first | omega | (simp; omega)
                intro na2 nc2 w7 hr7 hgt7 hb7
                have HN7 : Hid (RL w7 wB.heap.size w2.heap.size (.slice na2 (t + 1 + 1) nc2) ((R.take j ++ Vt.ofW lk n a :: (R.drop j).take (t + 1 - j)).map Si.nn)) := hid (by rw [HSX.out]; simpa using hr7)
                have HV7 := hid (HV.out.trans (((Below.refl _ wD).alloc (Nat.le_refl _) (.cells #[.slice ua rl2 uc] 22)).mono hsD |>.trans hb7))
                clear hr7 hgt7 hb7 cu
                go_wp2_with fail
                go_roundw
                case rel => exact ⟨t + 1, na2, nc2, by omega, by omega, by go_num, rfl, HN7, HV7⟩
                case measure => simp [intOf]; omega
              · have t9 : ¬ (t : Int) < (r : Int) := by omega
                have het : t = r := by omega
                have HFIN : Hid (R.take j ++ Vt.ofW lk n a :: (R.drop j).take (t - j) = R.take j ++ Vt.ofW lk n a :: R.drop j) := hid (by
                 rw [show (R.drop j).take (t - j) = R.drop j from List.take_of_length_le (by have := HRL.out; rw [List.length_drop]; omega)])
                have HFL : Hid ((R.take j ++ Vt.ofW lk n a :: R.drop j).length = t + 1) := hid (by
                 have := HRL.out
                 simp only [List.length_append, List.length_cons, List.length_take, List.length_drop]
                 omega)
                have HEY := hid (HE.out.yes han HIn.out.symm j HC.out (fun h => by have := HSTOP.out h; omega))
                have HRY : Hid (RL wD w2.heap.size w2.heap.size (.slice na (t + 1) nc) ((R.take j ++ Vt.ofW lk n a :: R.drop j).map Si.nn)) := hid (by
                 have h := HN.out
                 rw [HFIN.out] at h
                 exact h.base (Nat.le_trans hs2 HU.out.size) (Nat.le_refl _))
                have HBY := hid (HBB.out.trans (HV.out.mono (Nat.le_trans hs2 HU.out.size)))
                clear het htn HN HV
                go_wp2_with fail
                go_roundw
                case rel => exact ⟨a + 1, R.take j ++ Vt.ofW lk n a :: R.drop j, na, nc, by omega, by go_num, by rw [HFL.out], by rw [HFL.out]; exact HRY, HEY, HBY⟩
                case measure => simp [intOf]; omega
         · have j9 : ¬ (j : Int) < (r : Int) := by omega
           have HSTOP : Hid (∀ h : j < R.length, ¬ Ve.cmpE R[j] (Vt.ofW lk n a) < 0) := hid (fun h => by have := HRL.out; omega)
           obtain ⟨w5, hw5⟩ : ∃ W, W = wC := ⟨_, rfl⟩
           have HN5 : Hid (RL w5 wB.heap.size w2.heap.size (.slice na j nc) ((R.take j).map Si.nn)) := hid (by rw [hw5]; exact HN.out)
           have HV5 : Hid (Below wB.heap.size wB w5) := hid (by rw [hw5]; exact HV.out)
           subst hw5
           clear HN HV
           have hs5 : wB.heap.size ≤ w5.heap.size := HV5.out.size
           have HLL : Hid ((Si.nn (Vt.ofW lk n a)).length = ll) := hid (by rw [nn_len]; exact HLn.out)
           have hjr9 : j ≤ r := hj
           go_wp2_with (at_builtin; refine wpList_app_rl rfl (.tmp 78) (.tmp 80) rfl wB.heap.size w2.heap.size (.slice na j nc) j ((R.take j).map Si.nn) HNL.out rfl (HN5.out.alloc _) w5.heap.size 1 (Si.nn (Vt.ofW lk n a)) (.slice la ll lc) rfl (heap_alloc_new _ _) (by rw [HLL.out]; exact own_belT (LK.out w5 HV5.out).2 ((Below.refl _ w5).alloc (Nat.le_refl _) _)) ?qd1 ?qd2 ?_)
           case qd1 => omega
           case qd2 => first | omega | (simp; omega)
           intro na' nc' w6 hr6 hgt6 hb6
           have HN6 : Hid (RL w6 wB.heap.size w2.heap.size (.slice na' (j + 1) nc') ((R.take j ++ Vt.ofW lk n a :: (R.drop j).take (j - j)).map Si.nn)) := hid (by rw [Nat.sub_self, List.take_zero, List.map_append, List.map_take]; exact hr6)
           have HV6 := hid (HV5.out.trans (((Below.refl _ w5).alloc (Nat.le_refl _) (.cells #[.slice la ll lc] 22)).mono hs5 |>.trans hb6))
           clear hr6 hgt6 hb6 HN5 HV5
           go_wp2_with fail
           go_loopw [9, 10] (fun nv jv wr => ∃ (t : Nat) (na : Option Addr) (nc : Nat), j ≤ t ∧ t ≤ r ∧ jv = .int .i64 t ∧ nv = .slice na (t + 1) nc ∧ Hid (RL wr wB.heap.size w2.heap.size (.slice na (t + 1) nc) ((R.take j ++ Vt.ofW lk n a :: (R.drop j).take (t - j)).map Si.nn)) ∧ Hid (Below wB.heap.size wB wr)) (fun _ jv _ => r - (intOf jv).toNat)
           case atStart => exact ⟨j, na', nc', by omega, by omega, rfl, rfl, HN6, HV6⟩
           case round =>
            clear HN6 HV6
            obtain ⟨t, na, nc, htj, htr, rfl, rfl, HN, HV⟩ := hrel
            obtain ⟨wD, hwD⟩ : ∃ W, W = wr := ⟨_, rfl⟩
            subst hwD
            by_cases htn : t < r
            · exfalso; omega
            · have t9 : ¬ (t : Int) < (r : Int) := by omega
              have het : t = r := by omega
              have HFIN : Hid (R.take j ++ Vt.ofW lk n a :: (R.drop j).take (t - j) = R.take j ++ Vt.ofW lk n a :: R.drop j) := hid (by
               rw [show (R.drop j).take (t - j) = R.drop j from List.take_of_length_le (by have := HRL.out; rw [List.length_drop]; omega)])
              have HFL : Hid ((R.take j ++ Vt.ofW lk n a :: R.drop j).length = t + 1) := hid (by
               have := HRL.out
               simp only [List.length_append, List.length_cons, List.length_take, List.length_drop]
               omega)
              have HEY := hid (HE.out.yes han HIn.out.symm j HC.out (fun h => by have := HSTOP.out h; omega))
              have HRY : Hid (RL wD w2.heap.size w2.heap.size (.slice na (t + 1) nc) ((R.take j ++ Vt.ofW lk n a :: R.drop j).map Si.nn)) := hid (by
               have h := HN.out
               rw [HFIN.out] at h
               exact h.base (Nat.le_trans hs2 HU.out.size) (Nat.le_refl _))
              have HBY := hid (HBB.out.trans (HV.out.mono (Nat.le_trans hs2 HU.out.size)))
              clear het htn HN HV
              go_wp2_with fail
              go_roundw
              case rel => exact ⟨a + 1, R.take j ++ Vt.ofW lk n a :: R.drop j, na, nc, by omega, by go_num, by rw [HFL.out], by rw [HFL.out]; exact HRY, HEY, HBY⟩
              case measure => simp [intOf]; omega
  · have a9 : ¬ (a : Int) < (n : Int) := by omega
    have hea : a = n := by omega
    have HEN : Hid (Vt.EndsK lk n n R) := hid (by have h := HE.out; rw [hea] at h; exact h)
    clear han hea HE
    go_wp2_with fail
    go_ret
    obtain ⟨sl, h1, h2⟩ := HEN.out.sips hn
    refine ⟨B2.out.trans (HB.out.mono B2.out.size), _, sl, rfl, h1, ?_⟩
    have h3 := HR.out.ll
    rw [h2, List.map_map] at h3
    exact h3
end Go.Proofs.YtfcbcpfnaadpeaaGreatDoor
