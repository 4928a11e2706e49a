/- Parts Ua, Ub of this claim, laid one behind the other: walks and the plain laws behind them; each contract states its own conditions. -/
import Derived.Test.YtfcbcpfnaadpeaaGreatDoorYL
import Derived.Test.YtfcbcpfnaadpeaaGreatDoorYE
import Derived.Test.YtfcbcpfnaadpeaaGreatDoorZN
import Derived.Test.YtfcbcpfnaadpeaaGreatDoorZA
namespace Go.Proofs.YtfcbcpfnaadpeaaGreatDoor
set_option maxRecDepth 100000
set_option maxHeartbeats 64000000
set_option linter.unusedSimpArgs false
set_option linter.unusedVariables false
open Go.RowKit
structure FairV (s : Si.Site) : Prop where
 few : FewP s 80 30
 zn : s.zones.length ≤ 10
 right : Si.Right s
 keep : ∀ z ∈ s.zones, z.keep ≤ z.cells.length
theorem FairV.ok {s : Si.Site} (h : FairV s) : Si.Ok s := h.right.ok h.keep
theorem FewP.names2 {s : Si.Site} {c m : Int} (h : FewP s c m) : Names s :=
 ⟨fun z hz => by have := (h.zn z hz).2; omega, fun p hp => by have := h.ap p hp; omega, fun p hp => by have := h.sf p hp; omega⟩
theorem fair20_any (s : Si.Site) (kv ov zv av sv rv : Value) (w : World) (h : SiV w kv ov zv av sv rv s) :
 Calls Tryz.prog 11 #[siV s kv ov zv av sv rv] w fun e w' => TruePost (FairV s) e ∧ Below w.heap.size w w' := by
 obtain ⟨a1, c1, a2, c2, a3, c3, a4, c4, a5, c5, a6, c6, rfl, rfl, rfl, rfl, rfl, rfl, m1, m2, m3, m4, m5, m6⟩ := h.open
 have HFW := hid (fun W hb => rFewS_any s (.slice a1 s.floor.kind.length c1) (.slice a2 s.floor.out.length c2) (.slice a3 s.zones.length c3) (.slice a4 s.aparts.length c4) (.slice a5 s.shelves.length c5) (.slice a6 s.robots.length c6) 80 30 W (h.keep hb) (by omega))
 have HRT := hid (fun W hb hn hz ha => sRight_any s (.slice a1 s.floor.kind.length c1) (.slice a2 s.floor.out.length c2) (.slice a3 s.zones.length c3) (.slice a4 s.aparts.length c4) (.slice a5 s.shelves.length c5) (.slice a6 s.robots.length c6) W (h.keep hb) hn hz ha)
 obtain ⟨l1, e1⟩ : ∃ n, s.floor.kind.length = n := ⟨_, rfl⟩
 obtain ⟨l2, e2⟩ : ∃ n, s.floor.out.length = n := ⟨_, rfl⟩
 obtain ⟨l3, e3⟩ : ∃ n, s.zones.length = n := ⟨_, rfl⟩
 obtain ⟨l4, e4⟩ : ∃ n, s.aparts.length = n := ⟨_, rfl⟩
 obtain ⟨l5, e5⟩ : ∃ n, s.shelves.length = n := ⟨_, rfl⟩
 obtain ⟨l6, e6⟩ : ∃ n, s.robots.length = n := ⟨_, rfl⟩
 unfold siV at HFW HRT ⊢
 rw [e1, e2, e3, e4, e5, e6] at HFW HRT
 rw [e1, e2, e3, e4, e5, e6]
 have B1 := hid ((Below.refl _ w).alloc (Nat.le_refl _) (.cells #[.int .i64 s.floor.w, .int .i64 s.floor.h, .int .i64 s.floor.d, .slice a1 l1 c1, .slice a2 l2 c2, .slice a3 l3 c3, .slice a4 l4 c4, .slice a5 l5 c5, .slice a6 l6 c6] 30))
 have I0 := hid (heap_alloc_new w (.cells #[.int .i64 s.floor.w, .int .i64 s.floor.h, .int .i64 s.floor.d, .slice a1 l1 c1, .slice a2 l2 c2, .slice a3 l3 c3, .slice a4 l4 c4, .slice a5 l5 c5, .slice a6 l6 c6] 30))
 have E3 := hid e3
 have E4 := hid e4
 clear h e1 e2 e3 e4 e5 e6
 go_enter Tryz.func11, Tryz.ntmps11
 go_wp2_with fail
 go_at_call 44; refine (HFW.out _ B1.out).mono ?_; rintro e w1 ⟨⟨rb, rfl, hrb⟩, b1⟩
 have B2 := hid (B1.out.trans (b1.mono B1.out.size))
 have i1 := keep_heap I0.out b1
 have HRB := hid hrb
 obtain ⟨p0, p1, p2, p3, p4, p5, p6, p7, p8⟩ := cells9 i1
 clear b1 i1 hrb
 cases rb with
 | false =>
  go_wp2_with fail
  go_ret
  exact ⟨TruePost.no _, B2.out⟩
 | true =>
  have HF := hid (HRB.out rfl)
  clear HRB
  by_cases h10 : l3 ≤ 10
  · have t1 : decide ((l3 : Int) ≤ 10) = true := by simp; omega
    have t2 : (l3 : Int) ≤ 10 := by omega
    have HZ10 : Hid (s.zones.length ≤ 10) := hid (by rw [E3.out]; exact h10)
    go_wp2_with fail
    go_at_call 45; refine (HRT.out _ B2.out HF.out.names2 (fun z hz => by have := (HF.out.zn z hz).1; omega) (by have h8 := HF.out.na; have h9 := E4.out; omega)).mono ?_; rintro e w2 ⟨⟨rb, rfl, hrb⟩, b2⟩
    have HRB := hid hrb
    have B3 := hid (B2.out.trans (b2.mono B2.out.size))
    clear b2 hrb
    cases rb with
    | false =>
     go_wp2_with fail
     go_ret
     exact ⟨TruePost.no _, B3.out⟩
    | true =>
     have HG := hid (HRB.out rfl)
     go_wp2_with fail
     go_ret
     exact ⟨⟨true, rfl, fun _ => ⟨HF.out, HZ10.out, HG.out.1, HG.out.2⟩⟩, B3.out⟩
  · have t1 : decide ((l3 : Int) ≤ 10) = false := by simp; omega
    have t2 : ¬ (l3 : Int) ≤ 10 := by omega
    go_wp2_with fail
    go_ret
    exact ⟨TruePost.no _, B2.out⟩
theorem rSame20_any (va vb : Value) (xs ys : List (List Int)) (w : World) (hx : Ll w va xs) (hy : Ll w vb ys) :
 Calls Tryz.prog 17 #[va, vb] w fun e w' => e = .returned (.bool (decide (xs = ys))) ∧ Below w.heap.size w w' := by
 obtain ⟨a, ca, rfl, hma⟩ := hx.form
 obtain ⟨b, cb, rfl, hmb⟩ := hy.form
 have HX := hid hx
 have HY := hid hy
 obtain ⟨G, hG⟩ : ∃ G, G = decide (xs = ys) := ⟨_, rfl⟩
 rw [← hG]
 have HG := hid hG
 by_cases hl : xs.length = ys.length
 · obtain ⟨n, hn⟩ : ∃ n, n = xs.length := ⟨_, rfl⟩
   have HN := hid hn
   have HN2 := hid (show n = ys.length by omega)
   have hn2 : ys.length = n := by omega
   have HG0 : Hid (G = decide (xs.drop 0 = ys.drop 0)) := HG
   rw [← hn] at hma HX ⊢
   rw [hn2] at HY ⊢
   have hne : ((n : Int) != (n : Int)) = false := by simp
   clear hx hy hG hn hn2 hl hmb HG
   go_enter Tryz.func17, Tryz.ntmps17
   go_wp2_with fail
   go_loopw [5] (fun iv wr => ∃ k : Nat, k ≤ n ∧ iv = .int .i64 k ∧ Hid (G = decide (xs.drop k = ys.drop k)) ∧ Hid (Below w.heap.size w wr)) (fun iv _ => n - (intOf iv).toNat)
   case atStart => exact ⟨0, by omega, rfl, HG0, hid (Below.refl _ _)⟩
   case round =>
    obtain ⟨k, hk, rfl, HR, HW⟩ := hrel
    by_cases hkn : k < n
    · have hx : k < xs.length := by rw [← HN.out]; exact hkn
      have hy : k < ys.length := by rw [← HN2.out]; exact hkn
      obtain ⟨b1, o1, x1, e1, p1, hx1⟩ := (HX.out.keep HW.out).cell k hx
      obtain ⟨b2, o2, y1, e2, p2, hy1⟩ := (HY.out.keep HW.out).cell k hy
      subst e1 e2
      have HST := hid (HR.out.trans (vdropl_eq xs ys k hx hy))
      have HC := hid (fun W (hW : Below wr.heap.size wr W) => rSame_any x1 y1 xs[k] ys[k] W (hx1.keep hW) (hy1.keep hW))
      obtain ⟨g, hg⟩ : ∃ g, g = decide (xs[k] = ys[k]) := ⟨_, rfl⟩
      rw [← hg] at HST HC
      obtain ⟨xa, xc, hxs, hxm⟩ := hx1.form
      obtain ⟨ya, yc, hys, hym⟩ := hy1.form
      obtain ⟨n1, hn1⟩ : ∃ n1, n1 = xs[k].length := ⟨_, rfl⟩
      obtain ⟨n2, hn2⟩ : ∃ n1, n1 = ys[k].length := ⟨_, rfl⟩
      rw [← hn1] at hxs hxm
      rw [← hn2] at hys hym
      subst hxs hys
      have kI0 : (0 : Int) ≤ (k : Int) := by omega
      have kI1 : (k : Int) < (n : Int) := by omega
      have lb1 := cell_block_lt p1
      have lb2 := cell_block_lt p2
      obtain ⟨wo, rfl⟩ : ∃ wo : World, wo = wr := ⟨_, rfl⟩
      clear hg hx1 hy1 hn1 hn2
      go_wp2_with fail
      go_region_held3 (fun w' => w'.cell? ⟨b1, o1 + k, none⟩ = some (.slice xa n1 xc) ∧ w'.cell? ⟨b2, o2 + k, none⟩ = some (.slice ya n2 yc)) (go_keep)
       ((go_at_call 28; refine (HC.out _ (by (repeat (with_reducible first | exact Below.refl _ _ | refine Below.drew ?_ | refine Below.alloc ?_ (by simp) _)); all_goals fail)).mono ?_; rintro e w2 ⟨rfl, hb9⟩; have B2 := hid (below_then (a := wo) (by (repeat (with_reducible first | exact Below.refl _ _ | refine Below.drew ?_ | refine Below.alloc ?_ (by simp) _)); all_goals fail) hb9); have z1 := (B2.out.cell (p := ⟨b1, o1 + k, none⟩) lb1).trans p1; have z2 := (B2.out.cell (p := ⟨b2, o2 + k, none⟩) lb2).trans p2; clear hb9))
      all_goals
       have B3 := hid (HW.out.trans (B2.out.mono HW.out.size))
       cases g with
       | true =>
        have HS : Hid (G = decide (xs.drop (k + 1) = ys.drop (k + 1))) := hid (by rw [HST.out, Bool.true_and])
        go_wp2_with fail
        go_roundw
        case rel => exact ⟨k + 1, by omega, by go_num, HS, B3⟩
        case measure => simp [intOf]; omega
       | false =>
        have HS : Hid (G = false) := hid (by rw [HST.out, Bool.false_and])
        go_wp2_with fail
        go_ret
        exact ⟨by rw [HS.out]; rfl, B3.out⟩
    · have HS : Hid (G = true) := hid (by
       rw [HR.out, List.drop_eq_nil_of_le (show xs.length ≤ k by rw [← HN.out]; omega), List.drop_eq_nil_of_le (show ys.length ≤ k by rw [← HN2.out]; omega)]
       simp)
      go_wp2_with fail
      go_ret
      exact ⟨by rw [HS.out]; rfl, HW.out⟩
 · have HS : Hid (G = false) := hid (by rw [hG]; exact decide_eq_false (fun h => hl (by rw [h])))
   have hne : ((xs.length : Int) != (ys.length : Int)) = true := by simp; omega
   obtain ⟨n, hn⟩ : ∃ n, n = xs.length := ⟨_, rfl⟩
   obtain ⟨m, hm⟩ : ∃ n, n = ys.length := ⟨_, rfl⟩
   rw [← hn] at hma hne ⊢
   rw [← hm] at hmb hne ⊢
   clear hx hy hG hn hm hl HX HY HG
   go_enter Tryz.func17, Tryz.ntmps17
   go_wp2_with fail
   go_ret
   exact ⟨by rw [HS.out]; rfl, Below.refl _ _⟩
end Go.Proofs.YtfcbcpfnaadpeaaGreatDoor
