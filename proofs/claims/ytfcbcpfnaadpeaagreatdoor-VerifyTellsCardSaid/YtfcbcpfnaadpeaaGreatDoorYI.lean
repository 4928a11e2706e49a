/- Parts Vw of this claim, laid one behind the other: walks and the plain laws behind them; each contract states its own conditions. -/
import Derived.Test.YtfcbcpfnaadpeaaGreatDoorYH
namespace Go.Proofs.YtfcbcpfnaadpeaaGreatDoor
set_option maxRecDepth 100000
set_option maxHeartbeats 64000000
set_option linter.unusedSimpArgs false
set_option linter.unusedVariables false
open Go.RowKit Go.Sort
theorem below_then {a b c : World} (h : Below a.heap.size a b) (k : Below b.heap.size b c) : Below a.heap.size a c := h.trans (k.mono h.size)
def ofL (OS : List (List Nat)) (a : Nat) : List Nat := OS.getD a []
theorem ends_ok {lk : Nat → Nat → Bool} {n : Nat} {of : Nat → List Nat} (hof : ∀ a, a < n → Ve.RZ lk n a (of a)) (hn : n ≤ 64) : EndsOk (Ve.endsN of n) := by
 have hin : ∀ l ∈ Ve.endsN of n, ∃ a, a < n ∧ of a = l := fun l hl => by
  obtain ⟨a, h1, -, h2⟩ := Ve.mem_endsN.1 hl
  exact ⟨a, h1, h2⟩
 refine ⟨Ve.endsN_nodup n, fun l hl => ?_, fun l hl j hj => ?_, fun l hl => ?_⟩
 · obtain ⟨a, h1, rfl⟩ := hin l hl
   exact (hof a h1).so
 · obtain ⟨a, h1, rfl⟩ := hin l hl
   have := (hof a h1).lt h1 j hj
   omega
 · obtain ⟨a, h1, rfl⟩ := hin l hl
   have hnd : (of a).Nodup := by
    rw [List.nodup_iff_pairwise_ne]
    exact (hof a h1).so.imp (fun h e => by omega)
   have := hnd.length_le_of_subset (l₂ := List.range n) (fun j hj => List.mem_range.2 ((hof a h1).lt h1 j hj))
   rw [List.length_range] at this
   omega
def VePost (lk : Nat → Nat → Bool) (n : Nat) (w : World) (e : Ending) (w' : World) : Prop :=
 Below w.heap.size w w' ∧ ∃ v sl, e = .returned v ∧ Pt.Sips lk n sl ∧ Ll w' v (sl.map fun x => Si.nn (Pt.listW x))
theorem vends_any (s : Si.Site) (kv ov zv av sv rv : Value) (B g0 : Nat) (w : World) (h : ZdV w B g0 s kv ov zv av sv rv) (hr : Si.Right s) (hk : Si.Ok s) :
 Calls Tryz.prog 53 #[.pointer (some ⟨B, 0, none⟩)] w (VePost (Si.linked s) s.zones.length w) := by
 have HLK := hid (vlinks_any s kv ov zv av sv rv B g0 w h hr hk)
 have hzn := hk.zn
 have HRC := hid (fun v a W (h : Ll W v (Si.linksL s)) ha => vreach_any s v a W h ha hzn)
 have HLE := hid (Si.linksL_len s)
 have HEO := hid (fun of hof => ends_ok (lk := Si.linked s) (n := s.zones.length) (of := of) hof hzn)
 have HES := hid (fun of hof R hp ho => Ve.ends_sips (lk := Si.linked s) (n := s.zones.length) (of := of) hof hzn (R := R) hp ho)
 obtain ⟨n, e1⟩ : ∃ n, s.zones.length = n := ⟨_, rfl⟩
 rw [e1] at hzn HLE HRC HEO HES
 rw [e1]
 clear h hr hk e1
 obtain ⟨lk, hlk⟩ : ∃ lk, lk = Si.linked s := ⟨_, rfl⟩
 rw [← hlk] at HRC HEO HES
 rw [← hlk]
 clear hlk
 go_enter Tryz.func53, Tryz.ntmps53
 go_wp2_with fail
 go_at_call 130; refine HLK.out.mono ?_; rintro e w1 ⟨lv, rfl, hl, b1⟩
 obtain ⟨la, lc, rfl, hlm⟩ := hl.form
 have HL := hid hl.ll
 rw [HLE.out] at hlm HL
 have HLL : Hid (∀ W, Below w1.heap.size w1 W → Ll W (.slice la n lc) (Si.linksL s)) := hid (fun W hW => HL.out.keep hW)
 have B1 := hid b1
 rw [HLE.out]
 clear hl b1
 have H40 := hid (heap_alloc_new w1 (.cells #[.slice none 0 0] 36))
 have BA0 : Hid (Below w1.heap.size w1 (w1.alloc (.cells #[.slice none 0 0] 36))) := hid ((Below.refl _ w1).alloc (Nat.le_refl _) _)
 have R40 : Hid (RL (w1.alloc (.cells #[.slice none 0 0] 36)) w1.heap.size w1.heap.size (.slice none 0 0) (([] : List (List Nat)).map Si.nn)) := hid (RL.nil ..)
 go_wp2_with fail
 go_loopw [13] (fun iv wr => ∃ (k : Nat) (ov : Value) (OS : List (List Nat)), k ≤ n ∧ iv = .int .i64 k ∧ Hid (OS.length = k) ∧ Hid (∀ i (h : i < OS.length), Ve.RZ lk n i OS[i]) ∧ Hid (wr.heap[w1.heap.size]? = some (.cells #[ov] 36 (0, 0))) ∧
  Hid (RL wr w1.heap.size w1.heap.size ov (OS.map Si.nn)) ∧ Hid (Below w1.heap.size w1 wr)) (fun iv _ => n - (intOf iv).toNat)
 case atStart => exact ⟨0, _, [], by omega, rfl, hid rfl, hid (fun i h => by simp at h), H40, R40, BA0⟩
 case round =>
  clear H40 BA0 R40
  obtain ⟨k, ov, OS, hk, rfl, HOL, HOS, H4, HO, HB⟩ := hrel
  have HKL : Hid ((OS.map Si.nn).length = k) := hid (by rw [List.length_map]; exact HOL.out)
  obtain ⟨oa, oc, hov, hom⟩ := HO.out.form
  rw [HKL.out] at hov hom
  subst hov
  by_cases hkn : k < n
  · have hwr := HB.out.size
    have c4 : wr.cell? ⟨w1.heap.size, 0, none⟩ = some (.slice oa k oc) := cell_of_heap H4.out 0 rfl
    have f4 : wr.frozen? ⟨w1.heap.size, 0, none⟩ = false := free_of_heap H4.out 0
    have HRE : Hid (∀ W, Below wr.heap.size wr W → Calls Tryz.prog 136 #[.slice la n lc, .int .i64 k] W (VrPost lk n k W)) := hid (fun W hW => HRC.out _ k W (HLL.out W (HB.out.trans (hW.mono hwr))) hkn)
    obtain ⟨wo, rfl⟩ : ∃ wo : World, wo = wr := ⟨_, rfl⟩
    go_wp2_with fail
    go_region_law (first | (go_simp; go_at_call 136; refine (HRE.out _ (by (repeat (with_reducible first | exact Below.refl _ _ | refine Below.drew ?_ | refine Below.alloc ?_ (by simp) _)); all_goals fail)).mono ?_; rintro e w5 ⟨b5, fv, l, rfl, hf, hz⟩; have BX : Hid (Below wo.heap.size wo w5) := hid (below_then (a := wo) (by (repeat (with_reducible first | exact Below.refl _ _ | refine Below.drew ?_ | refine Below.alloc ?_ (by simp) _)); all_goals fail) b5); have HF5 := hid (own_base hf.nat hwr); have HZ5 := hid hz; obtain ⟨fa, fc, hfv, hfm⟩ := own_slice HF5.out; obtain ⟨fm, hfn⟩ : ∃ m, (Si.nn l).length = m := ⟨_, rfl⟩; rw [hfn] at hfv hfm; subst hfv; have HO5 := hid (HO.out.below BX.out); have H45 := hid (keep_heap H4.out BX.out); have c45 : w5.cell? ⟨w1.heap.size, 0, none⟩ = some (.slice oa k oc) := cell_of_heap H45.out 0 rfl; have f45 : w5.frozen? ⟨w1.heap.size, 0, none⟩ = false := free_of_heap H45.out 0; have BY := hid (HB.out.trans (BX.out.mono hwr)); have hw5 := BY.out.size; have l45 : w1.heap.size < w5.heap.size := heap_lt H45.out; clear b5 hf hz hfn) | (refine step_app_rl (by rfl) _ _ (by rfl) w1.heap.size w1.heap.size (.slice oa k oc) k (OS.map Si.nn) HKL.out (by rfl) (HO5.out.below (by (repeat (with_reducible first | exact Below.refl _ _ | refine Below.drew ?_ | refine Below.alloc ?_ (by simp) _)); all_goals fail)) _ 1 (Si.nn l) (.slice fa fm fc) (by rfl) (by (repeat (with_reducible first | exact heap_alloc_new _ _ | refine heap_drew ?_)); all_goals fail) (own_below HF5.out (by (repeat (with_reducible first | exact Below.refl _ _ | refine Below.drew ?_ | refine Below.alloc ?_ (by simp) _)); all_goals fail)) (by omega) (by simp; omega) ?_; intro av cv w6 hr6 hgt6 hb6; have HR6 := hid hr6; have H46 := hid (GT.heap hgt6 (keep_heap H45.out (by (repeat (with_reducible first | exact Below.refl _ _ | refine Below.drew ?_ | refine Below.alloc ?_ (by simp) _)); all_goals fail)) (by decide)); have c46 : w6.cell? ⟨w1.heap.size, 0, none⟩ = some (.slice oa k oc) := cell_of_heap H46.out 0 rfl; have f46 : w6.frozen? ⟨w1.heap.size, 0, none⟩ = false := free_of_heap H46.out 0; have BZ := hid ((BY.out.trans (Below.mono (show Below w5.heap.size w5 _ from (by (repeat (with_reducible first | exact Below.refl _ _ | refine Below.drew ?_ | refine Below.alloc ?_ (by simp) _)); all_goals fail)) hw5)).trans hb6); clear hr6 hgt6 hb6))
    all_goals go_wp2_with fail
    all_goals
     go_roundw
     case rel =>
      refine ⟨k + 1, _, OS ++ [l], by omega, by go_num, hid (by rw [List.length_append, HOL.out]; rfl), hid (fun i hi => ?_), hid (set_heap H46.out 0 _), hid ?_, hid (BZ.out.setCell (Nat.le_refl _) _)⟩
      · by_cases h9 : i < OS.length
        · rw [List.getElem_append_left h9]; exact HOS.out i h9
        · have e9 : i = k := by rw [List.length_append, List.length_singleton, HOL.out] at hi; rw [HOL.out] at h9; omega
          subst e9
          rw [List.getElem_append_right (by rw [HOL.out]; omega)]
          simpa using HZ5.out
      · rw [List.map_append]
        exact HR6.out.set H46.out (by decide) (by decide) 0
     case measure => simp [intOf]; omega
  · obtain rfl : n = k := by omega
    have HOF : Hid (∀ a, a < n → Ve.RZ lk n a (ofL OS a)) := hid (fun a ha => by
     have h9 := HOS.out a (by rw [HOL.out]; exact ha)
     unfold ofL
     rw [getD_lt _ _ _ (by rw [HOL.out]; exact ha)]
     exact h9)
    have HEK := hid (HEO.out (ofL OS) HOF.out)
    have HEN := hid (HES.out (ofL OS) HOF.out)
    have HSU := hid (fun k => Ve.endsN_succ (ofL OS) k)
    have HIE : Hid (∀ k, Ve.isEnd (ofL OS) k = (decide ((ofL OS k).head? = some k) && !((ofL OS k).any fun b => !decide (OS.getD b [] = ofL OS k)))) := hid (fun k => by
     unfold Ve.isEnd
     congr 1
     rw [List.not_any_eq_all_not]
     congr 1
     funext b
     simp [ofL])
    have HEL : Hid (∀ k, (Ve.endsN (ofL OS) k).length ≤ k) := hid (fun k => by
     unfold Ve.endsN
     rw [List.length_map]
     have := List.length_filter_le (Ve.isEnd (ofL OS)) (List.range k)
     rwa [List.length_range] at this)
    obtain ⟨w2, rfl⟩ : ∃ wo : World, wo = wr := ⟨_, rfl⟩
    have c4 : w2.cell? ⟨w1.heap.size, 0, none⟩ = some (.slice oa n oc) := cell_of_heap H4.out 0 rfl
    have R0 : Hid (RL w2 w2.heap.size w1.heap.size (.slice none 0 0) ((Ve.endsN (ofL OS) 0).map Si.nn)) := hid (RL.nil ..)
    have hw2 := HB.out.size
    clear hkn
    go_wp2_with fail
    go_loopw [6, 25] (fun vv iv wr => ∃ k : Nat, k ≤ n ∧ iv = .int .i64 k ∧ Hid (RL wr w2.heap.size w1.heap.size vv ((Ve.endsN (ofL OS) k).map Si.nn)) ∧ Hid (Below w2.heap.size w2 wr)) (fun _ iv _ => n - (intOf iv).toNat)
    case atStart => exact ⟨0, by omega, rfl, R0, hid (Below.refl _ _)⟩
    case round =>
     clear R0 c4
     obtain ⟨k, hk, rfl, HR, HB2⟩ := hrel
     obtain ⟨vv, rfl⟩ : ∃ v, v = u6 := ⟨_, rfl⟩
     by_cases hkn : k < n
     · have hko : k < OS.length := by rw [HOL.out]; exact hkn
       obtain ⟨og, u, eoa, hog, cu, hu⟩ := (HO.out.below HB2.out).row (k := k) (by rw [List.length_map]; exact hko)
       subst eoa
       rw [List.getElem_map] at hu
       have HLK2 : Hid (ofL OS k = OS[k]) := hid (getD_lt _ _ _ hko)
       rw [← HLK2.out] at hu
       have HZK := hid (HOF.out k hkn)
       have HSK := hid (HSU.out k)
       have HIK := hid (HIE.out k)
       have HEB := HEL.out k
       obtain ⟨l, hl⟩ : ∃ l, l = ofL OS k := ⟨_, rfl⟩
       rw [← hl] at hu HZK HSK HIK
       have HLL2 := hid hl
       obtain ⟨x, r, hxr⟩ := List.exists_cons_of_ne_nil (List.ne_nil_of_mem HZK.out.self)
       have hln : l.length ≤ n := by
        have hnd : l.Nodup := by
         rw [List.nodup_iff_pairwise_ne]
         exact HZK.out.so.imp (fun h e => by omega)
        have := hnd.length_le_of_subset (l₂ := List.range n) (fun j hj => List.mem_range.2 (HZK.out.lt hkn j hj))
        rwa [List.length_range] at this
       obtain ⟨ua, uc, hus, hum⟩ := own_slice hu
       rw [nn_len] at hus hum hu
       have HXC : Hid (∀ c ∈ l, c < OS.length) := hid (fun c hc => by rw [HOL.out]; exact HZK.out.lt hkn c hc)
       have HU := hid hu
       subst hus
       obtain ⟨ug, e3, c3w⟩ : ∃ ug, ua = some ⟨ug, 0, none⟩ ∧ wr.cell? ⟨ug, 0, none⟩ = some (.int .i64 (x : Int)) := by
        rcases hu.2 with ⟨e, h0⟩ | ⟨g, cap, cur, e, hbg, hg, h3⟩
        · injection e with e1 e2 e3
          rw [hxr] at e2; simp at e2
        · injection e with e1 e2 e3
          refine ⟨g, e1, ?_⟩
          subst e1
          have := hu.cells (g := g) rfl 0 (.int .i64 (x : Int)) (by rw [hxr]; rfl)
          rw [Addr.add_lit, Nat.zero_add] at this
          exact this
       subst e3
       obtain ⟨m, hm⟩ : ∃ m, l.length = m := ⟨_, rfl⟩
       rw [hm] at HU cu hum hln
       have HM := hid hm
       have hm1 : 0 < m := by rw [← hm, hxr]; simp
       have hm2 : (0 : Int) < (m : Int) := by omega
       have k0 : (0 : Int) ≤ (k : Int) := by omega
       have k1 : (k : Int) < (n : Int) := by omega
       have HXR := hid hxr
       have lug : ug < wr.heap.size := cell_block_lt c3w
       obtain ⟨wo, rfl⟩ : ∃ wo : World, wo = wr := ⟨_, rfl⟩
       obtain ⟨W3, hW3⟩ : ∃ W3, W3 = wo.alloc (.cells #[.slice (some ⟨ug, 0, none⟩) m uc] 22) := ⟨_, rfl⟩
       have B3 : Hid (Below wo.heap.size wo W3) := hid (by rw [hW3]; exact (Below.refl _ _).alloc (Nat.le_refl _) _)
       have I3 : Hid (W3.heap[wo.heap.size]? = some (.cells #[.slice (some ⟨ug, 0, none⟩) m uc] 22 (0, 0))) := hid (by rw [hW3]; exact heap_alloc_new _ _)
       have c8 : W3.cell? ⟨wo.heap.size, 0, none⟩ = some (.slice (some ⟨ug, 0, none⟩) m uc) := cell_of_heap I3.out 0 rfl
       have cx : W3.cell? ⟨ug, 0, none⟩ = some (.int .i64 (x : Int)) := (B3.out.cell (p := ⟨ug, 0, none⟩) lug).trans c3w
       have HU3 := hid (own_below HU.out B3.out)
       have HR3 := hid (HR.out.below B3.out)
       have hwo := HB2.out.size
       have BB3 := hid (HB2.out.trans (B3.out.mono hwo))
       have HW3 := hid hW3
       have lw3 : wo.heap.size < W3.heap.size := heap_lt I3.out
       have hw3 := BB3.out.size
       have HI3 : Hid (Is W3 (.slice (some ⟨ug, 0, none⟩) m uc) (Si.nn l)) := hid (Sl.of_own HU3.out (own_max HU3.out))
       have HCF := hid (endsAny l w1.heap.size wo.heap.size _ _ OS W3 (keep_heap H4.out BB3.out) I3.out ((HO.out.below BB3.out).ll) HI3.out HXC.out)
       obtain ⟨G, hG⟩ : ∃ G, G = l.any fun b => !decide (OS.getD b [] = l) := ⟨_, rfl⟩
       rw [← hG] at HCF HIK
       clear hu hl hxr hm hW3 hG
       go_upto_region 12 with fail
       rw [← HW3.out]
       clear cu c3w
       by_cases hx : x = k
       · have t1 : ((x : Int) == (k : Int)) = true := by simp [hx]
         have HIG : Hid (Ve.isEnd (ofL OS) k = !G) := hid (by rw [HIK.out, HXR.out, hx]; simp)
         clear hx
         go_wp2_with fail
         go_at_call 137; refine HCF.out.mono ?_; rintro e w4 ⟨rfl, hd4⟩
         have B4 := hid (hd4.below)
         have I4 := hid (keep_heap I3.out B4.out)
         have HR4 := hid (HR3.out.below B4.out)
         have HU4 := hid (own_below HU3.out B4.out)
         have BB4 := hid (BB3.out.trans (B4.out.mono hw3))
         have hw4 := BB4.out.size
         have c9 : w4.cell? ⟨wo.heap.size, 0, none⟩ = some (.slice (some ⟨ug, 0, none⟩) m uc) := cell_of_heap I4.out 0 rfl
         clear hd4 c8 cx
         cases G with
         | true =>
          have HRN : Hid (RL w4 w2.heap.size w1.heap.size vv ((Ve.endsN (ofL OS) (k + 1)).map Si.nn)) := hid (by rw [HSK.out, HIG.out]; simpa using HR4.out)
          go_wp2_with fail
          go_roundw
          case rel => exact ⟨k + 1, by omega, by go_num, HRN, BB4⟩
          case measure => simp [intOf]; omega
         | false =>
          have HAP : Hid ((Ve.endsN (ofL OS) (k + 1)).map Si.nn = (Ve.endsN (ofL OS) k).map Si.nn ++ [Si.nn l]) := hid (by rw [HSK.out, HIG.out]; simp)
          obtain ⟨ne, hne⟩ : ∃ m, ((Ve.endsN (ofL OS) k).map Si.nn).length = m := ⟨_, rfl⟩
          have hne2 : ne ≤ n := by rw [← hne, List.length_map]; omega
          have HNE := hid hne
          clear hne HEB
          go_wp2_with (at_builtin; refine wpList_app_rl rfl (.tmp 41) (.tmp 43) rfl w2.heap.size w1.heap.size vv ne _ HNE.out rfl (HR4.out.alloc _) w4.heap.size 1 (Si.nn l) (.slice (some ⟨ug, 0, none⟩) m uc) rfl (heap_alloc_new _ _) (by rw [nn_len, HM.out]; exact World.ownsRow.alloc HU4.out _) ?c1 ?c2 ?_)
          case c1 => omega
          case c2 => simp; omega
          intro av cv w5 hr5 hg5 hb5
          have HR5 := hid hr5
          have BB5 : Hid (Below w2.heap.size w2 w5) := hid ((BB4.out.alloc hw4 _).trans hb5)
          have HL5 : Hid ((Ve.endsN (ofL OS) (k + 1)).length = ne + 1) := hid (by
           have h9 := congrArg List.length HAP.out
           rw [List.length_append, HNE.out, List.length_map] at h9
           exact h9)
          clear hr5 hg5 hb5
          go_wp2_with fail
          go_roundw
          case rel => exact ⟨k + 1, by omega, by go_num, hid (by rw [HAP.out]; exact HR5.out), BB5⟩
          case measure => simp [intOf]; omega
       · have t1 : ((x : Int) == (k : Int)) = false := by simp; omega
         have HIG : Hid (Ve.isEnd (ofL OS) k = false) := hid (by rw [HIK.out, HXR.out]; simp [hx])
         have HRN : Hid (RL W3 w2.heap.size w1.heap.size vv ((Ve.endsN (ofL OS) (k + 1)).map Si.nn)) := hid (by rw [HSK.out, HIG.out]; simpa using HR3.out)
         clear hx
         go_wp2_with fail
         go_roundw
         case rel => exact ⟨k + 1, by omega, by go_num, HRN, BB3⟩
         case measure => simp [intOf]; omega
     · obtain rfl : n = k := by omega
       have HEB := HEL.out n
       have hw3 := HB2.out.size
       have HSO := hid (sortE_any w2.heap.size w1.heap.size vv (Ve.endsN (ofL OS) n) wr HEK.out (by omega) HR.out hw3)
       go_wp2_with fail
       go_at_call 139; refine HSO.out.mono ?_; rintro e w3 ⟨rfl, R, hp, ho, hll, b3⟩
       obtain ⟨sl, hs1, hs2⟩ := HEN.out R hp ho
       have HS1 := hid hs1
       have HS2 : Hid (Ll w3 vv (sl.map fun x => Si.nn (Pt.listW x))) := hid (by rw [hs2, List.map_map] at hll; exact hll)
       have B3 := hid (B1.out.trans ((HB.out.trans ((HB2.out.trans b3).mono hw2)).mono B1.out.size))
       clear hp ho hll b3 hs1 hs2
       go_wp2_with fail
       go_ret
       exact ⟨B3.out, vv, sl, rfl, HS1.out, HS2.out⟩
end Go.Proofs.YtfcbcpfnaadpeaaGreatDoor
