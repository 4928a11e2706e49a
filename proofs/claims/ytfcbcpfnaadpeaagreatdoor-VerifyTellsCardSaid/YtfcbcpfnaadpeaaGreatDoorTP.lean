/- Parts VtL of this claim, laid one behind the other: walks and the plain laws behind them; each contract states its own conditions. -/
import Derived.Test.YtfcbcpfnaadpeaaGreatDoorTN
import Derived.Test.YtfcbcpfnaadpeaaGreatDoorTG
import Derived.Test.YtfcbcpfnaadpeaaGreatDoorZA
import Derived.Test.YtfcbcpfnaadpeaaGreatDoorTO
import Derived.Test.YtfcbcpfnaadpeaaGreatDoorYO
namespace Go.Proofs.YtfcbcpfnaadpeaaGreatDoor
set_option maxRecDepth 100000
set_option maxHeartbeats 64000000
set_option linter.unusedSimpArgs false
set_option linter.unusedVariables false
open Go.RowKit
theorem nodup_bound : ∀ (n : Nat) (l : List Nat), l.Nodup → (∀ x ∈ l, x < n) → l.length ≤ n
 | 0, l, _, h => by
  cases l with
  | nil => simp
  | cons a t => exact absurd (h a (List.mem_cons_self ..)) (by omega)
 | n + 1, l, hn, h => by
  have h1 := Pt.countP_le_one (p := fun x => decide (x = n)) hn (fun x _ y _ hx hy => by simp at hx hy; omega)
  have h2 := nodup_bound n (l.filter fun x => !decide (x = n)) (List.Pairwise.filter _ hn) (fun x hx => by
   have h3 := List.mem_filter.1 hx
   have h4 := h x h3.1
   have h5 : ¬ x = n := by simpa using h3.2
   omega)
  have h3 : ∀ m : List Nat, m.length = m.countP (fun x => decide (x = n)) + (m.filter fun x => !decide (x = n)).length := by
   intro m
   induction m with
   | nil => rfl
   | cons a t ih =>
    rw [List.countP_cons, List.filter_cons]
    by_cases e : a = n <;> simp [e] <;> omega
  have h4 := h3 l
  omega
theorem FairV.capB {s : Si.Site} (h : FairV s) : ∀ z, z < s.zones.length → Si.capOf s z ≤ 1000000 := by
 intro z hz
 rw [Si.capOf_eq hz]
 have h1 := (h.few.zn _ (List.getElem_mem hz)).1
 have h2 := (h.right.zc _ (List.getElem_mem hz)).2.2.1
 omega
theorem sips_rng {s : Si.Site} {sl : List Nat} (h : Pt.Sips (Si.linked s) s.zones.length sl) : ∀ l ∈ (Ve.right s sl).sips, ∀ z ∈ l, 0 ≤ z ∧ z < (s.zones.length : Int) := by
 intro l hl z hz
 obtain ⟨x, hx, rfl⟩ := List.mem_map.1 hl
 obtain ⟨y, hy, rfl⟩ := List.mem_map.1 hz
 have := listW_lt ((h.mem x).1 hx).1 hy
 exact ⟨by show (0 : Int) ≤ (y : Int); omega, by show (y : Int) < _; omega⟩
theorem sips_zero {s : Si.Site} {sl : List Nat} (h : Pt.Sips (Si.linked s) s.zones.length sl) (h0 : s.zones.length = 0) : (Ve.right s sl).sips = [] := by
 have : sl = [] := by
  cases sl with
  | nil => rfl
  | cons x t =>
   exfalso
   obtain ⟨h1, h2⟩ := (h.mem x).1 (List.mem_cons_self ..)
   rw [h0] at h1
   have hx : x = 0 := by omega
   subst hx
   have h3 := h2.1
   simp [Pt.closedW] at h3
 subst this; rfl
theorem sips_size {s : Si.Site} {sl : List Nat} (h : Pt.Sips (Si.linked s) s.zones.length sl) (hz : s.zones.length ≤ 10) : sl.length ≤ 1000000 := by
 have h1 := nodup_bound (2 ^ s.zones.length) sl h.nd fun x hx => ((h.mem x).1 hx).1
 have h3 : 2 ^ s.zones.length ≤ 2 ^ 10 := Nat.pow_le_pow_right (by omega) hz
 omega
theorem heap_three (w : World) (A B C : Obj) : (((w.alloc A).alloc B).alloc C).heap[w.heap.size]? = some A ∧ (((w.alloc A).alloc B).alloc C).heap[w.heap.size + 1]? = some B ∧ (((w.alloc A).alloc B).alloc C).heap[w.heap.size + 2]? = some C ∧ Below w.heap.size w (((w.alloc A).alloc B).alloc C) := by
 refine ⟨?_, ?_, ?_, ((Below.refl _ w).alloc (Nat.le_refl _) A |>.alloc (by simp) B).alloc (by simp; omega) C⟩
 · rw [heap_alloc_old _ _ (by simp; omega), heap_alloc_old _ _ (by simp)]; exact heap_alloc_new _ _
 · rw [heap_alloc_old _ _ (by simp)]
   have := heap_alloc_new (w.alloc A) B
   simpa using this
 · have := heap_alloc_new ((w.alloc A).alloc B) C
   simpa using this
theorem VerifyTells_any (s : Si.Site) (c : Ve.Cert) (st : Bd.State) (kv ov zv av hv bv tv cv ke se shv rov pev dev skv : Value) (a b : Int) (w : World) (h : SiV w kv ov zv av hv bv s) (hc : CertV w tv cv ke se c) (ht : StV w shv rov pev dev skv st) (hE : Env w) :
 Calls Tryz.prog 5 #[siV s kv ov zv av hv bv, .agg (certA c tv cv ke se), .int .i64 a, .int .i64 b, stV st shv rov pev dev skv] w fun e w' => e = .returned (.bool true) ∧ Below w.heap.size w w' := by
 obtain ⟨za, zc, rfl, hzm⟩ := h.zn.form
 obtain ⟨ta, tc, rfl, htm⟩ := hc.tr.form
 obtain ⟨ca, cc, rfl, hcm⟩ := hc.ca.form
 obtain ⟨ka, kc, rfl, hkm⟩ := hc.ke.form
 obtain ⟨sa, sc, rfl, hsm⟩ := hc.si.form
 obtain ⟨ra, rc, rfl, hrm⟩ := ht.ro.form
 have HSM := hid (fun W (hb : Below w.heap.size w W) => small20_any W (hE.below hb))
 have HFA := hid (fun W (hb : Below w.heap.size w W) => fair20_any s _ _ _ _ _ _ W (h.keep hb))
 have HFW := hid (fun W (hb : Below w.heap.size w W) => rFew20_any c _ _ _ _ W (hc.keep hb))
 have HF4 := hid (fun W (hb : Below w.heap.size w W) => rFew4_any st _ _ _ _ _ W (ht.keep hb))
 have HC1 := hid (fun (hf : FairV s) sl W (hb : Below w.heap.size w W) hsl => Check_any s c sl _ _ _ _ _ _ _ _ _ _ W (h.keep hb) hf.right hf.ok (hc.keep hb) hsl)
 have HC2 := hid (fun (hf : FairV s) sl W (hb : Below w.heap.size w W) hsl => rCheck_any s c sl _ _ _ _ _ _ _ _ _ _ W (h.keep hb) hf.right hf.ok (hc.keep hb) hsl)
 have HG1 := hid (fun (hf : FairV s) W (hb : Below w.heap.size w W) => Gets_any s _ _ _ _ _ _ a b W (h.keep hb) hf.right hf.ok)
 have HG2 := hid (fun (hf : FairV s) W (hb : Below w.heap.size w W) => rGets_any s _ _ _ _ _ _ a b W (h.keep hb) hf.ok)
 have HE1 := hid (fun (hf : FairV s) W (hb : Below w.heap.size w W) => Ends_any s _ _ _ _ _ _ W (h.keep hb) hf.right hf.ok)
 have HE2 := hid (fun (hf : FairV s) W (hb : Below w.heap.size w W) => rEnds_any s _ _ _ _ _ _ W (h.keep hb) hf.ok (by have := hf.zn; omega))
 have HRT := hid (fun W (hb : Below w.heap.size w W) (hf : Few4 st) => r14right_any s _ _ _ _ _ _ st _ _ _ _ _ W (h.keep hb) (ht.keep hb) hf)
 have HSP := hid (fun (hf : FairV s) (sl : List Nat) (hsl : Pt.Sips (Si.linked s) s.zones.length sl) (hce : c = Ve.right s sl) W (hb : Below w.heap.size w W) hrc hrl => Spare_any s _ _ _ _ _ _ c.places c.robots (.slice ta c.trans.length tc) (.slice ca c.caps.length cc) (.slice ka c.keeps.length kc) (.slice sa c.sips.length sc) c.sips st _ _ _ _ _ W (h.keep hb) hf.right hf.ok.zs hf.capB (Eq.mp (congrArg (fun l => Is W (.slice ca c.caps.length cc) l) (show c.caps = Si.capsL s by rw [hce]; rfl)) (hc.keep hb).ca) (hc.keep hb).si (by rw [hce]; exact sips_rng hsl) (fun h0 => by rw [hce]; exact sips_zero hsl h0) (by rw [hce]; show (sl.map _).length ≤ _; rw [List.length_map]; exact sips_size hsl hf.zn) (ht.keep hb) hrc hrl)
 have HSR := hid (fun (hf : FairV s) (sl : List Nat) (hsl : Pt.Sips (Si.linked s) s.zones.length sl) (hce : c = Ve.right s sl) W (hb : Below w.heap.size w W) hrl => rSpare_any s _ _ _ _ _ _ c.places c.robots (.slice ta c.trans.length tc) (.slice ca c.caps.length cc) (.slice ka c.keeps.length kc) (.slice sa c.sips.length sc) c.sips st _ _ _ _ _ W (h.keep hb) hf.right hf.capB (Eq.mp (congrArg (fun l => Is W (.slice ca c.caps.length cc) l) (show c.caps = Si.capsL s by rw [hce]; rfl)) (hc.keep hb).ca) (hc.keep hb).si (by rw [hce]; exact sips_rng hsl) (by rw [hce]; show (sl.map _).length ≤ _; rw [List.length_map]; exact sips_size hsl hf.zn) (ht.keep hb) hrl)
 unfold siV at HFA HC1 HC2 HG1 HG2 HE1 HE2 HRT HSP HSR ⊢
 unfold certA at HFW HC1 HC2 ⊢
 unfold stV at HF4 HRT HSP HSR ⊢
 unfold ChkPost at HC1 HC2
 unfold R14Post at HRT
 unfold VePost at HE1 HE2
 obtain ⟨nz, hnz⟩ : ∃ n, s.zones.length = n := ⟨_, rfl⟩
 have HNZ := hid hnz
 obtain ⟨P0, hP⟩ : ∃ P, c.places = P := ⟨_, rfl⟩
 obtain ⟨R0, hR⟩ : ∃ P, c.robots = P := ⟨_, rfl⟩
 obtain ⟨TL, hn1⟩ : ∃ P, c.trans.length = P := ⟨_, rfl⟩
 obtain ⟨CL, hn2⟩ : ∃ P, c.caps.length = P := ⟨_, rfl⟩
 obtain ⟨KL, hn3⟩ : ∃ P, c.keeps.length = P := ⟨_, rfl⟩
 obtain ⟨M, hn4⟩ : ∃ P, c.sips.length = P := ⟨_, rfl⟩
 obtain ⟨NR, hnr⟩ : ∃ P, st.robots.length = P := ⟨_, rfl⟩
 have HNR := hid hnr
 rw [hP, hR, hn1, hn2, hn3, hn4] at HFW HC1 HC2 HSP HSR
 rw [hnr] at HF4 HRT HSP HSR
 rw [hnz] at HFA HC1 HC2 HG1 HG2 HE1 HE2 HRT HSP HSR
 rw [hP, hR, hn1, hn2, hn3, hn4, hnr, hnz]
 obtain ⟨GB, hGB⟩ : ∃ g, getsB s a b = g := ⟨_, rfl⟩
 rw [hGB] at HG1 HG2
 obtain ⟨w2, hw2⟩ : ∃ W, W = ((w.alloc (.cells #[.int .i64 s.floor.w, .int .i64 s.floor.h, .int .i64 s.floor.d, kv, ov, .slice za nz zc, av, hv, bv] 30)).alloc (.cells #[.int .i64 P0, .slice ta TL tc, .slice ca CL cc, .slice ka KL kc, .int .i64 R0, .slice sa M sc] 38)).alloc (.cells #[.int .i64 st.tick, shv, .slice ra NR rc, pev, dev, skv] 58) := ⟨_, rfl⟩
 have HA := heap_three w (.cells #[.int .i64 s.floor.w, .int .i64 s.floor.h, .int .i64 s.floor.d, kv, ov, .slice za nz zc, av, hv, bv] 30) (.cells #[.int .i64 P0, .slice ta TL tc, .slice ca CL cc, .slice ka KL kc, .int .i64 R0, .slice sa M sc] 38) (.cells #[.int .i64 st.tick, shv, .slice ra NR rc, pev, dev, skv] 58)
 rw [← hw2] at HA
 have IS := hid HA.1
 have IC := hid HA.2.1
 have IT := hid HA.2.2.1
 have B2 := hid HA.2.2.2
 have HW2 := hid hw2
 have CS : Hid (∀ W, Below w2.heap.size w2 W → W.heap[w.heap.size]? = some (.cells #[.int .i64 s.floor.w, .int .i64 s.floor.h, .int .i64 s.floor.d, kv, ov, .slice za nz zc, av, hv, bv] 30 (0, 0))) := hid (fun W hW => keep_heap IS.out hW)
 have CC : Hid (∀ W, Below w2.heap.size w2 W → W.heap[w.heap.size + 1]? = some (.cells #[.int .i64 P0, .slice ta TL tc, .slice ca CL cc, .slice ka KL kc, .int .i64 R0, .slice sa M sc] 38 (0, 0))) := hid (fun W hW => keep_heap IC.out hW)
 have CU : Hid (∀ W, Below w2.heap.size w2 W → W.heap[w.heap.size + 2]? = some (.cells #[.int .i64 st.tick, shv, .slice ra NR rc, pev, dev, skv] 58 (0, 0))) := hid (fun W hW => keep_heap IT.out hW)
 have BB : Hid (∀ W, Below w2.heap.size w2 W → Below w.heap.size w W) := hid (fun W hW => B2.out.trans (hW.mono B2.out.size))
 clear h hc ht hE hnz hP hR hn1 hn2 hn3 hn4 hnr hGB hw2 HA hzm htm hcm hkm hsm hrm
 go_enter Tryz.func5, Tryz.ntmps5
 go_upto_region 1 with fail
 rw [← HW2.out]
 go_wp2_with fail
 go_at_call 10; refine (HSM.out _ B2.out).mono ?_; rintro e w3 ⟨rfl, b3⟩
 have U3 := hid b3
 clear b3
 obtain ⟨x0, x1, x2, x3, x4, x5, x6, x7, x8⟩ := cells9 (CS.out _ U3.out)
 go_wp2_with fail
 go_at_call 11; refine (HFA.out _ (BB.out _ U3.out)).mono ?_; rintro e w4 ⟨⟨rb, rfl, hrb⟩, b4⟩
 have U4 := hid (U3.out.trans (b4.mono U3.out.size))
 have HRB := hid hrb
 clear b4 hrb
 clear x0 x1 x2 x3 x4 x5 x6 x7 x8
 cases rb with
 | false =>
  go_wp2_with fail
  go_ret
  exact ⟨rfl, BB.out _ U4.out⟩
 | true =>
  have HF := hid (HRB.out rfl)
  clear HRB
  obtain ⟨c0, c1, c2, c3, c4, c5⟩ := cells6 (CC.out _ U4.out)
  go_wp2_with fail
  go_at_call 22; refine (HFW.out _ (BB.out _ U4.out)).mono ?_; rintro e w5 ⟨⟨rb, rfl, hrb⟩, b5⟩
  have U5 := hid (U4.out.trans (b5.mono U4.out.size))
  clear b5 hrb
  clear c0 c1 c2 c3 c4 c5
  cases rb with
  | false =>
   go_wp2_with fail
   go_ret
   exact ⟨rfl, BB.out _ U5.out⟩
  | true =>
   obtain ⟨t0, t1, t2, t3, t4, t5⟩ := cells6 (CU.out _ U5.out)
   go_wp2_with fail
   go_at_call 23; refine (HF4.out _ (BB.out _ U5.out)).mono ?_; rintro e w6 ⟨⟨rb, rfl, hrb⟩, b6⟩
   have U6 := hid (U5.out.trans (b6.mono U5.out.size))
   have HRB := hid hrb
   clear b6 hrb
   clear t0 t1 t2 t3 t4 t5
   cases rb with
   | false =>
    go_wp2_with fail
    go_ret
    exact ⟨rfl, BB.out _ U6.out⟩
   | true =>
    have H4 := hid (HRB.out rfl)
    clear HRB
    obtain ⟨sl, hsl⟩ := Vt.sips_ex (Si.linked s) (n := s.zones.length) (by have := HF.out.zn; omega)
    obtain ⟨pt, hpt⟩ : ∃ p, Ve.part s sl c = p := ⟨_, rfl⟩
    obtain ⟨er, her⟩ : ∃ p, Ve.errOf pt = p := ⟨_, rfl⟩
    have HPT := hid hpt
    have HER := hid her
    have HSL := hid hsl
    have HSLz : Hid (Pt.Sips (Si.linked s) nz sl) := hid (by rw [← HNZ.out]; exact hsl)
    obtain ⟨EL, hEL⟩ : ∃ l, (sl.map fun x => Si.nn (Pt.listW x)) = l := ⟨_, rfl⟩
    have HEL := hid hEL
    have HS20 : Hid (∀ va vb W, Ll W va EL → Ll W vb EL → Calls Tryz.prog 17 #[va, vb] W fun e w' => e = .returned (.bool true) ∧ Below W.heap.size W w') := hid (fun va vb W h1 h2 => by
     have := rSame20_any va vb EL EL W h1 h2
     rwa [decide_eq_true rfl] at this)
    have hpp : (pt != pt) = false := by simp
    have hee : (er != er) = false := by simp
    clear hEL
    have HC1' := hid (fun W hb => HC1.out HF.out sl W hb HSLz.out)
    have HC2' := hid (fun W hb => HC2.out HF.out sl W hb HSLz.out)
    rw [hpt, her] at HC1' HC2'
    clear hpt her hsl HC1 HC2
    obtain ⟨x0, x1, x2, x3, x4, x5, x6, x7, x8⟩ := cells9 (CS.out _ U6.out)
    obtain ⟨c0, c1, c2, c3, c4, c5⟩ := cells6 (CC.out _ U6.out)
    go_wp2_with fail
    go_at_call 13; refine (HC1'.out _ (BB.out _ U6.out)).mono ?_; rintro e w7 ⟨rfl, b7⟩
    have U7 := hid (U6.out.trans (b7.mono U6.out.size))
    clear b7
    clear x0 x1 x2 x3 x4 x5 x6 x7 x8 c0 c1 c2 c3 c4 c5
    obtain ⟨x0, x1, x2, x3, x4, x5, x6, x7, x8⟩ := cells9 (CS.out _ U7.out)
    obtain ⟨c0, c1, c2, c3, c4, c5⟩ := cells6 (CC.out _ U7.out)
    go_wp2_with fail
    go_at_call 24; refine (HC2'.out _ (BB.out _ U7.out)).mono ?_; rintro e w8 ⟨rfl, b8⟩
    have U8 := hid (U7.out.trans (b8.mono U7.out.size))
    clear b8
    clear x0 x1 x2 x3 x4 x5 x6 x7 x8 c0 c1 c2 c3 c4 c5
    obtain ⟨x0, x1, x2, x3, x4, x5, x6, x7, x8⟩ := cells9 (CS.out _ U8.out)
    go_upto_region 6 with fail
    refine wp_region_held_drew (S := fun W' => W'.cell? ⟨w.heap.size, 0, none⟩ = some (.int .i64 s.floor.w) ∧ W'.cell? ⟨w.heap.size, 1, none⟩ = some (.int .i64 s.floor.h) ∧ W'.cell? ⟨w.heap.size, 2, none⟩ = some (.int .i64 s.floor.d) ∧ W'.cell? ⟨w.heap.size, 3, none⟩ = some (kv) ∧ W'.cell? ⟨w.heap.size, 4, none⟩ = some (ov) ∧ W'.cell? ⟨w.heap.size, 5, none⟩ = some (.slice za nz zc) ∧ W'.cell? ⟨w.heap.size, 6, none⟩ = some (av) ∧ W'.cell? ⟨w.heap.size, 7, none⟩ = some (hv) ∧ W'.cell? ⟨w.heap.size, 8, none⟩ = some (bv)) (by kernel_rfl) ⟨x0, x1, x2, x3, x4, x5, x6, x7, x8⟩ (fun hHeld => ?_)
    obtain ⟨w9, hwx⟩ : ∃ W, W = w8.drew := ⟨_, rfl⟩
    rw [← hwx] at hHeld ⊢
    have U9 : Hid (Below w2.heap.size w2 w9) := hid (U8.out.trans (by subst hwx; exact ⟨rfl, rfl, rfl, Nat.le_refl _, fun _ _ => rfl⟩))
    clear hwx
    refine tk 0 ?_
    try simp only [Act.put, zA, zB, zC, zD, zE, zF]
    refine tk 1 ?_
    try simp only [Act.put, zA, zB, zC, zD, zE, zF]
    refine tk 2 ?_
    try simp only [Act.put, zA, zB, zC, zD, zE, zF]
    refine tk 4 ?_
    try simp only [Act.put, zA, zB, zC, zD, zE, zF]
    refine tk 5 ?_
    try simp only [Act.put, zA, zB, zC, zD, zE, zF]
    refine tk 6 ?_
    try simp only [Act.put, zA, zB, zC, zD, zE, zF]
    refine wpAnyH_ready (rs := [3]) (by kernel_rfl) (by simp) ?_
    refine AllReadyH.cons (o := _) rfl (fun K9 hK => ?_) AllReadyH.nil
    go_simp
    go_at_call 19; with_reducible refine (HG1.out HF.out _ (BB.out _ U9.out)).mono ?_; rintro e wa ⟨rfl, ba⟩
    have Ua := hid (U9.out.trans (ba.mono U9.out.size))
    have SX : wa.cell? ⟨w.heap.size, 0, none⟩ = some (.int .i64 s.floor.w) ∧ wa.cell? ⟨w.heap.size, 1, none⟩ = some (.int .i64 s.floor.h) ∧ wa.cell? ⟨w.heap.size, 2, none⟩ = some (.int .i64 s.floor.d) ∧ wa.cell? ⟨w.heap.size, 3, none⟩ = some (kv) ∧ wa.cell? ⟨w.heap.size, 4, none⟩ = some (ov) ∧ wa.cell? ⟨w.heap.size, 5, none⟩ = some (.slice za nz zc) ∧ wa.cell? ⟨w.heap.size, 6, none⟩ = some (av) ∧ wa.cell? ⟨w.heap.size, 7, none⟩ = some (hv) ∧ wa.cell? ⟨w.heap.size, 8, none⟩ = some (bv) := by
     obtain ⟨k0, k1, k2, k3, k4, k5, k6, k7, k8⟩ := hHeld
     exact ⟨(ba.cell (p := ⟨w.heap.size, 0, none⟩) (cell_block_lt k0)).trans k0, (ba.cell (p := ⟨w.heap.size, 1, none⟩) (cell_block_lt k1)).trans k1, (ba.cell (p := ⟨w.heap.size, 2, none⟩) (cell_block_lt k2)).trans k2, (ba.cell (p := ⟨w.heap.size, 3, none⟩) (cell_block_lt k3)).trans k3, (ba.cell (p := ⟨w.heap.size, 4, none⟩) (cell_block_lt k4)).trans k4, (ba.cell (p := ⟨w.heap.size, 5, none⟩) (cell_block_lt k5)).trans k5, (ba.cell (p := ⟨w.heap.size, 6, none⟩) (cell_block_lt k6)).trans k6, (ba.cell (p := ⟨w.heap.size, 7, none⟩) (cell_block_lt k7)).trans k7, (ba.cell (p := ⟨w.heap.size, 8, none⟩) (cell_block_lt k8)).trans k8⟩
    clear ba hHeld
    go_wp2_with fail
    refine hK.out _ _ SX (fun hHeld => ?_)
    clear hK K9 SX
    try simp only [Act.put, zA, zB, zC, zD, zE, zF]
    refine wpAnyH_ready (rs := [7]) (by kernel_rfl) (by simp) ?_
    refine AllReadyH.cons (o := _) rfl (fun K9 hK => ?_) AllReadyH.nil
    go_simp
    go_at_call 25; with_reducible refine (HG2.out HF.out _ (BB.out _ Ua.out)).mono ?_; rintro e wb ⟨rfl, bb⟩
    have Ub := hid (Ua.out.trans (bb.mono Ua.out.size))
    have SX : wb.cell? ⟨w.heap.size, 0, none⟩ = some (.int .i64 s.floor.w) ∧ wb.cell? ⟨w.heap.size, 1, none⟩ = some (.int .i64 s.floor.h) ∧ wb.cell? ⟨w.heap.size, 2, none⟩ = some (.int .i64 s.floor.d) ∧ wb.cell? ⟨w.heap.size, 3, none⟩ = some (kv) ∧ wb.cell? ⟨w.heap.size, 4, none⟩ = some (ov) ∧ wb.cell? ⟨w.heap.size, 5, none⟩ = some (.slice za nz zc) ∧ wb.cell? ⟨w.heap.size, 6, none⟩ = some (av) ∧ wb.cell? ⟨w.heap.size, 7, none⟩ = some (hv) ∧ wb.cell? ⟨w.heap.size, 8, none⟩ = some (bv) := by
     obtain ⟨k0, k1, k2, k3, k4, k5, k6, k7, k8⟩ := hHeld
     exact ⟨(bb.cell (p := ⟨w.heap.size, 0, none⟩) (cell_block_lt k0)).trans k0, (bb.cell (p := ⟨w.heap.size, 1, none⟩) (cell_block_lt k1)).trans k1, (bb.cell (p := ⟨w.heap.size, 2, none⟩) (cell_block_lt k2)).trans k2, (bb.cell (p := ⟨w.heap.size, 3, none⟩) (cell_block_lt k3)).trans k3, (bb.cell (p := ⟨w.heap.size, 4, none⟩) (cell_block_lt k4)).trans k4, (bb.cell (p := ⟨w.heap.size, 5, none⟩) (cell_block_lt k5)).trans k5, (bb.cell (p := ⟨w.heap.size, 6, none⟩) (cell_block_lt k6)).trans k6, (bb.cell (p := ⟨w.heap.size, 7, none⟩) (cell_block_lt k7)).trans k7, (bb.cell (p := ⟨w.heap.size, 8, none⟩) (cell_block_lt k8)).trans k8⟩
    clear bb hHeld
    go_wp2_with fail
    refine hK.out _ _ SX (fun hHeld => ?_)
    clear hK K9 SX
    try simp only [Act.put, zA, zB, zC, zD, zE, zF]
    have hgg : (GB != GB) = false := by simp
    refine tk 8 ?_
    try simp only [Act.put, zA, zB, zC, zD, zE, zF]
    try simp only [hgg]
    refine tk 9 ?_
    try simp only [Act.put, zA, zB, zC, zD, zE, zF]
    refine tk 10 ?_
    try simp only [Act.put, zA, zB, zC, zD, zE, zF]
    refine tk 12 ?_
    try simp only [Act.put, zA, zB, zC, zD, zE, zF]
    refine wpAnyH_ready (rs := [11]) (by kernel_rfl) (by simp) ?_
    refine AllReadyH.cons (o := _) rfl (fun K9 hK => ?_) AllReadyH.nil
    go_simp
    go_at_call 14; with_reducible refine (HE1.out HF.out _ (BB.out _ Ub.out)).mono ?_; rintro e wc ⟨bc, v1, s1, rfl, hs1, hl1⟩
    have hq1 := Ve.sips_one hs1 HSLz.out
    rw [hq1, HEL.out] at hl1
    obtain ⟨ea, ec, rfl, -⟩ := hl1.form
    have HV1 := hid hl1
    have Uc := hid (Ub.out.trans (bc.mono Ub.out.size))
    have SX : wc.cell? ⟨w.heap.size, 0, none⟩ = some (.int .i64 s.floor.w) ∧ wc.cell? ⟨w.heap.size, 1, none⟩ = some (.int .i64 s.floor.h) ∧ wc.cell? ⟨w.heap.size, 2, none⟩ = some (.int .i64 s.floor.d) ∧ wc.cell? ⟨w.heap.size, 3, none⟩ = some (kv) ∧ wc.cell? ⟨w.heap.size, 4, none⟩ = some (ov) ∧ wc.cell? ⟨w.heap.size, 5, none⟩ = some (.slice za nz zc) ∧ wc.cell? ⟨w.heap.size, 6, none⟩ = some (av) ∧ wc.cell? ⟨w.heap.size, 7, none⟩ = some (hv) ∧ wc.cell? ⟨w.heap.size, 8, none⟩ = some (bv) := by
     obtain ⟨k0, k1, k2, k3, k4, k5, k6, k7, k8⟩ := hHeld
     exact ⟨(bc.cell (p := ⟨w.heap.size, 0, none⟩) (cell_block_lt k0)).trans k0, (bc.cell (p := ⟨w.heap.size, 1, none⟩) (cell_block_lt k1)).trans k1, (bc.cell (p := ⟨w.heap.size, 2, none⟩) (cell_block_lt k2)).trans k2, (bc.cell (p := ⟨w.heap.size, 3, none⟩) (cell_block_lt k3)).trans k3, (bc.cell (p := ⟨w.heap.size, 4, none⟩) (cell_block_lt k4)).trans k4, (bc.cell (p := ⟨w.heap.size, 5, none⟩) (cell_block_lt k5)).trans k5, (bc.cell (p := ⟨w.heap.size, 6, none⟩) (cell_block_lt k6)).trans k6, (bc.cell (p := ⟨w.heap.size, 7, none⟩) (cell_block_lt k7)).trans k7, (bc.cell (p := ⟨w.heap.size, 8, none⟩) (cell_block_lt k8)).trans k8⟩
    clear bc hHeld
    clear hs1 hl1 hq1
    go_wp2_with fail
    refine hK.out _ _ SX (fun hHeld => ?_)
    clear hK K9 SX
    try simp only [Act.put, zA, zB, zC, zD, zE, zF]
    refine wpAnyH_ready (rs := [13]) (by kernel_rfl) (by simp) ?_
    refine AllReadyH.cons (o := _) rfl (fun K9 hK => ?_) AllReadyH.nil
    go_simp
    go_at_call 26; with_reducible refine (HE2.out HF.out _ (BB.out _ Uc.out)).mono ?_; rintro e wd ⟨bd, v2, s2, rfl, hs2, hl2⟩
    have hq2 := Ve.sips_one hs2 HSLz.out
    rw [hq2, HEL.out] at hl2
    obtain ⟨fa, fc, rfl, -⟩ := hl2.form
    have HSS := hid (HS20.out _ _ wd (HV1.out.keep bd) hl2)
    have Ud := hid (Uc.out.trans (bd.mono Uc.out.size))
    have SX : wd.cell? ⟨w.heap.size, 0, none⟩ = some (.int .i64 s.floor.w) ∧ wd.cell? ⟨w.heap.size, 1, none⟩ = some (.int .i64 s.floor.h) ∧ wd.cell? ⟨w.heap.size, 2, none⟩ = some (.int .i64 s.floor.d) ∧ wd.cell? ⟨w.heap.size, 3, none⟩ = some (kv) ∧ wd.cell? ⟨w.heap.size, 4, none⟩ = some (ov) ∧ wd.cell? ⟨w.heap.size, 5, none⟩ = some (.slice za nz zc) ∧ wd.cell? ⟨w.heap.size, 6, none⟩ = some (av) ∧ wd.cell? ⟨w.heap.size, 7, none⟩ = some (hv) ∧ wd.cell? ⟨w.heap.size, 8, none⟩ = some (bv) := by
     obtain ⟨k0, k1, k2, k3, k4, k5, k6, k7, k8⟩ := hHeld
     exact ⟨(bd.cell (p := ⟨w.heap.size, 0, none⟩) (cell_block_lt k0)).trans k0, (bd.cell (p := ⟨w.heap.size, 1, none⟩) (cell_block_lt k1)).trans k1, (bd.cell (p := ⟨w.heap.size, 2, none⟩) (cell_block_lt k2)).trans k2, (bd.cell (p := ⟨w.heap.size, 3, none⟩) (cell_block_lt k3)).trans k3, (bd.cell (p := ⟨w.heap.size, 4, none⟩) (cell_block_lt k4)).trans k4, (bd.cell (p := ⟨w.heap.size, 5, none⟩) (cell_block_lt k5)).trans k5, (bd.cell (p := ⟨w.heap.size, 6, none⟩) (cell_block_lt k6)).trans k6, (bd.cell (p := ⟨w.heap.size, 7, none⟩) (cell_block_lt k7)).trans k7, (bd.cell (p := ⟨w.heap.size, 8, none⟩) (cell_block_lt k8)).trans k8⟩
    clear bd hHeld
    clear hs2 hl2 HV1 hq2
    go_wp2_with fail
    refine hK.out _ _ SX (fun hHeld => ?_)
    clear hK K9 SX
    try simp only [Act.put, zA, zB, zC, zD, zE, zF]
    refine wpAnyH_ready (rs := [14]) (by kernel_rfl) (by simp) ?_
    refine AllReadyH.cons (o := _) rfl (fun K9 hK => ?_) AllReadyH.nil
    go_simp
    go_at_call 17; with_reducible refine HSS.out.mono ?_; rintro e we ⟨rfl, be⟩
    have Ue := hid (Ud.out.trans (be.mono Ud.out.size))
    have SX : we.cell? ⟨w.heap.size, 0, none⟩ = some (.int .i64 s.floor.w) ∧ we.cell? ⟨w.heap.size, 1, none⟩ = some (.int .i64 s.floor.h) ∧ we.cell? ⟨w.heap.size, 2, none⟩ = some (.int .i64 s.floor.d) ∧ we.cell? ⟨w.heap.size, 3, none⟩ = some (kv) ∧ we.cell? ⟨w.heap.size, 4, none⟩ = some (ov) ∧ we.cell? ⟨w.heap.size, 5, none⟩ = some (.slice za nz zc) ∧ we.cell? ⟨w.heap.size, 6, none⟩ = some (av) ∧ we.cell? ⟨w.heap.size, 7, none⟩ = some (hv) ∧ we.cell? ⟨w.heap.size, 8, none⟩ = some (bv) := by
     obtain ⟨k0, k1, k2, k3, k4, k5, k6, k7, k8⟩ := hHeld
     exact ⟨(be.cell (p := ⟨w.heap.size, 0, none⟩) (cell_block_lt k0)).trans k0, (be.cell (p := ⟨w.heap.size, 1, none⟩) (cell_block_lt k1)).trans k1, (be.cell (p := ⟨w.heap.size, 2, none⟩) (cell_block_lt k2)).trans k2, (be.cell (p := ⟨w.heap.size, 3, none⟩) (cell_block_lt k3)).trans k3, (be.cell (p := ⟨w.heap.size, 4, none⟩) (cell_block_lt k4)).trans k4, (be.cell (p := ⟨w.heap.size, 5, none⟩) (cell_block_lt k5)).trans k5, (be.cell (p := ⟨w.heap.size, 6, none⟩) (cell_block_lt k6)).trans k6, (be.cell (p := ⟨w.heap.size, 7, none⟩) (cell_block_lt k7)).trans k7, (be.cell (p := ⟨w.heap.size, 8, none⟩) (cell_block_lt k8)).trans k8⟩
    clear be hHeld
    clear HSS
    go_wp2_with fail
    refine hK.out _ _ SX (fun hHeld => ?_)
    clear hK K9 SX
    try simp only [Act.put, zA, zB, zC, zD, zE, zF]
    refine tk 15 ?_
    try simp only [Act.put, zA, zB, zC, zD, zE, zF]
    refine tk 16 ?_
    try simp only [Act.put, zA, zB, zC, zD, zE, zF]
    refine tk 17 ?_
    try simp only [Act.put, zA, zB, zC, zD, zE, zF]
    refine tk 18 ?_
    try simp only [Act.put, zA, zB, zC, zD, zE, zF]
    refine tk 19 ?_
    try simp only [Act.put, zA, zB, zC, zD, zE, zF]
    try simp only [hpp]
    refine tk 20 ?_
    try simp only [Act.put, zA, zB, zC, zD, zE, zF]
    refine tk 21 ?_
    try simp only [Act.put, zA, zB, zC, zD, zE, zF]
    refine tk 22 ?_
    try simp only [Act.put, zA, zB, zC, zD, zE, zF]
    refine tk 23 ?_
    try simp only [Act.put, zA, zB, zC, zD, zE, zF]
    refine tk 24 ?_
    try simp only [Act.put, zA, zB, zC, zD, zE, zF]
    try simp only [hee]
    refine tk 25 ?_
    try simp only [Act.put, zA, zB, zC, zD, zE, zF]
    refine tk 26 ?_
    try simp only [Act.put, zA, zB, zC, zD, zE, zF]
    refine wpAnyH_done (by kernel_rfl) ?_ _
    clear hHeld
    clear x0 x1 x2 x3 x4 x5 x6 x7 x8
    have IS9 := hid (CS.out _ Ue.out)
    by_cases hp1 : pt = -1
    case neg =>
     have he9 : er = 25 := by rw [← HER.out]; unfold Ve.errOf; rw [if_neg hp1]
     subst he9
     go_wp2_with fail
     go_ret
     exact ⟨rfl, BB.out _ Ue.out⟩
    have he9 : er = 0 := by rw [← HER.out]; unfold Ve.errOf; rw [if_pos hp1]
    subst he9
    have hce : c = Ve.right s sl := (Ve.part_ok.1 (HPT.out.trans hp1)).1
    have HSP2 := hid (fun W hb hrc hrl => HSP.out HF.out sl HSLz.out hce W hb hrc hrl)
    have HSR2 := hid (fun W hb hrl => HSR.out HF.out sl HSLz.out hce W hb hrl)
    clear hce HSP HSR IS9
    obtain ⟨x0, x1, x2, x3, x4, x5, x6, x7, x8⟩ := cells9 (CS.out _ Ue.out)
    obtain ⟨t0, t1, t2, t3, t4, t5⟩ := cells6 (CU.out _ Ue.out)
    go_wp2_with fail
    go_at_call 27; refine (HRT.out _ (BB.out _ Ue.out) H4.out).mono ?_; rintro e wf ⟨⟨rb, rfl, hrb⟩, bf⟩
    have Uf := hid (Ue.out.trans (bf.mono Ue.out.size))
    have HRB := hid hrb
    clear bf hrb
    clear x0 x1 x2 x3 x4 x5 x6 x7 x8 t0 t1 t2 t3 t4 t5
    cases rb with
    | false =>
     go_wp2_with fail
     go_ret
     exact ⟨rfl, BB.out _ Uf.out⟩
    | true =>
     have hrl : NR ≤ 1000 := by have := H4.out.ro; have := HNR.out; omega
     have HSP3 := hid (fun W hb => HSP2.out W hb (HRB.out rfl) hrl)
     have HSR3 := hid (fun W hb => HSR2.out W hb hrl)
     obtain ⟨RL, hRL⟩ : ∃ l, c.sips.map (Si.spareOf (Si.leftL s (st.robots.map (·.cell)) st.robots.length)) = l := ⟨_, rfl⟩
     have hRL2 := hRL
     rw [HNR.out] at hRL2
     rw [hRL2] at HSP3 HSR3
     have HS7 : Hid (∀ va vb W, Is W va RL → Is W vb RL → Calls Tryz.prog 28 #[va, vb] W fun e w' => e = .returned (.bool true) ∧ Below W.heap.size W w') := hid (fun va vb W h1 h2 => by
      have := rSame_any va vb RL RL W h1 h2
      rwa [decide_eq_true rfl] at this)
     clear HRB HSP2 HSR2 hRL hRL2 hrl
     obtain ⟨x0, x1, x2, x3, x4, x5, x6, x7, x8⟩ := cells9 (CS.out _ Uf.out)
     obtain ⟨c0, c1, c2, c3, c4, c5⟩ := cells6 (CC.out _ Uf.out)
     obtain ⟨t0, t1, t2, t3, t4, t5⟩ := cells6 (CU.out _ Uf.out)
     go_upto_region 10 with fail
     refine wp_region_held_drew (S := fun W' => W'.cell? ⟨w.heap.size, 0, none⟩ = some (.int .i64 s.floor.w) ∧ W'.cell? ⟨w.heap.size, 1, none⟩ = some (.int .i64 s.floor.h) ∧ W'.cell? ⟨w.heap.size, 2, none⟩ = some (.int .i64 s.floor.d) ∧ W'.cell? ⟨w.heap.size, 3, none⟩ = some (kv) ∧ W'.cell? ⟨w.heap.size, 4, none⟩ = some (ov) ∧ W'.cell? ⟨w.heap.size, 5, none⟩ = some (.slice za nz zc) ∧ W'.cell? ⟨w.heap.size, 6, none⟩ = some (av) ∧ W'.cell? ⟨w.heap.size, 7, none⟩ = some (hv) ∧ W'.cell? ⟨w.heap.size, 8, none⟩ = some (bv) ∧ W'.cell? ⟨w.heap.size + 1, 0, none⟩ = some (.int .i64 P0) ∧ W'.cell? ⟨w.heap.size + 1, 1, none⟩ = some (.slice ta TL tc) ∧ W'.cell? ⟨w.heap.size + 1, 2, none⟩ = some (.slice ca CL cc) ∧ W'.cell? ⟨w.heap.size + 1, 3, none⟩ = some (.slice ka KL kc) ∧ W'.cell? ⟨w.heap.size + 1, 4, none⟩ = some (.int .i64 R0) ∧ W'.cell? ⟨w.heap.size + 1, 5, none⟩ = some (.slice sa M sc) ∧ W'.cell? ⟨w.heap.size + 2, 0, none⟩ = some (.int .i64 st.tick) ∧ W'.cell? ⟨w.heap.size + 2, 1, none⟩ = some (shv) ∧ W'.cell? ⟨w.heap.size + 2, 2, none⟩ = some (.slice ra NR rc) ∧ W'.cell? ⟨w.heap.size + 2, 3, none⟩ = some (pev) ∧ W'.cell? ⟨w.heap.size + 2, 4, none⟩ = some (dev) ∧ W'.cell? ⟨w.heap.size + 2, 5, none⟩ = some (skv)) (by kernel_rfl) ⟨x0, x1, x2, x3, x4, x5, x6, x7, x8, c0, c1, c2, c3, c4, c5, t0, t1, t2, t3, t4, t5⟩ (fun hHeld => ?_)
     obtain ⟨wg, hwx⟩ : ∃ W, W = wf.drew := ⟨_, rfl⟩
     rw [← hwx] at hHeld ⊢
     have Ug : Hid (Below w2.heap.size w2 wg) := hid (Uf.out.trans (by subst hwx; exact ⟨rfl, rfl, rfl, Nat.le_refl _, fun _ _ => rfl⟩))
     clear hwx
     refine tk 0 ?_
     try simp only [Act.put, zA, zB, zC, zD, zE, zF]
     refine tk 1 ?_
     try simp only [Act.put, zA, zB, zC, zD, zE, zF]
     refine tk 2 ?_
     try simp only [Act.put, zA, zB, zC, zD, zE, zF]
     refine tk 3 ?_
     try simp only [Act.put, zA, zB, zC, zD, zE, zF]
     refine tk 4 ?_
     try simp only [Act.put, zA, zB, zC, zD, zE, zF]
     refine tk 6 ?_
     try simp only [Act.put, zA, zB, zC, zD, zE, zF]
     refine tk 7 ?_
     try simp only [Act.put, zA, zB, zC, zD, zE, zF]
     refine tk 8 ?_
     try simp only [Act.put, zA, zB, zC, zD, zE, zF]
     refine wpAnyH_ready (rs := [5]) (by kernel_rfl) (by simp) ?_
     refine AllReadyH.cons (o := _) rfl (fun K9 hK => ?_) AllReadyH.nil
     go_simp
     go_at_call 29; with_reducible refine (HSP3.out _ (BB.out _ Ug.out)).mono ?_; rintro e wh ⟨⟨v1, rfl, hl1⟩, bh⟩
     obtain ⟨ga, gc, rfl, -⟩ := hl1.form
     have HV1 := hid hl1
     have Uh := hid (Ug.out.trans (bh.mono Ug.out.size))
     have SX : wh.cell? ⟨w.heap.size, 0, none⟩ = some (.int .i64 s.floor.w) ∧ wh.cell? ⟨w.heap.size, 1, none⟩ = some (.int .i64 s.floor.h) ∧ wh.cell? ⟨w.heap.size, 2, none⟩ = some (.int .i64 s.floor.d) ∧ wh.cell? ⟨w.heap.size, 3, none⟩ = some (kv) ∧ wh.cell? ⟨w.heap.size, 4, none⟩ = some (ov) ∧ wh.cell? ⟨w.heap.size, 5, none⟩ = some (.slice za nz zc) ∧ wh.cell? ⟨w.heap.size, 6, none⟩ = some (av) ∧ wh.cell? ⟨w.heap.size, 7, none⟩ = some (hv) ∧ wh.cell? ⟨w.heap.size, 8, none⟩ = some (bv) ∧ wh.cell? ⟨w.heap.size + 1, 0, none⟩ = some (.int .i64 P0) ∧ wh.cell? ⟨w.heap.size + 1, 1, none⟩ = some (.slice ta TL tc) ∧ wh.cell? ⟨w.heap.size + 1, 2, none⟩ = some (.slice ca CL cc) ∧ wh.cell? ⟨w.heap.size + 1, 3, none⟩ = some (.slice ka KL kc) ∧ wh.cell? ⟨w.heap.size + 1, 4, none⟩ = some (.int .i64 R0) ∧ wh.cell? ⟨w.heap.size + 1, 5, none⟩ = some (.slice sa M sc) ∧ wh.cell? ⟨w.heap.size + 2, 0, none⟩ = some (.int .i64 st.tick) ∧ wh.cell? ⟨w.heap.size + 2, 1, none⟩ = some (shv) ∧ wh.cell? ⟨w.heap.size + 2, 2, none⟩ = some (.slice ra NR rc) ∧ wh.cell? ⟨w.heap.size + 2, 3, none⟩ = some (pev) ∧ wh.cell? ⟨w.heap.size + 2, 4, none⟩ = some (dev) ∧ wh.cell? ⟨w.heap.size + 2, 5, none⟩ = some (skv) := by
      obtain ⟨k0, k1, k2, k3, k4, k5, k6, k7, k8, k9, k10, k11, k12, k13, k14, k15, k16, k17, k18, k19, k20⟩ := hHeld
      exact ⟨(bh.cell (p := ⟨w.heap.size, 0, none⟩) (cell_block_lt k0)).trans k0, (bh.cell (p := ⟨w.heap.size, 1, none⟩) (cell_block_lt k1)).trans k1, (bh.cell (p := ⟨w.heap.size, 2, none⟩) (cell_block_lt k2)).trans k2, (bh.cell (p := ⟨w.heap.size, 3, none⟩) (cell_block_lt k3)).trans k3, (bh.cell (p := ⟨w.heap.size, 4, none⟩) (cell_block_lt k4)).trans k4, (bh.cell (p := ⟨w.heap.size, 5, none⟩) (cell_block_lt k5)).trans k5, (bh.cell (p := ⟨w.heap.size, 6, none⟩) (cell_block_lt k6)).trans k6, (bh.cell (p := ⟨w.heap.size, 7, none⟩) (cell_block_lt k7)).trans k7, (bh.cell (p := ⟨w.heap.size, 8, none⟩) (cell_block_lt k8)).trans k8, (bh.cell (p := ⟨w.heap.size + 1, 0, none⟩) (cell_block_lt k9)).trans k9, (bh.cell (p := ⟨w.heap.size + 1, 1, none⟩) (cell_block_lt k10)).trans k10, (bh.cell (p := ⟨w.heap.size + 1, 2, none⟩) (cell_block_lt k11)).trans k11, (bh.cell (p := ⟨w.heap.size + 1, 3, none⟩) (cell_block_lt k12)).trans k12, (bh.cell (p := ⟨w.heap.size + 1, 4, none⟩) (cell_block_lt k13)).trans k13, (bh.cell (p := ⟨w.heap.size + 1, 5, none⟩) (cell_block_lt k14)).trans k14, (bh.cell (p := ⟨w.heap.size + 2, 0, none⟩) (cell_block_lt k15)).trans k15, (bh.cell (p := ⟨w.heap.size + 2, 1, none⟩) (cell_block_lt k16)).trans k16, (bh.cell (p := ⟨w.heap.size + 2, 2, none⟩) (cell_block_lt k17)).trans k17, (bh.cell (p := ⟨w.heap.size + 2, 3, none⟩) (cell_block_lt k18)).trans k18, (bh.cell (p := ⟨w.heap.size + 2, 4, none⟩) (cell_block_lt k19)).trans k19, (bh.cell (p := ⟨w.heap.size + 2, 5, none⟩) (cell_block_lt k20)).trans k20⟩
     clear bh hHeld
     clear hl1
     go_wp2_with fail
     refine hK.out _ _ SX (fun hHeld => ?_)
     clear hK K9 SX
     try simp only [Act.put, zA, zB, zC, zD, zE, zF]
     refine wpAnyH_ready (rs := [9]) (by kernel_rfl) (by simp) ?_
     refine AllReadyH.cons (o := _) rfl (fun K9 hK => ?_) AllReadyH.nil
     go_simp
     go_at_call 30; with_reducible refine (HSR3.out _ (BB.out _ Uh.out)).mono ?_; rintro e wi ⟨⟨v2, rfl, hl2⟩, bi⟩
     obtain ⟨ha, hc, rfl, -⟩ := hl2.form
     have HSS := hid (HS7.out _ _ wi (HV1.out.keep bi) hl2)
     have Ui := hid (Uh.out.trans (bi.mono Uh.out.size))
     have SX : wi.cell? ⟨w.heap.size, 0, none⟩ = some (.int .i64 s.floor.w) ∧ wi.cell? ⟨w.heap.size, 1, none⟩ = some (.int .i64 s.floor.h) ∧ wi.cell? ⟨w.heap.size, 2, none⟩ = some (.int .i64 s.floor.d) ∧ wi.cell? ⟨w.heap.size, 3, none⟩ = some (kv) ∧ wi.cell? ⟨w.heap.size, 4, none⟩ = some (ov) ∧ wi.cell? ⟨w.heap.size, 5, none⟩ = some (.slice za nz zc) ∧ wi.cell? ⟨w.heap.size, 6, none⟩ = some (av) ∧ wi.cell? ⟨w.heap.size, 7, none⟩ = some (hv) ∧ wi.cell? ⟨w.heap.size, 8, none⟩ = some (bv) ∧ wi.cell? ⟨w.heap.size + 1, 0, none⟩ = some (.int .i64 P0) ∧ wi.cell? ⟨w.heap.size + 1, 1, none⟩ = some (.slice ta TL tc) ∧ wi.cell? ⟨w.heap.size + 1, 2, none⟩ = some (.slice ca CL cc) ∧ wi.cell? ⟨w.heap.size + 1, 3, none⟩ = some (.slice ka KL kc) ∧ wi.cell? ⟨w.heap.size + 1, 4, none⟩ = some (.int .i64 R0) ∧ wi.cell? ⟨w.heap.size + 1, 5, none⟩ = some (.slice sa M sc) ∧ wi.cell? ⟨w.heap.size + 2, 0, none⟩ = some (.int .i64 st.tick) ∧ wi.cell? ⟨w.heap.size + 2, 1, none⟩ = some (shv) ∧ wi.cell? ⟨w.heap.size + 2, 2, none⟩ = some (.slice ra NR rc) ∧ wi.cell? ⟨w.heap.size + 2, 3, none⟩ = some (pev) ∧ wi.cell? ⟨w.heap.size + 2, 4, none⟩ = some (dev) ∧ wi.cell? ⟨w.heap.size + 2, 5, none⟩ = some (skv) := by
      obtain ⟨k0, k1, k2, k3, k4, k5, k6, k7, k8, k9, k10, k11, k12, k13, k14, k15, k16, k17, k18, k19, k20⟩ := hHeld
      exact ⟨(bi.cell (p := ⟨w.heap.size, 0, none⟩) (cell_block_lt k0)).trans k0, (bi.cell (p := ⟨w.heap.size, 1, none⟩) (cell_block_lt k1)).trans k1, (bi.cell (p := ⟨w.heap.size, 2, none⟩) (cell_block_lt k2)).trans k2, (bi.cell (p := ⟨w.heap.size, 3, none⟩) (cell_block_lt k3)).trans k3, (bi.cell (p := ⟨w.heap.size, 4, none⟩) (cell_block_lt k4)).trans k4, (bi.cell (p := ⟨w.heap.size, 5, none⟩) (cell_block_lt k5)).trans k5, (bi.cell (p := ⟨w.heap.size, 6, none⟩) (cell_block_lt k6)).trans k6, (bi.cell (p := ⟨w.heap.size, 7, none⟩) (cell_block_lt k7)).trans k7, (bi.cell (p := ⟨w.heap.size, 8, none⟩) (cell_block_lt k8)).trans k8, (bi.cell (p := ⟨w.heap.size + 1, 0, none⟩) (cell_block_lt k9)).trans k9, (bi.cell (p := ⟨w.heap.size + 1, 1, none⟩) (cell_block_lt k10)).trans k10, (bi.cell (p := ⟨w.heap.size + 1, 2, none⟩) (cell_block_lt k11)).trans k11, (bi.cell (p := ⟨w.heap.size + 1, 3, none⟩) (cell_block_lt k12)).trans k12, (bi.cell (p := ⟨w.heap.size + 1, 4, none⟩) (cell_block_lt k13)).trans k13, (bi.cell (p := ⟨w.heap.size + 1, 5, none⟩) (cell_block_lt k14)).trans k14, (bi.cell (p := ⟨w.heap.size + 2, 0, none⟩) (cell_block_lt k15)).trans k15, (bi.cell (p := ⟨w.heap.size + 2, 1, none⟩) (cell_block_lt k16)).trans k16, (bi.cell (p := ⟨w.heap.size + 2, 2, none⟩) (cell_block_lt k17)).trans k17, (bi.cell (p := ⟨w.heap.size + 2, 3, none⟩) (cell_block_lt k18)).trans k18, (bi.cell (p := ⟨w.heap.size + 2, 4, none⟩) (cell_block_lt k19)).trans k19, (bi.cell (p := ⟨w.heap.size + 2, 5, none⟩) (cell_block_lt k20)).trans k20⟩
     clear bi hHeld
     clear hl2 HV1
     go_wp2_with fail
     refine hK.out _ _ SX (fun hHeld => ?_)
     clear hK K9 SX
     try simp only [Act.put, zA, zB, zC, zD, zE, zF]
     refine wpAnyH_ready (rs := [10]) (by kernel_rfl) (by simp) ?_
     refine AllReadyH.cons (o := _) rfl (fun K9 hK => ?_) AllReadyH.nil
     go_simp
     go_at_call 28; with_reducible refine HSS.out.mono ?_; rintro e wj ⟨rfl, bj⟩
     have Uj := hid (Ui.out.trans (bj.mono Ui.out.size))
     have SX : wj.cell? ⟨w.heap.size, 0, none⟩ = some (.int .i64 s.floor.w) ∧ wj.cell? ⟨w.heap.size, 1, none⟩ = some (.int .i64 s.floor.h) ∧ wj.cell? ⟨w.heap.size, 2, none⟩ = some (.int .i64 s.floor.d) ∧ wj.cell? ⟨w.heap.size, 3, none⟩ = some (kv) ∧ wj.cell? ⟨w.heap.size, 4, none⟩ = some (ov) ∧ wj.cell? ⟨w.heap.size, 5, none⟩ = some (.slice za nz zc) ∧ wj.cell? ⟨w.heap.size, 6, none⟩ = some (av) ∧ wj.cell? ⟨w.heap.size, 7, none⟩ = some (hv) ∧ wj.cell? ⟨w.heap.size, 8, none⟩ = some (bv) ∧ wj.cell? ⟨w.heap.size + 1, 0, none⟩ = some (.int .i64 P0) ∧ wj.cell? ⟨w.heap.size + 1, 1, none⟩ = some (.slice ta TL tc) ∧ wj.cell? ⟨w.heap.size + 1, 2, none⟩ = some (.slice ca CL cc) ∧ wj.cell? ⟨w.heap.size + 1, 3, none⟩ = some (.slice ka KL kc) ∧ wj.cell? ⟨w.heap.size + 1, 4, none⟩ = some (.int .i64 R0) ∧ wj.cell? ⟨w.heap.size + 1, 5, none⟩ = some (.slice sa M sc) ∧ wj.cell? ⟨w.heap.size + 2, 0, none⟩ = some (.int .i64 st.tick) ∧ wj.cell? ⟨w.heap.size + 2, 1, none⟩ = some (shv) ∧ wj.cell? ⟨w.heap.size + 2, 2, none⟩ = some (.slice ra NR rc) ∧ wj.cell? ⟨w.heap.size + 2, 3, none⟩ = some (pev) ∧ wj.cell? ⟨w.heap.size + 2, 4, none⟩ = some (dev) ∧ wj.cell? ⟨w.heap.size + 2, 5, none⟩ = some (skv) := by
      obtain ⟨k0, k1, k2, k3, k4, k5, k6, k7, k8, k9, k10, k11, k12, k13, k14, k15, k16, k17, k18, k19, k20⟩ := hHeld
      exact ⟨(bj.cell (p := ⟨w.heap.size, 0, none⟩) (cell_block_lt k0)).trans k0, (bj.cell (p := ⟨w.heap.size, 1, none⟩) (cell_block_lt k1)).trans k1, (bj.cell (p := ⟨w.heap.size, 2, none⟩) (cell_block_lt k2)).trans k2, (bj.cell (p := ⟨w.heap.size, 3, none⟩) (cell_block_lt k3)).trans k3, (bj.cell (p := ⟨w.heap.size, 4, none⟩) (cell_block_lt k4)).trans k4, (bj.cell (p := ⟨w.heap.size, 5, none⟩) (cell_block_lt k5)).trans k5, (bj.cell (p := ⟨w.heap.size, 6, none⟩) (cell_block_lt k6)).trans k6, (bj.cell (p := ⟨w.heap.size, 7, none⟩) (cell_block_lt k7)).trans k7, (bj.cell (p := ⟨w.heap.size, 8, none⟩) (cell_block_lt k8)).trans k8, (bj.cell (p := ⟨w.heap.size + 1, 0, none⟩) (cell_block_lt k9)).trans k9, (bj.cell (p := ⟨w.heap.size + 1, 1, none⟩) (cell_block_lt k10)).trans k10, (bj.cell (p := ⟨w.heap.size + 1, 2, none⟩) (cell_block_lt k11)).trans k11, (bj.cell (p := ⟨w.heap.size + 1, 3, none⟩) (cell_block_lt k12)).trans k12, (bj.cell (p := ⟨w.heap.size + 1, 4, none⟩) (cell_block_lt k13)).trans k13, (bj.cell (p := ⟨w.heap.size + 1, 5, none⟩) (cell_block_lt k14)).trans k14, (bj.cell (p := ⟨w.heap.size + 2, 0, none⟩) (cell_block_lt k15)).trans k15, (bj.cell (p := ⟨w.heap.size + 2, 1, none⟩) (cell_block_lt k16)).trans k16, (bj.cell (p := ⟨w.heap.size + 2, 2, none⟩) (cell_block_lt k17)).trans k17, (bj.cell (p := ⟨w.heap.size + 2, 3, none⟩) (cell_block_lt k18)).trans k18, (bj.cell (p := ⟨w.heap.size + 2, 4, none⟩) (cell_block_lt k19)).trans k19, (bj.cell (p := ⟨w.heap.size + 2, 5, none⟩) (cell_block_lt k20)).trans k20⟩
     clear bj hHeld
     clear HSS
     go_wp2_with fail
     refine hK.out _ _ SX (fun hHeld => ?_)
     clear hK K9 SX
     try simp only [Act.put, zA, zB, zC, zD, zE, zF]
     refine tk 11 ?_
     try simp only [Act.put, zA, zB, zC, zD, zE, zF]
     refine tk 12 ?_
     try simp only [Act.put, zA, zB, zC, zD, zE, zF]
     refine wpAnyH_done (by kernel_rfl) ?_ _
     clear hHeld
     clear x0 x1 x2 x3 x4 x5 x6 x7 x8 c0 c1 c2 c3 c4 c5 t0 t1 t2 t3 t4 t5
     go_wp2_with fail
     go_ret
     exact ⟨rfl, BB.out _ Uj.out⟩
end Go.Proofs.YtfcbcpfnaadpeaaGreatDoor
