/- Parts SpL of this claim, laid one behind the other: walks and the plain laws behind them; each contract states its own conditions. -/
import Derived.Test.YtfcbcpfnaadpeaaGreatDoorNJ
import Derived.Test.YtfcbcpfnaadpeaaGreatDoorNG
import Derived.Test.YtfcbcpfnaadpeaaGreatDoorYD
/- The walk of VerifySpare. -/
namespace Go.Proofs.YtfcbcpfnaadpeaaGreatDoor
set_option linter.unusedSimpArgs false
set_option linter.unusedVariables false
open Go.RowKit

theorem nodup_bound : ∀ (n : Nat) (l : List Nat), l.Nodup → (∀ x ∈ l, x < n) → l.length ≤ n
  | 0, l, _, h => by
    cases l with
    | nil => simp
    | cons a t => exact absurd (h a (List.mem_cons_self ..)) (by omega)
  | n + 1, l, hn, h => by
    have h1 := Pt.countP_le_one (p := fun x => decide (x = n)) hn (fun x _ y _ hx hy => by simp at hx hy; omega)
    have h2 := nodup_bound n (l.filter fun x => !decide (x = n)) (List.Pairwise.filter _ hn) (fun x hx => by
      have h3 := List.mem_filter.1 hx
      have h4 := h x h3.1
      have h5 : ¬ x = n := by simpa using h3.2
      omega)
    have h3 : ∀ m : List Nat, m.length = m.countP (fun x => decide (x = n)) + (m.filter fun x => !decide (x = n)).length := by
      intro m
      induction m with
      | nil => rfl
      | cons a t ih =>
        rw [List.countP_cons, List.filter_cons]
        by_cases e : a = n <;> simp [e] <;> omega
    have h4 := h3 l
    omega
theorem FairV.capB {s : Si.Site} (h : FairV s) : ∀ z, z < s.zones.length → Si.capOf s z ≤ 1000000 := by
  intro z hz
  rw [Si.capOf_eq hz]
  have h1 := (h.few.zn _ (List.getElem_mem hz)).1
  have h2 := (h.right.zc _ (List.getElem_mem hz)).2.2.1
  omega
theorem sips_rng {s : Si.Site} {sl : List Nat} (h : Pt.Sips (Si.linked s) s.zones.length sl) : ∀ l ∈ (Ve.right s sl).sips, ∀ z ∈ l, 0 ≤ z ∧ z < (s.zones.length : Int) := by
  intro l hl z hz
  obtain ⟨x, hx, rfl⟩ := List.mem_map.1 hl
  obtain ⟨y, hy, rfl⟩ := List.mem_map.1 hz
  have := listW_lt ((h.mem x).1 hx).1 hy
  exact ⟨by show (0 : Int) ≤ (y : Int); omega, by show (y : Int) < _; omega⟩
theorem sips_zero {s : Si.Site} {sl : List Nat} (h : Pt.Sips (Si.linked s) s.zones.length sl) (h0 : s.zones.length = 0) : (Ve.right s sl).sips = [] := by
  have : sl = [] := by
    cases sl with
    | nil => rfl
    | cons x t =>
      exfalso
      obtain ⟨h1, h2⟩ := (h.mem x).1 (List.mem_cons_self ..)
      rw [h0] at h1
      have hx : x = 0 := by omega
      subst hx
      have h3 := h2.1
      simp [Pt.closedW] at h3
  subst this; rfl
set_option maxRecDepth 100000 in
set_option maxHeartbeats 64000000 in
theorem VerifySpare_any (s : Si.Site) (kv ov zv av hv bv : Value) (st : Bd.State) (shv rov pev dev skv : Value) (w : World) (h : SiV w kv ov zv av hv bv s) (ht : StV w shv rov pev dev skv st) (hn : ∀ r ∈ st.robots, RobN r) (hE : Env w) :
    Calls Tryz.prog 9 #[siV s kv ov zv av hv bv, stV st shv rov pev dev skv] w fun e w' => e = .returned (.bool true) ∧ Below w.heap.size w w' := by
  obtain ⟨za, zc, rfl, hzm⟩ := h.zn.form
  obtain ⟨ha, hc0, rfl, -⟩ := two_form h.sf
  obtain ⟨ba, bc, rfl, -⟩ := two_form h.rb
  have HSM := Lib.hid (fun W (hb : Below w.heap.size w W) => small20_any W (hE.below hb))
  have HFA := Lib.hid (fun W (hb : Below w.heap.size w W) => fair20_any s _ _ _ _ _ _ W (h.keep hb))
  have HF4 := Lib.hid (fun W (hb : Below w.heap.size w W) => rFew4_any st _ _ _ _ _ W (ht.keep hb))
  have HBU := Lib.hid (fun (hf : FairV s) W (hb : Below w.heap.size w W) => Build_any s _ _ _ _ _ _ W (h.keep hb) hf.ok (by have := hf.zn; omega) (hE.below hb))
  have HBR := Lib.hid (fun W (hb : Below w.heap.size w W) (hs : StS st) => bRight_any s.floor kv ov (.slice za s.zones.length zc) av ha ba s.shelves.length s.robots.length hc0 bc st _ _ _ _ _ W (h.fl.keep hb) (ht.keep hb) hs hn)
  have HFR := Lib.hid (fun W (hb : Below w.heap.size w W) => fRight_any s.floor kv ov W (h.fl.keep hb))
  have HSP := Lib.hid (fun (hf : FairV s) (sl : List Nat) tv cv ke se W (hb : Below w.heap.size w W) (hcv : CertV W tv cv ke se (Ve.right s sl)) (hsl : Pt.Sips (Si.linked s) s.zones.length sl) (hm : sl.length ≤ 1000000) hrc hrl => Spare_any s _ _ _ _ _ _ (Ve.right s sl).places (Ve.right s sl).robots tv cv ke se (Ve.right s sl).sips st _ _ _ _ _ W (h.keep hb) hf.right hf.ok.zs hf.capB hcv.ca hcv.si (sips_rng hsl) (sips_zero hsl) (by show (sl.map _).length ≤ _; rw [List.length_map]; exact hm) (ht.keep hb) hrc hrl)
  have HFE := Lib.hid (fun (hf : FairV s) (sl : List Nat) tv cv ke se W (hb : Below w.heap.size w W) (hcv : CertV W tv cv ke se (Ve.right s sl)) (hsl : Pt.Sips (Si.linked s) s.zones.length sl) (hm : sl.length ≤ 1000000) hrc hrl => Free_any s _ _ _ _ _ _ (Ve.right s sl).places (Ve.right s sl).robots tv cv ke se (Ve.right s sl).sips st _ _ _ _ _ W (h.keep hb) hf.right hf.ok.zs hf.capB hcv.ca hcv.si (sips_rng hsl) (sips_zero hsl) (by show (sl.map _).length ≤ _; rw [List.length_map]; exact hm) (ht.keep hb) hrc hrl)
  have HHA := Lib.hid (fun v l x W hv => Has_any v l x W hv)
  obtain ⟨BR, hBR⟩ : ∃ b, Bd.rightB s.floor (s.shelves.length : Int) (s.robots.length : Int) st = b := ⟨_, rfl⟩
  have HBRE := Lib.hid hBR
  rw [hBR] at HBR
  unfold siV at HFA HBU HSP HFE ⊢
  unfold siF at HBR
  unfold stV at HF4 HBR HSP HFE ⊢
  unfold flV at HFR
  obtain ⟨hv, hhv⟩ : ∃ v, Value.slice ha s.shelves.length hc0 = v := ⟨_, rfl⟩
  obtain ⟨bv, hbv⟩ : ∃ v, Value.slice ba s.robots.length bc = v := ⟨_, rfl⟩
  obtain ⟨nz, hnz⟩ : ∃ n, s.zones.length = n := ⟨_, rfl⟩
  have HNZ := Lib.hid hnz
  rw [hhv, hbv] at HFA HBU HBR HSP HFE ⊢
  rw [hnz] at HFA HBU HBR HSP HFE ⊢
  obtain ⟨w2, hw2⟩ : ∃ W, W = (w.alloc (.cells #[.int .i64 s.floor.w, .int .i64 s.floor.h, .int .i64 s.floor.d, kv, ov, .slice za nz zc, av, hv, bv] 30)).alloc (.cells #[.int .i64 st.tick, shv, rov, pev, dev, skv] 58) := ⟨_, rfl⟩
  have HA := al2 w (.cells #[.int .i64 s.floor.w, .int .i64 s.floor.h, .int .i64 s.floor.d, kv, ov, .slice za nz zc, av, hv, bv] 30) (.cells #[.int .i64 st.tick, shv, rov, pev, dev, skv] 58)
  rw [← hw2] at HA
  have IS := Lib.hid HA.1
  have IT := Lib.hid HA.2.1
  have B2 := Lib.hid HA.2.2.1
  have HW2 := Lib.hid hw2
  have CS : Hid (∀ W, Below w2.heap.size w2 W → W.heap[w.heap.size]? = some (.cells #[.int .i64 s.floor.w, .int .i64 s.floor.h, .int .i64 s.floor.d, kv, ov, .slice za nz zc, av, hv, bv] 30 (0, 0))) := Lib.hid (fun W hW => keep_heap IS.out hW)
  have CU : Hid (∀ W, Below w2.heap.size w2 W → W.heap[w.heap.size + 1]? = some (.cells #[.int .i64 st.tick, shv, rov, pev, dev, skv] 58 (0, 0))) := Lib.hid (fun W hW => keep_heap IT.out hW)
  have BB : Hid (∀ W, Below w2.heap.size w2 W → Below w.heap.size w W) := Lib.hid (fun W hW => B2.out.trans (hW.mono B2.out.size))
  clear h ht hn hE hBR hhv hbv hnz hw2 HA
  go_enter Tryz.func9, Tryz.ntmps9
  go_upto_region 1 with fail
  rw [← HW2.out]
  go_wp2_with fail
  go_at_call 10; refine (HSM.out _ B2.out).mono ?_; rintro e w3 ⟨rfl, b3⟩
  have U3 := Lib.hid b3
  clear b3
  have x0 : w3.cell? ⟨w.heap.size, 0, none⟩ = some (.int .i64 s.floor.w) := cell_of_heap (CS.out _ U3.out) 0 rfl
  have x1 : w3.cell? ⟨w.heap.size, 1, none⟩ = some (.int .i64 s.floor.h) := cell_of_heap (CS.out _ U3.out) 1 rfl
  have x2 : w3.cell? ⟨w.heap.size, 2, none⟩ = some (.int .i64 s.floor.d) := cell_of_heap (CS.out _ U3.out) 2 rfl
  have x3 : w3.cell? ⟨w.heap.size, 3, none⟩ = some (kv) := cell_of_heap (CS.out _ U3.out) 3 rfl
  have x4 : w3.cell? ⟨w.heap.size, 4, none⟩ = some (ov) := cell_of_heap (CS.out _ U3.out) 4 rfl
  have x5 : w3.cell? ⟨w.heap.size, 5, none⟩ = some (.slice za nz zc) := cell_of_heap (CS.out _ U3.out) 5 rfl
  have x6 : w3.cell? ⟨w.heap.size, 6, none⟩ = some (av) := cell_of_heap (CS.out _ U3.out) 6 rfl
  have x7 : w3.cell? ⟨w.heap.size, 7, none⟩ = some (hv) := cell_of_heap (CS.out _ U3.out) 7 rfl
  have x8 : w3.cell? ⟨w.heap.size, 8, none⟩ = some (bv) := cell_of_heap (CS.out _ U3.out) 8 rfl
  go_wp2_with fail
  go_at_call 11; refine (HFA.out _ (BB.out _ U3.out)).mono ?_; rintro e w4 ⟨⟨rb, rfl, hrb⟩, b4⟩
  have U4 := Lib.hid (U3.out.trans (b4.mono U3.out.size))
  have HRB := Lib.hid hrb
  clear b4 hrb
  clear x0 x1 x2 x3 x4 x5 x6 x7 x8
  cases rb with
  | false =>
    go_wp2_with fail
    go_ret
    exact ⟨rfl, BB.out _ U4.out⟩
  | true =>
    have HF := Lib.hid (HRB.out rfl)
    clear HRB
    have t0 : w4.cell? ⟨w.heap.size + 1, 0, none⟩ = some (.int .i64 st.tick) := cell_of_heap (CU.out _ U4.out) 0 rfl
    have t1 : w4.cell? ⟨w.heap.size + 1, 1, none⟩ = some (shv) := cell_of_heap (CU.out _ U4.out) 1 rfl
    have t2 : w4.cell? ⟨w.heap.size + 1, 2, none⟩ = some (rov) := cell_of_heap (CU.out _ U4.out) 2 rfl
    have t3 : w4.cell? ⟨w.heap.size + 1, 3, none⟩ = some (pev) := cell_of_heap (CU.out _ U4.out) 3 rfl
    have t4 : w4.cell? ⟨w.heap.size + 1, 4, none⟩ = some (dev) := cell_of_heap (CU.out _ U4.out) 4 rfl
    have t5 : w4.cell? ⟨w.heap.size + 1, 5, none⟩ = some (skv) := cell_of_heap (CU.out _ U4.out) 5 rfl
    go_wp2_with fail
    go_at_call 23; refine (HF4.out _ (BB.out _ U4.out)).mono ?_; rintro e w4b ⟨⟨rb, rfl, hrb⟩, b4⟩
    have U4b := Lib.hid (U4.out.trans (b4.mono U4.out.size))
    have HRB := Lib.hid hrb
    clear b4 hrb
    clear t0 t1 t2 t3 t4 t5
    cases rb with
    | false =>
      go_wp2_with fail
      go_ret
      exact ⟨rfl, BB.out _ U4b.out⟩
    | true =>
      have H4 := Lib.hid (HRB.out rfl)
      clear HRB
      have x0 : w4b.cell? ⟨w.heap.size, 0, none⟩ = some (.int .i64 s.floor.w) := cell_of_heap (CS.out _ U4b.out) 0 rfl
      have x1 : w4b.cell? ⟨w.heap.size, 1, none⟩ = some (.int .i64 s.floor.h) := cell_of_heap (CS.out _ U4b.out) 1 rfl
      have x2 : w4b.cell? ⟨w.heap.size, 2, none⟩ = some (.int .i64 s.floor.d) := cell_of_heap (CS.out _ U4b.out) 2 rfl
      have x3 : w4b.cell? ⟨w.heap.size, 3, none⟩ = some (kv) := cell_of_heap (CS.out _ U4b.out) 3 rfl
      have x4 : w4b.cell? ⟨w.heap.size, 4, none⟩ = some (ov) := cell_of_heap (CS.out _ U4b.out) 4 rfl
      have x5 : w4b.cell? ⟨w.heap.size, 5, none⟩ = some (.slice za nz zc) := cell_of_heap (CS.out _ U4b.out) 5 rfl
      have x6 : w4b.cell? ⟨w.heap.size, 6, none⟩ = some (av) := cell_of_heap (CS.out _ U4b.out) 6 rfl
      have x7 : w4b.cell? ⟨w.heap.size, 7, none⟩ = some (hv) := cell_of_heap (CS.out _ U4b.out) 7 rfl
      have x8 : w4b.cell? ⟨w.heap.size, 8, none⟩ = some (bv) := cell_of_heap (CS.out _ U4b.out) 8 rfl
      go_wp2_with fail
      go_at_call 12; refine (HBU.out HF.out _ (BB.out _ U4b.out)).mono ?_; intro e w5 hbp
      obtain ⟨b5, sl, hsl, hcase⟩ := build_cert (by have := HF.out.zn; omega) hbp
      have HSL := Lib.hid hsl
      have U5 := Lib.hid (U4b.out.trans (b5.mono U4b.out.size))
      clear b5 hbp hsl
      clear x0 x1 x2 x3 x4 x5 x6 x7 x8
      rcases hcase with ⟨-, rfl⟩ | ⟨hsafe, tv, cv, ke, se, rfl, hcv, -⟩
      · unfold certZero
        go_wp2_with fail
        go_ret
        exact ⟨rfl, (BB.out _ U5.out).alloc (BB.out _ U5.out).size _⟩
      obtain ⟨ta, tc, rfl, htm⟩ := hcv.tr.form
      obtain ⟨ca, cc, rfl, hcm⟩ := hcv.ca.form
      obtain ⟨ka, kc, rfl, hkm⟩ := hcv.ke.form
      obtain ⟨sa, sc, rfl, hsm⟩ := hcv.si.form
      have HSAF := Lib.hid hsafe
      have HCV := Lib.hid hcv
      unfold certA
      obtain ⟨TL, g3⟩ : ∃ n, (Ve.right s sl).trans.length = n := ⟨_, rfl⟩
      obtain ⟨CL, g5⟩ : ∃ n, (Ve.right s sl).caps.length = n := ⟨_, rfl⟩
      obtain ⟨KL, g6⟩ : ∃ n, (Ve.right s sl).keeps.length = n := ⟨_, rfl⟩
      obtain ⟨M, g4⟩ : ∃ n, (Ve.right s sl).sips.length = n := ⟨_, rfl⟩
      have HM : Hid (sl.length = M) := Lib.hid (by rw [← g4]; show _ = (sl.map _).length; rw [List.length_map])
      rw [g3, g5, g6, g4] at HCV ⊢
      clear hsafe hcv htm hcm hkm hsm g3 g4 g5 g6
      obtain ⟨w6, hw6⟩ : ∃ W, W = w5.alloc (.cells #[.int .i64 (Ve.right s sl).places, .slice ta TL tc, .slice ca CL cc, .slice ka KL kc, .int .i64 (Ve.right s sl).robots, .slice sa M sc] 38) := ⟨_, rfl⟩
      have H6 := al1 w5 (.cells #[.int .i64 (Ve.right s sl).places, .slice ta TL tc, .slice ca CL cc, .slice ka KL kc, .int .i64 (Ve.right s sl).robots, .slice sa M sc] 38)
      rw [← hw6] at H6
      have IC := Lib.hid H6.1
      have U6 := Lib.hid (U5.out.trans (H6.2.1.mono U5.out.size))
      have HCV6 := Lib.hid (HCV.out.keep H6.2.1)
      have HW6 := Lib.hid hw6
      have CC : Hid (∀ W, Below w6.heap.size w6 W → W.heap[w5.heap.size]? = some (.cells #[.int .i64 (Ve.right s sl).places, .slice ta TL tc, .slice ca CL cc, .slice ka KL kc, .int .i64 (Ve.right s sl).robots, .slice sa M sc] 38 (0, 0))) := Lib.hid (fun W hW => keep_heap IC.out hW)
      have B26 : Hid (∀ W, Below w6.heap.size w6 W → Below w2.heap.size w2 W) := Lib.hid (fun W hW => U6.out.trans (hW.mono U6.out.size))
      clear hw6 H6
      go_upto_region 5 with fail
      rw [← HW6.out]
      have x0 : w6.cell? ⟨w.heap.size, 0, none⟩ = some (.int .i64 s.floor.w) := cell_of_heap (CS.out _ U6.out) 0 rfl
      have x1 : w6.cell? ⟨w.heap.size, 1, none⟩ = some (.int .i64 s.floor.h) := cell_of_heap (CS.out _ U6.out) 1 rfl
      have x2 : w6.cell? ⟨w.heap.size, 2, none⟩ = some (.int .i64 s.floor.d) := cell_of_heap (CS.out _ U6.out) 2 rfl
      have x3 : w6.cell? ⟨w.heap.size, 3, none⟩ = some (kv) := cell_of_heap (CS.out _ U6.out) 3 rfl
      have x4 : w6.cell? ⟨w.heap.size, 4, none⟩ = some (ov) := cell_of_heap (CS.out _ U6.out) 4 rfl
      have x5 : w6.cell? ⟨w.heap.size, 5, none⟩ = some (.slice za nz zc) := cell_of_heap (CS.out _ U6.out) 5 rfl
      have x6 : w6.cell? ⟨w.heap.size, 6, none⟩ = some (av) := cell_of_heap (CS.out _ U6.out) 6 rfl
      have x7 : w6.cell? ⟨w.heap.size, 7, none⟩ = some (hv) := cell_of_heap (CS.out _ U6.out) 7 rfl
      have x8 : w6.cell? ⟨w.heap.size, 8, none⟩ = some (bv) := cell_of_heap (CS.out _ U6.out) 8 rfl
      have t0 : w6.cell? ⟨w.heap.size + 1, 0, none⟩ = some (.int .i64 st.tick) := cell_of_heap (CU.out _ U6.out) 0 rfl
      have t1 : w6.cell? ⟨w.heap.size + 1, 1, none⟩ = some (shv) := cell_of_heap (CU.out _ U6.out) 1 rfl
      have t2 : w6.cell? ⟨w.heap.size + 1, 2, none⟩ = some (rov) := cell_of_heap (CU.out _ U6.out) 2 rfl
      have t3 : w6.cell? ⟨w.heap.size + 1, 3, none⟩ = some (pev) := cell_of_heap (CU.out _ U6.out) 3 rfl
      have t4 : w6.cell? ⟨w.heap.size + 1, 4, none⟩ = some (dev) := cell_of_heap (CU.out _ U6.out) 4 rfl
      have t5 : w6.cell? ⟨w.heap.size + 1, 5, none⟩ = some (skv) := cell_of_heap (CU.out _ U6.out) 5 rfl
      go_wp2_with fail
      go_at_call 41; refine (HBR.out _ (BB.out _ U6.out) H4.out.sts).mono ?_; rintro e w7 ⟨rfl, b7⟩
      have U7 := Lib.hid (U6.out.trans (b7.mono U6.out.size))
      have V7 := Lib.hid b7
      clear b7
      clear x0 x1 x2 x3 x4 x5 x6 x7 x8 t0 t1 t2 t3 t4 t5
      cases BR with
      | false =>
        go_wp2_with fail
        go_ret
        exact ⟨rfl, BB.out _ U7.out⟩
      | true =>
        have HBT := Lib.hid (Bd.right_robots HBRE.out)
        have x0 : w7.cell? ⟨w.heap.size, 0, none⟩ = some (.int .i64 s.floor.w) := cell_of_heap (CS.out _ U7.out) 0 rfl
        have x1 : w7.cell? ⟨w.heap.size, 1, none⟩ = some (.int .i64 s.floor.h) := cell_of_heap (CS.out _ U7.out) 1 rfl
        have x2 : w7.cell? ⟨w.heap.size, 2, none⟩ = some (.int .i64 s.floor.d) := cell_of_heap (CS.out _ U7.out) 2 rfl
        have x3 : w7.cell? ⟨w.heap.size, 3, none⟩ = some (kv) := cell_of_heap (CS.out _ U7.out) 3 rfl
        have x4 : w7.cell? ⟨w.heap.size, 4, none⟩ = some (ov) := cell_of_heap (CS.out _ U7.out) 4 rfl
        have x5 : w7.cell? ⟨w.heap.size, 5, none⟩ = some (.slice za nz zc) := cell_of_heap (CS.out _ U7.out) 5 rfl
        have x6 : w7.cell? ⟨w.heap.size, 6, none⟩ = some (av) := cell_of_heap (CS.out _ U7.out) 6 rfl
        have x7 : w7.cell? ⟨w.heap.size, 7, none⟩ = some (hv) := cell_of_heap (CS.out _ U7.out) 7 rfl
        have x8 : w7.cell? ⟨w.heap.size, 8, none⟩ = some (bv) := cell_of_heap (CS.out _ U7.out) 8 rfl
        go_wp2_with fail
        go_at_call 42; refine (HFR.out _ (BB.out _ U7.out)).mono ?_; rintro e w8 ⟨⟨rb, rfl, -⟩, b8⟩
        have U8 := Lib.hid (U7.out.trans (b8.mono U7.out.size))
        have V8 := Lib.hid (V7.out.trans (b8.mono V7.out.size))
        clear b8
        clear x0 x1 x2 x3 x4 x5 x6 x7 x8
        cases rb with
        | false =>
          go_wp2_with fail
          go_ret
          exact ⟨rfl, BB.out _ U8.out⟩
        | true =>
          have hsl2 : Pt.Sips (Si.linked s) nz sl := by have h1 := HSL.out; rwa [HNZ.out] at h1
          have hsz : sl.length ≤ 1000000 := by
            have h1 := nodup_bound (2 ^ nz) sl hsl2.nd fun x hx => ((hsl2.mem x).1 hx).1
            have h3 : 2 ^ nz ≤ 2 ^ 10 := Nat.pow_le_pow_right (by omega) (by have := HF.out.zn; have := HNZ.out; omega)
            omega
          have HSZ := Lib.hid hsz
          have hrl : st.robots.length ≤ 1000 := by have := H4.out.ro; omega
          have HSP2 := Lib.hid (fun W hb (hcv : CertV W (.slice ta TL tc) (.slice ca CL cc) (.slice ka KL kc) (.slice sa M sc) (Ve.right s sl)) => HSP.out HF.out sl _ _ _ _ W hb hcv hsl2 hsz (fun r hr => (HBT.out.2 r hr).1) hrl)
          have HFE2 := Lib.hid (fun W hb (hcv : CertV W (.slice ta TL tc) (.slice ca CL cc) (.slice ka KL kc) (.slice sa M sc) (Ve.right s sl)) => HFE.out HF.out sl _ _ _ _ W hb hcv hsl2 hsz (fun r hr => (HBT.out.2 r hr).1) hrl)
          obtain ⟨cs, hcs⟩ : ∃ l, st.robots.map (·.cell) = l := ⟨_, rfl⟩
          have HCSL : Hid (st.robots.length = cs.length) := Lib.hid (by rw [← hcs, List.length_map])
          rw [hcs, HCSL.out] at HSP2 HFE2
          clear hcs hsz hrl hsl2
          have x0 : w8.cell? ⟨w.heap.size, 0, none⟩ = some (.int .i64 s.floor.w) := cell_of_heap (CS.out _ U8.out) 0 rfl
          have x1 : w8.cell? ⟨w.heap.size, 1, none⟩ = some (.int .i64 s.floor.h) := cell_of_heap (CS.out _ U8.out) 1 rfl
          have x2 : w8.cell? ⟨w.heap.size, 2, none⟩ = some (.int .i64 s.floor.d) := cell_of_heap (CS.out _ U8.out) 2 rfl
          have x3 : w8.cell? ⟨w.heap.size, 3, none⟩ = some (kv) := cell_of_heap (CS.out _ U8.out) 3 rfl
          have x4 : w8.cell? ⟨w.heap.size, 4, none⟩ = some (ov) := cell_of_heap (CS.out _ U8.out) 4 rfl
          have x5 : w8.cell? ⟨w.heap.size, 5, none⟩ = some (.slice za nz zc) := cell_of_heap (CS.out _ U8.out) 5 rfl
          have x6 : w8.cell? ⟨w.heap.size, 6, none⟩ = some (av) := cell_of_heap (CS.out _ U8.out) 6 rfl
          have x7 : w8.cell? ⟨w.heap.size, 7, none⟩ = some (hv) := cell_of_heap (CS.out _ U8.out) 7 rfl
          have x8 : w8.cell? ⟨w.heap.size, 8, none⟩ = some (bv) := cell_of_heap (CS.out _ U8.out) 8 rfl
          have t0 : w8.cell? ⟨w.heap.size + 1, 0, none⟩ = some (.int .i64 st.tick) := cell_of_heap (CU.out _ U8.out) 0 rfl
          have t1 : w8.cell? ⟨w.heap.size + 1, 1, none⟩ = some (shv) := cell_of_heap (CU.out _ U8.out) 1 rfl
          have t2 : w8.cell? ⟨w.heap.size + 1, 2, none⟩ = some (rov) := cell_of_heap (CU.out _ U8.out) 2 rfl
          have t3 : w8.cell? ⟨w.heap.size + 1, 3, none⟩ = some (pev) := cell_of_heap (CU.out _ U8.out) 3 rfl
          have t4 : w8.cell? ⟨w.heap.size + 1, 4, none⟩ = some (dev) := cell_of_heap (CU.out _ U8.out) 4 rfl
          have t5 : w8.cell? ⟨w.heap.size + 1, 5, none⟩ = some (skv) := cell_of_heap (CU.out _ U8.out) 5 rfl
          have c0 : w8.cell? ⟨w5.heap.size, 0, none⟩ = some (.int .i64 (Ve.right s sl).places) := cell_of_heap (CC.out _ V8.out) 0 rfl
          have c1 : w8.cell? ⟨w5.heap.size, 1, none⟩ = some (.slice ta TL tc) := cell_of_heap (CC.out _ V8.out) 1 rfl
          have c2 : w8.cell? ⟨w5.heap.size, 2, none⟩ = some (.slice ca CL cc) := cell_of_heap (CC.out _ V8.out) 2 rfl
          have c3 : w8.cell? ⟨w5.heap.size, 3, none⟩ = some (.slice ka KL kc) := cell_of_heap (CC.out _ V8.out) 3 rfl
          have c4 : w8.cell? ⟨w5.heap.size, 4, none⟩ = some (.int .i64 (Ve.right s sl).robots) := cell_of_heap (CC.out _ V8.out) 4 rfl
          have c5 : w8.cell? ⟨w5.heap.size, 5, none⟩ = some (.slice sa M sc) := cell_of_heap (CC.out _ V8.out) 5 rfl
          go_wp2_with fail
          go_at_call 29; refine (HSP2.out _ (BB.out _ U8.out) (HCV6.out.keep V8.out)).mono ?_; rintro e w9 ⟨⟨pv, rfl, hpv⟩, b9⟩
          have U9 := Lib.hid (U8.out.trans (b9.mono U8.out.size))
          have V9 := Lib.hid (V8.out.trans (b9.mono V8.out.size))
          obtain ⟨pa, pc, rfl, -⟩ := hpv.form
          have HPV := Lib.hid hpv
          clear b9 hpv
          clear x0 x1 x2 x3 x4 x5 x6 x7 x8 t0 t1 t2 t3 t4 t5 c0 c1 c2 c3 c4 c5
          have x0 : w9.cell? ⟨w.heap.size, 0, none⟩ = some (.int .i64 s.floor.w) := cell_of_heap (CS.out _ U9.out) 0 rfl
          have x1 : w9.cell? ⟨w.heap.size, 1, none⟩ = some (.int .i64 s.floor.h) := cell_of_heap (CS.out _ U9.out) 1 rfl
          have x2 : w9.cell? ⟨w.heap.size, 2, none⟩ = some (.int .i64 s.floor.d) := cell_of_heap (CS.out _ U9.out) 2 rfl
          have x3 : w9.cell? ⟨w.heap.size, 3, none⟩ = some (kv) := cell_of_heap (CS.out _ U9.out) 3 rfl
          have x4 : w9.cell? ⟨w.heap.size, 4, none⟩ = some (ov) := cell_of_heap (CS.out _ U9.out) 4 rfl
          have x5 : w9.cell? ⟨w.heap.size, 5, none⟩ = some (.slice za nz zc) := cell_of_heap (CS.out _ U9.out) 5 rfl
          have x6 : w9.cell? ⟨w.heap.size, 6, none⟩ = some (av) := cell_of_heap (CS.out _ U9.out) 6 rfl
          have x7 : w9.cell? ⟨w.heap.size, 7, none⟩ = some (hv) := cell_of_heap (CS.out _ U9.out) 7 rfl
          have x8 : w9.cell? ⟨w.heap.size, 8, none⟩ = some (bv) := cell_of_heap (CS.out _ U9.out) 8 rfl
          have t0 : w9.cell? ⟨w.heap.size + 1, 0, none⟩ = some (.int .i64 st.tick) := cell_of_heap (CU.out _ U9.out) 0 rfl
          have t1 : w9.cell? ⟨w.heap.size + 1, 1, none⟩ = some (shv) := cell_of_heap (CU.out _ U9.out) 1 rfl
          have t2 : w9.cell? ⟨w.heap.size + 1, 2, none⟩ = some (rov) := cell_of_heap (CU.out _ U9.out) 2 rfl
          have t3 : w9.cell? ⟨w.heap.size + 1, 3, none⟩ = some (pev) := cell_of_heap (CU.out _ U9.out) 3 rfl
          have t4 : w9.cell? ⟨w.heap.size + 1, 4, none⟩ = some (dev) := cell_of_heap (CU.out _ U9.out) 4 rfl
          have t5 : w9.cell? ⟨w.heap.size + 1, 5, none⟩ = some (skv) := cell_of_heap (CU.out _ U9.out) 5 rfl
          have c0 : w9.cell? ⟨w5.heap.size, 0, none⟩ = some (.int .i64 (Ve.right s sl).places) := cell_of_heap (CC.out _ V9.out) 0 rfl
          have c1 : w9.cell? ⟨w5.heap.size, 1, none⟩ = some (.slice ta TL tc) := cell_of_heap (CC.out _ V9.out) 1 rfl
          have c2 : w9.cell? ⟨w5.heap.size, 2, none⟩ = some (.slice ca CL cc) := cell_of_heap (CC.out _ V9.out) 2 rfl
          have c3 : w9.cell? ⟨w5.heap.size, 3, none⟩ = some (.slice ka KL kc) := cell_of_heap (CC.out _ V9.out) 3 rfl
          have c4 : w9.cell? ⟨w5.heap.size, 4, none⟩ = some (.int .i64 (Ve.right s sl).robots) := cell_of_heap (CC.out _ V9.out) 4 rfl
          have c5 : w9.cell? ⟨w5.heap.size, 5, none⟩ = some (.slice sa M sc) := cell_of_heap (CC.out _ V9.out) 5 rfl
          go_wp2_with fail
          go_at_call 38; refine (HFE2.out _ (BB.out _ U9.out) (HCV6.out.keep V9.out)).mono ?_; rintro e wa ⟨⟨qv, rfl, hqv⟩, ba⟩
          have Ua := Lib.hid (U9.out.trans (ba.mono U9.out.size))
          have Va := Lib.hid (V9.out.trans (ba.mono V9.out.size))
          obtain ⟨qa, qc, rfl, -⟩ := hqv.form
          have HQV := Lib.hid hqv
          have HPV2 := Lib.hid (HPV.out.keep ba)
          have HCVa := Lib.hid (HCV6.out.keep Va.out)
          clear ba hqv
          clear x0 x1 x2 x3 x4 x5 x6 x7 x8 t0 t1 t2 t3 t4 t5 c0 c1 c2 c3 c4 c5
          have hL3 : (Ve.right s sl).sips.length = M := by rw [← HM.out]; show (sl.map _).length = _; rw [List.length_map]
          have hL2 : (Si.freeL s cs cs.length).length = nz := by rw [Si.freeL_len]; exact HNZ.out
          rw [List.length_map, hL3] at HPV2
          rw [hL2] at HQV ⊢
          rw [hL3]
          have HSI := Lib.hid HCVa.out.si
          have hMs : M ≤ 1000000 := by have := HSZ.out; have := HM.out; omega
          clear hL2 hL3
          have x5 : wa.cell? ⟨w.heap.size, 5, none⟩ = some (.slice za nz zc) := cell_of_heap (CS.out _ Ua.out) 5 rfl
          have c5 : wa.cell? ⟨w5.heap.size, 5, none⟩ = some (.slice sa M sc) := cell_of_heap (CC.out _ Va.out) 5 rfl
          have HOKS : Hid (∀ x ∈ sl, ∃ z : Nat, Si.spareOf (Si.leftL s cs cs.length) (Si.nn (Pt.listW x)) = (z : Int) ∧ z < nz ∧ 1 ≤ max (Si.capOf s z - (Si.robZ s cs cs.length z : Int)) 0 ∧ (z : Int) ∈ Si.nn (Pt.listW x) ∧
              ∀ y ∈ Pt.listW x, y < z → ¬ 0 < max (Si.capOf s y - (Si.robZ s cs cs.length y : Int)) 0) := Lib.hid (fun x hx => by
            have h1 : ¬ Si.sumCaps s x ≤ cs.length := by
              have h2 := HSAF.out
              unfold Ve.safeB at h2
              rw [List.all_eq_true] at h2
              have h3 := of_decide_eq_true (h2 x hx)
              have h4 := HBT.out.1
              rw [HCSL.out] at h4
              omega
            have h5 := Si.spare_ok h1 (fun z hz => listW_lt ((HSL.out.mem x).1 hx).1 hz)
            rwa [HNZ.out] at h5)
          have HLTW : Hid (∀ x ∈ sl, ∀ z ∈ Pt.listW x, z < nz) := Lib.hid (fun x hx z hz => by have h5 := listW_lt ((HSL.out.mem x).1 hx).1 hz; rwa [HNZ.out] at h5)
          have HPF : Hid (∀ (k : Nat) (h : k < sl.length), ((Ve.right s sl).sips.map (Si.spareOf (Si.leftL s cs cs.length)))[k]? = some (Si.spareOf (Si.leftL s cs cs.length) (Si.nn (Pt.listW sl[k])))) := Lib.hid (fun k h => by
            show ((sl.map fun x => Si.nn (Pt.listW x)).map _)[k]? = _
            simp [h])
          have HSF : Hid (∀ (k : Nat) (h : k < sl.length), (Ve.right s sl).sips[k]? = some (Si.nn (Pt.listW sl[k]))) := Lib.hid (fun k h => by
            show (sl.map fun x => Si.nn (Pt.listW x))[k]? = _
            simp [h])
          have Wa0 := Lib.hid (Below.refl wa.heap.size wa)
          go_wp2_with fail
          go_loopw [10] (fun iv wr => ∃ k : Nat, k ≤ M ∧ iv = .int .i64 k ∧ Hid (Below wa.heap.size wa wr)) (fun iv _ => M - (intOf iv).toNat)
          case atStart => exact ⟨0, by omega, rfl, Wa0⟩
          case round =>
            clear x5 c5 Wa0
            obtain ⟨k, hk, rfl, HU⟩ := hrel
            have BWr : Hid (Below w.heap.size w wr) := Lib.hid (BB.out _ (Ua.out.trans (HU.out.mono Ua.out.size)))
            by_cases hkn : k < M
            · have hkl : k < sl.length := by rw [HM.out]; exact hkn
              obtain ⟨z, e1, e2, e3, e4, e5⟩ := HOKS.out _ (List.getElem_mem hkl)
              have hlw := HLTW.out _ (List.getElem_mem hkl)
              have hpk := HPF.out k hkl
              rw [e1] at hpk
              obtain ⟨hpl, hpe⟩ := List.getElem?_eq_some_iff.1 hpk
              obtain ⟨pb, po, rfl, r0⟩ := (HPV2.out.keep HU.out).cell k hpl
              rw [hpe] at r0
              have hqk := Si.freeL_get s cs cs.length z (by rw [HNZ.out]; exact e2)
              obtain ⟨hql, hqe⟩ := List.getElem?_eq_some_iff.1 hqk
              obtain ⟨qb, qo, rfl, r1⟩ := (HQV.out.keep HU.out).cell z hql
              rw [hqe] at r1
              obtain ⟨hsl3, hse⟩ := List.getElem?_eq_some_iff.1 (HSF.out k hkl)
              obtain ⟨sb, so, u, rfl, r2, hu⟩ := (HSI.out.keep HU.out).cell k hsl3
              rw [hse] at hu
              have HQF : Hid (∀ y, y < nz → wr.cell? ⟨qb, qo + y, none⟩ = some (.int .i64 (max (Si.capOf s y - (Si.robZ s cs cs.length y : Int)) 0))) := Lib.hid (fun y hy => by
                obtain ⟨hyl, hye⟩ := List.getElem?_eq_some_iff.1 (Si.freeL_get s cs cs.length y (by rw [HNZ.out]; exact hy))
                obtain ⟨q2, o2, e, hc⟩ := (HQV.out.keep HU.out).cell y hyl
                injection e with e; injection e with e e'; subst e e'
                rw [hc, hye])
              obtain ⟨LW, hLW⟩ : ∃ l, Pt.listW sl[k] = l := ⟨_, rfl⟩
              rw [hLW] at hu e4 e5 hlw
              obtain ⟨F, hF⟩ : ∃ x, max (Si.capOf s z - (Si.robZ s cs cs.length z : Int)) 0 = x := ⟨_, rfl⟩
              rw [hF] at r1 e3
              have HE5 := Lib.hid e5
              have HLW := Lib.hid hlw
              have C1 := Lib.hid (HHA.out u (Si.nn LW) (z : Int) wr.drew (hu.keep (below_drewN _ _ 1)))
              rw [show ((Si.nn LW).any fun y => decide (y = (z : Int))) = true from by rw [List.any_eq_true]; exact ⟨_, e4, decide_eq_true rfl⟩] at C1
              obtain ⟨ua, uc, rfl, hum⟩ := hu.form
              have HUI := Lib.hid hu
              obtain ⟨UL, hUL⟩ : ∃ n, (Si.nn LW).length = n := ⟨_, rfl⟩
              rw [hUL] at C1 HUI hum r2
              have HULe := Lib.hid hUL
              have c5 : wr.cell? ⟨w5.heap.size, 5, none⟩ = some (.slice (some ⟨sb, so, none⟩) M sc) := cell_of_heap (CC.out _ (Va.out.trans (HU.out.mono Va.out.size))) 5 rfl
              have k0 : (0 : Int) ≤ (k : Int) := by omega
              have k1 : (k : Int) < (M : Int) := by omega
              have z0 : (0 : Int) ≤ (z : Int) := by omega
              have z1 : (z : Int) < (nz : Int) := by omega
              have f1 : ¬ F < 1 := by omega
              have d1 : decide (F < 1) = false := decide_eq_false f1
              have BX : Below wr.heap.size wr wr.drew := below_drewN _ _ 1
              clear e1 hpk hpl hpe hqk hql hqe hsl3 hse hu hLW hF hUL e4 e5 hlw hkl
              go_upto_region 16 with fail
              go_cut [105] (fun v wx => v = .bool false ∧ Hid (Below wr.heap.size wr wx))
              case first =>
                go_region_held3 (fun w' => w'.cell? ⟨pb, po + k, none⟩ = some (.int .i64 (z : Int)) ∧ w'.cell? ⟨qb, qo + z, none⟩ = some (.int .i64 F) ∧ w'.cell? ⟨w5.heap.size, 5, none⟩ = some (.slice (some ⟨sb, so, none⟩) M sc) ∧ w'.cell? ⟨sb, so + k, none⟩ = some (.slice ua UL uc)) (go_keep)
                  (first | (go_at_call 20; with_reducible refine C1.out.mono ?_; rintro e w5 ⟨rfl, rfl⟩))
                all_goals go_wp2_with fail
                all_goals
                  go_meet
                  exact ⟨rfl, Lib.hid BX⟩
              case rest =>
                obtain ⟨rfl, HBX⟩ := hcut
                obtain ⟨wy, hwy⟩ : ∃ W, W = wc := ⟨_, rfl⟩
                subst hwy
                have y0 := (HBX.out.cell (p := ⟨pb, po + k, none⟩) (cell_block_lt r0)).trans r0
                have y5 := (HBX.out.cell (p := ⟨w5.heap.size, 5, none⟩) (cell_block_lt c5)).trans c5
                have y2 := (HBX.out.cell (p := ⟨sb, so + k, none⟩) (cell_block_lt r2)).trans r2
                have HQY : Hid (∀ y, y < nz → wy.cell? ⟨qb, qo + y, none⟩ = some (.int .i64 (max (Si.capOf s y - (Si.robZ s cs cs.length y : Int)) 0))) := Lib.hid (fun y hy => (HBX.out.cell (p := ⟨qb, qo + y, none⟩) (cell_block_lt (HQF.out y hy))).trans (HQF.out y hy))
                have HUY := Lib.hid (HUI.out.keep HBX.out)
                have UY := Lib.hid (HU.out.trans (HBX.out.mono HU.out.size))
                have BWy : Hid (Below w.heap.size w wy) := Lib.hid (BB.out _ (Ua.out.trans (UY.out.mono Ua.out.size)))
                have hj0 : (0 : Nat) ≤ UL := Nat.zero_le _
                clear r0 r1 r2 c5 HQF f1 d1
                go_wp2_with fail
                go_loop [11] (fun iv => ∃ j : Nat, j ≤ UL ∧ iv = .int .i64 j) (fun iv => UL - (intOf iv).toNat)
                case atStart => exact ⟨0, by omega, rfl⟩
                case round =>
                  obtain ⟨j, hj, rfl⟩ := hrel
                  by_cases hjn : j < UL
                  · have hjl : j < (Si.nn LW).length := by rw [HULe.out]; exact hjn
                    obtain ⟨ub, uo, rfl, u0⟩ := HUY.out.cell j hjl
                    have hjw : j < LW.length := by simpa [Si.nn] using hjl
                    have hjy : (Si.nn LW)[j] = ((LW[j] : Nat) : Int) := by simp [Si.nn]
                    have hyn := HLW.out _ (List.getElem_mem hjw)
                    have hno := HE5.out _ (List.getElem_mem hjw)
                    rw [hjy] at u0
                    obtain ⟨y, hy⟩ : ∃ y, LW[j] = y := ⟨_, rfl⟩
                    rw [hy] at u0 hyn hno
                    have q0 := HQY.out y hyn
                    obtain ⟨V, hV⟩ : ∃ V, max (Si.capOf s y - (Si.robZ s cs cs.length y : Int)) 0 = V := ⟨_, rfl⟩
                    rw [hV] at q0 hno
                    have HNO := Lib.hid hno
                    have yy0 : (0 : Int) ≤ (y : Int) := by omega
                    have yy1 : (y : Int) < (nz : Int) := by omega
                    have jj0 : (0 : Int) ≤ (j : Int) := by omega
                    have jj1 : (j : Int) < (UL : Int) := by omega
                    clear hjl hjw hjy hy hV hno
                    by_cases hlt : y < z
                    · have hv : ¬ 0 < V := by have := HNO.out hlt; omega
                      have hl2 : (y : Int) < (z : Int) := by omega
                      go_wp2_with fail
                      go_round
                      case rel => exact ⟨j + 1, by omega, by go_num⟩
                      case measure => simp [intOf]; omega
                    · have hl2 : ¬ (y : Int) < (z : Int) := by omega
                      go_wp2_with fail
                      go_round
                      case rel => exact ⟨j + 1, by omega, by go_num⟩
                      case measure => simp [intOf]; omega
                  · go_wp2_with fail
                    go_roundw
                    case rel => exact ⟨k + 1, by omega, by go_num, UY⟩
                    case measure => simp [intOf]; omega
            · go_wp2_with fail
              go_ret
              exact ⟨rfl, BWr.out⟩
end Go.Proofs.YtfcbcpfnaadpeaaGreatDoor
