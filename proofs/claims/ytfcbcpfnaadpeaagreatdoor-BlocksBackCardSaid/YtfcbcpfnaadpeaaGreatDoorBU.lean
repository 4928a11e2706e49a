/- Parts BkL of this claim, laid one behind the other: walks and the plain laws behind them; each contract states its own conditions. -/
import Derived.Test.YtfcbcpfnaadpeaaGreatDoorBS
import Derived.Test.YtfcbcpfnaadpeaaGreatDoorBT
/- The walk of BlocksBack. -/
namespace Go.Proofs.YtfcbcpfnaadpeaaGreatDoor
set_option linter.unusedSimpArgs false
set_option linter.unusedVariables false
open Go.RowKit

theorem few_cs20 {c : Ve.Cert} (h : Ve.Few c 20) (k : Ve.Num c) : CS c := by
  have c6 := h.c64 (by omega) k
  refine ⟨k.pl, k.rb, ⟨by have := h.ca; omega, k.ca⟩, ⟨by have := h.ke; omega, k.ke⟩, by have := h.tl; omega, fun t ht => ?_, by have := h.sn; omega, fun l hl => ?_⟩
  · obtain ⟨h1, h2⟩ := h.tr t ht
    exact ⟨c6.tr t ht, by omega, by omega⟩
  · have := h.si l hl
    exact ⟨c6.si l hl, by omega⟩
def certN : Ve.Cert := ⟨0, [], [], [], 0, []⟩
theorem certN_cs : CS certN := by
  refine ⟨⟨by decide, by decide⟩, ⟨by decide, by decide⟩, ⟨by decide, (fun x h => by cases h)⟩, ⟨by decide, (fun x h => by cases h)⟩, by decide, (fun x h => by cases h), by decide, (fun x h => by cases h)⟩
theorem certN_v (w : World) : CertV w (.slice none 0 0) (.slice none 0 0) (.slice none 0 0) (.slice none 0 0) certN := by
  refine ⟨Tr.nil w, ?_, ?_, ?_⟩
  · exact Sl.of_own (World.ownsRow_nil (base := 0) (e := 3) (size := 1) ..) (by decide)
  · exact Sl.of_own (World.ownsRow_nil (base := 0) (e := 3) (size := 1) ..) (by decide)
  · exact (RL.nil w 0 0).ll
theorem certS_some2 {b : Wr.B} {c : Ve.Cert} (h : Ve.certS b = some c) : ∃ n, Wr.netS (Wr.textS (b, false)).1 = some n ∧ c = Ve.certC b n ∧ Ve.certW c = b := by
  unfold Ve.certS at h
  split at h
  · cases h
  · rename_i n hn
    split at h
    · rename_i hw
      injection h with h
      subst h
      exact ⟨n, hn, rfl, hw⟩
    · cases h
theorem certS_netR {b : Wr.B} {c : Ve.Cert} (h : Ve.certS b = some c) : Wr.netR c.places c.trans = true := by
  obtain ⟨n, h1, rfl, -⟩ := certS_some2 h
  exact (Ve.netS_some h1).1
set_option maxRecDepth 100000 in
set_option maxHeartbeats 64000000 in
theorem BlocksBack_any (c : Ve.Cert) (tv cv ke se : Value) (D : ByteArray) (w : World) (h : CertV w tv cv ke se c) (hnm : Ve.Num c) (hE : Env w) (hR : EnvR w) :
    Calls Tryz.prog 6 #[.agg (certA c tv cv ke se), .string D] w fun e w' => e = .returned (.bool true) ∧ Below w.heap.size w w' := by
  obtain ⟨ta, tc, rfl, htm⟩ := h.tr.form
  obtain ⟨ca, cc, rfl, hcm⟩ := h.ca.form
  obtain ⟨ka, kc, rfl, hkm⟩ := h.ke.form
  obtain ⟨sa, sc, rfl, hsm⟩ := h.si.form
  have HSM := Lib.hid (fun W (hb : Below w.heap.size w W) => small19_any W (hE.below hb))
  have HFW := Lib.hid (fun W (hb : Below w.heap.size w W) => rFew19_any c _ _ _ _ W (h.keep hb))
  have HRD := Lib.hid (fun (hl : (bs D).length ≤ 1000) W (hb : Below w.heap.size w W) => bRead_any D W (hR.below hb) (by omega) (fun n hn => certC_cs hl hn))
  have HBY := Lib.hid (fun c2 (hcs : CS c2) t2 a2 k2 s2 W (hv : CertV W t2 a2 k2 s2 c2) (hb : Below w.heap.size w W) => bBytes_any c2 hcs t2 a2 k2 s2 W hv (hR.below hb).pow)
  have HPR := Lib.hid (fun P v l W ht => pRight_any P v l W ht)
  have HSA := Lib.hid (fun c2 (hcs : CS c2) t2 a2 k2 s2 t3 a3 k3 s3 W (hv : CertV W t2 a2 k2 s2 c2) (hv2 : CertV W t3 a3 k3 s3 c2) (hb : Below w.heap.size w W) => (by
    have h9 := bSame_any c2 c2 hcs hcs t2 a2 k2 s2 t3 a3 k3 s3 W hv hv2 (hR.below hb).pow
    rw [decide_eq_true rfl] at h9
    exact h9 : Calls Tryz.prog 36 #[.agg (certA c2 t2 a2 k2 s2), .agg (certA c2 t3 a3 k3 s3)] W fun e w' => e = .returned (.bool true) ∧ Below W.heap.size W w'))
  have HCVK := Lib.hid (fun W (hb : Below w.heap.size w W) => h.keep hb)
  have HCVt := Lib.hid (fun W (hb : Below w.heap.size w W) => h.tr.keep hb)
  have HCS := Lib.hid (fun (h20 : Ve.Few c 20) => few_cs20 h20 hnm)
  have HLN := Lib.hid (fun (h20 : Ve.Few c 20) => few_len h20 hnm)
  have HC64 := Lib.hid (fun (h20 : Ve.Few c 20) => h20.c64 (by omega) hnm)
  have HRE := Lib.hid (fun (E : ByteArray) (hEb : bs E = Ve.certW c) (h20 : Ve.Few c 20) (hr : Wr.netR c.places c.trans = true) W (hb : Below w.heap.size w W) => (by
    have h9 := bRead_any E W (hR.below hb) (by rw [hEb]; exact few_len h20 hnm) (fun n hn => by
      obtain ⟨k1, k2⟩ := certC_of (h20.c64 (by omega) hnm) hr
      rw [hEb] at hn ⊢
      rw [k1] at hn
      injection hn with hn
      subst hn
      rw [k2]
      exact few_cs20 h20 hnm)
    unfold CertPost at h9
    rw [hEb, Ve.certS_of (h20.c64 (by omega) hnm) hr] at h9
    exact h9 : Calls Tryz.prog 33 #[.string E] W fun e w' => Below W.heap.size W w' ∧ ((some c = none ∧ e = .returned (.tuple #[.agg certZero, .bool false])) ∨ ∃ c2 tv cv ke se, some c = some c2 ∧ e = .returned (.tuple #[.agg (certA c2 tv cv ke se), .bool true]) ∧ CertV w' tv cv ke se c2)))
  unfold CertPost at HRD
  unfold certA at HFW ⊢
  obtain ⟨P0, hP⟩ : ∃ P, c.places = P := ⟨_, rfl⟩
  obtain ⟨R0, hR0⟩ : ∃ P, c.robots = P := ⟨_, rfl⟩
  obtain ⟨TL, hn1⟩ : ∃ P, c.trans.length = P := ⟨_, rfl⟩
  obtain ⟨CL, hn2⟩ : ∃ P, c.caps.length = P := ⟨_, rfl⟩
  obtain ⟨KL, hn3⟩ : ∃ P, c.keeps.length = P := ⟨_, rfl⟩
  obtain ⟨M, hn4⟩ : ∃ P, c.sips.length = P := ⟨_, rfl⟩
  have HP := Lib.hid hP
  have HR0 := Lib.hid hR0
  rw [hP, hR0, hn1, hn2, hn3, hn4] at HFW
  rw [hn1, hn2, hn3, hn4] at HCVK
  rw [hn1] at HCVt
  rw [hP, hR0, hn1, hn2, hn3, hn4]
  obtain ⟨NR, hNR⟩ : ∃ b, Wr.netR c.places c.trans = b := ⟨_, rfl⟩
  rw [hNR] at HRE
  have HNR := Lib.hid hNR
  obtain ⟨w1, hw1⟩ : ∃ W, W = w.alloc (.cells #[.int .i64 P0, .slice ta TL tc, .slice ca CL cc, .slice ka KL kc, .int .i64 R0, .slice sa M sc] 38) := ⟨_, rfl⟩
  have B1 : Hid (Below w.heap.size w w1) := Lib.hid (by rw [hw1]; exact (Below.refl _ _).alloc (Nat.le_refl _) _)
  have I1 : Hid (w1.heap[w.heap.size]? = some (.cells #[.int .i64 P0, .slice ta TL tc, .slice ca CL cc, .slice ka KL kc, .int .i64 R0, .slice sa M sc] 38 (0, 0))) := Lib.hid (by rw [hw1]; exact heap_alloc_new _ _)
  have HW1 := Lib.hid hw1
  clear h hnm hE hR hP hR0 hn1 hn2 hn3 hn4 htm hcm hkm hsm hw1 hNR
  go_enter Tryz.func6, Tryz.ntmps6
  go_upto_region 1 with fail
  rw [← HW1.out]
  go_wp2_with fail
  go_at_call 31; refine (HSM.out _ B1.out).mono ?_; rintro e w2 ⟨rfl, b2⟩
  have B2 := Lib.hid (B1.out.trans (b2.mono B1.out.size))
  have I2 := Lib.hid (keep_heap I1.out b2)
  clear b2
  have c0 : w2.cell? ⟨w.heap.size, 0, none⟩ = some (.int .i64 P0) := cell_of_heap I2.out 0 rfl
  have c1 : w2.cell? ⟨w.heap.size, 1, none⟩ = some (.slice ta TL tc) := cell_of_heap I2.out 1 rfl
  have c2 : w2.cell? ⟨w.heap.size, 2, none⟩ = some (.slice ca CL cc) := cell_of_heap I2.out 2 rfl
  have c3 : w2.cell? ⟨w.heap.size, 3, none⟩ = some (.slice ka KL kc) := cell_of_heap I2.out 3 rfl
  have c4 : w2.cell? ⟨w.heap.size, 4, none⟩ = some (.int .i64 R0) := cell_of_heap I2.out 4 rfl
  have c5 : w2.cell? ⟨w.heap.size, 5, none⟩ = some (.slice sa M sc) := cell_of_heap I2.out 5 rfl
  go_wp2_with fail
  go_at_call 32; refine (HFW.out _ B2.out).mono ?_; rintro e w3 ⟨⟨r, rfl, hr⟩, b3⟩
  have B3 := Lib.hid (B2.out.trans (b3.mono B2.out.size))
  have I3 := Lib.hid (keep_heap I2.out b3)
  have HRR := Lib.hid hr
  clear b3 hr c0 c1 c2 c3 c4 c5
  cases r with
  | false =>
    go_wp2_with fail
    go_ret
    exact ⟨rfl, B3.out⟩
  | true =>
    have H20 := Lib.hid (HRR.out rfl)
    clear HRR
    by_cases hD : D.size ≤ 1000
    case neg =>
      have t1 : decide ((D.size : Int) > 1000) = true := by simp; omega
      have t1' : (D.size : Int) > 1000 := by omega
      clear hD
      go_wp2_with fail
      go_ret
      exact ⟨rfl, B3.out⟩
    have hl : (bs D).length ≤ 1000 := by rw [bs_len]; exact hD
    have HRD2 := Lib.hid (HRD.out hl _ B3.out)
    have t1 : decide ((D.size : Int) > 1000) = false := by simp; omega
    have t1' : ¬ (D.size : Int) > 1000 := by omega
    clear hD
    go_wp2_with fail
    go_at_call 33; refine HRD2.out.mono ?_; rintro e w4 ⟨b4, ⟨hno, rfl⟩ | ⟨d, t2, a2, k2, s2, hso, rfl, hv2⟩⟩
    · have B4 := Lib.hid (B3.out.trans (b4.mono B3.out.size))
      have I4 := Lib.hid (keep_heap I3.out b4)
      unfold certZero
      obtain ⟨w5, hw5⟩ : ∃ W, W = w4.alloc (.cells #[.int .i64 0, .slice none 0 0, .slice none 0 0, .slice none 0 0, .int .i64 0, .slice none 0 0] 38) := ⟨_, rfl⟩
      have b5 : Below w4.heap.size w4 w5 := by rw [hw5]; exact (Below.refl _ _).alloc (Nat.le_refl _) _
      have B5 := Lib.hid (B4.out.trans (b5.mono B4.out.size))
      have I5 := Lib.hid (keep_heap I4.out b5)
      have J5 : Hid (w5.heap[w4.heap.size]? = some (.cells #[.int .i64 0, .slice none 0 0, .slice none 0 0, .slice none 0 0, .int .i64 0, .slice none 0 0] 38 (0, 0))) := Lib.hid (by rw [hw5]; exact heap_alloc_new _ _)
      have HW5 := Lib.hid hw5
      have HSC := Lib.hid (HSA.out certN certN_cs _ _ _ _ _ _ _ _ w5 (certN_v w5) (certN_v w5) B5.out)
      unfold certA certN at HSC
      clear hw5 b5 b4 hno HRD2
      go_upto_region 5 with fail
      rw [← HW5.out]
      have z0 : w5.cell? ⟨w4.heap.size, 0, none⟩ = some (.int .i64 0) := cell_of_heap J5.out 0 rfl
      have z1 : w5.cell? ⟨w4.heap.size, 1, none⟩ = some (.slice none 0 0) := cell_of_heap J5.out 1 rfl
      have z2 : w5.cell? ⟨w4.heap.size, 2, none⟩ = some (.slice none 0 0) := cell_of_heap J5.out 2 rfl
      have z3 : w5.cell? ⟨w4.heap.size, 3, none⟩ = some (.slice none 0 0) := cell_of_heap J5.out 3 rfl
      have z4 : w5.cell? ⟨w4.heap.size, 4, none⟩ = some (.int .i64 0) := cell_of_heap J5.out 4 rfl
      have z5 : w5.cell? ⟨w4.heap.size, 5, none⟩ = some (.slice none 0 0) := cell_of_heap J5.out 5 rfl
      go_wp2_with fail
      go_at_call 36; refine HSC.out.mono ?_; rintro e w6 ⟨rfl, b6⟩
      have B6 := Lib.hid (B5.out.trans (b6.mono B5.out.size))
      have I6 := Lib.hid (keep_heap I5.out b6)
      clear b6 HSC z0 z1 z2 z3 z4 z5
      have c0 : w6.cell? ⟨w.heap.size, 0, none⟩ = some (.int .i64 P0) := cell_of_heap I6.out 0 rfl
      have c1 : w6.cell? ⟨w.heap.size, 1, none⟩ = some (.slice ta TL tc) := cell_of_heap I6.out 1 rfl
      have c2 : w6.cell? ⟨w.heap.size, 2, none⟩ = some (.slice ca CL cc) := cell_of_heap I6.out 2 rfl
      have c3 : w6.cell? ⟨w.heap.size, 3, none⟩ = some (.slice ka KL kc) := cell_of_heap I6.out 3 rfl
      have c4 : w6.cell? ⟨w.heap.size, 4, none⟩ = some (.int .i64 R0) := cell_of_heap I6.out 4 rfl
      have c5 : w6.cell? ⟨w.heap.size, 5, none⟩ = some (.slice sa M sc) := cell_of_heap I6.out 5 rfl
      have HPC := Lib.hid (HPR.out P0 _ c.trans w6 (HCVt.out _ B6.out))
      have HCP : Hid (Wr.netR P0 c.trans = NR) := Lib.hid (by rw [← HP.out]; exact HNR.out)
      rw [HCP.out] at HPC
      go_wp2_with fail
      go_at_call 35; refine HPC.out.mono ?_; rintro e wa ⟨rfl, ba⟩
      have Ba := Lib.hid (B6.out.trans (ba.mono B6.out.size))
      have Ia := Lib.hid (keep_heap I6.out ba)
      clear ba HPC HCP c0 c1 c2 c3 c4 c5
      cases NR with
      | false =>
        go_wp2_with fail
        go_ret
        exact ⟨rfl, Ba.out⟩
      | true =>
        have HCVa := Lib.hid (HCVK.out wa Ba.out)
        have HBC := Lib.hid (HBY.out c (HCS.out H20.out) _ _ _ _ wa HCVa.out Ba.out)
        unfold certA at HBC
        rw [HP.out, HR0.out] at HBC
        have c0 : wa.cell? ⟨w.heap.size, 0, none⟩ = some (.int .i64 P0) := cell_of_heap Ia.out 0 rfl
        have c1 : wa.cell? ⟨w.heap.size, 1, none⟩ = some (.slice ta TL tc) := cell_of_heap Ia.out 1 rfl
        have c2 : wa.cell? ⟨w.heap.size, 2, none⟩ = some (.slice ca CL cc) := cell_of_heap Ia.out 2 rfl
        have c3 : wa.cell? ⟨w.heap.size, 3, none⟩ = some (.slice ka KL kc) := cell_of_heap Ia.out 3 rfl
        have c4 : wa.cell? ⟨w.heap.size, 4, none⟩ = some (.int .i64 R0) := cell_of_heap Ia.out 4 rfl
        have c5 : wa.cell? ⟨w.heap.size, 5, none⟩ = some (.slice sa M sc) := cell_of_heap Ia.out 5 rfl
        go_wp2_with fail
        go_at_call 34; refine HBC.out.mono ?_; rintro e wb ⟨E, hE8, hEs, rfl, bb⟩
        have Bb := Lib.hid (Ba.out.trans (bb.mono Ba.out.size))
        have Ib := Lib.hid (keep_heap Ia.out bb)
        have HRE2 := Lib.hid (HRE.out E hE8 H20.out (by simp) wb Bb.out)
        clear bb hE8 hEs HBC c0 c1 c2 c3 c4 c5
        go_wp2_with fail
        go_at_call 33; refine HRE2.out.mono ?_; rintro e wc ⟨bc, ⟨hno, rfl⟩ | ⟨f, t3, a3, k3, s3, hso3, rfl, hv3⟩⟩
        · cases hno
        injection hso3 with hso3
        subst hso3
        have Bc := Lib.hid (Bb.out.trans (bc.mono Bb.out.size))
        have Ic := Lib.hid (keep_heap Ib.out bc)
        have HV3 := Lib.hid hv3
        obtain ⟨t3, u3, rfl, -⟩ := hv3.tr.form
        obtain ⟨a3, v3, rfl, -⟩ := hv3.ca.form
        obtain ⟨k3, x3, rfl, -⟩ := hv3.ke.form
        obtain ⟨s3, y3, rfl, -⟩ := hv3.si.form
        unfold certA
        obtain ⟨wd, hwd⟩ : ∃ W, W = wc.alloc (.cells #[.int .i64 c.places, .slice t3 c.trans.length u3, .slice a3 c.caps.length v3, .slice k3 c.keeps.length x3, .int .i64 c.robots, .slice s3 c.sips.length y3] 38) := ⟨_, rfl⟩
        have bd : Below wc.heap.size wc wd := by rw [hwd]; exact (Below.refl _ _).alloc (Nat.le_refl _) _
        have Bd := Lib.hid (Bc.out.trans (bd.mono Bc.out.size))
        have Id := Lib.hid (keep_heap Ic.out bd)
        have Jd : Hid (wd.heap[wc.heap.size]? = some (.cells #[.int .i64 c.places, .slice t3 c.trans.length u3, .slice a3 c.caps.length v3, .slice k3 c.keeps.length x3, .int .i64 c.robots, .slice s3 c.sips.length y3] 38 (0, 0))) := Lib.hid (by rw [hwd]; exact heap_alloc_new _ _)
        have HSC := Lib.hid (HSA.out c (HCS.out H20.out) _ _ _ _ _ _ _ _ wd (HCVK.out wd Bd.out) (HV3.out.keep bd) Bd.out)
        unfold certA at HSC
        have HWd := Lib.hid hwd
        have DP : c.places = P0 := HP.out
        have DR : c.robots = R0 := HR0.out
        rw [DP, DR] at HSC Jd
        rw [DP, DR] at HWd
        rw [DP, DR]
        clear bc hv3 hwd bd HRE2 DP DR
        go_upto_region 10 with fail
        rw [← HWd.out]
        have c0 : wd.cell? ⟨w.heap.size, 0, none⟩ = some (.int .i64 P0) := cell_of_heap Id.out 0 rfl
        have c1 : wd.cell? ⟨w.heap.size, 1, none⟩ = some (.slice ta TL tc) := cell_of_heap Id.out 1 rfl
        have c2 : wd.cell? ⟨w.heap.size, 2, none⟩ = some (.slice ca CL cc) := cell_of_heap Id.out 2 rfl
        have c3 : wd.cell? ⟨w.heap.size, 3, none⟩ = some (.slice ka KL kc) := cell_of_heap Id.out 3 rfl
        have c4 : wd.cell? ⟨w.heap.size, 4, none⟩ = some (.int .i64 R0) := cell_of_heap Id.out 4 rfl
        have c5 : wd.cell? ⟨w.heap.size, 5, none⟩ = some (.slice sa M sc) := cell_of_heap Id.out 5 rfl
        have d0 : wd.cell? ⟨wc.heap.size, 0, none⟩ = some (.int .i64 P0) := cell_of_heap Jd.out 0 rfl
        have d1 : wd.cell? ⟨wc.heap.size, 1, none⟩ = some (.slice t3 c.trans.length u3) := cell_of_heap Jd.out 1 rfl
        have d2 : wd.cell? ⟨wc.heap.size, 2, none⟩ = some (.slice a3 c.caps.length v3) := cell_of_heap Jd.out 2 rfl
        have d3 : wd.cell? ⟨wc.heap.size, 3, none⟩ = some (.slice k3 c.keeps.length x3) := cell_of_heap Jd.out 3 rfl
        have d4 : wd.cell? ⟨wc.heap.size, 4, none⟩ = some (.int .i64 R0) := cell_of_heap Jd.out 4 rfl
        have d5 : wd.cell? ⟨wc.heap.size, 5, none⟩ = some (.slice s3 c.sips.length y3) := cell_of_heap Jd.out 5 rfl
        go_wp2_with fail
        go_at_call 36; refine HSC.out.mono ?_; rintro e we ⟨rfl, be⟩
        have Be := Lib.hid (Bd.out.trans (be.mono Bd.out.size))
        clear be HSC
        go_wp2_with fail
        go_ret
        exact ⟨rfl, Be.out⟩
    · have B4 := Lib.hid (B3.out.trans (b4.mono B3.out.size))
      have I4 := Lib.hid (keep_heap I3.out b4)
      obtain ⟨nn9, hn9, hd9, hdw⟩ := certS_some2 hso
      have hdn := certS_netR hso
      have hdc : CS d := by rw [hd9]; exact certC_cs hl hn9
      have HDW := Lib.hid hdw
      have HV4 := Lib.hid hv2
      obtain ⟨t2, u2, rfl, -⟩ := hv2.tr.form
      obtain ⟨a2, v2, rfl, -⟩ := hv2.ca.form
      obtain ⟨k2, x2, rfl, -⟩ := hv2.ke.form
      obtain ⟨s2, y2, rfl, -⟩ := hv2.si.form
      unfold certA
      obtain ⟨P2, hP2⟩ : ∃ P, d.places = P := ⟨_, rfl⟩
      obtain ⟨R2, hR2⟩ : ∃ P, d.robots = P := ⟨_, rfl⟩
      obtain ⟨T2, hT2⟩ : ∃ P, d.trans.length = P := ⟨_, rfl⟩
      obtain ⟨A2, hA2⟩ : ∃ P, d.caps.length = P := ⟨_, rfl⟩
      obtain ⟨K2, hK2⟩ : ∃ P, d.keeps.length = P := ⟨_, rfl⟩
      obtain ⟨M2, hM2⟩ : ∃ P, d.sips.length = P := ⟨_, rfl⟩
      rw [hT2, hA2, hK2, hM2] at HV4
      rw [hP2, hR2, hT2, hA2, hK2, hM2]
      obtain ⟨w5, hw5⟩ : ∃ W, W = w4.alloc (.cells #[.int .i64 P2, .slice t2 T2 u2, .slice a2 A2 v2, .slice k2 K2 x2, .int .i64 R2, .slice s2 M2 y2] 38) := ⟨_, rfl⟩
      have b5 : Below w4.heap.size w4 w5 := by rw [hw5]; exact (Below.refl _ _).alloc (Nat.le_refl _) _
      have B5 := Lib.hid (B4.out.trans (b5.mono B4.out.size))
      have I5 := Lib.hid (keep_heap I4.out b5)
      have J5 : Hid (w5.heap[w4.heap.size]? = some (.cells #[.int .i64 P2, .slice t2 T2 u2, .slice a2 A2 v2, .slice k2 K2 x2, .int .i64 R2, .slice s2 M2 y2] 38 (0, 0))) := Lib.hid (by rw [hw5]; exact heap_alloc_new _ _)
      have HV5 := Lib.hid (HV4.out.keep b5)
      have HW5 := Lib.hid hw5
      have HBD := Lib.hid (HBY.out d hdc _ _ _ _ w5 HV5.out B5.out)
      unfold certA at HBD
      rw [hP2, hR2, hdw] at HBD
      have HND : Hid (Wr.netR P2 d.trans = true) := Lib.hid (by rw [← hP2]; exact hdn)
      have HTT := Lib.hid hv2.tr
      clear hw5 b4 hso hv2 hn9 hd9 hdw hdn hdc HRD2 hP2 hR2 hT2 hA2 hK2 hM2 HV4
      go_upto_region 5 with fail
      rw [← HW5.out]
      clear b5
      have z0 : w5.cell? ⟨w4.heap.size, 0, none⟩ = some (.int .i64 P2) := cell_of_heap J5.out 0 rfl
      have z1 : w5.cell? ⟨w4.heap.size, 1, none⟩ = some (.slice t2 T2 u2) := cell_of_heap J5.out 1 rfl
      have z2 : w5.cell? ⟨w4.heap.size, 2, none⟩ = some (.slice a2 A2 v2) := cell_of_heap J5.out 2 rfl
      have z3 : w5.cell? ⟨w4.heap.size, 3, none⟩ = some (.slice k2 K2 x2) := cell_of_heap J5.out 3 rfl
      have z4 : w5.cell? ⟨w4.heap.size, 4, none⟩ = some (.int .i64 R2) := cell_of_heap J5.out 4 rfl
      have z5 : w5.cell? ⟨w4.heap.size, 5, none⟩ = some (.slice s2 M2 y2) := cell_of_heap J5.out 5 rfl
      go_wp2_with fail
      go_at_call 34; refine HBD.out.mono ?_; rintro e w6 ⟨E, hE8, hEs, rfl, b6⟩
      have hED := bs_inj hE8
      subst hED
      have B6 := Lib.hid (B5.out.trans (b6.mono B5.out.size))
      have I6 := Lib.hid (keep_heap I5.out b6)
      have J6 := Lib.hid (keep_heap J5.out b6)
      have HPD := Lib.hid (HPR.out P2 _ d.trans w6 (HV5.out.keep b6).tr)
      rw [HND.out] at HPD
      clear b6 hE8 hEs HBD z0 z1 z2 z3 z4 z5
      have z0 : w6.cell? ⟨w4.heap.size, 0, none⟩ = some (.int .i64 P2) := cell_of_heap J6.out 0 rfl
      have z1 : w6.cell? ⟨w4.heap.size, 1, none⟩ = some (.slice t2 T2 u2) := cell_of_heap J6.out 1 rfl
      go_wp2_with fail
      go_at_call 35; refine HPD.out.mono ?_; rintro e w7 ⟨rfl, b7⟩
      have B7 := Lib.hid (B6.out.trans (b7.mono B6.out.size))
      have I7 := Lib.hid (keep_heap I6.out b7)
      clear b7 HPD z0 z1
      have c0 : w7.cell? ⟨w.heap.size, 0, none⟩ = some (.int .i64 P0) := cell_of_heap I7.out 0 rfl
      have c1 : w7.cell? ⟨w.heap.size, 1, none⟩ = some (.slice ta TL tc) := cell_of_heap I7.out 1 rfl
      have c2 : w7.cell? ⟨w.heap.size, 2, none⟩ = some (.slice ca CL cc) := cell_of_heap I7.out 2 rfl
      have c3 : w7.cell? ⟨w.heap.size, 3, none⟩ = some (.slice ka KL kc) := cell_of_heap I7.out 3 rfl
      have c4 : w7.cell? ⟨w.heap.size, 4, none⟩ = some (.int .i64 R0) := cell_of_heap I7.out 4 rfl
      have c5 : w7.cell? ⟨w.heap.size, 5, none⟩ = some (.slice sa M sc) := cell_of_heap I7.out 5 rfl
      have HPC := Lib.hid (HPR.out P0 _ c.trans w7 (HCVt.out _ B7.out))
      have HCP : Hid (Wr.netR P0 c.trans = NR) := Lib.hid (by rw [← HP.out]; exact HNR.out)
      rw [HCP.out] at HPC
      go_wp2_with fail
      go_at_call 35; refine HPC.out.mono ?_; rintro e wa ⟨rfl, ba⟩
      have Ba := Lib.hid (B7.out.trans (ba.mono B7.out.size))
      have Ia := Lib.hid (keep_heap I7.out ba)
      clear ba HPC HCP c0 c1 c2 c3 c4 c5
      cases NR with
      | false =>
        go_wp2_with fail
        go_ret
        exact ⟨rfl, Ba.out⟩
      | true =>
        have HCVa := Lib.hid (HCVK.out wa Ba.out)
        have HBC := Lib.hid (HBY.out c (HCS.out H20.out) _ _ _ _ wa HCVa.out Ba.out)
        unfold certA at HBC
        rw [HP.out, HR0.out] at HBC
        have c0 : wa.cell? ⟨w.heap.size, 0, none⟩ = some (.int .i64 P0) := cell_of_heap Ia.out 0 rfl
        have c1 : wa.cell? ⟨w.heap.size, 1, none⟩ = some (.slice ta TL tc) := cell_of_heap Ia.out 1 rfl
        have c2 : wa.cell? ⟨w.heap.size, 2, none⟩ = some (.slice ca CL cc) := cell_of_heap Ia.out 2 rfl
        have c3 : wa.cell? ⟨w.heap.size, 3, none⟩ = some (.slice ka KL kc) := cell_of_heap Ia.out 3 rfl
        have c4 : wa.cell? ⟨w.heap.size, 4, none⟩ = some (.int .i64 R0) := cell_of_heap Ia.out 4 rfl
        have c5 : wa.cell? ⟨w.heap.size, 5, none⟩ = some (.slice sa M sc) := cell_of_heap Ia.out 5 rfl
        go_wp2_with fail
        go_at_call 34; refine HBC.out.mono ?_; rintro e wb ⟨E, hE8, hEs, rfl, bb⟩
        have Bb := Lib.hid (Ba.out.trans (bb.mono Ba.out.size))
        have Ib := Lib.hid (keep_heap Ia.out bb)
        have HRE2 := Lib.hid (HRE.out E hE8 H20.out (by simp) wb Bb.out)
        clear bb hE8 hEs HBC c0 c1 c2 c3 c4 c5
        go_wp2_with fail
        go_at_call 33; refine HRE2.out.mono ?_; rintro e wc ⟨bc, ⟨hno, rfl⟩ | ⟨f, t3, a3, k3, s3, hso3, rfl, hv3⟩⟩
        · cases hno
        injection hso3 with hso3
        subst hso3
        have Bc := Lib.hid (Bb.out.trans (bc.mono Bb.out.size))
        have Ic := Lib.hid (keep_heap Ib.out bc)
        have HV3 := Lib.hid hv3
        obtain ⟨t3, u3, rfl, -⟩ := hv3.tr.form
        obtain ⟨a3, v3, rfl, -⟩ := hv3.ca.form
        obtain ⟨k3, x3, rfl, -⟩ := hv3.ke.form
        obtain ⟨s3, y3, rfl, -⟩ := hv3.si.form
        unfold certA
        obtain ⟨wd, hwd⟩ : ∃ W, W = wc.alloc (.cells #[.int .i64 c.places, .slice t3 c.trans.length u3, .slice a3 c.caps.length v3, .slice k3 c.keeps.length x3, .int .i64 c.robots, .slice s3 c.sips.length y3] 38) := ⟨_, rfl⟩
        have bd : Below wc.heap.size wc wd := by rw [hwd]; exact (Below.refl _ _).alloc (Nat.le_refl _) _
        have Bd := Lib.hid (Bc.out.trans (bd.mono Bc.out.size))
        have Id := Lib.hid (keep_heap Ic.out bd)
        have Jd : Hid (wd.heap[wc.heap.size]? = some (.cells #[.int .i64 c.places, .slice t3 c.trans.length u3, .slice a3 c.caps.length v3, .slice k3 c.keeps.length x3, .int .i64 c.robots, .slice s3 c.sips.length y3] 38 (0, 0))) := Lib.hid (by rw [hwd]; exact heap_alloc_new _ _)
        have HSC := Lib.hid (HSA.out c (HCS.out H20.out) _ _ _ _ _ _ _ _ wd (HCVK.out wd Bd.out) (HV3.out.keep bd) Bd.out)
        unfold certA at HSC
        have HWd := Lib.hid hwd
        have DP : c.places = P0 := HP.out
        have DR : c.robots = R0 := HR0.out
        rw [DP, DR] at HSC Jd
        rw [DP, DR] at HWd
        rw [DP, DR]
        clear bc hv3 hwd bd HRE2 DP DR
        go_upto_region 10 with fail
        rw [← HWd.out]
        have c0 : wd.cell? ⟨w.heap.size, 0, none⟩ = some (.int .i64 P0) := cell_of_heap Id.out 0 rfl
        have c1 : wd.cell? ⟨w.heap.size, 1, none⟩ = some (.slice ta TL tc) := cell_of_heap Id.out 1 rfl
        have c2 : wd.cell? ⟨w.heap.size, 2, none⟩ = some (.slice ca CL cc) := cell_of_heap Id.out 2 rfl
        have c3 : wd.cell? ⟨w.heap.size, 3, none⟩ = some (.slice ka KL kc) := cell_of_heap Id.out 3 rfl
        have c4 : wd.cell? ⟨w.heap.size, 4, none⟩ = some (.int .i64 R0) := cell_of_heap Id.out 4 rfl
        have c5 : wd.cell? ⟨w.heap.size, 5, none⟩ = some (.slice sa M sc) := cell_of_heap Id.out 5 rfl
        have d0 : wd.cell? ⟨wc.heap.size, 0, none⟩ = some (.int .i64 P0) := cell_of_heap Jd.out 0 rfl
        have d1 : wd.cell? ⟨wc.heap.size, 1, none⟩ = some (.slice t3 c.trans.length u3) := cell_of_heap Jd.out 1 rfl
        have d2 : wd.cell? ⟨wc.heap.size, 2, none⟩ = some (.slice a3 c.caps.length v3) := cell_of_heap Jd.out 2 rfl
        have d3 : wd.cell? ⟨wc.heap.size, 3, none⟩ = some (.slice k3 c.keeps.length x3) := cell_of_heap Jd.out 3 rfl
        have d4 : wd.cell? ⟨wc.heap.size, 4, none⟩ = some (.int .i64 R0) := cell_of_heap Jd.out 4 rfl
        have d5 : wd.cell? ⟨wc.heap.size, 5, none⟩ = some (.slice s3 c.sips.length y3) := cell_of_heap Jd.out 5 rfl
        go_wp2_with fail
        go_at_call 36; refine HSC.out.mono ?_; rintro e we ⟨rfl, be⟩
        have Be := Lib.hid (Bd.out.trans (be.mono Bd.out.size))
        clear be HSC
        go_wp2_with fail
        go_ret
        exact ⟨rfl, Be.out⟩
end Go.Proofs.YtfcbcpfnaadpeaaGreatDoor
