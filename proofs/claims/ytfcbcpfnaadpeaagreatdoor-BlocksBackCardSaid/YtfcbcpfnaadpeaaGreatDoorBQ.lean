/- Parts Wr2, Wr3 of this claim, laid one behind the other: walks and the plain laws behind them; each contract states its own conditions. -/
import Derived.Test.YtfcbcpfnaadpeaaGreatDoorBM
import Derived.Test.YtfcbcpfnaadpeaaGreatDoorBA
import Derived.Test.YtfcbcpfnaadpeaaGreatDoorBP
/- Walks: petri.Bytes. -/
namespace Go.Proofs.YtfcbcpfnaadpeaaGreatDoor
set_option linter.unusedSimpArgs false
set_option linter.unusedVariables false
open Go.RowKit

/-- A transition of numbers of Go, of at most a thousand places. -/
def TS (t : List Int × List Int) : Prop := Wr.T64 t ∧ t.1.length ≤ 1000 ∧ t.2.length ≤ 1000
theorem TS.len {t : List Int × List Int} (h : TS t) : (Wr.transB t).length ≤ 50000 := by
  have h1 := Wr.nums_len h.1.1
  have h2 := Wr.nums_len h.1.2
  obtain ⟨-, h3, h4⟩ := h
  unfold Wr.transB
  rw [List.length_append]; omega
set_option maxRecDepth 100000 in
set_option maxHeartbeats 16000000 in
theorem pBytes_any (P : Int) (hP : Wr.I64 P) (tv : Value) (l : List (List Int × List Int)) (hl : l.length ≤ 1000000) (h64 : ∀ t ∈ l, TS t) (w : World) (h : Tr w tv l) (hT : PowT w) :
    Calls Tryz.prog 92 #[.agg #[.int .i64 P, tv]] w (SP (Wr.netB P l) w) := by
  obtain ⟨a, ca, rfl, hm⟩ := h.form
  obtain ⟨n, hn⟩ : ∃ n, n = l.length := ⟨_, rfl⟩
  have HV := Lib.hid h
  have HG : Hid (Wr.netB P l = (Wr.int P ++ Wr.num n) ++ ((l.take n).map Wr.transB).flatten) := Lib.hid (by unfold Wr.netB; rw [hn, List.take_length, List.append_assoc])
  rw [← hn] at hm hl HV ⊢
  have H64 := Lib.hid h64
  have HIL := Wr.int_len hP
  have HNL : (Wr.num n).length ≤ 22 := Wr.int_len ⟨by omega, by omega⟩
  have HCI := Lib.hid (fun W (hb : Below w.heap.size w W) => wInt_any P hP W (hT.below hb))
  have HCN := Lib.hid (fun W (hb : Below w.heap.size w W) => wNum_any n (by omega) W (hT.below hb))
  have HNU := Lib.hid (fun v (x : List Int) (hx : x.length ≤ 1000) (h64 : Wr.Is64 x) W (hv : Is W v x) (hb : Below w.heap.size w W) => wNums_any v x (by omega) h64.2 W hv (hT.below hb))
  have HN := Lib.hid hn
  obtain ⟨iP, hiP⟩ : ∃ x, x = Wr.int P := ⟨_, rfl⟩
  obtain ⟨iN, hiN⟩ : ∃ x, x = Wr.num n := ⟨_, rfl⟩
  rw [← hiP] at HCI HIL HG
  rw [← hiN] at HCN HNL HG
  clear h hT h64 hn hP hiP hiN
  obtain ⟨W, hW⟩ : ∃ W, W = w.alloc (.cells #[.int .i64 P, .slice a n ca] 35) := ⟨_, rfl⟩
  have BW : Hid (Below w.heap.size w W) := Lib.hid (by rw [hW]; exact (Below.refl _ _).alloc (Nat.le_refl _) _)
  have IW : Hid (W.heap[w.heap.size]? = some (.cells #[.int .i64 P, .slice a n ca] 35 (0, 0))) := Lib.hid (by rw [hW]; exact heap_alloc_new _ _)
  have HW := Lib.hid hW
  have q0 : W.cell? ⟨w.heap.size, 0, none⟩ = some (.int .i64 P) := cell_of_heap IW.out 0 rfl
  have q1 : W.cell? ⟨w.heap.size, 1, none⟩ = some (.slice a n ca) := cell_of_heap IW.out 1 rfl
  have lw : w.heap.size < W.heap.size := heap_lt IW.out
  clear hW
  go_enter Tryz.func92, Tryz.ntmps92
  go_upto_region 1 with fail
  rw [← HW.out]
  have BX : Below W.heap.size W W.drew := below_drewN _ _ 1
  go_cut [3] (fun v wx => ∃ D : ByteArray, v = .string D ∧ Hid (bs D = iP ++ iN) ∧ D.size ≤ 44 ∧ Hid (Below W.heap.size W wx))
  case first =>
    go_region_with
      (first | (go_at_call 94; refine (HCI.out _ (BW.out.trans (BX.mono BW.out.size))).mono ?_; rintro e w2 ⟨D1, hd, hs1, rfl, b2⟩; have HD1 := Lib.hid hd; have z1 : D1.size ≤ 22 := (by omega); have Z1 := Lib.hid hs1; have BX : Below W.heap.size W w2 := BX.trans (b2.mono BX.size); have s0 := (BX.cell (p := ⟨w.heap.size, 0, none⟩) lw).trans q0; have s1 := (BX.cell (p := ⟨w.heap.size, 1, none⟩) lw).trans q1; clear b2 hd hs1) | (go_at_call 95; refine (HCN.out _ (BW.out.trans (BX.mono BW.out.size))).mono ?_; rintro e w2 ⟨D2, hd, hs1, rfl, b2⟩; have HD2 := Lib.hid hd; have z2 : D2.size ≤ 22 := (by omega); have Z2 := Lib.hid hs1; have BX : Below W.heap.size W w2 := BX.trans (b2.mono BX.size); have s0 := (BX.cell (p := ⟨w.heap.size, 0, none⟩) lw).trans q0; have s1 := (BX.cell (p := ⟨w.heap.size, 1, none⟩) lw).trans q1; clear b2 hd hs1))
    all_goals go_wp2_with fail
    all_goals
      go_meet
      exact ⟨_, rfl, Lib.hid (by rw [bs_append, HD1.out, HD2.out]), by rw [ByteArray.size_append]; omega, Lib.hid BX⟩
  case rest =>
    obtain ⟨D, rfl, HD, hds, HBX⟩ := hcut
    clear q0 q1 BX
    have q1 : wc.cell? ⟨w.heap.size, 1, none⟩ = some (.slice a n ca) := cell_of_heap (keep_heap IW.out HBX.out) 1 rfl
    have D0 : Hid (bs D = (iP ++ iN) ++ ((l.take 0).map Wr.transB).flatten) := Lib.hid (by rw [HD.out]; simp)
    go_wp2_with fail
    go_loopw [3, 17] (fun sv iv wr => ∃ (k : Nat) (D : ByteArray), k ≤ n ∧ iv = .int .i64 k ∧ sv = .string D ∧ Hid (bs D = (iP ++ iN) ++ ((l.take k).map Wr.transB).flatten) ∧ D.size ≤ 44 + k * 50000 ∧ Hid (Below W.heap.size W wr)) (fun _ iv _ => n - (intOf iv).toNat)
    case atStart => exact ⟨0, D, by omega, rfl, rfl, D0, by omega, HBX⟩
    case round =>
      clear D0 q1 hds HD
      obtain ⟨k, D, hk, rfl, rfl, HD, hds, HB⟩ := hrel
      by_cases hkn : k < n
      · have hkl : k < l.length := by rw [← HN.out]; exact hkn
        have BR := Lib.hid (BW.out.trans (HB.out.mono BW.out.size))
        obtain ⟨tb, tof, u1, u2, e1, htb, c1, c2, hu1, hu2⟩ := (HV.out.keep BR.out).cell k hkl
        subst e1
        have HTS := Lib.hid (H64.out _ (List.getElem_mem hkl))
        have HST := Lib.hid (flat_take (f := Wr.transB) hkl)
        obtain ⟨t, ht⟩ : ∃ t, l[k] = t := ⟨_, rfl⟩
        rw [ht] at hu1 hu2 HTS HST
        obtain ⟨t1, t2⟩ := t
        obtain ⟨n1l, n2l⟩ := HTS.out.2
        have n1l : t1.length ≤ 1000 := n1l
        have n2l : t2.length ≤ 1000 := n2l
        have L1 := Wr.nums_len HTS.out.1.1
        have L2 := Wr.nums_len HTS.out.1.2
        have L1 : (Wr.nums t1).length ≤ 23 + t1.length * 22 := L1
        have L2 : (Wr.nums t2).length ≤ 23 + t2.length * 22 := L2
        have HU1 : Hid (Is wr u1 t1) := Lib.hid hu1
        have HU2 : Hid (Is wr u2 t2) := Lib.hid hu2
        obtain ⟨x1, y1, rfl, k1⟩ := HU1.out.form
        obtain ⟨x2, y2, rfl, k2⟩ := HU2.out.form
        obtain ⟨m1, hm1⟩ : ∃ m, t1.length = m := ⟨_, rfl⟩
        obtain ⟨m2, hm2⟩ : ∃ m, t2.length = m := ⟨_, rfl⟩
        rw [hm1] at HU1 c1 k1 n1l L1
        rw [hm2] at HU2 c2 k2 n2l L2
        have HN1 := Lib.hid (fun W' (hb : Below wr.heap.size wr W') => HNU.out (.slice x1 m1 y1) t1 (by rw [hm1]; exact n1l) HTS.out.1.1 W' (HU1.out.keep hb) (BR.out.trans (hb.mono BR.out.size)))
        have HN2 := Lib.hid (fun W' (hb : Below wr.heap.size wr W') => HNU.out (.slice x2 m2 y2) t2 (by rw [hm2]; exact n2l) HTS.out.1.2 W' (HU2.out.keep hb) (BR.out.trans (hb.mono BR.out.size)))
        obtain ⟨N1, hN1⟩ : ∃ x, x = Wr.nums t1 := ⟨_, rfl⟩
        obtain ⟨N2, hN2⟩ : ∃ x, x = Wr.nums t2 := ⟨_, rfl⟩
        have HTB : Hid (Wr.transB (t1, t2) = N1 ++ N2) := Lib.hid (by rw [hN1, hN2]; rfl)
        rw [← hN1] at HN1 L1
        rw [← hN2] at HN2 L2
        have k0 : (0 : Int) ≤ (k : Int) := by omega
        have k9 : (k : Int) < (n : Int) := by omega
        obtain ⟨V, hV⟩ : ∃ V, V = wr.alloc (.cells #[.slice x1 m1 y1, .slice x2 m2 y2] 43) := ⟨_, rfl⟩
        have BV : Hid (Below wr.heap.size wr V) := Lib.hid (by rw [hV]; exact (Below.refl _ _).alloc (Nat.le_refl _) _)
        have IV : Hid (V.heap[wr.heap.size]? = some (.cells #[.slice x1 m1 y1, .slice x2 m2 y2] 43 (0, 0))) := Lib.hid (by rw [hV]; exact heap_alloc_new _ _)
        have HVV := Lib.hid hV
        clear ht hu1 hu2 hm1 hm2 hN1 hN2 hV
        have v0 : V.cell? ⟨wr.heap.size, 0, none⟩ = some (.slice x1 m1 y1) := cell_of_heap IV.out 0 rfl
        have v1 : V.cell? ⟨wr.heap.size, 1, none⟩ = some (.slice x2 m2 y2) := cell_of_heap IV.out 1 rfl
        have lv : wr.heap.size < V.heap.size := heap_lt IV.out
        go_upto_region 5 with fail
        rw [← HVV.out]
        have BX : Below V.heap.size V V.drew := below_drewN _ _ 1
        go_region_with
            (first | (go_at_call 93; refine (HN1.out _ (BV.out.trans (BX.mono BV.out.size))).mono ?_; rintro e w2 ⟨D1, hd, hs1, rfl, b2⟩; have HD1 := Lib.hid hd; have z1 : D1.size ≤ 22023 := (by omega); have BX : Below V.heap.size V w2 := BX.trans (b2.mono BX.size); have s0 := (BX.cell (p := ⟨wr.heap.size, 0, none⟩) lv).trans v0; have s1 := (BX.cell (p := ⟨wr.heap.size, 1, none⟩) lv).trans v1; clear b2 hd hs1) | (go_at_call 93; refine (HN2.out _ (BV.out.trans (BX.mono BV.out.size))).mono ?_; rintro e w2 ⟨D2, hd, hs1, rfl, b2⟩; have HD2 := Lib.hid hd; have z2 : D2.size ≤ 22023 := (by omega); have BX : Below V.heap.size V w2 := BX.trans (b2.mono BX.size); have s0 := (BX.cell (p := ⟨wr.heap.size, 0, none⟩) lv).trans v0; have s1 := (BX.cell (p := ⟨wr.heap.size, 1, none⟩) lv).trans v1; clear b2 hd hs1))
        all_goals have z3 : (D1 ++ D2).size ≤ 44046 := by rw [ByteArray.size_append]; omega
        all_goals go_wp2_with fail
        all_goals
          go_roundw
          case rel => exact ⟨k + 1, D ++ (D1 ++ D2), by omega, by go_num, rfl, Lib.hid (by rw [bs_append, bs_append, HD1.out, HD2.out, HD.out, HST.out, HTB.out, List.append_assoc]), by rw [ByteArray.size_append]; omega, Lib.hid (HB.out.trans ((BV.out.trans (BX.mono BV.out.size)).mono HB.out.size))⟩
          case measure => simp [intOf]; omega
      · obtain rfl : n = k := by omega
        go_wp2_with fail
        go_ret
        exact ⟨D, by rw [HD.out, HG.out], by rw [← bs_len, HD.out, HG.out], rfl, BW.out.trans (HB.out.mono BW.out.size)⟩
end Go.Proofs.YtfcbcpfnaadpeaaGreatDoor
/- Walks: blocks.Bytes, blocks.Same. -/
namespace Go.Proofs.YtfcbcpfnaadpeaaGreatDoor
set_option linter.unusedSimpArgs false
set_option linter.unusedVariables false
open Go.RowKit

/-- A certificate of numbers of Go, of at most a million of everything, and rows of at most a thousand. -/
structure CS (c : Ve.Cert) : Prop where
  pl : Wr.I64 c.places
  rb : Wr.I64 c.robots
  ca : c.caps.length ≤ 1000000 ∧ ∀ x ∈ c.caps, Wr.I64 x
  ke : c.keeps.length ≤ 1000000 ∧ ∀ x ∈ c.keeps, Wr.I64 x
  tl : c.trans.length ≤ 1000000
  tr : ∀ t ∈ c.trans, TS t
  sn : c.sips.length ≤ 1000000
  si : ∀ l ∈ c.sips, Wr.Is64 l ∧ l.length ≤ 1000
theorem CS.net {c : Ve.Cert} (h : CS c) : (Wr.netB c.places c.trans).length ≤ 1000000000000 := Ve.netB_len h.pl h.tl (fun t ht => (h.tr t ht).1) (fun t ht => (h.tr t ht).2)
theorem CS.c64 {c : Ve.Cert} (h : CS c) : Ve.C64 c where
  pl := h.pl
  rb := h.rb
  ca := ⟨by have := h.ca.1; unfold Wr.Ln; omega, h.ca.2⟩
  ke := ⟨by have := h.ke.1; unfold Wr.Ln; omega, h.ke.2⟩
  tl := by have := h.tl; unfold Wr.Ln; omega
  tr := fun t ht => (h.tr t ht).1
  sn := by have := h.sn; unfold Wr.Ln; omega
  si := fun l hl => (h.si l hl).1
  nb := by have := h.net; unfold Wr.Ln; omega
theorem text_len {s : Wr.B} (h : s.length ≤ 1000000000000) : (Wr.text s).length ≤ 1000000000030 := by
  have := Lib.itoa_length_le (s.length : Int) (by omega) (by omega)
  unfold Wr.text
  rw [List.length_append, List.length_cons, List.length_append, List.length_singleton]; omega
set_option maxRecDepth 100000 in
set_option maxHeartbeats 16000000 in
theorem bBytes_any (c : Ve.Cert) (hc : CS c) (tv cv ke se : Value) (w : World) (h : CertV w tv cv ke se c) (hT : PowT w) :
    Calls Tryz.prog 34 #[.agg (certA c tv cv ke se)] w (SP (Ve.certW c) w) := by
  obtain ⟨ta, tc, rfl, htm⟩ := h.tr.form
  obtain ⟨ca, cc, rfl, hcm⟩ := h.ca.form
  obtain ⟨ka, kc, rfl, hkm⟩ := h.ke.form
  obtain ⟨sa, sc, rfl, hsm⟩ := h.si.form
  have hln := hc.net
  have htx := text_len hln
  have hnc := Wr.nums_len hc.c64.ca
  have hnk := Wr.nums_len hc.c64.ke
  have hir := Wr.int_len hc.rb
  have hcl := hc.ca.1
  have hkl := hc.ke.1
  have hsl := hc.sn
  have hin : (Wr.num c.sips.length).length ≤ 22 := Wr.int_len ⟨by omega, by omega⟩
  have HPB := Lib.hid (fun W (hb : Below w.heap.size w W) => pBytes_any c.places hc.pl _ c.trans hc.tl hc.tr W (h.tr.keep hb) (hT.below hb))
  have HTX := Lib.hid (fun (D : ByteArray) (hD : D.size ≤ 70000000000000) W (hb : Below w.heap.size w W) => wText_any D hD W (hT.below hb))
  have HNC := Lib.hid (fun W (hb : Below w.heap.size w W) => wNums_any _ c.caps (by omega) hc.ca.2 W (h.ca.keep hb) (hT.below hb))
  have HNK := Lib.hid (fun W (hb : Below w.heap.size w W) => wNums_any _ c.keeps (by omega) hc.ke.2 W (h.ke.keep hb) (hT.below hb))
  have HIR := Lib.hid (fun W (hb : Below w.heap.size w W) => wInt_any c.robots hc.rb W (hT.below hb))
  have HNS := Lib.hid (fun W (hb : Below w.heap.size w W) => wNum_any c.sips.length (by omega) W (hT.below hb))
  have HNU := Lib.hid (fun v (x : List Int) (hx : x.length ≤ 1000) (h64 : Wr.Is64 x) W (hv : Is W v x) (hb : Below w.heap.size w W) => wNums_any v x (by omega) h64.2 W hv (hT.below hb))
  have HSV := Lib.hid h.si
  have HSI := Lib.hid hc.si
  unfold certA
  obtain ⟨P, hP⟩ : ∃ P, c.places = P := ⟨_, rfl⟩
  obtain ⟨R, hR⟩ : ∃ P, c.robots = P := ⟨_, rfl⟩
  obtain ⟨n1, hn1⟩ : ∃ P, c.trans.length = P := ⟨_, rfl⟩
  obtain ⟨n2, hn2⟩ : ∃ P, c.caps.length = P := ⟨_, rfl⟩
  obtain ⟨n3, hn3⟩ : ∃ P, c.keeps.length = P := ⟨_, rfl⟩
  obtain ⟨n4, hn4⟩ : ∃ P, c.sips.length = P := ⟨_, rfl⟩
  obtain ⟨NB, hNB⟩ : ∃ x, Wr.netB c.places c.trans = x := ⟨_, rfl⟩
  obtain ⟨TB, hTB⟩ : ∃ x, Wr.text NB = x := ⟨_, rfl⟩
  obtain ⟨CB, hCB⟩ : ∃ x, Wr.nums c.caps = x := ⟨_, rfl⟩
  obtain ⟨KB, hKB⟩ : ∃ x, Wr.nums c.keeps = x := ⟨_, rfl⟩
  obtain ⟨RB, hRB⟩ : ∃ x, Wr.int c.robots = x := ⟨_, rfl⟩
  obtain ⟨SB, hSB⟩ : ∃ x, Wr.num c.sips.length = x := ⟨_, rfl⟩
  have HG : Hid (Ve.certW c = ((((TB ++ CB) ++ KB) ++ RB) ++ SB) ++ ((c.sips.take n4).map Wr.nums).flatten) := Lib.hid (by
    unfold Ve.certW
    rw [hNB, hTB, hCB, hKB, hRB, hSB, ← hn4, List.take_length]
    simp only [List.append_assoc])
  rw [hNB] at HPB hln htx
  rw [hTB] at htx
  have HTBX := Lib.hid hTB
  rw [hCB] at HNC hnc
  rw [hKB] at HNK hnk
  rw [hRB] at HIR hir
  rw [hSB] at HNS hin
  rw [hP, hn1] at HPB
  rw [hn1] at htm
  rw [hn2] at HNC hnc hcl hcm
  rw [hn3] at HNK hnk hkl hkm
  rw [hn4] at HNS HSV hsl hsm
  rw [hR] at HIR
  rw [hP, hR, hn1, hn2, hn3, hn4]
  have HN4 := Lib.hid hn4
  clear h hc hT hP hR hn1 hn2 hn3 hn4 hNB hTB hCB hKB hRB hSB
  obtain ⟨W, hW⟩ : ∃ W, W = w.alloc (.cells #[.int .i64 P, .slice ta n1 tc, .slice ca n2 cc, .slice ka n3 kc, .int .i64 R, .slice sa n4 sc] 38) := ⟨_, rfl⟩
  have BW : Hid (Below w.heap.size w W) := Lib.hid (by rw [hW]; exact (Below.refl _ _).alloc (Nat.le_refl _) _)
  have IW : Hid (W.heap[w.heap.size]? = some (.cells #[.int .i64 P, .slice ta n1 tc, .slice ca n2 cc, .slice ka n3 kc, .int .i64 R, .slice sa n4 sc] 38 (0, 0))) := Lib.hid (by rw [hW]; exact heap_alloc_new _ _)
  have HW := Lib.hid hW
  clear hW
  go_enter Tryz.func34, Tryz.ntmps34
  go_upto_region 1 with fail
  rw [← HW.out]
  have H0 := Lib.hid (Bw.start W)
  go_upto_region 2 with fail
  obtain ⟨V, hV⟩ : ∃ V, V = W.alloc (.cells #[.pointer none, .slice none 0 0] 136) := ⟨_, rfl⟩
  rw [← hV] at H0 ⊢
  clear hV
  have IV := Lib.hid (keep_heap IW.out H0.out.below)
  have BV := Lib.hid (BW.out.trans (H0.out.below.mono BW.out.size))
  have lv : w.heap.size < V.heap.size := heap_lt IV.out
  have q0 : V.cell? ⟨w.heap.size, 0, none⟩ = some (.int .i64 P) := cell_of_heap IV.out 0 rfl
  have q1 : V.cell? ⟨w.heap.size, 1, none⟩ = some (.slice ta n1 tc) := cell_of_heap IV.out 1 rfl
  have q2 : V.cell? ⟨w.heap.size, 2, none⟩ = some (.slice ca n2 cc) := cell_of_heap IV.out 2 rfl
  have q3 : V.cell? ⟨w.heap.size, 3, none⟩ = some (.slice ka n3 kc) := cell_of_heap IV.out 3 rfl
  have q4 : V.cell? ⟨w.heap.size, 4, none⟩ = some (.int .i64 R) := cell_of_heap IV.out 4 rfl
  have q5 : V.cell? ⟨w.heap.size, 5, none⟩ = some (.slice sa n4 sc) := cell_of_heap IV.out 5 rfl
  have BX : Below V.heap.size V V.drew := below_drewN _ _ 1
  go_cut [27] (fun v wx => Hid (Bw W ((((TB ++ CB) ++ KB) ++ RB) ++ SB) wx))
  case first =>
    go_region_held3 (fun w' => w'.cell? ⟨w.heap.size, 0, none⟩ = some (.int .i64 P) ∧ w'.cell? ⟨w.heap.size, 1, none⟩ = some (.slice ta n1 tc) ∧ w'.cell? ⟨w.heap.size, 2, none⟩ = some (.slice ca n2 cc) ∧ w'.cell? ⟨w.heap.size, 3, none⟩ = some (.slice ka n3 kc) ∧ w'.cell? ⟨w.heap.size, 4, none⟩ = some (.int .i64 R) ∧ w'.cell? ⟨w.heap.size, 5, none⟩ = some (.slice sa n4 sc)) (go_keep)
      (first | (go_at_call 92; refine (HPB.out _ (BV.out.trans (BX.mono BV.out.size))).mono ?_; rintro e w2 ⟨D8, hd, hs1, rfl, b2⟩; have HD8 := Lib.hid hd; have z8 : D8.size ≤ 1000000000000 := (by omega); have BX : Below V.heap.size V w2 := BX.trans (b2.mono BX.size); have s0 := (BX.cell (p := ⟨w.heap.size, 0, none⟩) lv).trans q0; have s1 := (BX.cell (p := ⟨w.heap.size, 1, none⟩) lv).trans q1; have s2 := (BX.cell (p := ⟨w.heap.size, 2, none⟩) lv).trans q2; have s3 := (BX.cell (p := ⟨w.heap.size, 3, none⟩) lv).trans q3; have s4 := (BX.cell (p := ⟨w.heap.size, 4, none⟩) lv).trans q4; have s5 := (BX.cell (p := ⟨w.heap.size, 5, none⟩) lv).trans q5; clear b2 hd hs1) | (go_at_call 91; refine (HTX.out D8 (by omega) _ (BV.out.trans (BX.mono BV.out.size))).mono ?_; rintro e w2 ⟨D9, hd, hs1, rfl, b2⟩; rw [HD8.out, HTBX.out] at hd hs1; have HD9 := Lib.hid hd; have z9 : D9.size ≤ 1000000000030 := (by omega); have BX : Below V.heap.size V w2 := BX.trans (b2.mono BX.size); have s0 := (BX.cell (p := ⟨w.heap.size, 0, none⟩) lv).trans q0; have s1 := (BX.cell (p := ⟨w.heap.size, 1, none⟩) lv).trans q1; have s2 := (BX.cell (p := ⟨w.heap.size, 2, none⟩) lv).trans q2; have s3 := (BX.cell (p := ⟨w.heap.size, 3, none⟩) lv).trans q3; have s4 := (BX.cell (p := ⟨w.heap.size, 4, none⟩) lv).trans q4; have s5 := (BX.cell (p := ⟨w.heap.size, 5, none⟩) lv).trans q5; clear b2 hd hs1) | (go_at_call 93; refine (HNC.out _ (BV.out.trans (BX.mono BV.out.size))).mono ?_; rintro e w2 ⟨D12, hd, hs1, rfl, b2⟩; have HD12 := Lib.hid hd; have z12 : D12.size ≤ 23000000 := (by omega); have y12 : (9223372036854775807 < D9.size + D12.size) = False := (eq_false (by omega)); have BX : Below V.heap.size V w2 := BX.trans (b2.mono BX.size); have s0 := (BX.cell (p := ⟨w.heap.size, 0, none⟩) lv).trans q0; have s1 := (BX.cell (p := ⟨w.heap.size, 1, none⟩) lv).trans q1; have s2 := (BX.cell (p := ⟨w.heap.size, 2, none⟩) lv).trans q2; have s3 := (BX.cell (p := ⟨w.heap.size, 3, none⟩) lv).trans q3; have s4 := (BX.cell (p := ⟨w.heap.size, 4, none⟩) lv).trans q4; have s5 := (BX.cell (p := ⟨w.heap.size, 5, none⟩) lv).trans q5; clear b2 hd hs1) | (go_at_call 93; refine (HNK.out _ (BV.out.trans (BX.mono BV.out.size))).mono ?_; rintro e w2 ⟨D16, hd, hs1, rfl, b2⟩; have HD16 := Lib.hid hd; have z16 : D16.size ≤ 23000000 := (by omega); have y16 : (9223372036854775807 < D9.size + D12.size + D16.size) = False := (eq_false (by omega)); have BX : Below V.heap.size V w2 := BX.trans (b2.mono BX.size); have s0 := (BX.cell (p := ⟨w.heap.size, 0, none⟩) lv).trans q0; have s1 := (BX.cell (p := ⟨w.heap.size, 1, none⟩) lv).trans q1; have s2 := (BX.cell (p := ⟨w.heap.size, 2, none⟩) lv).trans q2; have s3 := (BX.cell (p := ⟨w.heap.size, 3, none⟩) lv).trans q3; have s4 := (BX.cell (p := ⟨w.heap.size, 4, none⟩) lv).trans q4; have s5 := (BX.cell (p := ⟨w.heap.size, 5, none⟩) lv).trans q5; clear b2 hd hs1) | (go_at_call 94; refine (HIR.out _ (BV.out.trans (BX.mono BV.out.size))).mono ?_; rintro e w2 ⟨D20, hd, hs1, rfl, b2⟩; have HD20 := Lib.hid hd; have z20 : D20.size ≤ 22 := (by omega); have y20 : (9223372036854775807 < D9.size + D12.size + D16.size + D20.size) = False := (eq_false (by omega)); have BX : Below V.heap.size V w2 := BX.trans (b2.mono BX.size); have s0 := (BX.cell (p := ⟨w.heap.size, 0, none⟩) lv).trans q0; have s1 := (BX.cell (p := ⟨w.heap.size, 1, none⟩) lv).trans q1; have s2 := (BX.cell (p := ⟨w.heap.size, 2, none⟩) lv).trans q2; have s3 := (BX.cell (p := ⟨w.heap.size, 3, none⟩) lv).trans q3; have s4 := (BX.cell (p := ⟨w.heap.size, 4, none⟩) lv).trans q4; have s5 := (BX.cell (p := ⟨w.heap.size, 5, none⟩) lv).trans q5; clear b2 hd hs1) | (go_at_call 95; refine (HNS.out _ (BV.out.trans (BX.mono BV.out.size))).mono ?_; rintro e w2 ⟨D25, hd, hs1, rfl, b2⟩; have HD25 := Lib.hid hd; have z25 : D25.size ≤ 22 := (by omega); have y25 : (9223372036854775807 < D9.size + D12.size + D16.size + D20.size + D25.size) = False := (eq_false (by omega)); have BX : Below V.heap.size V w2 := BX.trans (b2.mono BX.size); have s0 := (BX.cell (p := ⟨w.heap.size, 0, none⟩) lv).trans q0; have s1 := (BX.cell (p := ⟨w.heap.size, 1, none⟩) lv).trans q1; have s2 := (BX.cell (p := ⟨w.heap.size, 2, none⟩) lv).trans q2; have s3 := (BX.cell (p := ⟨w.heap.size, 3, none⟩) lv).trans q3; have s4 := (BX.cell (p := ⟨w.heap.size, 4, none⟩) lv).trans q4; have s5 := (BX.cell (p := ⟨w.heap.size, 5, none⟩) lv).trans q5; clear b2 hd hs1) | (go_at_call 90; refine ((H0.out.grow BX).writeString (D9 ++ D12 ++ D16 ++ D20 ++ D25) (by rw [ByteArray.size_append, ByteArray.size_append, ByteArray.size_append, ByteArray.size_append]; show 0 + _ ≤ _; omega)).mono ?_; rintro e w2 ⟨rfl, h2⟩; have H2 := Lib.hid h2; have BX : Below V.heap.size V V := Below.refl _ _; have s0 : w2.cell? ⟨w.heap.size, 0, none⟩ = some (.int .i64 P) := cell_of_heap (keep_heap IW.out h2.below) 0 rfl; have s1 : w2.cell? ⟨w.heap.size, 1, none⟩ = some (.slice ta n1 tc) := cell_of_heap (keep_heap IW.out h2.below) 1 rfl; have s2 : w2.cell? ⟨w.heap.size, 2, none⟩ = some (.slice ca n2 cc) := cell_of_heap (keep_heap IW.out h2.below) 2 rfl; have s3 : w2.cell? ⟨w.heap.size, 3, none⟩ = some (.slice ka n3 kc) := cell_of_heap (keep_heap IW.out h2.below) 3 rfl; have s4 : w2.cell? ⟨w.heap.size, 4, none⟩ = some (.int .i64 R) := cell_of_heap (keep_heap IW.out h2.below) 4 rfl; have s5 : w2.cell? ⟨w.heap.size, 5, none⟩ = some (.slice sa n4 sc) := cell_of_heap (keep_heap IW.out h2.below) 5 rfl; clear h2))
    all_goals go_wp2_with fail
    all_goals
      go_meet
      exact (by have h9 := H2.out; rw [List.nil_append, bs_append, bs_append, bs_append, bs_append, HD9.out, HD12.out, HD16.out, HD20.out, HD25.out] at h9; exact Lib.hid h9)
  case rest =>
    obtain ⟨-, HB0⟩ : True ∧ Hid (Bw W ((((TB ++ CB) ++ KB) ++ RB) ++ SB) wc) := ⟨trivial, hcut⟩
    clear hcut q0 q1 q2 q3 q4 q5 BX lv
    have q5 : wc.cell? ⟨w.heap.size, 5, none⟩ = some (.slice sa n4 sc) := cell_of_heap (keep_heap IW.out HB0.out.below) 5 rfl
    obtain ⟨pre, hpre⟩ : ∃ x, ((((TB ++ CB) ++ KB) ++ RB) ++ SB) = x := ⟨_, rfl⟩
    have hpl : pre.length ≤ 2000000000000 := by rw [← hpre]; simp only [List.length_append]; omega
    rw [hpre] at HB0 HG
    clear hpre
    have B0 : Hid (Bw W (pre ++ ((c.sips.take 0).map Wr.nums).flatten) wc) := Lib.hid (by simpa using HB0.out)
    go_wp2_with fail
    go_loopw [31] (fun iv wr => ∃ k : Nat, k ≤ n4 ∧ iv = .int .i64 k ∧ Hid (Bw W (pre ++ ((c.sips.take k).map Wr.nums).flatten) wr)) (fun iv _ => n4 - (intOf iv).toNat)
    case atStart => exact ⟨0, by omega, rfl, B0⟩
    case round =>
      clear B0 q5
      obtain ⟨k, hk, rfl, HB⟩ := hrel
      by_cases hkn : k < n4
      · have hkl : k < c.sips.length := by rw [HN4.out]; exact hkn
        have BR := Lib.hid (BW.out.trans (HB.out.below.mono BW.out.size))
        obtain ⟨b, o, u, e1, c1, hu⟩ := (HSV.out.keep BR.out).cell k hkl
        subst e1
        obtain ⟨hx64, hxl⟩ := HSI.out _ (List.getElem_mem hkl)
        have HST := Lib.hid (flat_take (f := Wr.nums) hkl)
        have hfl := Wr.flat_len (f := Wr.nums) (k := 22023) (l := c.sips.take k) (fun l hl => by
          obtain ⟨a1, a2⟩ := HSI.out l (List.mem_of_mem_take hl)
          have := Wr.nums_len a1
          omega)
        rw [List.length_take] at hfl
        have hnl := Wr.nums_len hx64
        obtain ⟨x, hx⟩ : ∃ x, c.sips[k] = x := ⟨_, rfl⟩
        rw [hx] at hu hx64 hxl HST hnl
        have HNX := Lib.hid (HNU.out u x hxl hx64 wr hu BR.out)
        obtain ⟨ux, uc, rfl, hum⟩ := hu.form
        obtain ⟨m, hm⟩ : ∃ m, x.length = m := ⟨_, rfl⟩
        rw [hm] at c1 HNX hum hxl hnl
        have k0 : (0 : Int) ≤ (k : Int) := by omega
        have k9 : (k : Int) < (n4 : Int) := by omega
        have hpf : (pre ++ ((c.sips.take k).map Wr.nums).flatten).length ≤ 2000000000000 + 22023 * 1000000 := by
          rw [List.length_append]
          have := Nat.min_le_left k c.sips.length
          have := Nat.mul_le_mul_right 22023 (show min k c.sips.length ≤ 1000000 by omega)
          omega
        obtain ⟨pf, hpf2⟩ : ∃ p, p = pre ++ ((c.sips.take k).map Wr.nums).flatten := ⟨_, rfl⟩
        have HPF := Lib.hid hpf2
        rw [← hpf2] at HB hpf
        obtain ⟨NX, hNX⟩ : ∃ n, Wr.nums x = n := ⟨_, rfl⟩
        rw [hNX] at HNX HST hnl
        clear hx hu hx64 hpf2 hfl hm hNX
        go_wp2_with fail
        go_at_call 93; refine HNX.out.mono ?_; rintro e w3 ⟨D2, hD2, hs3, rfl, b3⟩
        have HD2 := Lib.hid hD2
        have H3 := Lib.hid (HB.out.grow b3)
        have hs4 : D2.size ≤ 22023 := by omega
        have HW := Lib.hid (H3.out.writeString D2 (by omega))
        clear hD2 b3 hs3
        go_wp2_with fail
        go_at_call 90; refine HW.out.mono ?_; rintro e w4 ⟨rfl, h4⟩
        have H4 : Hid (Bw W (pre ++ ((c.sips.take (k + 1)).map Wr.nums).flatten) w4) := Lib.hid (by
          rw [HD2.out, HPF.out, List.append_assoc, ← HST.out] at h4
          exact h4)
        clear h4 HW
        go_wp2_with fail
        go_roundw
        case rel => exact ⟨k + 1, by omega, by go_num, H4⟩
        case measure => simp [intOf]; omega
      · obtain rfl : n4 = k := by omega
        rw [← HG.out] at HB
        go_wp2_with fail
        go_at_call 96; refine HB.out.string.mono ?_; rintro e w4 ⟨D3, hD3, hs5, rfl, h5⟩
        have HD3 := Lib.hid hD3
        have HS3 := Lib.hid hs5
        have H5 := Lib.hid h5.below
        clear hD3 hs5 h5
        go_wp2_with fail
        go_ret
        exact ⟨D3, HD3.out, HS3.out, rfl, BW.out.trans (H5.out.mono BW.out.size)⟩
theorem toList_bs (s : ByteArray) : s.toList = bs s := by
  obtain ⟨⟨l⟩⟩ := s
  simp [bs]
set_option maxRecDepth 100000 in
set_option maxHeartbeats 16000000 in
/-- Whether two certificates are one. -/
theorem bSame_any (c d : Ve.Cert) (hc : CS c) (hd : CS d) (tv cv ke se tv2 cv2 ke2 se2 : Value) (w : World) (h : CertV w tv cv ke se c) (h2 : CertV w tv2 cv2 ke2 se2 d) (hT : PowT w) :
    Calls Tryz.prog 36 #[.agg (certA c tv cv ke se), .agg (certA d tv2 cv2 ke2 se2)] w fun e w' => e = .returned (.bool (decide (c = d))) ∧ Below w.heap.size w w' := by
  have H1 := Lib.hid (fun W (hb : Below w.heap.size w W) => bBytes_any c hc tv cv ke se W (h.keep hb) (hT.below hb))
  have H2 := Lib.hid (fun W (hb : Below w.heap.size w W) => bBytes_any d hd tv2 cv2 ke2 se2 W (h2.keep hb) (hT.below hb))
  have HEQ : Hid (∀ A B : ByteArray, bs A = Ve.certW c → bs B = Ve.certW d → (A.toList == B.toList) = decide (c = d)) := Lib.hid (fun A B hA hB => by
    rw [toList_bs, toList_bs, Bool.eq_iff_iff, decide_eq_true_eq, beq_iff_eq]
    constructor
    · intro h9
      exact Ve.cert_one hc.c64 hd.c64 (hA.symm.trans (h9.trans hB))
    · rintro rfl
      exact hA.trans hB.symm)
  obtain ⟨ta, tc, rfl, htm⟩ := h.tr.form
  obtain ⟨ca, cc, rfl, hcm⟩ := h.ca.form
  obtain ⟨ka, kc, rfl, hkm⟩ := h.ke.form
  obtain ⟨sa, sc, rfl, hsm⟩ := h.si.form
  obtain ⟨ta2, tc2, rfl, htm2⟩ := h2.tr.form
  obtain ⟨ca2, cc2, rfl, hcm2⟩ := h2.ca.form
  obtain ⟨ka2, kc2, rfl, hkm2⟩ := h2.ke.form
  obtain ⟨sa2, sc2, rfl, hsm2⟩ := h2.si.form
  obtain ⟨R, hR⟩ : ∃ r, decide (c = d) = r := ⟨_, rfl⟩
  rw [hR] at HEQ ⊢
  unfold certA at *
  obtain ⟨P1, hP1⟩ : ∃ P, c.places = P := ⟨_, rfl⟩
  obtain ⟨R1, hR1⟩ : ∃ P, c.robots = P := ⟨_, rfl⟩
  obtain ⟨n1, hn1⟩ : ∃ P, c.trans.length = P := ⟨_, rfl⟩
  obtain ⟨n2, hn2⟩ : ∃ P, c.caps.length = P := ⟨_, rfl⟩
  obtain ⟨n3, hn3⟩ : ∃ P, c.keeps.length = P := ⟨_, rfl⟩
  obtain ⟨n4, hn4⟩ : ∃ P, c.sips.length = P := ⟨_, rfl⟩
  obtain ⟨P2, hP2⟩ : ∃ P, d.places = P := ⟨_, rfl⟩
  obtain ⟨R2, hR2⟩ : ∃ P, d.robots = P := ⟨_, rfl⟩
  obtain ⟨m1, hm1⟩ : ∃ P, d.trans.length = P := ⟨_, rfl⟩
  obtain ⟨m2, hm2⟩ : ∃ P, d.caps.length = P := ⟨_, rfl⟩
  obtain ⟨m3, hm3⟩ : ∃ P, d.keeps.length = P := ⟨_, rfl⟩
  obtain ⟨m4, hm4⟩ : ∃ P, d.sips.length = P := ⟨_, rfl⟩
  rw [hP1, hR1, hn1, hn2, hn3, hn4] at H1
  rw [hP2, hR2, hm1, hm2, hm3, hm4] at H2
  rw [hP1, hR1, hn1, hn2, hn3, hn4, hP2, hR2, hm1, hm2, hm3, hm4]
  clear h h2 hc hd hT hR hP1 hR1 hn1 hn2 hn3 hn4 hP2 hR2 hm1 hm2 hm3 hm4 htm hcm hkm hsm htm2 hcm2 hkm2 hsm2
  obtain ⟨W, hW⟩ : ∃ W, W = (w.alloc (.cells #[.int .i64 P1, .slice ta n1 tc, .slice ca n2 cc, .slice ka n3 kc, .int .i64 R1, .slice sa n4 sc] 38)).alloc (.cells #[.int .i64 P2, .slice ta2 m1 tc2, .slice ca2 m2 cc2, .slice ka2 m3 kc2, .int .i64 R2, .slice sa2 m4 sc2] 38) := ⟨_, rfl⟩
  have BW : Hid (Below w.heap.size w W) := Lib.hid (by rw [hW]; exact ((Below.refl _ _).alloc (Nat.le_refl _) _).alloc (by simp) _)
  have IA : Hid (W.heap[w.heap.size]? = some (.cells #[.int .i64 P1, .slice ta n1 tc, .slice ca n2 cc, .slice ka n3 kc, .int .i64 R1, .slice sa n4 sc] 38 (0, 0))) := Lib.hid (by rw [hW]; exact heap_two0 _ _ _)
  have IB : Hid (W.heap[w.heap.size + 1]? = some (.cells #[.int .i64 P2, .slice ta2 m1 tc2, .slice ca2 m2 cc2, .slice ka2 m3 kc2, .int .i64 R2, .slice sa2 m4 sc2] 38 (0, 0))) := Lib.hid (by rw [hW]; exact heap_two3 _ _ _)
  have HW := Lib.hid hW
  clear hW
  have p0 : W.cell? ⟨w.heap.size, 0, none⟩ = some (.int .i64 P1) := cell_of_heap IA.out 0 rfl
  have p1 : W.cell? ⟨w.heap.size, 1, none⟩ = some (.slice ta n1 tc) := cell_of_heap IA.out 1 rfl
  have p2 : W.cell? ⟨w.heap.size, 2, none⟩ = some (.slice ca n2 cc) := cell_of_heap IA.out 2 rfl
  have p3 : W.cell? ⟨w.heap.size, 3, none⟩ = some (.slice ka n3 kc) := cell_of_heap IA.out 3 rfl
  have p4 : W.cell? ⟨w.heap.size, 4, none⟩ = some (.int .i64 R1) := cell_of_heap IA.out 4 rfl
  have p5 : W.cell? ⟨w.heap.size, 5, none⟩ = some (.slice sa n4 sc) := cell_of_heap IA.out 5 rfl
  have q0 : W.cell? ⟨w.heap.size + 1, 0, none⟩ = some (.int .i64 P2) := cell_of_heap IB.out 0 rfl
  have q1 : W.cell? ⟨w.heap.size + 1, 1, none⟩ = some (.slice ta2 m1 tc2) := cell_of_heap IB.out 1 rfl
  have q2 : W.cell? ⟨w.heap.size + 1, 2, none⟩ = some (.slice ca2 m2 cc2) := cell_of_heap IB.out 2 rfl
  have q3 : W.cell? ⟨w.heap.size + 1, 3, none⟩ = some (.slice ka2 m3 kc2) := cell_of_heap IB.out 3 rfl
  have q4 : W.cell? ⟨w.heap.size + 1, 4, none⟩ = some (.int .i64 R2) := cell_of_heap IB.out 4 rfl
  have q5 : W.cell? ⟨w.heap.size + 1, 5, none⟩ = some (.slice sa2 m4 sc2) := cell_of_heap IB.out 5 rfl
  have la : w.heap.size < W.heap.size := heap_lt IA.out
  have lb : w.heap.size + 1 < W.heap.size := heap_lt IB.out
  go_enter Tryz.func36, Tryz.ntmps36
  go_upto_region 1 with fail
  rw [← HW.out]
  have BX : Below W.heap.size W W.drew := below_drewN _ _ 1
  go_region_held3 (fun w' => w'.cell? ⟨w.heap.size, 0, none⟩ = some (.int .i64 P1) ∧ w'.cell? ⟨w.heap.size, 1, none⟩ = some (.slice ta n1 tc) ∧ w'.cell? ⟨w.heap.size, 2, none⟩ = some (.slice ca n2 cc) ∧ w'.cell? ⟨w.heap.size, 3, none⟩ = some (.slice ka n3 kc) ∧ w'.cell? ⟨w.heap.size, 4, none⟩ = some (.int .i64 R1) ∧ w'.cell? ⟨w.heap.size, 5, none⟩ = some (.slice sa n4 sc) ∧ w'.cell? ⟨w.heap.size + 1, 0, none⟩ = some (.int .i64 P2) ∧ w'.cell? ⟨w.heap.size + 1, 1, none⟩ = some (.slice ta2 m1 tc2) ∧ w'.cell? ⟨w.heap.size + 1, 2, none⟩ = some (.slice ca2 m2 cc2) ∧ w'.cell? ⟨w.heap.size + 1, 3, none⟩ = some (.slice ka2 m3 kc2) ∧ w'.cell? ⟨w.heap.size + 1, 4, none⟩ = some (.int .i64 R2) ∧ w'.cell? ⟨w.heap.size + 1, 5, none⟩ = some (.slice sa2 m4 sc2)) (go_keep)
    (first | (go_at_call 34; (with_reducible refine (H1.out _ (BW.out.trans (BX.mono BW.out.size))).mono ?_); rintro e w2 ⟨D1, hd, hs1, rfl, b2⟩; have HD1 := Lib.hid hd; have BX : Below W.heap.size W w2 := BX.trans (b2.mono BX.size); have s0 := (BX.cell (p := ⟨w.heap.size, 0, none⟩) la).trans p0; have s1 := (BX.cell (p := ⟨w.heap.size, 1, none⟩) la).trans p1; have s2 := (BX.cell (p := ⟨w.heap.size, 2, none⟩) la).trans p2; have s3 := (BX.cell (p := ⟨w.heap.size, 3, none⟩) la).trans p3; have s4 := (BX.cell (p := ⟨w.heap.size, 4, none⟩) la).trans p4; have s5 := (BX.cell (p := ⟨w.heap.size, 5, none⟩) la).trans p5; have r0 := (BX.cell (p := ⟨w.heap.size + 1, 0, none⟩) lb).trans q0; have r1 := (BX.cell (p := ⟨w.heap.size + 1, 1, none⟩) lb).trans q1; have r2 := (BX.cell (p := ⟨w.heap.size + 1, 2, none⟩) lb).trans q2; have r3 := (BX.cell (p := ⟨w.heap.size + 1, 3, none⟩) lb).trans q3; have r4 := (BX.cell (p := ⟨w.heap.size + 1, 4, none⟩) lb).trans q4; have r5 := (BX.cell (p := ⟨w.heap.size + 1, 5, none⟩) lb).trans q5; clear b2 hd hs1) | (go_at_call 34; (with_reducible refine (H2.out _ (BW.out.trans (BX.mono BW.out.size))).mono ?_); rintro e w2 ⟨D2, hd, hs1, rfl, b2⟩; have HQ := Lib.hid (HEQ.out D1 D2 HD1.out hd); have BX : Below W.heap.size W w2 := BX.trans (b2.mono BX.size); have s0 := (BX.cell (p := ⟨w.heap.size, 0, none⟩) la).trans p0; have s1 := (BX.cell (p := ⟨w.heap.size, 1, none⟩) la).trans p1; have s2 := (BX.cell (p := ⟨w.heap.size, 2, none⟩) la).trans p2; have s3 := (BX.cell (p := ⟨w.heap.size, 3, none⟩) la).trans p3; have s4 := (BX.cell (p := ⟨w.heap.size, 4, none⟩) la).trans p4; have s5 := (BX.cell (p := ⟨w.heap.size, 5, none⟩) la).trans p5; have r0 := (BX.cell (p := ⟨w.heap.size + 1, 0, none⟩) lb).trans q0; have r1 := (BX.cell (p := ⟨w.heap.size + 1, 1, none⟩) lb).trans q1; have r2 := (BX.cell (p := ⟨w.heap.size + 1, 2, none⟩) lb).trans q2; have r3 := (BX.cell (p := ⟨w.heap.size + 1, 3, none⟩) lb).trans q3; have r4 := (BX.cell (p := ⟨w.heap.size + 1, 4, none⟩) lb).trans q4; have r5 := (BX.cell (p := ⟨w.heap.size + 1, 5, none⟩) lb).trans q5; clear b2 hd hs1))
  all_goals go_wp2_with fail
  all_goals
    go_ret
    exact ⟨by rw [HQ.out]; rfl, BW.out.trans (BX.mono BW.out.size)⟩
end Go.Proofs.YtfcbcpfnaadpeaaGreatDoor
