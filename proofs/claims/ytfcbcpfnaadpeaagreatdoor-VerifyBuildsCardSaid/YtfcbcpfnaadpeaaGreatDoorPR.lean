/- Parts Wr2 of this claim, laid one behind the other: walks and the plain laws behind them; each contract states its own conditions. -/
import Derived.Test.YtfcbcpfnaadpeaaGreatDoorPQ
/- Walks: petri.Bytes. -/
namespace Go.Proofs.YtfcbcpfnaadpeaaGreatDoor
set_option linter.unusedSimpArgs false
set_option linter.unusedVariables false
open Go.RowKit

/-- A transition of numbers of Go, of at most a thousand places. -/
def TS (t : List Int × List Int) : Prop := Wr.T64 t ∧ t.1.length ≤ 1000 ∧ t.2.length ≤ 1000
theorem TS.len {t : List Int × List Int} (h : TS t) : (Wr.transB t).length ≤ 50000 := by
  have h1 := Wr.nums_len h.1.1
  have h2 := Wr.nums_len h.1.2
  obtain ⟨-, h3, h4⟩ := h
  unfold Wr.transB
  rw [List.length_append]; omega
set_option maxRecDepth 100000 in
set_option maxHeartbeats 16000000 in
theorem pBytes_any (P : Int) (hP : Wr.I64 P) (tv : Value) (l : List (List Int × List Int)) (hl : l.length ≤ 1000000) (h64 : ∀ t ∈ l, TS t) (w : World) (h : Tr w tv l) (hT : PowT w) :
    Calls Tryz.prog 92 #[.agg #[.int .i64 P, tv]] w (SP (Wr.netB P l) w) := by
  obtain ⟨a, ca, rfl, hm⟩ := h.form
  obtain ⟨n, hn⟩ : ∃ n, n = l.length := ⟨_, rfl⟩
  have HV := Lib.hid h
  have HG : Hid (Wr.netB P l = (Wr.int P ++ Wr.num n) ++ ((l.take n).map Wr.transB).flatten) := Lib.hid (by unfold Wr.netB; rw [hn, List.take_length, List.append_assoc])
  rw [← hn] at hm hl HV ⊢
  have H64 := Lib.hid h64
  have HIL := Wr.int_len hP
  have HNL : (Wr.num n).length ≤ 22 := Wr.int_len ⟨by omega, by omega⟩
  have HCI := Lib.hid (fun W (hb : Below w.heap.size w W) => wInt_any P hP W (hT.below hb))
  have HCN := Lib.hid (fun W (hb : Below w.heap.size w W) => wNum_any n (by omega) W (hT.below hb))
  have HNU := Lib.hid (fun v (x : List Int) (hx : x.length ≤ 1000) (h64 : Wr.Is64 x) W (hv : Is W v x) (hb : Below w.heap.size w W) => wNums_any v x (by omega) h64.2 W hv (hT.below hb))
  have HN := Lib.hid hn
  obtain ⟨iP, hiP⟩ : ∃ x, x = Wr.int P := ⟨_, rfl⟩
  obtain ⟨iN, hiN⟩ : ∃ x, x = Wr.num n := ⟨_, rfl⟩
  rw [← hiP] at HCI HIL HG
  rw [← hiN] at HCN HNL HG
  clear h hT h64 hn hP hiP hiN
  obtain ⟨W, hW⟩ : ∃ W, W = w.alloc (.cells #[.int .i64 P, .slice a n ca] 35) := ⟨_, rfl⟩
  have BW : Hid (Below w.heap.size w W) := Lib.hid (by rw [hW]; exact (Below.refl _ _).alloc (Nat.le_refl _) _)
  have IW : Hid (W.heap[w.heap.size]? = some (.cells #[.int .i64 P, .slice a n ca] 35 (0, 0))) := Lib.hid (by rw [hW]; exact heap_alloc_new _ _)
  have HW := Lib.hid hW
  have q0 : W.cell? ⟨w.heap.size, 0, none⟩ = some (.int .i64 P) := cell_of_heap IW.out 0 rfl
  have q1 : W.cell? ⟨w.heap.size, 1, none⟩ = some (.slice a n ca) := cell_of_heap IW.out 1 rfl
  have lw : w.heap.size < W.heap.size := heap_lt IW.out
  clear hW
  go_enter Tryz.func92, Tryz.ntmps92
  go_upto_region 1 with fail
  rw [← HW.out]
  have BX : Below W.heap.size W W.drew := below_drewN _ _ 1
  go_cut [3] (fun v wx => ∃ D : ByteArray, v = .string D ∧ Hid (bs D = iP ++ iN) ∧ D.size ≤ 44 ∧ Hid (Below W.heap.size W wx))
  case first =>
    go_region_with
      (first | (go_at_call 94; refine (HCI.out _ (BW.out.trans (BX.mono BW.out.size))).mono ?_; rintro e w2 ⟨D1, hd, hs1, rfl, b2⟩; have HD1 := Lib.hid hd; have z1 : D1.size ≤ 22 := (by omega); have Z1 := Lib.hid hs1; have BX : Below W.heap.size W w2 := BX.trans (b2.mono BX.size); have s0 := (BX.cell (p := ⟨w.heap.size, 0, none⟩) lw).trans q0; have s1 := (BX.cell (p := ⟨w.heap.size, 1, none⟩) lw).trans q1; clear b2 hd hs1) | (go_at_call 95; refine (HCN.out _ (BW.out.trans (BX.mono BW.out.size))).mono ?_; rintro e w2 ⟨D2, hd, hs1, rfl, b2⟩; have HD2 := Lib.hid hd; have z2 : D2.size ≤ 22 := (by omega); have Z2 := Lib.hid hs1; have BX : Below W.heap.size W w2 := BX.trans (b2.mono BX.size); have s0 := (BX.cell (p := ⟨w.heap.size, 0, none⟩) lw).trans q0; have s1 := (BX.cell (p := ⟨w.heap.size, 1, none⟩) lw).trans q1; clear b2 hd hs1))
    all_goals go_wp2_with fail
    all_goals
      go_meet
      exact ⟨_, rfl, Lib.hid (by rw [bs_append, HD1.out, HD2.out]), by rw [ByteArray.size_append]; omega, Lib.hid BX⟩
  case rest =>
    obtain ⟨D, rfl, HD, hds, HBX⟩ := hcut
    clear q0 q1 BX
    have q1 : wc.cell? ⟨w.heap.size, 1, none⟩ = some (.slice a n ca) := cell_of_heap (keep_heap IW.out HBX.out) 1 rfl
    have D0 : Hid (bs D = (iP ++ iN) ++ ((l.take 0).map Wr.transB).flatten) := Lib.hid (by rw [HD.out]; simp)
    go_wp2_with fail
    go_loopw [3, 17] (fun sv iv wr => ∃ (k : Nat) (D : ByteArray), k ≤ n ∧ iv = .int .i64 k ∧ sv = .string D ∧ Hid (bs D = (iP ++ iN) ++ ((l.take k).map Wr.transB).flatten) ∧ D.size ≤ 44 + k * 50000 ∧ Hid (Below W.heap.size W wr)) (fun _ iv _ => n - (intOf iv).toNat)
    case atStart => exact ⟨0, D, by omega, rfl, rfl, D0, by omega, HBX⟩
    case round =>
      clear D0 q1 hds HD
      obtain ⟨k, D, hk, rfl, rfl, HD, hds, HB⟩ := hrel
      by_cases hkn : k < n
      · have hkl : k < l.length := by rw [← HN.out]; exact hkn
        have BR := Lib.hid (BW.out.trans (HB.out.mono BW.out.size))
        obtain ⟨tb, tof, u1, u2, e1, htb, c1, c2, hu1, hu2⟩ := (HV.out.keep BR.out).cell k hkl
        subst e1
        have HTS := Lib.hid (H64.out _ (List.getElem_mem hkl))
        have HST := Lib.hid (flat_take (f := Wr.transB) hkl)
        obtain ⟨t, ht⟩ : ∃ t, l[k] = t := ⟨_, rfl⟩
        rw [ht] at hu1 hu2 HTS HST
        obtain ⟨t1, t2⟩ := t
        obtain ⟨n1l, n2l⟩ := HTS.out.2
        have n1l : t1.length ≤ 1000 := n1l
        have n2l : t2.length ≤ 1000 := n2l
        have L1 := Wr.nums_len HTS.out.1.1
        have L2 := Wr.nums_len HTS.out.1.2
        have L1 : (Wr.nums t1).length ≤ 23 + t1.length * 22 := L1
        have L2 : (Wr.nums t2).length ≤ 23 + t2.length * 22 := L2
        have HU1 : Hid (Is wr u1 t1) := Lib.hid hu1
        have HU2 : Hid (Is wr u2 t2) := Lib.hid hu2
        obtain ⟨x1, y1, rfl, k1⟩ := HU1.out.form
        obtain ⟨x2, y2, rfl, k2⟩ := HU2.out.form
        obtain ⟨m1, hm1⟩ : ∃ m, t1.length = m := ⟨_, rfl⟩
        obtain ⟨m2, hm2⟩ : ∃ m, t2.length = m := ⟨_, rfl⟩
        rw [hm1] at HU1 c1 k1 n1l L1
        rw [hm2] at HU2 c2 k2 n2l L2
        have HN1 := Lib.hid (fun W' (hb : Below wr.heap.size wr W') => HNU.out (.slice x1 m1 y1) t1 (by rw [hm1]; exact n1l) HTS.out.1.1 W' (HU1.out.keep hb) (BR.out.trans (hb.mono BR.out.size)))
        have HN2 := Lib.hid (fun W' (hb : Below wr.heap.size wr W') => HNU.out (.slice x2 m2 y2) t2 (by rw [hm2]; exact n2l) HTS.out.1.2 W' (HU2.out.keep hb) (BR.out.trans (hb.mono BR.out.size)))
        obtain ⟨N1, hN1⟩ : ∃ x, x = Wr.nums t1 := ⟨_, rfl⟩
        obtain ⟨N2, hN2⟩ : ∃ x, x = Wr.nums t2 := ⟨_, rfl⟩
        have HTB : Hid (Wr.transB (t1, t2) = N1 ++ N2) := Lib.hid (by rw [hN1, hN2]; rfl)
        rw [← hN1] at HN1 L1
        rw [← hN2] at HN2 L2
        have k0 : (0 : Int) ≤ (k : Int) := by omega
        have k9 : (k : Int) < (n : Int) := by omega
        obtain ⟨V, hV⟩ : ∃ V, V = wr.alloc (.cells #[.slice x1 m1 y1, .slice x2 m2 y2] 43) := ⟨_, rfl⟩
        have BV : Hid (Below wr.heap.size wr V) := Lib.hid (by rw [hV]; exact (Below.refl _ _).alloc (Nat.le_refl _) _)
        have IV : Hid (V.heap[wr.heap.size]? = some (.cells #[.slice x1 m1 y1, .slice x2 m2 y2] 43 (0, 0))) := Lib.hid (by rw [hV]; exact heap_alloc_new _ _)
        have HVV := Lib.hid hV
        clear ht hu1 hu2 hm1 hm2 hN1 hN2 hV
        have v0 : V.cell? ⟨wr.heap.size, 0, none⟩ = some (.slice x1 m1 y1) := cell_of_heap IV.out 0 rfl
        have v1 : V.cell? ⟨wr.heap.size, 1, none⟩ = some (.slice x2 m2 y2) := cell_of_heap IV.out 1 rfl
        have lv : wr.heap.size < V.heap.size := heap_lt IV.out
        go_upto_region 5 with fail
        rw [← HVV.out]
        have BX : Below V.heap.size V V.drew := below_drewN _ _ 1
        go_region_with
            (first | (go_at_call 93; refine (HN1.out _ (BV.out.trans (BX.mono BV.out.size))).mono ?_; rintro e w2 ⟨D1, hd, hs1, rfl, b2⟩; have HD1 := Lib.hid hd; have z1 : D1.size ≤ 22023 := (by omega); have BX : Below V.heap.size V w2 := BX.trans (b2.mono BX.size); have s0 := (BX.cell (p := ⟨wr.heap.size, 0, none⟩) lv).trans v0; have s1 := (BX.cell (p := ⟨wr.heap.size, 1, none⟩) lv).trans v1; clear b2 hd hs1) | (go_at_call 93; refine (HN2.out _ (BV.out.trans (BX.mono BV.out.size))).mono ?_; rintro e w2 ⟨D2, hd, hs1, rfl, b2⟩; have HD2 := Lib.hid hd; have z2 : D2.size ≤ 22023 := (by omega); have BX : Below V.heap.size V w2 := BX.trans (b2.mono BX.size); have s0 := (BX.cell (p := ⟨wr.heap.size, 0, none⟩) lv).trans v0; have s1 := (BX.cell (p := ⟨wr.heap.size, 1, none⟩) lv).trans v1; clear b2 hd hs1))
        all_goals have z3 : (D1 ++ D2).size ≤ 44046 := by rw [ByteArray.size_append]; omega
        all_goals go_wp2_with fail
        all_goals
          go_roundw
          case rel => exact ⟨k + 1, D ++ (D1 ++ D2), by omega, by go_num, rfl, Lib.hid (by rw [bs_append, bs_append, HD1.out, HD2.out, HD.out, HST.out, HTB.out, List.append_assoc]), by rw [ByteArray.size_append]; omega, Lib.hid (HB.out.trans ((BV.out.trans (BX.mono BV.out.size)).mono HB.out.size))⟩
          case measure => simp [intOf]; omega
      · obtain rfl : n = k := by omega
        go_wp2_with fail
        go_ret
        exact ⟨D, by rw [HD.out, HG.out], by rw [← bs_len, HD.out, HG.out], rfl, BW.out.trans (HB.out.mono BW.out.size)⟩
end Go.Proofs.YtfcbcpfnaadpeaaGreatDoor
