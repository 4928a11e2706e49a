/- Parts Gc of this claim, laid one behind the other: walks and the plain laws behind them; each contract states its own conditions. -/
import Derived.Test.YtcdfmgobokjcnaaGreatDoorZH
/- Walks: slices.IndexFunc and slices.DeleteFunc over faults, at whatever the predicate holds. -/
namespace Go.Proofs.YtcdfmgobokjcnaaGreatDoor
set_option linter.unusedSimpArgs false
set_option linter.unusedVariables false
open Go.RowKit Go.Sort

/-- What the predicate of List gives, in each world in which C holds; C is kept where no old block below B turns. -/
structure PredF (C : World → Prop) (B b1 b2 b3 b4 : Nat) (p : Fa.Flt → Bool) : Prop where
  keep : ∀ W W', C W → Below B W W' → C W'
  call : ∀ W x, C W → Calls Tryz.prog 52 #[fltV x, .pointer (some ⟨b1, 0, none⟩), .pointer (some ⟨b2, 0, none⟩), .pointer (some ⟨b3, 0, none⟩), .pointer (some ⟨b4, 0, none⟩)] W fun e w' => e = .returned (.bool (p x)) ∧ Below W.heap.size W w'
theorem filter_take {p : Fa.Flt → Bool} {l : List Fa.Flt} {k : Nat} (hk : k < l.length) : (l.take (k + 1)).filter (fun x => !p x) = (l.take k).filter (fun x => !p x) ++ (if p l[k] = true then [] else [l[k]]) := by
  rw [List.take_succ_eq_append_getElem hk, List.filter_append]
  cases h : p l[k] <;> simp [h]
/-- The first fault that is struck. -/
def IdxPost (p : Fa.Flt → Bool) (l : List Fa.Flt) (w : World) (e : Ending) (w' : World) : Prop :=
  (∃ r : Int, e = .returned (.int .i64 r) ∧ ((r = -1 ∧ l.filter (fun x => !p x) = l) ∨ ∃ k : Nat, k < l.length ∧ r = (k : Int) ∧ (l.take (k + 1)).filter (fun x => !p x) = l.take k)) ∧ Below w.heap.size w w'
set_option maxRecDepth 100000 in
set_option maxHeartbeats 8000000 in
theorem indexF_any (C : World → Prop) (B b1 b2 b3 b4 : Nat) (p : Fa.Flt → Bool) (hP : PredF C B b1 b2 b3 b4 p) (v : Value) (l : List Fa.Flt) (w : World) (h : FtV w v l) (hc : C w) (hB : B ≤ w.heap.size) :
    Calls Tryz.prog 92 #[v, .func (.func 52) #[] #[.pointer (some ⟨b1, 0, none⟩), .pointer (some ⟨b2, 0, none⟩), .pointer (some ⟨b3, 0, none⟩), .pointer (some ⟨b4, 0, none⟩)]] w (IdxPost p l w) := by
  obtain ⟨a, cap, rfl, hm⟩ := h.form
  have H := Lib.hid h
  have HP := Lib.hid hP
  have HC0 := Lib.hid hc
  obtain ⟨n, hn⟩ : ∃ n, l.length = n := ⟨_, rfl⟩
  unfold IdxPost
  rw [hn] at hm H ⊢
  have HN := Lib.hid hn
  clear h hc hP hn
  go_enter Tryz.func92, Tryz.ntmps92
  go_wp2_with fail
  go_loopw [8] (fun iv wr => ∃ (k : Nat), k ≤ n ∧ iv = .int .i64 k ∧ Hid ((l.take k).filter (fun x => !p x) = l.take k) ∧ Hid (Below w.heap.size w wr)) (fun iv _ => n - (intOf iv).toNat)
  case atStart => exact ⟨0, by omega, rfl, Lib.hid rfl, Lib.hid (Below.refl _ w)⟩
  case round =>
    obtain ⟨k, hk, rfl, HK, HU⟩ := hrel
    by_cases hkn : k < n
    · have hkl : k < l.length := by rw [HN.out]; exact hkn
      obtain ⟨b, off, e1, hbl, c0, c1, c2⟩ := H.out.cell k hkl
      subst e1
      have hd := filter_take (p := p) hkl
      rw [HK.out] at hd
      have hd2 := List.take_succ_eq_append_getElem hkl
      obtain ⟨x, hx⟩ : ∃ x, l[k] = x := ⟨_, rfl⟩
      rw [hx] at c0 c1 c2 hd hd2
      have HU2 := HU.out
      rw [← HU2.cell (p := ⟨b, off + k * 3, none⟩) hbl] at c0
      rw [← HU2.cell (p := ⟨b, off + k * 3 + 1, none⟩) hbl] at c1
      rw [← HU2.cell (p := ⟨b, off + k * 3 + 2, none⟩) hbl] at c2
      have HC := Lib.hid (HP.out.call wr x (HP.out.keep _ _ HC0.out (HU2.mono hB)))
      obtain ⟨z, hz⟩ : ∃ z, p x = z := ⟨_, rfl⟩
      rw [hz] at HC hd
      have HD := Lib.hid hd
      have HD2 := Lib.hid hd2
      have k1 : (k : Int) < (n : Int) := by omega
      have k0 : (0 : Int) ≤ (k : Int) := by omega
      clear hd hz hx HU2 hd2 hkl
      unfold fltV at HC
      cases z
      · go_wp2_with fail
        go_at_call 52; refine HC.out.mono ?_; rintro e w3 ⟨rfl, hu3⟩
        have HU3 := Lib.hid (HU.out.trans (hu3.mono HU.out.size))
        clear hu3
        go_wp2_with fail
        go_roundw
        case rel => exact ⟨k + 1, by omega, by go_num, Lib.hid (by rw [HD.out, HD2.out]; rfl), HU3⟩
        case measure => simp [intOf]; omega
      · go_wp2_with fail
        go_at_call 52; refine HC.out.mono ?_; rintro e w3 ⟨rfl, hu3⟩
        have HU3 := Lib.hid (HU.out.trans (hu3.mono HU.out.size))
        clear hu3
        go_wp2_with fail
        go_ret
        exact ⟨⟨(k : Int), rfl, .inr ⟨k, hkn, rfl, by rw [HD.out]; simp⟩⟩, HU3.out⟩
    · have HF : Hid (l.filter (fun x => !p x) = l) := Lib.hid (by
        have := HK.out
        rwa [List.take_of_length_le (by rw [HN.out]; omega)] at this)
      go_wp2_with fail
      go_ret
      exact ⟨⟨-1, rfl, .inl ⟨rfl, HF.out⟩⟩, HU.out⟩
/-- What DeleteFunc leaves. -/
def DelPost (p : Fa.Flt → Bool) (l : List Fa.Flt) (B : Nat) (w : World) (e : Ending) (w' : World) : Prop := ∃ v, e = .returned v ∧ FtO w' B v (l.filter fun x => !p x) ∧ Below B w w' ∧ w.heap.size ≤ w'.heap.size
set_option maxRecDepth 100000 in
set_option maxHeartbeats 16000000 in
theorem deleteF_any (C : World → Prop) (B b1 b2 b3 b4 : Nat) (p : Fa.Flt → Bool) (hP : PredF C B b1 b2 b3 b4 p) (v : Value) (l : List Fa.Flt) (w : World) (h : FtO w B v l) (hc : C w) (hB : B ≤ w.heap.size) :
    Calls Tryz.prog 51 #[v, .func (.func 52) #[] #[.pointer (some ⟨b1, 0, none⟩), .pointer (some ⟨b2, 0, none⟩), .pointer (some ⟨b3, 0, none⟩), .pointer (some ⟨b4, 0, none⟩)]] w (DelPost p l B w) := by
  have HIX := Lib.hid (indexF_any C B b1 b2 b3 b4 p hP v l w h.ftv hc hB)
  have H := Lib.hid h
  have HP := Lib.hid hP
  have HC0 := Lib.hid hc
  obtain ⟨av, cap, rfl, hm⟩ := own_slice h
  obtain ⟨n, hn⟩ : ∃ n, l.length = n := ⟨_, rfl⟩
  unfold IdxPost at HIX
  unfold DelPost
  rw [hn] at hm HIX H ⊢
  have HN := Lib.hid hn
  clear h hc hP hn
  go_enter Tryz.func51, Tryz.ntmps51
  go_wp2_with fail
  go_at_call 92; refine HIX.out.mono ?_; rintro e w1 ⟨⟨r, rfl, (⟨rfl, hall⟩ | ⟨k0, hk0, rfl, htk⟩)⟩, b1'⟩
  · have HAL := Lib.hid hall
    have BB := Lib.hid b1'
    clear hall b1'
    go_wp2_with fail
    go_ret
    exact ⟨_, rfl, by rw [HAL.out]; have := H.out; rw [← HN.out] at this ⊢; exact this.keep BB.out, BB.out.mono hB, BB.out.size⟩
  · have BB := Lib.hid b1'
    have HO1 : Hid (FtO w1 B (.slice av l.length cap) l) := Lib.hid (by have := H.out; rw [← HN.out] at this; exact this.keep b1')
    have HTK := Lib.hid htk
    have HC1 := Lib.hid (HP.out.keep _ _ HC0.out (b1'.mono hB))
    obtain ⟨g, cap2, cur, e1, hbg, hg, hnc, hcm, hcs, hcur⟩ := HO1.out.blk (by rw [HN.out]; omega)
    injection e1 with e1 e2 e3
    subst e1 e3
    rw [HN.out] at hnc
    have hsz1 := b1'.size
    have ek : ((k0 : Int) == -1) = false := beq_eq_false_iff_ne.2 (by omega)
    have HO2 : Hid (FtO w1 B (.slice (some ⟨g, 0, none⟩) l.length cap) l) := HO1
    clear htk b1' hg hcs hcur HIX HO1 H
    unfold maxLen at hcm
    go_wp2_with fail
    go_loopw [5, 6] (fun s5 s6 wr => ∃ (i j : Nat) (ys : List Fa.Flt), s5 = .int .i64 i ∧ s6 = .int .i64 j ∧ i < j ∧ j ≤ n ∧ Hid (ys.length = n) ∧ Hid (FtO wr B (.slice (some ⟨g, 0, none⟩) ys.length cap) ys) ∧ Hid (ys.take i = (l.take j).filter fun x => !p x) ∧ Hid (ys.drop j = l.drop j) ∧ Hid (C wr) ∧ Hid (Below B w1 wr)) (fun _ s6 _ => n - (intOf s6).toNat)
    case atStart => exact ⟨k0, k0 + 1, l, rfl, by go_num, by omega, by omega, HN, HO2, Lib.hid HTK.out.symm, Lib.hid rfl, HC1, Lib.hid (Below.refl _ _)⟩
    case round =>
      obtain ⟨i, j, ys, rfl, rfl, hij, hjn, HY, HO, HT, HD, HC, HBl⟩ := hrel
      have hszr := HBl.out.size
      clear HTK
      by_cases hlt : j < n
      · have hjl : j < l.length := by rw [HN.out]; exact hlt
        have hjy : j < ys.length := by rw [HY.out]; exact hlt
        have hiy : i < ys.length := by rw [HY.out]; omega
        have hxy : ys[j] = l[j] := by
          have h1 := List.drop_eq_getElem_cons hjl
          have h2 := List.drop_eq_getElem_cons hjy
          rw [← HD.out, h2] at h1
          injection h1
        have hdn : ys.drop (j + 1) = l.drop (j + 1) := by
          have := congrArg (List.drop 1) HD.out
          rwa [List.drop_drop, List.drop_drop] at this
        have hft := filter_take (p := p) hjl
        obtain ⟨gb, go, e1, hbl, c0, c1, c2⟩ := HO.out.ftv.cell j hjy
        injection e1 with e1
        injection e1 with e1 e2
        subst e1 e2
        rw [hxy] at c0 c1 c2
        obtain ⟨x, hx⟩ : ∃ x, l[j] = x := ⟨_, rfl⟩
        rw [hx] at c0 c1 c2 hft hxy
        simp only [Nat.zero_add] at c0 c1 c2
        have HFT := Lib.hid hft
        have HDN := Lib.hid hdn
        have j1 : (j : Int) < (n : Int) := by omega
        have j0 : (0 : Int) ≤ (j : Int) := by omega
        have B1 := Lib.hid ((Below.refl _ wr).alloc (Nat.le_refl _) (.cells #[.int .i64 x.kind, .int .i64 x.a, .int .i64 x.n] 38))
        have IX := Lib.hid (heap_alloc_new wr (.cells #[.int .i64 x.kind, .int .i64 x.a, .int .i64 x.n] 38))
        have HCA := Lib.hid (HP.out.keep _ _ HC.out (B1.out.mono (by omega)))
        have HCC := Lib.hid (HP.out.call _ x HCA.out)
        obtain ⟨z, hz⟩ : ∃ z, p x = z := ⟨_, rfl⟩
        rw [hz] at HCC
        have HZ := Lib.hid hz
        unfold fltV at HCC
        clear hx hxy hft hdn hz hjl
        have hiyH := Lib.hid hiy
        clear hiy hjy
        cases z with
        | true =>
          go_wp2_with fail
          go_at_call 52; refine HCC.out.mono ?_; rintro e w3 ⟨rfl, b3⟩
          have B3 := Lib.hid (B1.out.trans (b3.mono B1.out.size))
          clear b3
          go_wp2_with fail
          go_roundw
          case rel => exact ⟨i, j + 1, ys, rfl, by go_num, by omega, by omega, HY, Lib.hid (HO.out.keep B3.out), Lib.hid (by rw [HFT.out, HZ.out, HT.out]; simp), HDN, Lib.hid (HP.out.keep _ _ HC.out (B3.out.mono (by omega))), Lib.hid (HBl.out.trans (B3.out.mono (by omega)))⟩
          case measure => simp [intOf]; omega
        | false =>
          go_wp2_with fail
          go_at_call 52; refine HCC.out.mono ?_; rintro e w3 ⟨rfl, b3⟩
          have B3 := Lib.hid (B1.out.trans (b3.mono B1.out.size))
          have I3 := Lib.hid (keep_heap IX.out b3)
          have HO3 := Lib.hid (HO.out.keep B3.out)
          clear b3 c0 c1 c2
          have d0 := cell_of_heap I3.out 0 (v := .int .i64 x.kind) rfl
          have d1 := cell_of_heap I3.out 1 (v := .int .i64 x.a) rfl
          have d2 := cell_of_heap I3.out 2 (v := .int .i64 x.n) rfl
          obtain ⟨gb, go, e1, hbl2, c0, c1, c2⟩ := HO3.out.ftv.cell i hiyH.out
          injection e1 with e1
          injection e1 with e1 e2
          subst e1 e2
          simp only [Nat.zero_add] at c0 c1 c2
          obtain ⟨g2, cap3, cur3, e1, -, hg3, -⟩ := HO3.out.blk (by have := hiyH.out; omega)
          injection e1 with e1 e8 e9
          injection e1 with e1
          injection e1 with e1
          subst e1 e9
          clear e8
          have f0 := free_of_heap hg3 (i * 3)
          have f1 := free_of_heap hg3 (i * 3 + 1)
          have f2 := free_of_heap hg3 (i * 3 + 2)
          have i1 : (i : Int) < (n : Int) := by omega
          have i0 : (0 : Int) ≤ (i : Int) := by omega
          generalize ys[i]'(hiyH.out) = yi at c0 c1 c2
          have HG3 := Lib.hid hg3
          clear hg3
          go_wp2_with fail
          go_roundw
          case rel =>
            have hS := HO3.out.set i hiyH.out x
            refine ⟨i + 1, j + 1, ys.set i x, rfl, by go_num, by omega, by omega, Lib.hid (by rw [List.length_set]; exact HY.out), Lib.hid (by rw [List.length_set]; exact hS), Lib.hid ?_, Lib.hid ?_, Lib.hid (HP.out.keep _ _ HC.out ?_), Lib.hid (HBl.out.trans ?_)⟩
            · rw [HFT.out, HZ.out, ← HT.out, List.take_set, List.take_succ_eq_append_getElem hiyH.out, List.set_append_right _ _ (by rw [List.length_take]; omega)]
              rw [List.length_take, Nat.min_eq_left (by have := hiyH.out; omega), Nat.sub_self]; rfl
            · rw [List.drop_set_of_lt (by omega)]; exact HDN.out
            · exact (((B3.out.mono (by omega)).setCell (by dsimp only; omega) _).setCell (by dsimp only; omega) _).setCell (by dsimp only; omega) _
            · exact (((B3.out.mono (by omega)).setCell (by dsimp only; omega) _).setCell (by dsimp only; omega) _).setCell (by dsimp only; omega) _
          case measure => simp [intOf]; omega
      · have hje : j = n := by omega
        subst hje
        have HF : Hid (ys.take i = l.filter fun x => !p x) := Lib.hid (by have := HT.out; rwa [show l.take j = l from List.take_of_length_le (by rw [HN.out]; exact Nat.le_refl _)] at this)
        have hlen : (ys.take i).length = i := by rw [List.length_take, HY.out]; omega
        obtain ⟨g2, cap3, cur3, e1, hb3, hg3, hnc3, hcm3, hcs3, hcur3⟩ := HO.out.blk (by rw [HY.out]; omega)
        injection e1 with e1 e9 e3
        injection e1 with e1
        injection e1 with e1
        subst e1 e3
        have hcl := fun ty => run_clear3 wr ty g (i * 3) (j - i) (cap - i) (by omega) cur3 hg3 (by rw [hcs3]; have := hnc; omega)
        obtain ⟨cur4, k1, k2, k3, k4⟩ := setCells_row (List.replicate ((j - i) * 3) (.int .i64 0)) (i * 3) wr cur3 hg3
        have HO9 : Hid (FtO (wr.setCells g (i * 3) (List.replicate ((j - i) * 3) (.int .i64 0))) B (.slice (some ⟨g, 0, none⟩) i cap) (l.filter fun x => !p x)) := Lib.hid (by
          rw [← HF.out]
          refine ⟨by rw [flts_len], .inr ⟨g, cap, cur4, by rw [hlen], hb3, k1, by rw [hlen]; omega, hcm3, by rw [k2]; exact hcs3, ?_⟩⟩
          rw [hlen, k3, ← flts_take ys i, ← hcur3, List.take_take, Nat.min_eq_left (by rw [HY.out]; omega)])
        have B9 := Lib.hid (k4 B hbg)
        have i0 : (0 : Int) ≤ (i : Int) := by omega
        have i1 : (i : Int) ≤ (j : Int) := by omega
        have i2 : ¬ cap = i := by omega
        have i3 : (i : Int) ≤ (cap : Int) := by omega
        clear hg3 hcs3 hcur3 k1 k2 k3 k4 hcm3 hlen hnc3 HO
        go_wp2_with fail
        go_ret
        exact ⟨_, rfl, HO9.out, (BB.out.mono hB).trans (HBl.out.trans B9.out), by have := B9.out.size; omega⟩
end Go.Proofs.YtcdfmgobokjcnaaGreatDoor
