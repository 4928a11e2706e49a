/- Parts RdG of this claim, laid one behind the other: walks and the plain laws behind them; each contract states its own conditions. -/
import Derived.Test.YtfcbcpfnaadpeaaGreatDoorBO
import Derived.Test.YtfcbcpfnaadpeaaGreatDoorBP
import Derived.Test.YtfcbcpfnaadpeaaGreatDoorBQ
/- Walks of package blocks: Read. -/
namespace Go.Proofs.YtfcbcpfnaadpeaaGreatDoor
set_option linter.unusedSimpArgs false
set_option linter.unusedVariables false
open Go.RowKit

/-- What holds while a certificate is read: the result's block, the reader, the net's transitions. -/
structure QS (w : World) (ta : Option Addr) (tc : Nat) (T : List Wr.Tn) (s : Wr.St) (wr : World) : Prop where
  hB : Below w.heap.size w wr
  hR : wr.heap[w.heap.size]? = some (.cells certZero 38 (0, 0))
  hr : RdS wr (w.heap.size + 1) s
  hT : TrR wr (w.heap.size + 2) (.slice ta T.length tc) T
  hs : w.heap.size + 1 < wr.heap.size
theorem QS.next {w wr w' : World} {ta : Option Addr} {tc : Nat} {T : List Wr.Tn} {s s' : Wr.St} (h : QS w ta tc T s wr) (hn : NB (w.heap.size + 1) wr w') (hs : RdS w' (w.heap.size + 1) s') : QS w ta tc T s' w' :=
  ⟨h.hB.trans (hn.below (by omega) h.hB.size), hn.heap h.hR (by omega), hs, h.hT.nb hn (by omega), Nat.lt_of_lt_of_le h.hs hn.size⟩
theorem QS.below {w wr w' : World} {ta : Option Addr} {tc : Nat} {T : List Wr.Tn} {s : Wr.St} (h : QS w ta tc T s wr) (hb : Below wr.heap.size wr w') : QS w ta tc T s w' := h.next (NB.of_below hb) (h.hr.below hb)
theorem six_other {w : World} {N k : Nat} (x0 x1 x2 x3 x4 x5 : Value) (hk : k ≠ N) : (six w N x0 x1 x2 x3 x4 x5).heap[k]? = w.heap[k]? := by
  unfold six
  rw [heap_setCell_other _ _ _ _ (by dsimp only; omega), heap_setCell_other _ _ _ _ (by dsimp only; omega), heap_setCell_other _ _ _ _ (by dsimp only; omega), heap_setCell_other _ _ _ _ (by dsimp only; omega), heap_setCell_other _ _ _ _ (by dsimp only; omega), heap_setCell_other _ _ _ _ (by dsimp only; omega)]
theorem six_gt {w : World} {N : Nat} {cs : Array Value} {t : TypeId} {fr : Nat × Nat} (x0 x1 x2 x3 x4 x5 : Value) (h : w.heap[N]? = some (.cells cs t fr)) : GT t w (six w N x0 x1 x2 x3 x4 x5) :=
  ⟨some N, ((((((NB.refl N w).set 0 x0).set 1 x1).set 2 x2).set 3 x3).set 4 x4).set 5 x5, fun k hk => by injection hk with hk; subst hk; exact ⟨_, _, h⟩⟩
theorem QS.six {w wr : World} {ta : Option Addr} {tc N : Nat} {T : List Wr.Tn} {s : Wr.St} (h : QS w ta tc T s wr) (x0 x1 x2 x3 x4 x5 : Value) (hN : wr.heap[N]? = some (.cells certZero 38 (0, 0))) (hw : w.heap.size + 1 < N) : QS w ta tc T s (Go.Proofs.YtfcbcpfnaadpeaaGreatDoor.six wr N x0 x1 x2 x3 x4 x5) := by
  have hg := six_gt x0 x1 x2 x3 x4 x5 hN
  refine ⟨six_below _ _ _ _ _ _ (by omega) h.hB, (six_other _ _ _ _ _ _ (by omega)).trans h.hR, ?_, h.hT.gt hg (by decide) (by decide), Nat.lt_of_lt_of_le h.hs hg.size⟩
  obtain ⟨D, h1, h2⟩ := h.hr
  exact ⟨D, h1, (six_other _ _ _ _ _ _ (by omega)).trans h2⟩
/-- What reading a certificate hands back. -/
def CertPost (b : Wr.B) (w : World) (e : Ending) (w' : World) : Prop := Below w.heap.size w w' ∧
  ((Ve.certS b = none ∧ e = .returned (.tuple #[.agg certZero, .bool false])) ∨ ∃ c tv cv ke se, Ve.certS b = some c ∧ e = .returned (.tuple #[.agg (certA c tv cv ke se), .bool true]) ∧ CertV w' tv cv ke se c)
theorem certS_none {b : Wr.B} (h : Wr.netS (Wr.textS (b, false)).1 = none) : Ve.certS b = none := by
  unfold Ve.certS; rw [h]
theorem certS_some {b : Wr.B} {n : Int × List Wr.Tn} (h : Wr.netS (Wr.textS (b, false)).1 = some n) : Ve.certS b = if Ve.certW (Ve.certC b n) = b then some (Ve.certC b n) else none := by
  unfold Ve.certS; rw [h]
theorem certC_cs {b : Wr.B} {n : Int × List Wr.Tn} (hb : b.length ≤ 1000) (h : Wr.netS (Wr.textS (b, false)).1 = some n) : CS (Ve.certC b n) := by
  obtain ⟨h1, h2, h3, h4⟩ := Ve.netS_some h
  obtain ⟨k1, k2, k3, k4, k5, k6, k7⟩ := Ve.certC_size (b := b) (n := n)
  have ht := (Ve.textS_rest (b, false)).1
  simp only at ht
  refine ⟨h2, k5, ⟨by omega, k1⟩, ⟨by omega, k3⟩, by show n.2.length ≤ _; omega, fun t ht2 => ?_, by omega, fun l hl => ?_⟩
  · obtain ⟨⟨a1, a2⟩, a3, a4⟩ := h4 t ht2
    exact ⟨⟨⟨by unfold Wr.Ln; omega, a2⟩, ⟨by unfold Wr.Ln; omega, a4⟩⟩, by omega, by omega⟩
  · obtain ⟨a1, a2⟩ := k7 l hl
    exact ⟨⟨by unfold Wr.Ln; omega, a2⟩, by omega⟩
/-- What is read behind the net of an encoding is the certificate. -/
theorem certC_of {c : Ve.Cert} (h : Ve.C64 c) (hr : Wr.netR c.places c.trans = true) : Wr.netS (Wr.textS (Ve.certW c, false)).1 = some (c.places, c.trans) ∧ Ve.certC (Ve.certW c) (c.places, c.trans) = c := by
  have e0 : Wr.textS (Ve.certW c, false) = (Wr.netB c.places c.trans, (Wr.nums c.caps ++ (Wr.nums c.keeps ++ (Wr.int c.robots ++ (Wr.num c.sips.length ++ (c.sips.map Wr.nums).flatten))), false)) := Wr.textS_of h.nb
  have hm : min c.sips.length (Ve.certW c).length = c.sips.length := by
    have := Wr.sips_long c.sips
    unfold Ve.certW
    simp only [List.length_append]
    omega
  have h1 := Wr.sipsS_of c.sips [] h.si
  rw [List.append_nil] at h1
  refine ⟨by rw [e0]; exact Wr.netS_of h.pl h.tl h.tr hr, ?_⟩
  unfold Ve.certC
  simp only
  rw [e0]
  simp only
  rw [Wr.numsS_of h.ca]
  simp only
  rw [Wr.numsS_of h.ke]
  simp only
  rw [Wr.intS_of h.rb]
  simp only
  rw [Wr.natS_of h.sn]
  simp only [Int.toNat_natCast]
  rw [hm, h1]
theorem few_len {c : Ve.Cert} (h : Ve.Few c 20) (k : Ve.Num c) : (Ve.certW c).length ≤ 100000 := by
  have c6 := h.c64 (by omega) k
  have a1 := Wr.nums_len c6.ca
  have a2 := Wr.nums_len c6.ke
  have a3 := Wr.int_len c6.rb
  have a4 : (Wr.num c.sips.length).length ≤ 22 := Wr.int_len ⟨by omega, by have := h.sn; omega⟩
  have a5 : ((c.sips.map Wr.nums).flatten).length ≤ c.sips.length * 463 := Wr.flat_len (fun l hl => by
    have := Wr.nums_len (c6.si l hl)
    have := h.si l hl
    omega)
  have a6 := Wr.int_len c6.pl
  have a7 : (Wr.num c.trans.length).length ≤ 22 := Wr.int_len ⟨by omega, by have := h.tl; omega⟩
  have a8 : ((c.trans.map Wr.transB).flatten).length ≤ c.trans.length * 926 := Wr.flat_len (fun t ht => by
    have b1 := Wr.nums_len (c6.tr t ht).1
    have b2 := Wr.nums_len (c6.tr t ht).2
    obtain ⟨b3, b4⟩ := h.tr t ht
    unfold Wr.transB
    rw [List.length_append]; omega)
  have e1 := h.ca
  have e2 := h.ke
  have e3 := h.sn
  have e4 := h.tl
  have a9 : (Wr.netB c.places c.trans).length ≤ 20000 := by unfold Wr.netB; rw [List.length_append, List.length_append]; omega
  have b0 := Lib.itoa_length_le ((Wr.netB c.places c.trans).length : Int) (by omega) (by omega)
  have b9 : (Wr.text (Wr.netB c.places c.trans)).length ≤ 20100 := by
    unfold Wr.text
    simp only [List.length_append, List.length_cons, List.length_nil]
    omega
  unfold Ve.certW
  simp only [List.length_append]
  omega
theorem sipsS_next (k : Nat) (s : Wr.St) : Wr.sipsS (k + 1) s = ((Wr.numsS s).1 :: (Wr.sipsS k (Wr.numsS s).2).1, (Wr.sipsS k (Wr.numsS s).2).2) := by rw [Wr.sipsS]
set_option maxRecDepth 100000 in
set_option maxHeartbeats 64000000 in
theorem bRead_any (D : ByteArray) (w : World) (hE : EnvR w) (hl : (bs D).length ≤ 100000) (hcs : ∀ n, Wr.netS (Wr.textS (bs D, false)).1 = some n → CS (Ve.certC (bs D) n)) :
    Calls Tryz.prog 33 #[.string D] w (CertPost (bs D) w) := by
  have HE := Lib.hid (fun W (hb : Below w.heap.size w W) => hE.below hb)
  have HLO := Lib.hid (lows_of hE)
  have TN := Lib.hid (certS_none (b := bs D))
  have TY := Lib.hid (fun n h => certS_some (b := bs D) (n := n) h)
  have TC := Lib.hid hcs
  have HCE : Hid (∀ n, Ve.certC (bs D) n = ⟨n.1, n.2, (Wr.numsS (Wr.textS (bs D, false)).2).1, (Wr.numsS (Wr.numsS (Wr.textS (bs D, false)).2).2).1, (Wr.intS (Wr.numsS (Wr.numsS (Wr.textS (bs D, false)).2).2).2).1,
    (Wr.sipsS (min (Wr.natS (Wr.intS (Wr.numsS (Wr.numsS (Wr.textS (bs D, false)).2).2).2).2).1.toNat (bs D).length) (Wr.natS (Wr.intS (Wr.numsS (Wr.numsS (Wr.textS (bs D, false)).2).2).2).2).2).1⟩) := Lib.hid (fun n => rfl)
  have g0 := Ve.textS_rest (bs D, false)
  have g1 := (Wr.numsS_rest (Wr.textS (bs D, false)).2).1
  have g2 := (Wr.numsS_rest (Wr.numsS (Wr.textS (bs D, false)).2).2).1
  have g3 : (Wr.intS (Wr.numsS (Wr.numsS (Wr.textS (bs D, false)).2).2).2).2.1.length ≤ _ := (Wr.numS_rest (e := 59) (least := -9223372036854775808) (s := (Wr.numsS (Wr.numsS (Wr.textS (bs D, false)).2).2).2)).1
  have g4 : (Wr.natS (Wr.intS (Wr.numsS (Wr.numsS (Wr.textS (bs D, false)).2).2).2).2).2.1.length ≤ _ := (Wr.numS_rest (e := 59) (least := 0) (s := (Wr.intS (Wr.numsS (Wr.numsS (Wr.textS (bs D, false)).2).2).2).2)).1
  have g5 : 0 ≤ (Wr.natS (Wr.intS (Wr.numsS (Wr.numsS (Wr.textS (bs D, false)).2).2).2).2).1 := Wr.numS_le
  simp only at g0
  have HC0 := Lib.hid (fun b W hr (hb : Below w.heap.size w W) => rdText_any b (bs D, false) W hr (HE.out W hb) (by simp only; omega))
  have HNU := Lib.hid (fun s W (hr : RdS W (w.heap.size + 1) s) (hB : Below w.heap.size w W) hb (hq : s.1.length ≤ 100000) => rdNums_any (w.heap.size + 1) s W hr (HE.out W hB) ⟨by have := HLO.out.1; omega, by have := HLO.out.2.1; omega, by have := HLO.out.2.2; omega⟩ hb (by omega))
  have HIT := Lib.hid (fun s W (hr : RdS W (w.heap.size + 1) s) (hB : Below w.heap.size w W) (hq : s.1.length ≤ 100000) => rdInt_any (w.heap.size + 1) s W hr (HE.out W hB) (by omega))
  have HNA := Lib.hid (fun s W (hr : RdS W (w.heap.size + 1) s) (hB : Below w.heap.size w W) (hq : s.1.length ≤ 100000) => rdNat_any (w.heap.size + 1) s W hr (HE.out W hB) (by omega))
  have HNS := Lib.hid (sipsS_next)
  have HRS := Lib.hid (fun s => (Wr.numsS_rest s).1)
  obtain ⟨b0, hb0⟩ : ∃ x, bs D = x := ⟨_, rfl⟩
  have HB0 := Lib.hid hb0
  unfold CertPost
  rw [hb0] at TN TY TC HCE g0 g1 g2 g3 g4 g5 HC0 hl ⊢
  obtain ⟨CR, hCR⟩ : ∃ x, Ve.certS b0 = x := ⟨_, rfl⟩
  rw [hCR] at TN TY ⊢
  obtain ⟨tx, htx⟩ : ∃ x, (Wr.textS (b0, false)).1 = x := ⟨_, rfl⟩
  obtain ⟨s1, hs1⟩ : ∃ x, (Wr.textS (b0, false)).2 = x := ⟨_, rfl⟩
  rw [htx] at TN TY TC
  rw [hs1] at HCE g1 g2 g3 g4 g5
  rw [htx, hs1] at HC0 g0
  obtain ⟨C1, hC1⟩ : ∃ x, (Wr.numsS s1).1 = x := ⟨_, rfl⟩
  obtain ⟨s2, hs2⟩ : ∃ x, (Wr.numsS s1).2 = x := ⟨_, rfl⟩
  rw [hC1, hs2] at HCE
  rw [hs2] at g1 g2 g3 g4 g5
  obtain ⟨K1, hK1⟩ : ∃ x, (Wr.numsS s2).1 = x := ⟨_, rfl⟩
  obtain ⟨s3, hs3⟩ : ∃ x, (Wr.numsS s2).2 = x := ⟨_, rfl⟩
  rw [hK1, hs3] at HCE
  rw [hs3] at g2 g3 g4 g5
  obtain ⟨RB, hRB⟩ : ∃ x, (Wr.intS s3).1 = x := ⟨_, rfl⟩
  obtain ⟨s4, hs4⟩ : ∃ x, (Wr.intS s3).2 = x := ⟨_, rfl⟩
  rw [hRB, hs4] at HCE
  rw [hs4] at g3 g4 g5
  obtain ⟨QI, hQ⟩ : ∃ x, (Wr.natS s4).1 = x := ⟨_, rfl⟩
  obtain ⟨s5, hs5⟩ : ∃ x, (Wr.natS s4).2 = x := ⟨_, rfl⟩
  rw [hQ, hs5] at HCE
  rw [hs5] at g4
  rw [hQ] at g5
  obtain ⟨Q, rfl⟩ := Int.eq_ofNat_of_zero_le g5
  rw [Int.toNat_natCast] at HCE
  obtain ⟨m, hm⟩ : ∃ m, min Q b0.length = m := ⟨_, rfl⟩
  rw [hm] at HCE
  obtain ⟨SL, hSL⟩ : ∃ x, Wr.sipsS m s5 = x := ⟨_, rfl⟩
  rw [hSL] at HCE
  have HSL : Hid (∀ R', Wr.sipsS m s5 = R' → SL = (([] : List (List Int)) ++ R'.1, R'.2)) := Lib.hid (fun R' h => by rw [← hSL, h]; rfl)
  have N1 := Lib.hid (fun W hr hB hb => HNU.out s1 W hr hB hb (by omega))
  rw [hC1, hs2] at N1
  have N2 := Lib.hid (fun W hr hB hb => HNU.out s2 W hr hB hb (by omega))
  rw [hK1, hs3] at N2
  have N3 := Lib.hid (fun W hr hB => HIT.out s3 W hr hB (by omega))
  rw [hRB, hs4] at N3
  have N4 := Lib.hid (fun W hr hB => HNA.out s4 W hr hB (by omega))
  rw [hQ, hs5] at N4
  have h5l : s5.1.length ≤ 100000 := by omega
  have htl : tx.length ≤ 100000 := by omega
  have hm1 : m ≤ 100000 := by omega
  have hDs : D.size = b0.length := by rw [← bs_len, hb0]
  have HMN : Hid (min (Q : Int) ((D.size : Nat) : Int) = (m : Int)) := Lib.hid (by omega)
  obtain ⟨w1, hw1⟩ : ∃ W, W = w.alloc (.cells #[.int .i64 0, .slice none 0 0, .slice none 0 0, .slice none 0 0, .int .i64 0, .slice none 0 0] 38) := ⟨_, rfl⟩
  have B1 : Hid (Below w.heap.size w w1) := Lib.hid (by rw [hw1]; exact (Below.refl _ _).alloc (Nat.le_refl _) _)
  have I1 : Hid (w1.heap[w.heap.size]? = some (.cells certZero 38 (0, 0))) := Lib.hid (by rw [hw1]; exact heap_alloc_new _ _)
  have hz1 : w1.heap.size = w.heap.size + 1 := by rw [hw1]; simp
  have HW1 := Lib.hid hw1
  clear hE hl hcs g0 g1 g2 g3 g4 g5 hb0 hCR htx hs1 hC1 hs2 hK1 hs3 hRB hs4 hQ hs5 hm hSL hDs hw1
  go_enter Tryz.func33, Tryz.ntmps33
  go_upto_region 1 with fail
  rw [← HW1.out]
  go_wp2_with fail
  go_at_call 84; refine (rdOpen_any D w1).mono ?_; rintro e w2 ⟨rfl, b2, z2, r2⟩
  obtain ⟨b, hb⟩ : ∃ b, w1.heap.size = b := ⟨_, rfl⟩
  rw [hb] at b2 z2 r2 ⊢
  have hbw : b = w.heap.size + 1 := by omega
  have B2 := Lib.hid (B1.out.trans (b2.mono (by omega)))
  have I2 := Lib.hid (keep_heap I1.out (by rw [hb]; exact b2))
  have R2 : Hid (RdS w2 b (b0, false)) := Lib.hid ⟨D, HB0.out, r2⟩
  clear b2 r2 hb
  subst hbw
  go_wp2_with fail
  go_at_call 86; refine (HC0.out _ w2 R2.out B2.out).mono ?_; rintro e w3 ⟨⟨D1, hD1, rfl⟩, n3, r3⟩
  have B3 := Lib.hid (B2.out.trans (n3.below (by omega) B2.out.size))
  have I3 := Lib.hid (n3.heap I2.out (by omega))
  have R3 := Lib.hid r3
  have z3 : w.heap.size + 1 < w3.heap.size := Nat.lt_of_lt_of_le z2 n3.size
  have HPR := Lib.hid (pRead_any D1 w3 (HE.out w3 B3.out) (by rw [hD1]; omega))
  rw [hD1] at HPR
  clear n3 r3 hD1
  unfold NetPost at HPR
  go_wp2_with fail
  go_at_call 85; refine HPR.out.mono ?_; rintro e w4 ⟨b4, ⟨hno, rfl⟩ | ⟨P, T, v, hso, rfl, hT⟩⟩
  · have hX := TN.out hno
    subst hX
    have B4 := Lib.hid (B3.out.trans (b4.mono B3.out.size))
    have I4 := Lib.hid (keep_heap I3.out b4)
    obtain ⟨w5, hw5⟩ : ∃ W, W = w4.alloc (.cells #[.int .i64 0, .slice none 0 0] 35) := ⟨_, rfl⟩
    have b5 : Below w4.heap.size w4 w5 := by rw [hw5]; exact (Below.refl _ _).alloc (Nat.le_refl _) _
    have B5 := Lib.hid (B4.out.trans (b5.mono B4.out.size))
    have I5 := Lib.hid (keep_heap I4.out b5)
    have HW5 := Lib.hid hw5
    clear hw5 b5 b4 hno TN TY
    go_upto_region 3 with fail
    rw [← HW5.out]
    have hR5 := heap_lt I5.out
    have z10 : w5.cell? ⟨w.heap.size, 0, none⟩ = some (.int .i64 0) := cell_of_heap I5.out 0 rfl
    have z11 : w5.cell? ⟨w.heap.size, 1, none⟩ = some (.slice none 0 0) := cell_of_heap I5.out 1 rfl
    have z12 : w5.cell? ⟨w.heap.size, 2, none⟩ = some (.slice none 0 0) := cell_of_heap I5.out 2 rfl
    have z13 : w5.cell? ⟨w.heap.size, 3, none⟩ = some (.slice none 0 0) := cell_of_heap I5.out 3 rfl
    have z14 : w5.cell? ⟨w.heap.size, 4, none⟩ = some (.int .i64 0) := cell_of_heap I5.out 4 rfl
    have z15 : w5.cell? ⟨w.heap.size, 5, none⟩ = some (.slice none 0 0) := cell_of_heap I5.out 5 rfl
    have f0 : w5.frozen? ⟨w.heap.size, 0, none⟩ = false := free_of_heap I5.out 0
    have f1 : w5.frozen? ⟨w.heap.size, 1, none⟩ = false := free_of_heap I5.out 1
    have f2 : w5.frozen? ⟨w.heap.size, 2, none⟩ = false := free_of_heap I5.out 2
    have f3 : w5.frozen? ⟨w.heap.size, 3, none⟩ = false := free_of_heap I5.out 3
    have f4 : w5.frozen? ⟨w.heap.size, 4, none⟩ = false := free_of_heap I5.out 4
    have f5 : w5.frozen? ⟨w.heap.size, 5, none⟩ = false := free_of_heap I5.out 5
    go_wp2_with fail
    refine bodyPost_ret (v := .tuple #[.agg certZero, .bool false]) (results_rowtmp (p := 2) (ty := 38) (u := 3) (by kernel_rfl) _ _ w.heap.size 38 certZero (0, 0) _ rfl (six_heap _ _ _ _ _ _ I5.out) Tryz.underlying38 rfl (by kernel_rfl)) rfl ?_
    exact ⟨six_below _ _ _ _ _ _ (Nat.le_refl _) B5.out, by first | exact .inl ⟨rfl, rfl⟩ | rfl⟩
  · have hX := TY.out _ hso
    have HCS := Lib.hid (TC.out _ hso)
    have HCC := Lib.hid (HCE.out (P, T))
    rw [HCC.out] at hX HCS
    simp only at hX HCS
    have HX := Lib.hid hX
    have B4 := Lib.hid (B3.out.trans (b4.mono B3.out.size))
    have I4 := Lib.hid (keep_heap I3.out b4)
    have R4 := Lib.hid (R3.out.below b4)
    obtain ⟨ta, tc, rfl, -⟩ := hT.tr.form
    have T4 : Hid (TrR w4 (w.heap.size + 2) (.slice ta T.length tc) T) := Lib.hid (hT.mono (by omega))
    have z4 : w.heap.size + 1 < w4.heap.size := Nat.lt_of_lt_of_le z3 b4.size
    have Q4 : Hid (QS w ta tc T s1 w4) := Lib.hid ⟨B4.out, I4.out, R4.out, T4.out, z4⟩
    obtain ⟨w5, hw5⟩ : ∃ W, W = w4.alloc (.cells #[.int .i64 P, .slice ta T.length tc] 35) := ⟨_, rfl⟩
    have b5 : Below w4.heap.size w4 w5 := by rw [hw5]; exact (Below.refl _ _).alloc (Nat.le_refl _) _
    have Q5 := Lib.hid (Q4.out.below b5)
    have N5 : Hid (w5.heap[w4.heap.size]? = some (.cells #[.int .i64 P, .slice ta T.length tc] 35 (0, 0))) := Lib.hid (by rw [hw5]; exact heap_alloc_new _ _)
    obtain ⟨N, hN⟩ : ∃ n, w4.heap.size = n := ⟨_, rfl⟩
    have HW5 := Lib.hid hw5
    clear hw5 b5 b4 hso TN TY TC hX hT T4 Q4 HCE
    go_upto_region 3 with fail
    rw [← HW5.out]
    rw [hN] at N5 z4
    clear HW5 hN
    obtain ⟨TL, hTL⟩ : ∃ n, T.length = n := ⟨_, rfl⟩
    have HTL := Lib.hid hTL
    rw [hTL] at N5
    go_upto_region 5 with fail
    go_cut [7] (fun v wx => ∃ (C : Nat) (ca : Option Addr) (cc : Nat) (ka : Option Addr) (kc : Nat), v = .pointer (some ⟨C, 0, none⟩) ∧ Hid (QS w ta tc T s4 wx) ∧ Hid (wx.heap[C]? = some (.cells #[.int .i64 P, .slice ta TL tc, .slice ca C1.length cc, .slice ka K1.length kc, .int .i64 RB, .slice none 0 0] 38 (0, 0))) ∧ Hid (IsO wx (w.heap.size + 2) (.slice ca C1.length cc) C1) ∧ Hid (IsO wx (w.heap.size + 2) (.slice ka K1.length kc) K1) ∧ w.heap.size + 1 < C)
    case first =>
      refine wp_region_held_drew (S := fun W' => W'.heap[N]? = some (.cells #[.int .i64 P, .slice ta TL tc] 35 (0, 0))) (by kernel_rfl) N5.out (fun hHeld => ?_)
      obtain ⟨wB, hwx⟩ : ∃ W, W = w5.drew := ⟨_, rfl⟩
      rw [← hwx] at hHeld ⊢
      have bB : Below w5.heap.size w5 wB := by subst hwx; exact ⟨rfl, rfl, rfl, Nat.le_refl _, fun _ _ => rfl⟩
      have QB := Lib.hid (Q5.out.below bB)
      have NB0 := Lib.hid (keep_heap N5.out bB)
      clear hwx bB
      refine wpAnyH_take (i := 0) (oi := _) (v := ?_) rfl (by kernel_rfl) (by kernel_rfl) (by kernel_rfl) (fun _ _ _ h => h) (Or.inl ⟨by rfl, ?_⟩) (by assumption) ?_
      rotate_left
      · intro w' hSw; have k0 := cell_of_heap hSw 0 (v := .int .i64 P) rfl; have k1 := cell_of_heap hSw 1 (v := .slice ta TL tc) rfl; go_simp; all_goals (with_reducible rfl)
      try simp only [Act.put, List.getElem_toArray, List.getElem_cons_zero, List.getElem_cons_succ, List.setIfInBounds_toArray, List.set_cons_zero, List.set_cons_succ]
      refine wpAnyH_take (i := 1) (oi := _) (v := ?_) rfl (by kernel_rfl) (by kernel_rfl) (by kernel_rfl) (fun _ _ _ h => h) (Or.inl ⟨by rfl, ?_⟩) (by assumption) ?_
      rotate_left
      · intro w' hSw; have k0 := cell_of_heap hSw 0 (v := .int .i64 P) rfl; have k1 := cell_of_heap hSw 1 (v := .slice ta TL tc) rfl; go_simp; all_goals (with_reducible rfl)
      try simp only [Act.put, List.getElem_toArray, List.getElem_cons_zero, List.getElem_cons_succ, List.setIfInBounds_toArray, List.set_cons_zero, List.set_cons_succ]
      refine wpAnyH_take (i := 3) (oi := _) (v := ?_) rfl (by kernel_rfl) (by kernel_rfl) (by kernel_rfl) (fun _ _ _ h => h) (Or.inl ⟨by rfl, ?_⟩) (by assumption) ?_
      rotate_left
      · intro w' hSw; have k0 := cell_of_heap hSw 0 (v := .int .i64 P) rfl; have k1 := cell_of_heap hSw 1 (v := .slice ta TL tc) rfl; go_simp; all_goals (with_reducible rfl)
      try simp only [Act.put, List.getElem_toArray, List.getElem_cons_zero, List.getElem_cons_succ, List.setIfInBounds_toArray, List.set_cons_zero, List.set_cons_succ]
      refine wpAnyH_take (i := 5) (oi := _) (v := ?_) rfl (by kernel_rfl) (by kernel_rfl) (by kernel_rfl) (fun _ _ _ h => h) (Or.inl ⟨by rfl, ?_⟩) (by assumption) ?_
      rotate_left
      · intro w' hSw; have k0 := cell_of_heap hSw 0 (v := .int .i64 P) rfl; have k1 := cell_of_heap hSw 1 (v := .slice ta TL tc) rfl; go_simp; all_goals (with_reducible rfl)
      try simp only [Act.put, List.getElem_toArray, List.getElem_cons_zero, List.getElem_cons_succ, List.setIfInBounds_toArray, List.set_cons_zero, List.set_cons_succ]
      refine wpAnyH_ready (rs := [2, 8]) (by kernel_rfl) (by simp) ?_
      refine AllReadyH.cons (o := _) rfl (fun K9 hK => ?_) ?_
      · skip
        go_simp
        go_at_call 87; with_reducible refine (N1.out wB QB.out.hr QB.out.hB QB.out.hs).mono ?_; rintro e y1 ⟨⟨u1, rfl, o1⟩, ny1, ry1⟩
        have O1y1 : Hid (IsO y1 (w.heap.size + 2) u1 C1) := Lib.hid (own_mono o1 (by have := QB.out.hs; omega))
        obtain ⟨x1, c1, rfl, -⟩ := own_slice o1
        have Qy1 := Lib.hid (QB.out.next ny1 ry1)
        have Ny1 := Lib.hid (ny1.heap NB0.out (by omega))
        clear ny1 ry1 o1
        go_wp2_with fail
        refine hK.out _ _ Ny1.out (fun hHeld2 => ?_)
        clear hK K9 hHeld hHeld2
        have hHeld := Ny1.out
        try simp only [Act.put, List.getElem_toArray, List.getElem_cons_zero, List.getElem_cons_succ, List.setIfInBounds_toArray, List.set_cons_zero, List.set_cons_succ]
        refine wpAnyH_ready (rs := [4, 8]) (by kernel_rfl) (by simp) ?_
        refine AllReadyH.cons (o := _) rfl (fun K9 hK => ?_) ?_
        · skip
          go_simp
          go_at_call 87; with_reducible refine (N2.out y1 Qy1.out.hr Qy1.out.hB Qy1.out.hs).mono ?_; rintro e y2 ⟨⟨u2, rfl, o2⟩, ny2, ry2⟩
          have O2y2 : Hid (IsO y2 (w.heap.size + 2) u2 K1) := Lib.hid (own_mono o2 (by have := Qy1.out.hs; omega))
          obtain ⟨x2, c2, rfl, -⟩ := own_slice o2
          have Qy2 := Lib.hid (Qy1.out.next ny2 ry2)
          have Ny2 := Lib.hid (ny2.heap Ny1.out (by omega))
          have O1y2 : Hid (IsO y2 (w.heap.size + 2) (.slice x1 C1.length c1) C1) := Lib.hid (ny2.row O1y1.out (by omega))
          clear ny2 ry2 o2
          go_wp2_with fail
          refine hK.out _ _ Ny2.out (fun hHeld2 => ?_)
          clear hK K9 hHeld hHeld2
          have hHeld := Ny2.out
          try simp only [Act.put, List.getElem_toArray, List.getElem_cons_zero, List.getElem_cons_succ, List.setIfInBounds_toArray, List.set_cons_zero, List.set_cons_succ]
          refine wpAnyH_ready (rs := [6, 8]) (by kernel_rfl) (by simp) ?_
          refine AllReadyH.cons (o := _) rfl (fun K9 hK => ?_) ?_
          · skip
            go_simp
            go_at_call 88; with_reducible refine (N3.out y2 Qy2.out.hr Qy2.out.hB).mono ?_; rintro e y3 ⟨rfl, ny3, ry3⟩
            have Qy3 := Lib.hid (Qy2.out.next ny3 ry3)
            have Ny3 := Lib.hid (ny3.heap Ny2.out (by omega))
            have O1y3 : Hid (IsO y3 (w.heap.size + 2) (.slice x1 C1.length c1) C1) := Lib.hid (ny3.row O1y2.out (by omega))
            have O2y3 : Hid (IsO y3 (w.heap.size + 2) (.slice x2 K1.length c2) K1) := Lib.hid (ny3.row O2y2.out (by omega))
            clear ny3 ry3
            go_wp2_with fail
            refine hK.out _ _ Ny3.out (fun hHeld2 => ?_)
            clear hK K9 hHeld hHeld2
            have hHeld := Ny3.out
            try simp only [Act.put, List.getElem_toArray, List.getElem_cons_zero, List.getElem_cons_succ, List.setIfInBounds_toArray, List.set_cons_zero, List.set_cons_succ]
            refine wpAnyH_take (i := 7) (oi := _) (v := ?_) rfl (by kernel_rfl) (by kernel_rfl) (by kernel_rfl) (fun _ _ _ h => h) (Or.inl ⟨by rfl, ?_⟩) (by assumption) ?_
            rotate_left
            · intro w' hSw; have k0 := cell_of_heap hSw 0 (v := .int .i64 P) rfl; have k1 := cell_of_heap hSw 1 (v := .slice ta TL tc) rfl; go_simp; all_goals (with_reducible rfl)
            try simp only [Act.put, List.getElem_toArray, List.getElem_cons_zero, List.getElem_cons_succ, List.setIfInBounds_toArray, List.set_cons_zero, List.set_cons_succ]
            refine wpAnyH_ready (rs := [8]) (by kernel_rfl) (by simp) ?_
            refine AllReadyH.cons (o := _) rfl (fun K9 hK => ?_) AllReadyH.nil
            go_simp
            obtain ⟨y4, hwy4⟩ : ∃ W, W = y3.alloc (.cells #[.int .i64 0, .slice none 0 0, .slice none 0 0, .slice none 0 0, .int .i64 0, .slice none 0 0] 38) := ⟨_, rfl⟩
            have by4 : Below y3.heap.size y3 y4 := by rw [hwy4]; exact (Below.refl _ _).alloc (Nat.le_refl _) _
            obtain ⟨C, hC⟩ : ∃ n, y3.heap.size = n := ⟨_, rfl⟩
            have Ay4 : Hid (y4.heap[C]? = some (.cells certZero 38 (0, 0))) := Lib.hid (by rw [hwy4, ← hC]; exact heap_alloc_new _ _)
            have hCb : w.heap.size + 1 < C := by have := Qy3.out.hs; omega
            have hCN : C ≠ N := by have := heap_lt Ny3.out; omega
            have Qy4 := Lib.hid (Qy3.out.below by4)
            have Ny4 := Lib.hid (keep_heap Ny3.out by4)
            have O1y4 : Hid (IsO y4 (w.heap.size + 2) (.slice x1 C1.length c1) C1) := Lib.hid (own_below O1y3.out by4)
            have O2y4 : Hid (IsO y4 (w.heap.size + 2) (.slice x2 K1.length c2) K1) := Lib.hid (own_below O2y3.out by4)
            rw [← hwy4, hC]
            clear hwy4 by4 hC
            refine hK.out _ _ Ny4.out (fun hHeld2 => ?_)
            clear hK K9 hHeld hHeld2
            have hHeld := Ny4.out
            try simp only [Act.put, List.getElem_toArray, List.getElem_cons_zero, List.getElem_cons_succ, List.setIfInBounds_toArray, List.set_cons_zero, List.set_cons_succ]
            refine wpAnyH_ready (rs := [9]) (by kernel_rfl) (by simp) ?_
            refine AllReadyH.cons (o := _) rfl (fun K9 hK => ?_) AllReadyH.nil
            have hCl := heap_lt Ay4.out
            have z10 : y4.cell? ⟨C, 0, none⟩ = some (.int .i64 0) := cell_of_heap Ay4.out 0 rfl
            have z11 : y4.cell? ⟨C, 1, none⟩ = some (.slice none 0 0) := cell_of_heap Ay4.out 1 rfl
            have z12 : y4.cell? ⟨C, 2, none⟩ = some (.slice none 0 0) := cell_of_heap Ay4.out 2 rfl
            have z13 : y4.cell? ⟨C, 3, none⟩ = some (.slice none 0 0) := cell_of_heap Ay4.out 3 rfl
            have z14 : y4.cell? ⟨C, 4, none⟩ = some (.int .i64 0) := cell_of_heap Ay4.out 4 rfl
            have z15 : y4.cell? ⟨C, 5, none⟩ = some (.slice none 0 0) := cell_of_heap Ay4.out 5 rfl
            have f0 : y4.frozen? ⟨C, 0, none⟩ = false := free_of_heap Ay4.out 0
            have f1 : y4.frozen? ⟨C, 1, none⟩ = false := free_of_heap Ay4.out 1
            have f2 : y4.frozen? ⟨C, 2, none⟩ = false := free_of_heap Ay4.out 2
            have f3 : y4.frozen? ⟨C, 3, none⟩ = false := free_of_heap Ay4.out 3
            have f4 : y4.frozen? ⟨C, 4, none⟩ = false := free_of_heap Ay4.out 4
            have f5 : y4.frozen? ⟨C, 5, none⟩ = false := free_of_heap Ay4.out 5
            go_simp
            refine hK.out _ _ ((six_other _ _ _ _ _ _ (Ne.symm hCN)).trans Ny4.out) (fun hHeld2 => ?_)
            clear hK K9 hHeld hHeld2 z10 z11 z12 z13 z14 z15 f0 f1 f2 f3 f4 f5
            refine wpAnyH_done (by kernel_rfl) ?_ _
            go_wp2_with fail
            go_meet
            exact ⟨C, x1, c1, x2, c2, rfl, Lib.hid (Qy4.out.six _ _ _ _ _ _ Ay4.out hCb), Lib.hid (six_heap _ _ _ _ _ _ Ay4.out), Lib.hid ((six_gt _ _ _ _ _ _ Ay4.out).row O1y4.out (by decide)), Lib.hid ((six_gt _ _ _ _ _ _ Ay4.out).row O2y4.out (by decide)), hCb⟩
          refine AllReadyH.cons (o := _) rfl (fun K9 hK => ?_) AllReadyH.nil
          go_simp
          obtain ⟨y6, hwy6⟩ : ∃ W, W = y2.alloc (.cells #[.int .i64 0, .slice none 0 0, .slice none 0 0, .slice none 0 0, .int .i64 0, .slice none 0 0] 38) := ⟨_, rfl⟩
          have by6 : Below y2.heap.size y2 y6 := by rw [hwy6]; exact (Below.refl _ _).alloc (Nat.le_refl _) _
          obtain ⟨C, hC⟩ : ∃ n, y2.heap.size = n := ⟨_, rfl⟩
          have Ay6 : Hid (y6.heap[C]? = some (.cells certZero 38 (0, 0))) := Lib.hid (by rw [hwy6, ← hC]; exact heap_alloc_new _ _)
          have hCb : w.heap.size + 1 < C := by have := Qy2.out.hs; omega
          have hCN : C ≠ N := by have := heap_lt Ny2.out; omega
          have Qy6 := Lib.hid (Qy2.out.below by6)
          have Ny6 := Lib.hid (keep_heap Ny2.out by6)
          have O1y6 : Hid (IsO y6 (w.heap.size + 2) (.slice x1 C1.length c1) C1) := Lib.hid (own_below O1y2.out by6)
          have O2y6 : Hid (IsO y6 (w.heap.size + 2) (.slice x2 K1.length c2) K1) := Lib.hid (own_below O2y2.out by6)
          rw [← hwy6, hC]
          clear hwy6 by6 hC
          refine hK.out _ _ Ny6.out (fun hHeld2 => ?_)
          clear hK K9 hHeld hHeld2
          have hHeld := Ny6.out
          try simp only [Act.put, List.getElem_toArray, List.getElem_cons_zero, List.getElem_cons_succ, List.setIfInBounds_toArray, List.set_cons_zero, List.set_cons_succ]
          refine wpAnyH_ready (rs := [6]) (by kernel_rfl) (by simp) ?_
          refine AllReadyH.cons (o := _) rfl (fun K9 hK => ?_) AllReadyH.nil
          go_simp
          go_at_call 88; with_reducible refine (N3.out y6 Qy6.out.hr Qy6.out.hB).mono ?_; rintro e y7 ⟨rfl, ny7, ry7⟩
          have Qy7 := Lib.hid (Qy6.out.next ny7 ry7)
          have Ny7 := Lib.hid (ny7.heap Ny6.out (by omega))
          have Ay7 := Lib.hid (ny7.heap Ay6.out (by omega))
          have O1y7 : Hid (IsO y7 (w.heap.size + 2) (.slice x1 C1.length c1) C1) := Lib.hid (ny7.row O1y6.out (by omega))
          have O2y7 : Hid (IsO y7 (w.heap.size + 2) (.slice x2 K1.length c2) K1) := Lib.hid (ny7.row O2y6.out (by omega))
          clear ny7 ry7
          go_wp2_with fail
          refine hK.out _ _ Ny7.out (fun hHeld2 => ?_)
          clear hK K9 hHeld hHeld2
          have hHeld := Ny7.out
          try simp only [Act.put, List.getElem_toArray, List.getElem_cons_zero, List.getElem_cons_succ, List.setIfInBounds_toArray, List.set_cons_zero, List.set_cons_succ]
          refine wpAnyH_take (i := 7) (oi := _) (v := ?_) rfl (by kernel_rfl) (by kernel_rfl) (by kernel_rfl) (fun _ _ _ h => h) (Or.inl ⟨by rfl, ?_⟩) (by assumption) ?_
          rotate_left
          · intro w' hSw; have k0 := cell_of_heap hSw 0 (v := .int .i64 P) rfl; have k1 := cell_of_heap hSw 1 (v := .slice ta TL tc) rfl; go_simp; all_goals (with_reducible rfl)
          try simp only [Act.put, List.getElem_toArray, List.getElem_cons_zero, List.getElem_cons_succ, List.setIfInBounds_toArray, List.set_cons_zero, List.set_cons_succ]
          refine wpAnyH_ready (rs := [9]) (by kernel_rfl) (by simp) ?_
          refine AllReadyH.cons (o := _) rfl (fun K9 hK => ?_) AllReadyH.nil
          have hCl := heap_lt Ay7.out
          have z10 : y7.cell? ⟨C, 0, none⟩ = some (.int .i64 0) := cell_of_heap Ay7.out 0 rfl
          have z11 : y7.cell? ⟨C, 1, none⟩ = some (.slice none 0 0) := cell_of_heap Ay7.out 1 rfl
          have z12 : y7.cell? ⟨C, 2, none⟩ = some (.slice none 0 0) := cell_of_heap Ay7.out 2 rfl
          have z13 : y7.cell? ⟨C, 3, none⟩ = some (.slice none 0 0) := cell_of_heap Ay7.out 3 rfl
          have z14 : y7.cell? ⟨C, 4, none⟩ = some (.int .i64 0) := cell_of_heap Ay7.out 4 rfl
          have z15 : y7.cell? ⟨C, 5, none⟩ = some (.slice none 0 0) := cell_of_heap Ay7.out 5 rfl
          have f0 : y7.frozen? ⟨C, 0, none⟩ = false := free_of_heap Ay7.out 0
          have f1 : y7.frozen? ⟨C, 1, none⟩ = false := free_of_heap Ay7.out 1
          have f2 : y7.frozen? ⟨C, 2, none⟩ = false := free_of_heap Ay7.out 2
          have f3 : y7.frozen? ⟨C, 3, none⟩ = false := free_of_heap Ay7.out 3
          have f4 : y7.frozen? ⟨C, 4, none⟩ = false := free_of_heap Ay7.out 4
          have f5 : y7.frozen? ⟨C, 5, none⟩ = false := free_of_heap Ay7.out 5
          go_simp
          refine hK.out _ _ ((six_other _ _ _ _ _ _ (Ne.symm hCN)).trans Ny7.out) (fun hHeld2 => ?_)
          clear hK K9 hHeld hHeld2 z10 z11 z12 z13 z14 z15 f0 f1 f2 f3 f4 f5
          refine wpAnyH_done (by kernel_rfl) ?_ _
          go_wp2_with fail
          go_meet
          exact ⟨C, x1, c1, x2, c2, rfl, Lib.hid (Qy7.out.six _ _ _ _ _ _ Ay7.out hCb), Lib.hid (six_heap _ _ _ _ _ _ Ay7.out), Lib.hid ((six_gt _ _ _ _ _ _ Ay7.out).row O1y7.out (by decide)), Lib.hid ((six_gt _ _ _ _ _ _ Ay7.out).row O2y7.out (by decide)), hCb⟩
        refine AllReadyH.cons (o := _) rfl (fun K9 hK => ?_) AllReadyH.nil
        go_simp
        obtain ⟨y9, hwy9⟩ : ∃ W, W = y1.alloc (.cells #[.int .i64 0, .slice none 0 0, .slice none 0 0, .slice none 0 0, .int .i64 0, .slice none 0 0] 38) := ⟨_, rfl⟩
        have by9 : Below y1.heap.size y1 y9 := by rw [hwy9]; exact (Below.refl _ _).alloc (Nat.le_refl _) _
        obtain ⟨C, hC⟩ : ∃ n, y1.heap.size = n := ⟨_, rfl⟩
        have Ay9 : Hid (y9.heap[C]? = some (.cells certZero 38 (0, 0))) := Lib.hid (by rw [hwy9, ← hC]; exact heap_alloc_new _ _)
        have hCb : w.heap.size + 1 < C := by have := Qy1.out.hs; omega
        have hCN : C ≠ N := by have := heap_lt Ny1.out; omega
        have Qy9 := Lib.hid (Qy1.out.below by9)
        have Ny9 := Lib.hid (keep_heap Ny1.out by9)
        have O1y9 : Hid (IsO y9 (w.heap.size + 2) (.slice x1 C1.length c1) C1) := Lib.hid (own_below O1y1.out by9)
        rw [← hwy9, hC]
        clear hwy9 by9 hC
        refine hK.out _ _ Ny9.out (fun hHeld2 => ?_)
        clear hK K9 hHeld hHeld2
        have hHeld := Ny9.out
        try simp only [Act.put, List.getElem_toArray, List.getElem_cons_zero, List.getElem_cons_succ, List.setIfInBounds_toArray, List.set_cons_zero, List.set_cons_succ]
        refine wpAnyH_ready (rs := [4]) (by kernel_rfl) (by simp) ?_
        refine AllReadyH.cons (o := _) rfl (fun K9 hK => ?_) AllReadyH.nil
        go_simp
        go_at_call 87; with_reducible refine (N2.out y9 Qy9.out.hr Qy9.out.hB Qy9.out.hs).mono ?_; rintro e y10 ⟨⟨u2, rfl, o2⟩, ny10, ry10⟩
        have O2y10 : Hid (IsO y10 (w.heap.size + 2) u2 K1) := Lib.hid (own_mono o2 (by have := Qy9.out.hs; omega))
        obtain ⟨x2, c2, rfl, -⟩ := own_slice o2
        have Qy10 := Lib.hid (Qy9.out.next ny10 ry10)
        have Ny10 := Lib.hid (ny10.heap Ny9.out (by omega))
        have Ay10 := Lib.hid (ny10.heap Ay9.out (by omega))
        have O1y10 : Hid (IsO y10 (w.heap.size + 2) (.slice x1 C1.length c1) C1) := Lib.hid (ny10.row O1y9.out (by omega))
        clear ny10 ry10 o2
        go_wp2_with fail
        refine hK.out _ _ Ny10.out (fun hHeld2 => ?_)
        clear hK K9 hHeld hHeld2
        have hHeld := Ny10.out
        try simp only [Act.put, List.getElem_toArray, List.getElem_cons_zero, List.getElem_cons_succ, List.setIfInBounds_toArray, List.set_cons_zero, List.set_cons_succ]
        refine wpAnyH_ready (rs := [6]) (by kernel_rfl) (by simp) ?_
        refine AllReadyH.cons (o := _) rfl (fun K9 hK => ?_) AllReadyH.nil
        go_simp
        go_at_call 88; with_reducible refine (N3.out y10 Qy10.out.hr Qy10.out.hB).mono ?_; rintro e y11 ⟨rfl, ny11, ry11⟩
        have Qy11 := Lib.hid (Qy10.out.next ny11 ry11)
        have Ny11 := Lib.hid (ny11.heap Ny10.out (by omega))
        have Ay11 := Lib.hid (ny11.heap Ay10.out (by omega))
        have O1y11 : Hid (IsO y11 (w.heap.size + 2) (.slice x1 C1.length c1) C1) := Lib.hid (ny11.row O1y10.out (by omega))
        have O2y11 : Hid (IsO y11 (w.heap.size + 2) (.slice x2 K1.length c2) K1) := Lib.hid (ny11.row O2y10.out (by omega))
        clear ny11 ry11
        go_wp2_with fail
        refine hK.out _ _ Ny11.out (fun hHeld2 => ?_)
        clear hK K9 hHeld hHeld2
        have hHeld := Ny11.out
        try simp only [Act.put, List.getElem_toArray, List.getElem_cons_zero, List.getElem_cons_succ, List.setIfInBounds_toArray, List.set_cons_zero, List.set_cons_succ]
        refine wpAnyH_take (i := 7) (oi := _) (v := ?_) rfl (by kernel_rfl) (by kernel_rfl) (by kernel_rfl) (fun _ _ _ h => h) (Or.inl ⟨by rfl, ?_⟩) (by assumption) ?_
        rotate_left
        · intro w' hSw; have k0 := cell_of_heap hSw 0 (v := .int .i64 P) rfl; have k1 := cell_of_heap hSw 1 (v := .slice ta TL tc) rfl; go_simp; all_goals (with_reducible rfl)
        try simp only [Act.put, List.getElem_toArray, List.getElem_cons_zero, List.getElem_cons_succ, List.setIfInBounds_toArray, List.set_cons_zero, List.set_cons_succ]
        refine wpAnyH_ready (rs := [9]) (by kernel_rfl) (by simp) ?_
        refine AllReadyH.cons (o := _) rfl (fun K9 hK => ?_) AllReadyH.nil
        have hCl := heap_lt Ay11.out
        have z10 : y11.cell? ⟨C, 0, none⟩ = some (.int .i64 0) := cell_of_heap Ay11.out 0 rfl
        have z11 : y11.cell? ⟨C, 1, none⟩ = some (.slice none 0 0) := cell_of_heap Ay11.out 1 rfl
        have z12 : y11.cell? ⟨C, 2, none⟩ = some (.slice none 0 0) := cell_of_heap Ay11.out 2 rfl
        have z13 : y11.cell? ⟨C, 3, none⟩ = some (.slice none 0 0) := cell_of_heap Ay11.out 3 rfl
        have z14 : y11.cell? ⟨C, 4, none⟩ = some (.int .i64 0) := cell_of_heap Ay11.out 4 rfl
        have z15 : y11.cell? ⟨C, 5, none⟩ = some (.slice none 0 0) := cell_of_heap Ay11.out 5 rfl
        have f0 : y11.frozen? ⟨C, 0, none⟩ = false := free_of_heap Ay11.out 0
        have f1 : y11.frozen? ⟨C, 1, none⟩ = false := free_of_heap Ay11.out 1
        have f2 : y11.frozen? ⟨C, 2, none⟩ = false := free_of_heap Ay11.out 2
        have f3 : y11.frozen? ⟨C, 3, none⟩ = false := free_of_heap Ay11.out 3
        have f4 : y11.frozen? ⟨C, 4, none⟩ = false := free_of_heap Ay11.out 4
        have f5 : y11.frozen? ⟨C, 5, none⟩ = false := free_of_heap Ay11.out 5
        go_simp
        refine hK.out _ _ ((six_other _ _ _ _ _ _ (Ne.symm hCN)).trans Ny11.out) (fun hHeld2 => ?_)
        clear hK K9 hHeld hHeld2 z10 z11 z12 z13 z14 z15 f0 f1 f2 f3 f4 f5
        refine wpAnyH_done (by kernel_rfl) ?_ _
        go_wp2_with fail
        go_meet
        exact ⟨C, x1, c1, x2, c2, rfl, Lib.hid (Qy11.out.six _ _ _ _ _ _ Ay11.out hCb), Lib.hid (six_heap _ _ _ _ _ _ Ay11.out), Lib.hid ((six_gt _ _ _ _ _ _ Ay11.out).row O1y11.out (by decide)), Lib.hid ((six_gt _ _ _ _ _ _ Ay11.out).row O2y11.out (by decide)), hCb⟩
      refine AllReadyH.cons (o := _) rfl (fun K9 hK => ?_) AllReadyH.nil
      go_simp
      obtain ⟨y13, hwy13⟩ : ∃ W, W = wB.alloc (.cells #[.int .i64 0, .slice none 0 0, .slice none 0 0, .slice none 0 0, .int .i64 0, .slice none 0 0] 38) := ⟨_, rfl⟩
      have by13 : Below wB.heap.size wB y13 := by rw [hwy13]; exact (Below.refl _ _).alloc (Nat.le_refl _) _
      obtain ⟨C, hC⟩ : ∃ n, wB.heap.size = n := ⟨_, rfl⟩
      have Ay13 : Hid (y13.heap[C]? = some (.cells certZero 38 (0, 0))) := Lib.hid (by rw [hwy13, ← hC]; exact heap_alloc_new _ _)
      have hCb : w.heap.size + 1 < C := by have := QB.out.hs; omega
      have hCN : C ≠ N := by have := heap_lt NB0.out; omega
      have Qy13 := Lib.hid (QB.out.below by13)
      have Ny13 := Lib.hid (keep_heap NB0.out by13)
      rw [← hwy13, hC]
      clear hwy13 by13 hC
      refine hK.out _ _ Ny13.out (fun hHeld2 => ?_)
      clear hK K9 hHeld hHeld2
      have hHeld := Ny13.out
      try simp only [Act.put, List.getElem_toArray, List.getElem_cons_zero, List.getElem_cons_succ, List.setIfInBounds_toArray, List.set_cons_zero, List.set_cons_succ]
      refine wpAnyH_ready (rs := [2]) (by kernel_rfl) (by simp) ?_
      refine AllReadyH.cons (o := _) rfl (fun K9 hK => ?_) AllReadyH.nil
      go_simp
      go_at_call 87; with_reducible refine (N1.out y13 Qy13.out.hr Qy13.out.hB Qy13.out.hs).mono ?_; rintro e y14 ⟨⟨u1, rfl, o1⟩, ny14, ry14⟩
      have O1y14 : Hid (IsO y14 (w.heap.size + 2) u1 C1) := Lib.hid (own_mono o1 (by have := Qy13.out.hs; omega))
      obtain ⟨x1, c1, rfl, -⟩ := own_slice o1
      have Qy14 := Lib.hid (Qy13.out.next ny14 ry14)
      have Ny14 := Lib.hid (ny14.heap Ny13.out (by omega))
      have Ay14 := Lib.hid (ny14.heap Ay13.out (by omega))
      clear ny14 ry14 o1
      go_wp2_with fail
      refine hK.out _ _ Ny14.out (fun hHeld2 => ?_)
      clear hK K9 hHeld hHeld2
      have hHeld := Ny14.out
      try simp only [Act.put, List.getElem_toArray, List.getElem_cons_zero, List.getElem_cons_succ, List.setIfInBounds_toArray, List.set_cons_zero, List.set_cons_succ]
      refine wpAnyH_ready (rs := [4]) (by kernel_rfl) (by simp) ?_
      refine AllReadyH.cons (o := _) rfl (fun K9 hK => ?_) AllReadyH.nil
      go_simp
      go_at_call 87; with_reducible refine (N2.out y14 Qy14.out.hr Qy14.out.hB Qy14.out.hs).mono ?_; rintro e y15 ⟨⟨u2, rfl, o2⟩, ny15, ry15⟩
      have O2y15 : Hid (IsO y15 (w.heap.size + 2) u2 K1) := Lib.hid (own_mono o2 (by have := Qy14.out.hs; omega))
      obtain ⟨x2, c2, rfl, -⟩ := own_slice o2
      have Qy15 := Lib.hid (Qy14.out.next ny15 ry15)
      have Ny15 := Lib.hid (ny15.heap Ny14.out (by omega))
      have Ay15 := Lib.hid (ny15.heap Ay14.out (by omega))
      have O1y15 : Hid (IsO y15 (w.heap.size + 2) (.slice x1 C1.length c1) C1) := Lib.hid (ny15.row O1y14.out (by omega))
      clear ny15 ry15 o2
      go_wp2_with fail
      refine hK.out _ _ Ny15.out (fun hHeld2 => ?_)
      clear hK K9 hHeld hHeld2
      have hHeld := Ny15.out
      try simp only [Act.put, List.getElem_toArray, List.getElem_cons_zero, List.getElem_cons_succ, List.setIfInBounds_toArray, List.set_cons_zero, List.set_cons_succ]
      refine wpAnyH_ready (rs := [6]) (by kernel_rfl) (by simp) ?_
      refine AllReadyH.cons (o := _) rfl (fun K9 hK => ?_) AllReadyH.nil
      go_simp
      go_at_call 88; with_reducible refine (N3.out y15 Qy15.out.hr Qy15.out.hB).mono ?_; rintro e y16 ⟨rfl, ny16, ry16⟩
      have Qy16 := Lib.hid (Qy15.out.next ny16 ry16)
      have Ny16 := Lib.hid (ny16.heap Ny15.out (by omega))
      have Ay16 := Lib.hid (ny16.heap Ay15.out (by omega))
      have O1y16 : Hid (IsO y16 (w.heap.size + 2) (.slice x1 C1.length c1) C1) := Lib.hid (ny16.row O1y15.out (by omega))
      have O2y16 : Hid (IsO y16 (w.heap.size + 2) (.slice x2 K1.length c2) K1) := Lib.hid (ny16.row O2y15.out (by omega))
      clear ny16 ry16
      go_wp2_with fail
      refine hK.out _ _ Ny16.out (fun hHeld2 => ?_)
      clear hK K9 hHeld hHeld2
      have hHeld := Ny16.out
      try simp only [Act.put, List.getElem_toArray, List.getElem_cons_zero, List.getElem_cons_succ, List.setIfInBounds_toArray, List.set_cons_zero, List.set_cons_succ]
      refine wpAnyH_take (i := 7) (oi := _) (v := ?_) rfl (by kernel_rfl) (by kernel_rfl) (by kernel_rfl) (fun _ _ _ h => h) (Or.inl ⟨by rfl, ?_⟩) (by assumption) ?_
      rotate_left
      · intro w' hSw; have k0 := cell_of_heap hSw 0 (v := .int .i64 P) rfl; have k1 := cell_of_heap hSw 1 (v := .slice ta TL tc) rfl; go_simp; all_goals (with_reducible rfl)
      try simp only [Act.put, List.getElem_toArray, List.getElem_cons_zero, List.getElem_cons_succ, List.setIfInBounds_toArray, List.set_cons_zero, List.set_cons_succ]
      refine wpAnyH_ready (rs := [9]) (by kernel_rfl) (by simp) ?_
      refine AllReadyH.cons (o := _) rfl (fun K9 hK => ?_) AllReadyH.nil
      have hCl := heap_lt Ay16.out
      have z10 : y16.cell? ⟨C, 0, none⟩ = some (.int .i64 0) := cell_of_heap Ay16.out 0 rfl
      have z11 : y16.cell? ⟨C, 1, none⟩ = some (.slice none 0 0) := cell_of_heap Ay16.out 1 rfl
      have z12 : y16.cell? ⟨C, 2, none⟩ = some (.slice none 0 0) := cell_of_heap Ay16.out 2 rfl
      have z13 : y16.cell? ⟨C, 3, none⟩ = some (.slice none 0 0) := cell_of_heap Ay16.out 3 rfl
      have z14 : y16.cell? ⟨C, 4, none⟩ = some (.int .i64 0) := cell_of_heap Ay16.out 4 rfl
      have z15 : y16.cell? ⟨C, 5, none⟩ = some (.slice none 0 0) := cell_of_heap Ay16.out 5 rfl
      have f0 : y16.frozen? ⟨C, 0, none⟩ = false := free_of_heap Ay16.out 0
      have f1 : y16.frozen? ⟨C, 1, none⟩ = false := free_of_heap Ay16.out 1
      have f2 : y16.frozen? ⟨C, 2, none⟩ = false := free_of_heap Ay16.out 2
      have f3 : y16.frozen? ⟨C, 3, none⟩ = false := free_of_heap Ay16.out 3
      have f4 : y16.frozen? ⟨C, 4, none⟩ = false := free_of_heap Ay16.out 4
      have f5 : y16.frozen? ⟨C, 5, none⟩ = false := free_of_heap Ay16.out 5
      go_simp
      refine hK.out _ _ ((six_other _ _ _ _ _ _ (Ne.symm hCN)).trans Ny16.out) (fun hHeld2 => ?_)
      clear hK K9 hHeld hHeld2 z10 z11 z12 z13 z14 z15 f0 f1 f2 f3 f4 f5
      refine wpAnyH_done (by kernel_rfl) ?_ _
      go_wp2_with fail
      go_meet
      exact ⟨C, x1, c1, x2, c2, rfl, Lib.hid (Qy16.out.six _ _ _ _ _ _ Ay16.out hCb), Lib.hid (six_heap _ _ _ _ _ _ Ay16.out), Lib.hid ((six_gt _ _ _ _ _ _ Ay16.out).row O1y16.out (by decide)), Lib.hid ((six_gt _ _ _ _ _ _ Ay16.out).row O2y16.out (by decide)), hCb⟩
    case rest =>
      obtain ⟨C, ca, cc, ka, kc, rfl, QC, HC, OC, OK, hCb⟩ := hcut
      have r5 := HC.out
      have HMI := HMN.out
      go_wp2_with fail
      go_at_call 89; refine (N4.out _ QC.out.hr QC.out.hB).mono ?_; rintro e w6 ⟨rfl, n6, r6⟩
      have Q6 := Lib.hid (QC.out.next n6 r6)
      have C6 := Lib.hid (n6.heap HC.out (by omega))
      have OC6 : Hid (IsO w6 (w.heap.size + 2) (.slice ca C1.length cc) C1) := Lib.hid (n6.row OC.out (by omega))
      have OK6 : Hid (IsO w6 (w.heap.size + 2) (.slice ka K1.length kc) K1) := Lib.hid (n6.row OK.out (by omega))
      have RL0 : Hid (RL w6 (w.heap.size + 2) (w.heap.size + 2) (.slice none 0 0) []) := Lib.hid (RL.nil ..)
      obtain ⟨LC, hLC⟩ : ∃ n, C1.length = n := ⟨_, rfl⟩
      obtain ⟨LK, hLK⟩ : ∃ n, K1.length = n := ⟨_, rfl⟩
      have HLC := Lib.hid hLC
      have HLK := Lib.hid hLK
      rw [hLC] at C6 OC6
      rw [hLK] at C6 OK6
      clear n6 r6 QC HC OC OK r5 hLC hLK
      go_wp2_with fail
      go_loopw [32] (fun iv wr => ∃ (k i : Nat) (L : List (List Int)) (s : Wr.St) (sa : Option Addr) (sc : Nat), iv = .int .i64 k ∧ k + i = m ∧ Hid (∀ R', Wr.sipsS i s = R' → SL = (L ++ R'.1, R'.2)) ∧ Hid (L.length = k) ∧ s.1.length ≤ 100000 ∧ Hid (QS w ta tc T s wr) ∧ Hid (wr.heap[C]? = some (.cells #[.int .i64 P, .slice ta TL tc, .slice ca LC cc, .slice ka LK kc, .int .i64 RB, .slice sa k sc] 38 (0, 0))) ∧ Hid (IsO wr (w.heap.size + 2) (.slice ca LC cc) C1) ∧ Hid (IsO wr (w.heap.size + 2) (.slice ka LK kc) K1) ∧ Hid (RL wr (w.heap.size + 2) (w.heap.size + 2) (.slice sa k sc) L)) (fun iv _ => m - (intOf iv).toNat)
      case atStart => exact ⟨0, m, [], s5, none, 0, rfl, by omega, HSL, Lib.hid rfl, h5l, Q6, C6, OC6, OK6, RL0⟩
      case round =>
        clear Q6 C6 OC6 OK6 RL0 HSL HMI
        obtain ⟨k, i, L, s, sa, sc, rfl, hki, HI, HL, hsl, HQ, HCc, HO1, HO2, HRL⟩ := hrel
        obtain ⟨wA, hwA⟩ : ∃ W, W = wr := ⟨_, rfl⟩
        subst hwA
        by_cases hk : k < m
        · obtain ⟨i, rfl⟩ : ∃ i', i = i' + 1 := ⟨i - 1, by omega⟩
          have hkI : (k : Int) < (m : Int) := by omega
          have hnx := HNS.out i s
          have hrs := HRS.out s
          have HN1 := Lib.hid (fun W hr hB hb => HNU.out s W hr hB hb hsl)
          obtain ⟨A1, hA1⟩ : ∃ x, (Wr.numsS s).1 = x := ⟨_, rfl⟩
          obtain ⟨sb, hsb⟩ : ∃ x, (Wr.numsS s).2 = x := ⟨_, rfl⟩
          rw [hA1, hsb] at hnx HN1
          rw [hsb] at hrs
          have HI2 : Hid (∀ R', Wr.sipsS i sb = R' → SL = ((L ++ [A1]) ++ R'.1, R'.2)) := Lib.hid (fun R' hR => by
            have := HI.out _ hnx
            rw [this, hR]; simp)
          have HL2 : Hid ((L ++ [A1]).length = k + 1) := Lib.hid (by rw [List.length_append, HL.out]; rfl)
          clear hA1 hsb hnx HI
          go_upto_region 8 with fail
          refine wp_region_x (S := fun W' => W'.heap[C]? = some (.cells #[.int .i64 P, .slice ta TL tc, .slice ca LC cc, .slice ka LK kc, .int .i64 RB, .slice sa k sc] 38 (0, 0))) (L := 7) (by kernel_rfl) HCc.out (fun hHeld => ?_)
          obtain ⟨wB, hwx⟩ : ∃ W, W = wA.drew := ⟨_, rfl⟩
          rw [← hwx] at hHeld ⊢
          have bB : Below wA.heap.size wA wB := by subst hwx; exact ⟨rfl, rfl, rfl, Nat.le_refl _, fun _ _ => rfl⟩
          have QB := Lib.hid (HQ.out.below bB)
          have CB := Lib.hid (keep_heap HCc.out bB)
          have O1B : Hid (IsO wB (w.heap.size + 2) (.slice ca LC cc) C1) := Lib.hid (own_below HO1.out bB)
          have O2B : Hid (IsO wB (w.heap.size + 2) (.slice ka LK kc) K1) := Lib.hid (own_below HO2.out bB)
          have RLB := Lib.hid (HRL.out.below bB)
          clear hwx bB HQ HCc HO1 HO2 HRL
          refine wpAnyX_take (i := 0) (v := ?v0) [1, 5, 7] (by kernel_rfl) rfl (by kernel_rfl) (by kernel_rfl) (by kernel_rfl) (fun _ _ _ h => h) (Or.inl ⟨by rfl, ?y0⟩) (by assumption) ?_
          case y0 => (intro w' hSw; have k0 := cell_of_heap hSw 5 (v := .slice sa k sc) rfl; go_simp; try (with_reducible rfl))
          try simp only [Act.put, List.getElem_toArray, List.getElem_cons_zero, List.getElem_cons_succ, List.setIfInBounds_toArray, List.set_cons_zero, List.set_cons_succ]
          refine wpAnyX_take (i := 1) (v := ?v1) [5, 7] (by kernel_rfl) rfl (by kernel_rfl) (by kernel_rfl) (by kernel_rfl) (fun _ _ _ h => h) (Or.inl ⟨by rfl, ?y1⟩) (by assumption) ?_
          case y1 => (intro w' hSw; have k0 := cell_of_heap hSw 5 (v := .slice sa k sc) rfl; go_simp; try (with_reducible rfl))
          try simp only [Act.put, List.getElem_toArray, List.getElem_cons_zero, List.getElem_cons_succ, List.setIfInBounds_toArray, List.set_cons_zero, List.set_cons_succ]
          refine wpAnyX_take (i := 2) (v := ?v2) [3, 4, 5, 7] (by kernel_rfl) rfl (by kernel_rfl) (by kernel_rfl) (by kernel_rfl) (fun _ _ _ h => h) (Or.inl ⟨by rfl, ?y2⟩) (by assumption) ?_
          case y2 => (intro w' hSw; have k0 := cell_of_heap hSw 5 (v := .slice sa k sc) rfl; go_simp; try (with_reducible rfl))
          try simp only [Act.put, List.getElem_toArray, List.getElem_cons_zero, List.getElem_cons_succ, List.setIfInBounds_toArray, List.set_cons_zero, List.set_cons_succ]
          refine wpAnyX_ready (rs := [3]) (by kernel_rfl) (by simp) ?_
          refine AllX.cons rfl (fun K9 hK => ?_) AllX.nil
          go_simp
          go_at_call 87; with_reducible refine (HN1.out wB QB.out.hr QB.out.hB QB.out.hs).mono ?_; rintro e wC ⟨⟨u1, rfl, o1⟩, nC, rC⟩
          have QC := Lib.hid (QB.out.next nC rC)
          have CC := Lib.hid (nC.heap CB.out (by omega))
          have O1C : Hid (IsO wC (w.heap.size + 2) (.slice ca LC cc) C1) := Lib.hid (nC.row O1B.out (by omega))
          have O2C : Hid (IsO wC (w.heap.size + 2) (.slice ka LK kc) K1) := Lib.hid (nC.row O2B.out (by omega))
          have UC : Hid (IsO wC (w.heap.size + 2) u1 A1) := Lib.hid (own_mono o1 (by have := QB.out.hs; omega))
          have RLC : Hid (RL wC (w.heap.size + 2) (w.heap.size + 2) (.slice sa k sc) L) := Lib.hid (by
            obtain ⟨us, a9, b9, c9⟩ := RLB.out
            exact ⟨us, a9, nC.row b9 (by omega), fun j k1 k2 => nC.row (c9 j k1 k2) (by omega)⟩)
          obtain ⟨x1, y1, rfl, -⟩ := own_slice o1
          clear nC rC o1 QB CB O1B O2B RLB
          go_wp2_with fail
          refine hK.out _ _ (fun _ => CC.out) (fun hHeld2 => ?_)
          clear hK K9 hHeld hHeld2
          have hHeld := CC.out
          try simp only [Act.put, List.getElem_toArray, List.getElem_cons_zero, List.getElem_cons_succ, List.setIfInBounds_toArray, List.set_cons_zero, List.set_cons_succ]
          refine wpAnyX_ready (rs := [4]) (by kernel_rfl) (by simp) ?_
          refine AllX.cons rfl (fun K9 hK => ?_) AllX.nil
          go_simp
          obtain ⟨wE, hwE⟩ : ∃ W, W = wC.alloc (.cells #[.slice x1 A1.length y1] 22) := ⟨_, rfl⟩
          have bE : Below wC.heap.size wC wE := by rw [hwE]; exact (Below.refl _ _).alloc (Nat.le_refl _) _
          have QE := Lib.hid (QC.out.below bE)
          have CE := Lib.hid (keep_heap CC.out bE)
          have O1E : Hid (IsO wE (w.heap.size + 2) (.slice ca LC cc) C1) := Lib.hid (own_below O1C.out bE)
          have O2E : Hid (IsO wE (w.heap.size + 2) (.slice ka LK kc) K1) := Lib.hid (own_below O2C.out bE)
          have UE : Hid (IsO wE (w.heap.size + 2) (.slice x1 A1.length y1) A1) := Lib.hid (own_below UC.out bE)
          have RLE := Lib.hid (RLC.out.below bE)
          have HNEW : Hid (wE.heap[wC.heap.size]? = some (.cells #[.slice x1 A1.length y1] 22 (0, 0))) := Lib.hid (by rw [hwE]; exact heap_alloc_new _ _)
          rw [← hwE]
          refine hK.out _ _ (fun _ => CE.out) (fun hHeld2 => ?_)
          clear hK K9 hHeld hHeld2 hwE bE QC CC O1C O2C UC RLC
          have hHeld := CE.out
          try simp only [Act.put, List.getElem_toArray, List.getElem_cons_zero, List.getElem_cons_succ, List.setIfInBounds_toArray, List.set_cons_zero, List.set_cons_succ]
          refine wpAnyX_ready (rs := [5]) (by kernel_rfl) (by simp) ?_
          refine AllX.cons rfl (fun K9 hK => ?_) AllX.nil
          refine step_app_rl (by rfl) (.tmp 35) (.tmp 38) (by rfl) (w.heap.size + 2) (w.heap.size + 2) (.slice sa k sc) k L HL.out (by rfl) RLE.out wC.heap.size 1 A1 (.slice x1 A1.length y1) (by rfl) HNEW.out UE.out (by omega) (by have := QE.out.hs; omega) ?_
          intro a' c' w7 hR7 hGT hB7
          have C7 : Hid (w7.heap[C]? = some (.cells #[.int .i64 P, .slice ta TL tc, .slice ca LC cc, .slice ka LK kc, .int .i64 RB, .slice sa k sc] 38 (0, 0))) := Lib.hid (hGT.heap CE.out (by decide))
          have Q7 : Hid (QS w ta tc T sb w7) := Lib.hid ⟨QE.out.hB.trans (hB7.mono (by omega)), hGT.heap QE.out.hR (by decide), by
            obtain ⟨D9, h1, h2⟩ := QE.out.hr
            exact ⟨D9, h1, hGT.heap h2 (by decide)⟩, QE.out.hT.gt hGT (by decide) (by decide), Nat.lt_of_lt_of_le QE.out.hs hGT.size⟩
          have O17 : Hid (IsO w7 (w.heap.size + 2) (.slice ca LC cc) C1) := Lib.hid (hGT.row O1E.out (by decide))
          have O27 : Hid (IsO w7 (w.heap.size + 2) (.slice ka LK kc) K1) := Lib.hid (hGT.row O2E.out (by decide))
          have RL7 := Lib.hid hR7
          have hC7 := heap_lt C7.out
          clear hR7 hGT hB7 QE CE O1E O2E UE RLE HNEW
          refine hK.out _ _ (fun _ => C7.out) (fun hHeld2 => ?_)
          clear hK K9 hHeld hHeld2
          have hHeld := C7.out
          try simp only [Act.put, List.getElem_toArray, List.getElem_cons_zero, List.getElem_cons_succ, List.setIfInBounds_toArray, List.set_cons_zero, List.set_cons_succ]
          refine wpAnyX_take (i := 6) (v := ?v6) [7] (by kernel_rfl) rfl (by kernel_rfl) (by kernel_rfl) (by kernel_rfl) (fun _ _ _ h => h) (Or.inl ⟨by rfl, ?y6⟩) (by assumption) ?_
          case y6 => (intro w' hSw; have k0 := cell_of_heap hSw 5 (v := .slice sa k sc) rfl; go_simp; try (with_reducible rfl))
          try simp only [Act.put, List.getElem_toArray, List.getElem_cons_zero, List.getElem_cons_succ, List.setIfInBounds_toArray, List.set_cons_zero, List.set_cons_succ]
          refine wpAnyX_ready (rs := [7]) (by kernel_rfl) (by simp) ?_
          refine AllX.cons rfl (fun K9 hK => ?_) AllX.nil
          have k1 : w7.cell? ⟨C, 5, none⟩ = some (.slice sa k sc) := cell_of_heap C7.out 5 rfl
          have z1 : w7.frozen? ⟨C, 5, none⟩ = false := free_of_heap C7.out 5
          go_simp
          refine hK.out _ _ (fun h => absurd rfl h) (fun hHeld2 => ?_)
          clear hK K9 hHeld hHeld2 k1 z1
          try simp only [Act.put, List.getElem_toArray, List.getElem_cons_zero, List.getElem_cons_succ, List.setIfInBounds_toArray, List.set_cons_zero, List.set_cons_succ]
          refine wpAnyX_done (by kernel_rfl) ?_ _
          have g8 : GT 38 w7 (w7.setCell ⟨C, 5, none⟩ (.slice a' (k + 1) c')) := GT.of_set C7.out 5 _
          have Q8 : Hid (QS w ta tc T sb (w7.setCell ⟨C, 5, none⟩ (.slice a' (k + 1) c'))) := Lib.hid ⟨Q7.out.hB.setCell (by show w.heap.size ≤ C; omega) _, (heap_setCell_other _ _ _ _ (by dsimp only; omega)).trans Q7.out.hR, by
            obtain ⟨D9, h1, h2⟩ := Q7.out.hr
            exact ⟨D9, h1, (heap_setCell_other _ _ _ _ (by dsimp only; omega)).trans h2⟩, Q7.out.hT.gt g8 (by decide) (by decide), Nat.lt_of_lt_of_le Q7.out.hs g8.size⟩
          have C8 := Lib.hid (set_heap C7.out 5 (.slice a' (k + 1) c'))
          have O18 : Hid (IsO (w7.setCell ⟨C, 5, none⟩ (.slice a' (k + 1) c')) (w.heap.size + 2) (.slice ca LC cc) C1) := Lib.hid (g8.row O17.out (by decide))
          have O28 : Hid (IsO (w7.setCell ⟨C, 5, none⟩ (.slice a' (k + 1) c')) (w.heap.size + 2) (.slice ka LK kc) K1) := Lib.hid (g8.row O27.out (by decide))
          have RL8 := Lib.hid (RL7.out.set (i := 5) (x := .slice a' (k + 1) c') C7.out (by decide) (by decide))
          clear g8
          go_wp2_with fail
          go_roundw
          case rel => exact ⟨k + 1, i, L ++ [A1], sb, a', c', by go_num, by omega, HI2, HL2, by omega, Q8, C8, O18, O28, RL8⟩
          case measure => simp [intOf]; omega
        · obtain rfl : k = m := by omega
          obtain rfl : i = 0 := by omega
          have hSE := HI.out _ (show Wr.sipsS 0 s = ([], s) by rw [Wr.sipsS])
          rw [List.append_nil] at hSE
          have hX := HX.out
          have hcs := HCS.out
          rw [hSE] at hX hcs
          simp only at hX hcs
          obtain ⟨c, hc⟩ : ∃ c : Ve.Cert, (⟨P, T, C1, K1, RB, L⟩ : Ve.Cert) = c := ⟨_, rfl⟩
          have hcv : CertV wA (.slice ta TL tc) (.slice ca LC cc) (.slice ka LK kc) (.slice sa k sc) c := by
            rw [← hc]
            refine ⟨?_, ?_, ?_, ?_⟩
            · have := HQ.out.hT.tr; rw [HTL.out] at this; exact this
            · have := HO1.out.is; exact this
            · have := HO2.out.is; exact this
            · exact HRL.out.ll
          have HBY := Lib.hid (bBytes_any c (by rw [← hc]; exact hcs) _ _ _ _ wA hcv (HE.out wA HQ.out.hB).pow)
          unfold certA at HBY
          have hcp : c.places = P := by rw [← hc]
          have hcr : c.robots = RB := by rw [← hc]
          rw [hcp, hcr] at HBY
          have HCP := Lib.hid hcp
          have HCR2 := Lib.hid hcr
          have HCV := Lib.hid hcv
          rw [hc] at hX
          have HXX := Lib.hid hX
          have HCQ := Lib.hid hc
          obtain ⟨cw, hcw⟩ : ∃ x, Ve.certW c = x := ⟨_, rfl⟩
          rw [hcw] at HBY HXX
          clear hX hcs hcv hSE HX HCS HI hcp hcr hc hcw
          have c0 : wA.cell? ⟨C, 0, none⟩ = some (.int .i64 P) := cell_of_heap HCc.out 0 rfl
          have c1 : wA.cell? ⟨C, 1, none⟩ = some (.slice ta TL tc) := cell_of_heap HCc.out 1 rfl
          have c2 : wA.cell? ⟨C, 2, none⟩ = some (.slice ca LC cc) := cell_of_heap HCc.out 2 rfl
          have c3 : wA.cell? ⟨C, 3, none⟩ = some (.slice ka LK kc) := cell_of_heap HCc.out 3 rfl
          have c4 : wA.cell? ⟨C, 4, none⟩ = some (.int .i64 RB) := cell_of_heap HCc.out 4 rfl
          have c5 : wA.cell? ⟨C, 5, none⟩ = some (.slice sa k sc) := cell_of_heap HCc.out 5 rfl
          have HRw := Lib.hid HQ.out.hR
          go_wp2_with fail
          go_at_call 34; refine HBY.out.mono ?_; rintro e w8 ⟨E, hE8, hEs, rfl, b8⟩
          have B8 := Lib.hid (HQ.out.hB.trans (b8.mono HQ.out.hB.size))
          have R8 := Lib.hid (keep_heap HRw.out b8)
          have C8 := Lib.hid (keep_heap HCc.out b8)
          have V8 := Lib.hid (HCV.out.keep b8)
          have T9 := Lib.hid (HQ.out.hT.below b8)
          have O19 : Hid (IsO w8 (w.heap.size + 2) (.slice ca LC cc) C1) := Lib.hid (own_below HO1.out b8)
          have O29 : Hid (IsO w8 (w.heap.size + 2) (.slice ka LK kc) K1) := Lib.hid (own_below HO2.out b8)
          have RL9 := Lib.hid (HRL.out.below b8)
          clear b8 c0 c1 c2 c3 c4 c5 HBY
          by_cases heq : cw = b0
          case neg =>
            have hq : (E.toList == D.toList) = false := by rw [toListB, toListB, hE8, HB0.out]; exact beq_eq_false_iff_ne.2 heq
            have hX : CR = none := by rw [HXX.out, if_neg heq]
            subst hX
            have hR8 := heap_lt R8.out
            clear heq HXX
            have z10 : w8.cell? ⟨w.heap.size, 0, none⟩ = some (.int .i64 0) := cell_of_heap R8.out 0 rfl
            have z11 : w8.cell? ⟨w.heap.size, 1, none⟩ = some (.slice none 0 0) := cell_of_heap R8.out 1 rfl
            have z12 : w8.cell? ⟨w.heap.size, 2, none⟩ = some (.slice none 0 0) := cell_of_heap R8.out 2 rfl
            have z13 : w8.cell? ⟨w.heap.size, 3, none⟩ = some (.slice none 0 0) := cell_of_heap R8.out 3 rfl
            have z14 : w8.cell? ⟨w.heap.size, 4, none⟩ = some (.int .i64 0) := cell_of_heap R8.out 4 rfl
            have z15 : w8.cell? ⟨w.heap.size, 5, none⟩ = some (.slice none 0 0) := cell_of_heap R8.out 5 rfl
            have f0 : w8.frozen? ⟨w.heap.size, 0, none⟩ = false := free_of_heap R8.out 0
            have f1 : w8.frozen? ⟨w.heap.size, 1, none⟩ = false := free_of_heap R8.out 1
            have f2 : w8.frozen? ⟨w.heap.size, 2, none⟩ = false := free_of_heap R8.out 2
            have f3 : w8.frozen? ⟨w.heap.size, 3, none⟩ = false := free_of_heap R8.out 3
            have f4 : w8.frozen? ⟨w.heap.size, 4, none⟩ = false := free_of_heap R8.out 4
            have f5 : w8.frozen? ⟨w.heap.size, 5, none⟩ = false := free_of_heap R8.out 5
            go_wp2_with fail
            refine bodyPost_ret (v := .tuple #[.agg certZero, .bool false]) (results_rowtmp (p := 2) (ty := 38) (u := 3) (by kernel_rfl) _ _ w.heap.size 38 certZero (0, 0) _ rfl (six_heap _ _ _ _ _ _ R8.out) Tryz.underlying38 rfl (by kernel_rfl)) rfl ?_
            exact ⟨six_below _ _ _ _ _ _ (Nat.le_refl _) B8.out, by first | exact .inl ⟨rfl, rfl⟩ | rfl⟩
          case pos =>
            have hED : E = D := bs_inj (hE8.trans (heq.trans HB0.out.symm))
            subst hED
            have hX : CR = some c := by rw [HXX.out, if_pos heq]
            subst hX
            have hR8 := heap_lt R8.out
            have hC8 := heap_lt C8.out
            clear heq HXX
            have z10 : w8.cell? ⟨w.heap.size, 0, none⟩ = some (.int .i64 0) := cell_of_heap R8.out 0 rfl
            have z11 : w8.cell? ⟨w.heap.size, 1, none⟩ = some (.slice none 0 0) := cell_of_heap R8.out 1 rfl
            have z12 : w8.cell? ⟨w.heap.size, 2, none⟩ = some (.slice none 0 0) := cell_of_heap R8.out 2 rfl
            have z13 : w8.cell? ⟨w.heap.size, 3, none⟩ = some (.slice none 0 0) := cell_of_heap R8.out 3 rfl
            have z14 : w8.cell? ⟨w.heap.size, 4, none⟩ = some (.int .i64 0) := cell_of_heap R8.out 4 rfl
            have z15 : w8.cell? ⟨w.heap.size, 5, none⟩ = some (.slice none 0 0) := cell_of_heap R8.out 5 rfl
            have f0 : w8.frozen? ⟨w.heap.size, 0, none⟩ = false := free_of_heap R8.out 0
            have f1 : w8.frozen? ⟨w.heap.size, 1, none⟩ = false := free_of_heap R8.out 1
            have f2 : w8.frozen? ⟨w.heap.size, 2, none⟩ = false := free_of_heap R8.out 2
            have f3 : w8.frozen? ⟨w.heap.size, 3, none⟩ = false := free_of_heap R8.out 3
            have f4 : w8.frozen? ⟨w.heap.size, 4, none⟩ = false := free_of_heap R8.out 4
            have f5 : w8.frozen? ⟨w.heap.size, 5, none⟩ = false := free_of_heap R8.out 5
            have c0 : w8.cell? ⟨C, 0, none⟩ = some (.int .i64 P) := cell_of_heap C8.out 0 rfl
            have c1 : w8.cell? ⟨C, 1, none⟩ = some (.slice ta TL tc) := cell_of_heap C8.out 1 rfl
            have c2 : w8.cell? ⟨C, 2, none⟩ = some (.slice ca LC cc) := cell_of_heap C8.out 2 rfl
            have c3 : w8.cell? ⟨C, 3, none⟩ = some (.slice ka LK kc) := cell_of_heap C8.out 3 rfl
            have c4 : w8.cell? ⟨C, 4, none⟩ = some (.int .i64 RB) := cell_of_heap C8.out 4 rfl
            have c5 : w8.cell? ⟨C, 5, none⟩ = some (.slice sa k sc) := cell_of_heap C8.out 5 rfl
            go_wp2_with fail
            refine bodyPost_ret (v := .tuple #[.agg #[.int .i64 P, .slice ta TL tc, .slice ca LC cc, .slice ka LK kc, .int .i64 RB, .slice sa k sc], .bool true]) (results_rowtmp (p := 2) (ty := 38) (u := 3) (by kernel_rfl) _ _ w.heap.size 38 #[.int .i64 P, .slice ta TL tc, .slice ca LC cc, .slice ka LK kc, .int .i64 RB, .slice sa k sc] (0, 0) _ rfl (six_heap _ _ _ _ _ _ R8.out) Tryz.underlying38 rfl (by kernel_rfl)) rfl ?_
            refine ⟨six_below _ _ _ _ _ _ (Nat.le_refl _) B8.out, .inr ⟨c, .slice ta TL tc, .slice ca LC cc, .slice ka LK kc, .slice sa k sc, rfl, by unfold certA; rw [HCP.out, HCR2.out], ?_⟩⟩
            rw [← HCQ.out]
            have hg := six_gt (.int .i64 P) (.slice ta TL tc) (.slice ca LC cc) (.slice ka LK kc) (.int .i64 RB) (.slice sa k sc) R8.out
            have h1 := (T9.out.gt hg (by decide) (by decide)).tr
            rw [HTL.out] at h1
            have h2 : IsO _ (w.heap.size + 2) (.slice ca LC cc) C1 := hg.row O19.out (by decide)
            have h3 : IsO _ (w.heap.size + 2) (.slice ka LK kc) K1 := hg.row O29.out (by decide)
            have h4 : RL (six w8 w.heap.size (.int .i64 P) (.slice ta TL tc) (.slice ca LC cc) (.slice ka LK kc) (.int .i64 RB) (.slice sa k sc)) (w.heap.size + 2) (w.heap.size + 2) (.slice sa k sc) L := by
              obtain ⟨us, a9, b9, c9⟩ := RL9.out
              exact ⟨us, a9, hg.row b9 (by decide), fun j k1 k2 => hg.row (c9 j k1 k2) (by decide)⟩
            exact ⟨h1, h2.is, h3.is, h4.ll⟩
end Go.Proofs.YtfcbcpfnaadpeaaGreatDoor
