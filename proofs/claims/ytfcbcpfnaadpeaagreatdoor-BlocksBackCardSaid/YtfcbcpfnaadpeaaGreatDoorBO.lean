/- Parts RdF of this claim, laid one behind the other: walks and the plain laws behind them; each contract states its own conditions. -/
import Derived.Test.YtfcbcpfnaadpeaaGreatDoorBN
import Derived.Test.YtfcbcpfnaadpeaaGreatDoorBJ
import Derived.Test.YtfcbcpfnaadpeaaGreatDoorBL
import Derived.Deep.AppendLies
import Derived.Test.YtfcbcpfnaadpeaaGreatDoorBA
/- Walks of package petri: Read. -/
namespace Go.Proofs.YtfcbcpfnaadpeaaGreatDoor
set_option linter.unusedSimpArgs false
set_option linter.unusedVariables false
open Go.RowKit

/-- A row of ints of a call's own. -/
def IsO (w : World) (base : Nat) (v : Value) (l : List Int) : Prop := w.ownsRow base 3 1 v l.length (ints l)
theorem IsO.is {w : World} {base : Nat} {v : Value} {l : List Int} (h : IsO w base v l) : Is w v l := Sl.of_own h (own_max h)
def rows2 (q : List (Value × Value)) : List (List Value) := q.map fun x => [x.1, x.2]
/-- Transitions read so far, of a call's own. -/
def TrR (w : World) (base : Nat) (v : Value) (l : List Wr.Tn) : Prop := ∃ q : List (Value × Value), q.length = l.length ∧ w.ownsRow base 43 2 v l.length (rows2 q).flatten ∧
  ∀ i (h1 : i < l.length) (h2 : i < q.length), IsO w base q[i].1 l[i].1 ∧ IsO w base q[i].2 l[i].2
theorem TrR.nil (w : World) (base : Nat) : TrR w base (.slice none 0 0) [] := ⟨[], rfl, World.ownsRow_nil .., fun i h => by simp at h⟩
theorem TrR.nb {w w' : World} {base b : Nat} {v : Value} {l : List Wr.Tn} (h : TrR w base v l) (hn : NB b w w') (hb : b < base) : TrR w' base v l := by
  obtain ⟨q, a, c, d⟩ := h
  exact ⟨q, a, hn.row c hb, fun i h1 h2 => ⟨hn.row (d i h1 h2).1 hb, hn.row (d i h1 h2).2 hb⟩⟩
theorem TrR.below {w w' : World} {base : Nat} {v : Value} {l : List Wr.Tn} (h : TrR w base v l) (hn : Below w.heap.size w w') : TrR w' base v l := by
  obtain ⟨q, a, c, d⟩ := h
  exact ⟨q, a, own_below c hn, fun i h1 h2 => ⟨own_below (d i h1 h2).1 hn, own_below (d i h1 h2).2 hn⟩⟩
theorem TrR.gt {w w' : World} {base : Nat} {e : TypeId} {v : Value} {l : List Wr.Tn} (h : TrR w base v l) (hn : GT e w w') (h1 : e ≠ 43) (h2 : e ≠ 3) : TrR w' base v l := by
  obtain ⟨q, a, c, d⟩ := h
  exact ⟨q, a, hn.row c h1, fun i k1 k2 => ⟨hn.row (d i k1 k2).1 h2, hn.row (d i k1 k2).2 h2⟩⟩
theorem TrR.mono {w : World} {base b2 : Nat} {v : Value} {l : List Wr.Tn} (h : TrR w base v l) (hb : b2 ≤ base) : TrR w b2 v l := by
  obtain ⟨q, a, c, d⟩ := h
  exact ⟨q, a, own_mono c hb, fun i h1 h2 => ⟨own_mono (d i h1 h2).1 hb, own_mono (d i h1 h2).2 hb⟩⟩
theorem TrR.tr {w : World} {base : Nat} {v : Value} {l : List Wr.Tn} (h : TrR w base v l) : Tr w v l := by
  obtain ⟨q, a, b, c⟩ := h
  refine ⟨l.zip q, ?_, ?_, ?_⟩
  · rw [List.map_fst_zip]; simp [a]
  · have e : (l.zip q).map (fun x => [x.2.1, x.2.2]) = rows2 q := by
      have : (l.zip q).map (·.2) = q := List.map_snd_zip (by simp [a])
      unfold rows2
      rw [show (fun x : Wr.Tn × Value × Value => [x.2.1, x.2.2]) = (fun y : Value × Value => [y.1, y.2]) ∘ (·.2) by rfl, ← List.map_map, this]
    rw [e]
    exact Rw.of_own b (by simp [rows2, a]) (fun r hr => by
      simp only [rows2, List.mem_map] at hr
      obtain ⟨e, -, rfl⟩ := hr
      rfl) (by omega)
  · intro x hx
    obtain ⟨i, hi, rfl⟩ := List.getElem_of_mem hx
    have h1 : i < l.length := by simp at hi; omega
    have h2 : i < q.length := by omega
    obtain ⟨c1, c2⟩ := c i h1 h2
    rw [List.getElem_zip]
    exact ⟨c1.is, c2.is⟩
/-- One more transition. -/
theorem TrR.app {w3 w' : World} {base : Nat} {v' u1 u2 : Value} {l : List Wr.Tn} {q : List (Value × Value)} {t : Wr.Tn} (hq : q.length = l.length) (hin : ∀ i (h1 : i < l.length) (h2 : i < q.length), IsO w3 base q[i].1 l[i].1 ∧ IsO w3 base q[i].2 l[i].2)
    (h1 : IsO w3 base u1 t.1) (h2 : IsO w3 base u2 t.2) (hg : GT 43 w3 w') (ho : w'.ownsRow base 43 2 v' (l.length + 1) ((rows2 q).flatten ++ [u1, u2])) : TrR w' base v' (l ++ [t]) := by
  refine ⟨q ++ [(u1, u2)], by simp [hq], ?_, fun i k1 k2 => ?_⟩
  · rw [List.length_append]
    have e : (rows2 (q ++ [(u1, u2)])).flatten = (rows2 q).flatten ++ [u1, u2] := by simp [rows2]
    rw [e]; exact ho
  · by_cases hi : i < l.length
    · rw [List.getElem_append_left hi, List.getElem_append_left (by omega)]
      exact ⟨hg.row (hin i hi (by omega)).1 (by decide), hg.row (hin i hi (by omega)).2 (by decide)⟩
    · have e : i = l.length := by simp at k1; omega
      subst e
      rw [List.getElem_append_right (by omega), List.getElem_append_right (by omega)]
      simp only [hq, Nat.sub_self, List.getElem_cons_zero]
      exact ⟨hg.row h1 (by decide), hg.row h2 (by decide)⟩
theorem GT.of_set {w : World} {e : TypeId} {k : Nat} {cs : Array Value} {fr : Nat × Nat} (hk : w.heap[k]? = some (.cells cs e fr)) (o : Nat) (v : Value) : GT e w (w.setCell ⟨k, o, none⟩ v) :=
  ⟨some k, ⟨rfl, rfl, rfl, by simp, fun j _ hj => heap_setCell_other w ⟨k, o, none⟩ j v (fun e => hj (by simp [e]))⟩, fun j hj => by injection hj with hj; subst hj; exact ⟨_, _, hk⟩⟩
/-- The number of bytes that a reader's block has left. -/
def restLen (w : World) (b : Nat) : Nat := match w.cell? ⟨b, 0, none⟩ with
  | some (.string D) => D.size
  | _ => 0
theorem RdS.restLen {w : World} {b : Nat} {s : Wr.St} (h : RdS w b s) : restLen w b = s.1.length := by
  obtain ⟨D, h1, h2⟩ := h
  unfold Go.Proofs.YtfcbcpfnaadpeaaGreatDoor.restLen
  rw [cell_of_heap h2 0 (v := .string D) rfl]
  simp only
  rw [← bs_len, h1]
abbrev netZ : Array Value := #[.int .i64 0, .slice none 0 0]
/-- What holds while a net is read: the result's block R, the reader's block b, the net's block N. -/
structure PR (w : World) (R b N : Nat) (P : Int) (j : Nat) (oa : Option Addr) (oc : Nat) (l : List Wr.Tn) (s : Wr.St) (wr : World) : Prop where
  hB : Below w.heap.size w wr
  hR : wr.heap[R]? = some (.cells netZ 35 (0, 0))
  hN : wr.heap[N]? = some (.cells #[.int .i64 P, .slice oa j oc] 35 (0, 0))
  hr : RdS wr b s
  hT : TrR wr (N + 1) (.slice oa j oc) l
  hl : l.length = j
theorem PR.lt {w wr : World} {R b N j oc : Nat} {P : Int} {oa : Option Addr} {l : List Wr.Tn} {s : Wr.St} (h : PR w R b N P j oa oc l s wr) : N < wr.heap.size := heap_lt h.hN
/-- The reader went on. -/
theorem PR.next {w wr w' : World} {R b N j oc : Nat} {P : Int} {oa : Option Addr} {l : List Wr.Tn} {s s' : Wr.St} (h : PR w R b N P j oa oc l s wr) (hn : NB b wr w') (hs : RdS w' b s') (h1 : w.heap.size ≤ b) (h2 : R < b) (h3 : b < N) : PR w R b N P j oa oc l s' w' :=
  ⟨h.hB.trans (hn.below h1 h.hB.size), hn.heap h.hR (by omega), hn.heap h.hN (by omega), hs, h.hT.nb hn (by omega), h.hl⟩
theorem netS_no {b : Wr.B} (h : ¬ ((Wr.transS (Wr.natS (Wr.intS (b, false)).2).1.toNat (Wr.natS (Wr.intS (b, false)).2).2).2 = ([], false) ∧ ((Wr.transS (Wr.natS (Wr.intS (b, false)).2).1.toNat (Wr.natS (Wr.intS (b, false)).2).2).1.length : Int) = (Wr.natS (Wr.intS (b, false)).2).1 ∧ Wr.netR (Wr.intS (b, false)).1 (Wr.transS (Wr.natS (Wr.intS (b, false)).2).1.toNat (Wr.natS (Wr.intS (b, false)).2).2).1 = true)) : Wr.netS b = none := by
  unfold Wr.netS; simp only; rw [if_neg h]
theorem netS_yes {b : Wr.B} (h : (Wr.transS (Wr.natS (Wr.intS (b, false)).2).1.toNat (Wr.natS (Wr.intS (b, false)).2).2).2 = ([], false) ∧ ((Wr.transS (Wr.natS (Wr.intS (b, false)).2).1.toNat (Wr.natS (Wr.intS (b, false)).2).2).1.length : Int) = (Wr.natS (Wr.intS (b, false)).2).1 ∧ Wr.netR (Wr.intS (b, false)).1 (Wr.transS (Wr.natS (Wr.intS (b, false)).2).1.toNat (Wr.natS (Wr.intS (b, false)).2).2).1 = true) :
    Wr.netS b = some ((Wr.intS (b, false)).1, (Wr.transS (Wr.natS (Wr.intS (b, false)).2).1.toNat (Wr.natS (Wr.intS (b, false)).2).2).1) := by
  unfold Wr.netS; simp only; rw [if_pos h]
theorem transS_stop {i : Nat} {s : Wr.St} (h : i = 0 ∨ s.1 = []) : Wr.transS i s = ([], s) := by
  cases i with
  | zero => rw [Wr.transS]
  | succ i =>
    rw [Wr.transS, if_pos]
    rcases h with h | h
    · cases h
    · exact h
theorem transS_go {i : Nat} {s : Wr.St} (h : s.1 ≠ []) : Wr.transS (i + 1) s = (((Wr.numsS s).1, (Wr.numsS (Wr.numsS s).2).1) :: (Wr.transS i (Wr.numsS (Wr.numsS s).2).2).1, (Wr.transS i (Wr.numsS (Wr.numsS s).2).2).2) := by
  rw [Wr.transS, if_neg h]
/-- What reading a net hands back. -/
def NetPost (b : Wr.B) (w : World) (e : Ending) (w' : World) : Prop := Below w.heap.size w w' ∧
  ((Wr.netS b = none ∧ e = .returned (.tuple #[.agg netZ, .bool false])) ∨ ∃ P l v, Wr.netS b = some (P, l) ∧ e = .returned (.tuple #[.agg #[.int .i64 P, v], .bool true]) ∧ TrR w' w.heap.size v l)
theorem lows_of {w : World} (h : EnvR w) : Lows w.heap.size := by
  refine ⟨?_, ?_, ?_⟩
  · obtain ⟨m, hm, -⟩ := h.syn; exact cell_block_lt hm
  · obtain ⟨m, hm, -⟩ := h.ran; exact cell_block_lt hm
  · have h0 : w.cell? ⟨4, 0, none⟩ = some (.int .u64 1) := by
      rw [World.var?_cell Tryz.gPow h.pow 0]; rfl
    exact cell_block_lt h0
set_option maxRecDepth 100000 in
set_option maxHeartbeats 32000000 in
theorem pRead_any (D : ByteArray) (w : World) (hE : EnvR w) (hl : (bs D).length ≤ 100000) :
    Calls Tryz.prog 85 #[.string D] w (NetPost (bs D) w) := by
  have HE := Lib.hid (fun W (hb : Below w.heap.size w W) => hE.below hb)
  have HLO := Lib.hid (lows_of hE)
  have TN := Lib.hid (netS_no (b := bs D))
  have TY := Lib.hid (netS_yes (b := bs D))
  have hr1 := (Wr.numS_rest (e := 59) (least := -9223372036854775808) (s := (bs D, false))).1
  have hr2 := (Wr.numS_rest (e := 59) (least := 0) (s := (Wr.intS (bs D, false)).2)).1
  have hg1 : Wr.Gd (Wr.intS (bs D, false)).2 := Wr.numS_gd (fun h => by cases h)
  have hg2 : Wr.Gd (Wr.natS (Wr.intS (bs D, false)).2).2 := Wr.numS_gd hg1
  have hk0 : 0 ≤ (Wr.natS (Wr.intS (bs D, false)).2).1 := Wr.numS_le
  have hk9 : (Wr.natS (Wr.intS (bs D, false)).2).1 ≤ 9223372036854775807 := (Wr.numS_i64 (e := 59) (least := 0) (s := (Wr.intS (bs D, false)).2)).2
  obtain ⟨X, hX⟩ : ∃ X, Wr.netS (bs D) = X := ⟨_, rfl⟩
  obtain ⟨s0, hs0⟩ : ∃ s, (bs D, false) = s := ⟨_, rfl⟩
  rw [show Wr.numS 59 (-9223372036854775808) (bs D, false) = Wr.intS (bs D, false) from rfl] at hr1
  rw [show Wr.numS 59 0 (Wr.intS (bs D, false)).2 = Wr.natS (Wr.intS (bs D, false)).2 from rfl] at hr2
  rw [hX] at TN TY
  unfold NetPost
  rw [hX]
  rw [hs0] at TN TY hr1 hr2 hg1 hg2 hk0 hk9
  obtain ⟨P, hP⟩ : ∃ s, (Wr.intS s0).1 = s := ⟨_, rfl⟩
  obtain ⟨s1, hs1⟩ : ∃ s, (Wr.intS s0).2 = s := ⟨_, rfl⟩
  rw [hs1] at TN TY hr1 hr2 hg1 hg2 hk0 hk9
  rw [hP] at TN TY
  obtain ⟨KI, hK⟩ : ∃ s, (Wr.natS s1).1 = s := ⟨_, rfl⟩
  obtain ⟨s2, hs2⟩ : ∃ s, (Wr.natS s1).2 = s := ⟨_, rfl⟩
  rw [hs2] at TN TY hr2 hg2
  rw [hK] at TN TY hk0 hk9
  obtain ⟨K, rfl⟩ := Int.eq_ofNat_of_zero_le hk0
  rw [Int.toNat_natCast] at TN TY
  obtain ⟨T, hT⟩ : ∃ t, Wr.transS K s2 = t := ⟨_, rfl⟩
  rw [hT] at TN TY
  have HT : Hid (∀ R', Wr.transS K s2 = R' → T = (([] : List Wr.Tn) ++ R'.1, R'.2)) := Lib.hid (fun R' h => by rw [← hT, h]; rfl)
  have h0l : s0.1.length ≤ 100000 := by rw [← hs0]; exact hl
  have h1l : s1.1.length ≤ 100000 := by omega
  have h2l : s2.1.length ≤ 100000 := by omega
  have HC1 := Lib.hid (fun b W hr hb => rdInt_any b s0 W hr (HE.out W hb) (by omega))
  have HC2 := Lib.hid (fun b W hr hb => rdNat_any b s1 W hr (HE.out W hb) (by omega))
  rw [hP, hs1] at HC1
  rw [hK, hs2] at HC2
  have HS0 := Lib.hid hs0
  have HG2 := Lib.hid hg2
  obtain ⟨w1, hw1⟩ : ∃ W, W = w.alloc (.cells netZ 35) := ⟨_, rfl⟩
  have B1 : Hid (Below w.heap.size w w1) := Lib.hid (by rw [hw1]; exact (Below.refl _ _).alloc (Nat.le_refl _) _)
  have I1 : Hid (w1.heap[w.heap.size]? = some (.cells netZ 35 (0, 0))) := Lib.hid (by rw [hw1]; exact heap_alloc_new _ _)
  have hz1 : w1.heap.size = w.heap.size + 1 := by rw [hw1]; simp
  have HW1 := Lib.hid hw1
  clear hE hl hr1 hr2 hg1 hg2 hk0 hX hs0 hP hs1 hK hs2 hT hw1
  go_enter Tryz.func85, Tryz.ntmps85
  go_upto_region 1 with fail
  rw [← HW1.out]
  go_wp2_with fail
  go_at_call 84; refine (rdOpen_any D w1).mono ?_; rintro e w2 ⟨rfl, b2, z2, r2⟩
  obtain ⟨b, hb⟩ : ∃ b, w1.heap.size = b := ⟨_, rfl⟩
  rw [hb] at b2 z2 r2 ⊢
  have hbw : b = w.heap.size + 1 := by omega
  have B2 := Lib.hid (B1.out.trans (b2.mono (by omega)))
  have I2 := Lib.hid (keep_heap I1.out (by rw [hb]; exact b2))
  have R2 : Hid (RdS w2 b s0) := Lib.hid (by rw [← HS0.out]; exact ⟨D, rfl, r2⟩)
  clear b2 r2 hb
  subst hbw
  go_wp2_with fail
  go_at_call 88; refine (HC1.out _ w2 R2.out B2.out).mono ?_; rintro e w3 ⟨rfl, n3, r3⟩
  have B3 := Lib.hid (B2.out.trans (n3.below (by omega) B2.out.size))
  have I3 := Lib.hid (n3.heap I2.out (by omega))
  have R3 := Lib.hid r3
  have z3 : w.heap.size + 1 < w3.heap.size := Nat.lt_of_lt_of_le z2 n3.size
  clear n3 r3
  obtain ⟨w4, hw4⟩ : ∃ W, W = w3.alloc (.cells #[.int .i64 P, .slice none 0 0] 35) := ⟨_, rfl⟩
  obtain ⟨N, hN⟩ : ∃ n, w3.heap.size = n := ⟨_, rfl⟩
  have b4 : Below w3.heap.size w3 w4 := by rw [hw4]; exact (Below.refl _ _).alloc (Nat.le_refl _) _
  have PR4 : Hid (PR w w.heap.size (w.heap.size + 1) N P 0 none 0 [] s1 w4) := Lib.hid ⟨B3.out.trans (b4.mono B3.out.size), keep_heap I3.out b4, by rw [hw4, ← hN]; exact heap_alloc_new _ _, R3.out.below b4, TrR.nil _ _, rfl⟩
  have hbN : w.heap.size + 1 < N := by omega
  have hwb : w.heap.size ≤ w.heap.size + 1 := by omega
  have hRb : w.heap.size < w.heap.size + 1 := by omega
  have HW4 := Lib.hid hw4
  clear b4 hw4
  go_upto_region 3 with fail
  rw [← HW4.out]
  clear HW4
  go_wp2_with fail
  go_at_call 89; refine (HC2.out _ w4 PR4.out.hr PR4.out.hB).mono ?_; rintro e w5 ⟨rfl, n5, r5⟩
  have PR5 := Lib.hid (PR4.out.next n5 r5 hwb hRb hbN)
  clear n5 r5
  go_wp2_with fail
  go_loopw [] (fun wr => ∃ (l : List Wr.Tn) (i j : Nat) (s : Wr.St) (oa : Option Addr) (oc : Nat), i + j = K ∧ Hid (∀ R', Wr.transS i s = R' → T = (l ++ R'.1, R'.2)) ∧ Hid (PR w w.heap.size (w.heap.size + 1) N P j oa oc l s wr) ∧ Hid (Wr.Gd s) ∧ s.1.length ≤ 100000 ∧ j + s.1.length ≤ 100000) (fun wr => restLen wr (w.heap.size + 1))
  case atStart => exact ⟨[], K, 0, s2, none, 0, by omega, HT, PR5, HG2, by omega, by omega⟩
  case round =>
    clear PR5 PR4
    obtain ⟨l, i, j, s, oa, oc, q0, HI, HP, HG, q1, q2⟩ := hrel
    obtain ⟨wA, hwA⟩ : ∃ W, W = wr := ⟨_, rfl⟩
    subst hwA
    have c1 : wA.cell? ⟨N, 1, none⟩ = some (.slice oa j oc) := cell_of_heap HP.out.hN 1 rfl
    have HLF := Lib.hid (rdLeft_any _ s wA HP.out.hr (by omega))
    by_cases hj : j < K
    case neg =>
      have kj : ¬ (j : Int) < (K : Int) := by omega
      have hst := transS_stop (i := i) (s := s) (.inl (by omega))
      have hTT := HI.out _ hst
      rw [List.append_nil] at hTT
      subst hTT
      simp only at TY TN
      clear hst HI HT
      have HDN := Lib.hid (rdDone_any _ s wA HP.out.hr)
      have HPR := Lib.hid (pRight_any P (.slice oa j oc) l wA HP.out.hT.tr)
      have hLJ := HP.out.hl
      have f0 : wA.frozen? ⟨w.heap.size, 0, none⟩ = false := free_of_heap HP.out.hR 0
      have f1 : wA.frozen? ⟨w.heap.size, 1, none⟩ = false := free_of_heap HP.out.hR 1
      have c0 : wA.cell? ⟨N, 0, none⟩ = some (.int .i64 P) := cell_of_heap HP.out.hN 0 rfl
      have hRs := heap_lt HP.out.hR
      have z0 : wA.cell? ⟨w.heap.size, 0, none⟩ = some (.int .i64 0) := cell_of_heap HP.out.hR 0 rfl
      have z1 : wA.cell? ⟨w.heap.size, 1, none⟩ = some (.slice none 0 0) := cell_of_heap HP.out.hR 1 rfl
      obtain ⟨dn, hdn⟩ : ∃ x, decide (s = ([], false)) = x := ⟨_, rfl⟩
      rw [hdn] at HDN
      obtain ⟨NR, hNR⟩ : ∃ x, Wr.netR P l = x := ⟨_, rfl⟩
      rw [hNR] at HPR TY TN
      rw [hLJ] at TY TN
      clear hNR hLJ h0l h1l h2l hk9
      cases dn with
      | false =>
        have hX := TN.out (fun h => by rw [h.1] at hdn; simp at hdn)
        subst hX
        clear TY TN hdn
        skip
        go_wp2_with fail
        go_at_call 157; refine HDN.out.mono ?_; rintro e w6 ⟨rfl, rfl⟩
        go_wp2_with fail
        refine bodyPost_ret (v := .tuple #[.agg netZ, .bool false]) (results_rowtmp (p := 2) (ty := 35) (u := 3) (by kernel_rfl) _ _ w.heap.size 35 netZ (0, 0) _ rfl (set_heap (set_heap HP.out.hR 0 _) 1 _) Tryz.underlying35 rfl (by kernel_rfl)) rfl ?_
        exact ⟨(HP.out.hB.setCell (by exact Nat.le_refl _) _).setCell (by exact Nat.le_refl _) _, by first | exact .inl ⟨rfl, rfl⟩ | rfl⟩
      | true =>
        have hdn2 := of_decide_eq_true hdn
        obtain rfl : j = K := by omega
        clear hj q0 q1 q2 kj
        cases NR with
        | false =>
          have hX := TN.out (fun h => by cases h.2.2)
          subst hX
          clear TY TN hdn hdn2
          skip
          go_wp2_with fail
          go_at_call 157; refine HDN.out.mono ?_; rintro e w6 ⟨rfl, rfl⟩
          go_wp2_with fail
          go_at_call 35; refine HPR.out.mono ?_; rintro e w7 ⟨rfl, b7⟩
          have B7 := Lib.hid (HP.out.hB.trans (b7.mono HP.out.hB.size))
          have R7 := Lib.hid (keep_heap HP.out.hR b7)
          have g0 : w7.frozen? ⟨w.heap.size, 0, none⟩ = false := free_of_heap R7.out 0
          have g1 : w7.frozen? ⟨w.heap.size, 1, none⟩ = false := free_of_heap R7.out 1
          have hR7 := heap_lt R7.out
          clear b7 f0 f1 hRs c0 c1 z0 z1
          have z0 : w7.cell? ⟨w.heap.size, 0, none⟩ = some (.int .i64 0) := cell_of_heap R7.out 0 rfl
          have z1 : w7.cell? ⟨w.heap.size, 1, none⟩ = some (.slice none 0 0) := cell_of_heap R7.out 1 rfl
          go_wp2_with fail
          refine bodyPost_ret (v := .tuple #[.agg netZ, .bool false]) (results_rowtmp (p := 2) (ty := 35) (u := 3) (by kernel_rfl) _ _ w.heap.size 35 netZ (0, 0) _ rfl (set_heap (set_heap R7.out 0 _) 1 _) Tryz.underlying35 rfl (by kernel_rfl)) rfl ?_
          exact ⟨(B7.out.setCell (by exact Nat.le_refl _) _).setCell (by exact Nat.le_refl _) _, by first | exact .inl ⟨rfl, rfl⟩ | rfl⟩
        | true =>
          have hX := TY.out ⟨hdn2, by omega, rfl⟩
          subst hX
          clear TY TN hdn hdn2
          skip
          go_wp2_with fail
          go_at_call 157; refine HDN.out.mono ?_; rintro e w6 ⟨rfl, rfl⟩
          go_wp2_with fail
          go_at_call 35; refine HPR.out.mono ?_; rintro e w7 ⟨rfl, b7⟩
          have B7 := Lib.hid (HP.out.hB.trans (b7.mono HP.out.hB.size))
          have R7 := Lib.hid (keep_heap HP.out.hR b7)
          have N7 := Lib.hid (keep_heap HP.out.hN b7)
          have T7 := Lib.hid (HP.out.hT.below b7)
          have g0 : w7.frozen? ⟨w.heap.size, 0, none⟩ = false := free_of_heap R7.out 0
          have g1 : w7.frozen? ⟨w.heap.size, 1, none⟩ = false := free_of_heap R7.out 1
          have n0 : w7.cell? ⟨N, 0, none⟩ = some (.int .i64 P) := cell_of_heap N7.out 0 rfl
          have n1 : w7.cell? ⟨N, 1, none⟩ = some (.slice oa j oc) := cell_of_heap N7.out 1 rfl
          have hR7 := heap_lt R7.out
          clear b7 f0 f1 hRs c0 c1 z0 z1
          have z0 : w7.cell? ⟨w.heap.size, 0, none⟩ = some (.int .i64 0) := cell_of_heap R7.out 0 rfl
          have z1 : w7.cell? ⟨w.heap.size, 1, none⟩ = some (.slice none 0 0) := cell_of_heap R7.out 1 rfl
          go_wp2_with fail
          refine bodyPost_ret (v := .tuple #[.agg #[.int .i64 P, .slice oa j oc], .bool true]) (results_rowtmp (p := 2) (ty := 35) (u := 3) (by kernel_rfl) _ _ w.heap.size 35 #[.int .i64 P, .slice oa j oc] (0, 0) _ rfl (set_heap (set_heap R7.out 0 _) 1 _) Tryz.underlying35 rfl (by kernel_rfl)) rfl ?_
          exact ⟨(B7.out.setCell (by exact Nat.le_refl _) _).setCell (by exact Nat.le_refl _) _, .inr ⟨P, l, .slice oa j oc, rfl, rfl, ((T7.out.gt (GT.of_set R7.out 0 _) (by decide) (by decide)).gt (GT.of_set (set_heap R7.out 0 _) 1 _) (by decide) (by decide)).mono (by omega)⟩⟩
    case pos =>
      have hjI0 : (j : Int) < (K : Int) := by omega
      by_cases hs : s.1 = []
      · have hst := transS_stop (i := i) (s := s) (.inr hs)
        have hlz : (s.1.length : Int) = 0 := by rw [hs]; rfl
        rw [hlz] at HLF
        have hTT := HI.out _ hst
        rw [List.append_nil] at hTT
        subst hTT
        simp only at TY TN
        clear hst HI HT
        have HDN := Lib.hid (rdDone_any _ s wA HP.out.hr)
        have HPR := Lib.hid (pRight_any P (.slice oa j oc) l wA HP.out.hT.tr)
        have hLJ := HP.out.hl
        have f0 : wA.frozen? ⟨w.heap.size, 0, none⟩ = false := free_of_heap HP.out.hR 0
        have f1 : wA.frozen? ⟨w.heap.size, 1, none⟩ = false := free_of_heap HP.out.hR 1
        have c0 : wA.cell? ⟨N, 0, none⟩ = some (.int .i64 P) := cell_of_heap HP.out.hN 0 rfl
        have hRs := heap_lt HP.out.hR
        have z0 : wA.cell? ⟨w.heap.size, 0, none⟩ = some (.int .i64 0) := cell_of_heap HP.out.hR 0 rfl
        have z1 : wA.cell? ⟨w.heap.size, 1, none⟩ = some (.slice none 0 0) := cell_of_heap HP.out.hR 1 rfl
        obtain ⟨dn, hdn⟩ : ∃ x, decide (s = ([], false)) = x := ⟨_, rfl⟩
        rw [hdn] at HDN
        obtain ⟨NR, hNR⟩ : ∃ x, Wr.netR P l = x := ⟨_, rfl⟩
        rw [hNR] at HPR TY TN
        rw [hLJ] at TY TN
        clear hNR hLJ h0l h1l h2l hk9
        cases dn with
        | false =>
          have hX := TN.out (fun h => by rw [h.1] at hdn; simp at hdn)
          subst hX
          clear TY TN hdn
          go_wp2_with fail
          go_at_call 156; refine HLF.out.mono ?_; rintro e w5 ⟨rfl, rfl⟩
          go_wp2_with fail
          go_at_call 157; refine HDN.out.mono ?_; rintro e w6 ⟨rfl, rfl⟩
          go_wp2_with fail
          refine bodyPost_ret (v := .tuple #[.agg netZ, .bool false]) (results_rowtmp (p := 2) (ty := 35) (u := 3) (by kernel_rfl) _ _ w.heap.size 35 netZ (0, 0) _ rfl (set_heap (set_heap HP.out.hR 0 _) 1 _) Tryz.underlying35 rfl (by kernel_rfl)) rfl ?_
          exact ⟨(HP.out.hB.setCell (by exact Nat.le_refl _) _).setCell (by exact Nat.le_refl _) _, by first | exact .inl ⟨rfl, rfl⟩ | rfl⟩
        | true =>
          have hdn2 := of_decide_eq_true hdn
          have hX := TN.out (fun h => by have := h.2.1; omega)
          subst hX
          have hjI : ((j : Int) != (K : Int)) = true := by simp; omega
          clear TY TN hdn q0
          go_wp2_with fail
          go_at_call 156; refine HLF.out.mono ?_; rintro e w5 ⟨rfl, rfl⟩
          clear hjI0
          go_wp2_with fail
          go_at_call 157; refine HDN.out.mono ?_; rintro e w6 ⟨rfl, rfl⟩
          go_wp2_with fail
          refine bodyPost_ret (v := .tuple #[.agg netZ, .bool false]) (results_rowtmp (p := 2) (ty := 35) (u := 3) (by kernel_rfl) _ _ w.heap.size 35 netZ (0, 0) _ rfl (set_heap (set_heap HP.out.hR 0 _) 1 _) Tryz.underlying35 rfl (by kernel_rfl)) rfl ?_
          exact ⟨(HP.out.hB.setCell (by exact Nat.le_refl _) _).setCell (by exact Nat.le_refl _) _, by first | exact .inl ⟨rfl, rfl⟩ | rfl⟩
      · obtain ⟨i, rfl⟩ : ∃ i', i = i' + 1 := ⟨i - 1, by omega⟩
        have hnx := transS_go (i := i) hs
        have hle1 := Wr.numsS_less HG.out hs
        have hgd1 := Wr.numsS_gd HG.out
        have hrs2 := (Wr.numsS_rest (Wr.numsS s).2).1
        have hgd2 := Wr.numsS_gd hgd1
        have HN1 := Lib.hid (fun W (hr : RdS W (w.heap.size + 1) s) (hB : Below w.heap.size w W) hb => rdNums_any (w.heap.size + 1) s W hr (HE.out W hB) ⟨by have := HLO.out.1; omega, by have := HLO.out.2.1; omega, by have := HLO.out.2.2; omega⟩ hb (by omega))
        have HN2 := Lib.hid (fun W (hr : RdS W (w.heap.size + 1) (Wr.numsS s).2) (hB : Below w.heap.size w W) hb => rdNums_any (w.heap.size + 1) (Wr.numsS s).2 W hr (HE.out W hB) ⟨by have := HLO.out.1; omega, by have := HLO.out.2.1; omega, by have := HLO.out.2.2; omega⟩ hb (by omega))
        obtain ⟨A1, hA1⟩ : ∃ x, (Wr.numsS s).1 = x := ⟨_, rfl⟩
        obtain ⟨sa, hsa⟩ : ∃ x, (Wr.numsS s).2 = x := ⟨_, rfl⟩
        rw [hA1, hsa] at hnx HN1
        rw [hsa] at hle1 hgd1 hrs2 hgd2 HN2
        obtain ⟨A2, hA2⟩ : ∃ x, (Wr.numsS sa).1 = x := ⟨_, rfl⟩
        obtain ⟨sb, hsb⟩ : ∃ x, (Wr.numsS sa).2 = x := ⟨_, rfl⟩
        rw [hA2, hsb] at hnx HN2
        rw [hsb] at hrs2 hgd2
        have HI2 : Hid (∀ R', Wr.transS i sb = R' → T = ((l ++ [(A1, A2)]) ++ R'.1, R'.2)) := Lib.hid (fun R' hR => by
          have := HI.out _ hnx
          rw [this, hR]; simp)
        have hlz : (0 : Int) < (s.1.length : Int) := by have := List.length_pos_iff.2 hs; omega
        have HGD2 := Lib.hid hgd2
        have HRL := Lib.hid HP.out.hr.restLen
        have hle2 : sb.1.length + 1 ≤ s.1.length := by omega
        have hlt := HP.out.lt
        clear hA1 hsa hA2 hsb hnx hgd1 hgd2 HI TY TN hs HT
        go_wp2_with fail
        go_at_call 156; refine HLF.out.mono ?_; rintro e w5 ⟨rfl, rfl⟩
        go_upto_region 5 with fail
        clear c1
        refine wp_region_x (S := fun W' => W'.heap[N]? = some (.cells #[.int .i64 P, .slice oa j oc] 35 (0, 0))) (L := 10) (by kernel_rfl) HP.out.hN (fun hHeld => ?_)
        obtain ⟨wB, hwx⟩ : ∃ W, W = w5.drew := ⟨_, rfl⟩
        rw [← hwx] at hHeld ⊢
        have bB : Below w5.heap.size w5 wB := by subst hwx; exact ⟨rfl, rfl, rfl, Nat.le_refl _, fun _ _ => rfl⟩
        have PB : Hid (PR w w.heap.size (w.heap.size + 1) N P j oa oc l s wB) := Lib.hid (HP.out.next (NB.of_below bB) (HP.out.hr.below bB) hwb hRb hbN)
        have hzB : w.heap.size + 1 < wB.heap.size := by have := bB.size; omega
        clear hwx bB
        refine wpAnyX_take (i := 0) (v := ?v0) [1, 8, 10] (by kernel_rfl) rfl (by kernel_rfl) (by kernel_rfl) (by kernel_rfl) (fun _ _ _ h => h) (Or.inl ⟨by rfl, ?y0⟩) (by assumption) ?_
        case y0 => (intro w hSw; have k0 := cell_of_heap hSw 1 (v := .slice oa j oc) rfl; go_simp; try (with_reducible rfl))
        try simp only [Act.put, List.getElem_toArray, List.getElem_cons_zero, List.getElem_cons_succ, List.setIfInBounds_toArray, List.set_cons_zero, List.set_cons_succ]
        refine wpAnyX_take (i := 1) (v := ?v1) [8, 10] (by kernel_rfl) rfl (by kernel_rfl) (by kernel_rfl) (by kernel_rfl) (fun _ _ _ h => h) (Or.inl ⟨by rfl, ?y1⟩) (by assumption) ?_
        case y1 => (intro w hSw; have k0 := cell_of_heap hSw 1 (v := .slice oa j oc) rfl; go_simp; try (with_reducible rfl))
        try simp only [Act.put, List.getElem_toArray, List.getElem_cons_zero, List.getElem_cons_succ, List.setIfInBounds_toArray, List.set_cons_zero, List.set_cons_succ]
        refine wpAnyX_take (i := 2) (v := ?v2) [3, 6, 7, 8, 10] (by kernel_rfl) rfl (by kernel_rfl) (by kernel_rfl) (by kernel_rfl) (fun _ _ _ h => h) (Or.inl ⟨by rfl, ?y2⟩) (by assumption) ?_
        case y2 => (intro w hSw; have k0 := cell_of_heap hSw 1 (v := .slice oa j oc) rfl; go_simp; try (with_reducible rfl))
        try simp only [Act.put, List.getElem_toArray, List.getElem_cons_zero, List.getElem_cons_succ, List.setIfInBounds_toArray, List.set_cons_zero, List.set_cons_succ]
        refine wpAnyX_take (i := 4) (v := ?v4) [5, 6, 7, 8, 10] (by kernel_rfl) rfl (by kernel_rfl) (by kernel_rfl) (by kernel_rfl) (fun _ _ _ h => h) (Or.inl ⟨by rfl, ?y4⟩) (by assumption) ?_
        case y4 => (intro w hSw; have k0 := cell_of_heap hSw 1 (v := .slice oa j oc) rfl; go_simp; try (with_reducible rfl))
        try simp only [Act.put, List.getElem_toArray, List.getElem_cons_zero, List.getElem_cons_succ, List.setIfInBounds_toArray, List.set_cons_zero, List.set_cons_succ]
        refine wpAnyX_ready (rs := [3]) (by kernel_rfl) (by simp) ?_
        refine AllX.cons rfl (fun K9 hK => ?_) AllX.nil
        go_simp
        go_at_call 87; with_reducible refine (HN1.out wB PB.out.hr PB.out.hB hzB).mono ?_; rintro e wC ⟨⟨u1, rfl, o1⟩, nC, rC⟩
        have PC := Lib.hid (PB.out.next nC rC hwb hRb hbN)
        have O1 : Hid (IsO wC (N + 1) u1 A1) := Lib.hid (own_mono o1 (by have := PB.out.lt; omega))
        obtain ⟨x1, y1, rfl, -⟩ := own_slice o1
        have hzC : w.heap.size + 1 < wC.heap.size := Nat.lt_of_lt_of_le hzB nC.size
        clear nC rC o1
        go_wp2_with fail
        refine hK.out _ _ (fun _ => PC.out.hN) (fun hHeld2 => ?_)
        clear hK K9 hHeld hHeld2
        have hHeld := PC.out.hN
        try simp only [Act.put, List.getElem_toArray, List.getElem_cons_zero, List.getElem_cons_succ, List.setIfInBounds_toArray, List.set_cons_zero, List.set_cons_succ]
        refine wpAnyX_ready (rs := [5]) (by kernel_rfl) (by simp) ?_
        refine AllX.cons rfl (fun K9 hK => ?_) AllX.nil
        go_simp
        go_at_call 87; with_reducible refine (HN2.out wC PC.out.hr PC.out.hB hzC).mono ?_; rintro e wD ⟨⟨u2, rfl, o2⟩, nD, rD⟩
        have PD := Lib.hid (PC.out.next nD rD hwb hRb hbN)
        have O1D : Hid (IsO wD (N + 1) _ A1) := Lib.hid (nD.row O1.out (by omega))
        have O2D : Hid (IsO wD (N + 1) u2 A2) := Lib.hid (own_mono o2 (by have := PC.out.lt; omega))
        obtain ⟨x2, y2, rfl, -⟩ := own_slice o2
        clear nD rD o2
        go_wp2_with fail
        refine hK.out _ _ (fun _ => PD.out.hN) (fun hHeld2 => ?_)
        clear hK K9 hHeld hHeld2
        have hHeld := PD.out.hN
        try simp only [Act.put, List.getElem_toArray, List.getElem_cons_zero, List.getElem_cons_succ, List.setIfInBounds_toArray, List.set_cons_zero, List.set_cons_succ]
        refine wpAnyX_take (i := 6) (v := ?v6) [7, 8, 10] (by kernel_rfl) rfl (by kernel_rfl) (by kernel_rfl) (by kernel_rfl) (fun _ _ _ h => h) (Or.inl ⟨by rfl, ?y6⟩) (by assumption) ?_
        case y6 => (intro w hSw; have k0 := cell_of_heap hSw 1 (v := .slice oa j oc) rfl; go_simp; try (with_reducible rfl))
        try simp only [Act.put, List.getElem_toArray, List.getElem_cons_zero, List.getElem_cons_succ, List.setIfInBounds_toArray, List.set_cons_zero, List.set_cons_succ]
        refine wpAnyX_ready (rs := [7]) (by kernel_rfl) (by simp) ?_
        refine AllX.cons rfl (fun K9 hK => ?_) AllX.nil
        go_simp
        obtain ⟨q, hq, hown, hin⟩ := PD.out.hT
        rw [PD.out.hl] at hown
        have HLJ := Lib.hid PD.out.hl
        obtain ⟨wE, hwE⟩ : ∃ W, W = wD.alloc (.cells #[.slice x1 A1.length y1, .slice x2 A2.length y2] 43) := ⟨_, rfl⟩
        have bE : Below wD.heap.size wD wE := by rw [hwE]; exact (Below.refl _ _).alloc (Nat.le_refl _) _
        have PE : Hid (PR w w.heap.size (w.heap.size + 1) N P j oa oc l sb wE) := Lib.hid (PD.out.next (NB.of_below bE) (PD.out.hr.below bE) hwb hRb hbN)
        have E1 : Hid (IsO wE (N + 1) (.slice x1 A1.length y1) A1) := Lib.hid (own_below O1D.out bE)
        have E2 : Hid (IsO wE (N + 1) (.slice x2 A2.length y2) A2) := Lib.hid (own_below O2D.out bE)
        have HOW := Lib.hid (own_below hown bE)
        have HIN : Hid (∀ i (h1 : i < l.length) (h2 : i < q.length), IsO wE (N + 1) q[i].1 l[i].1 ∧ IsO wE (N + 1) q[i].2 l[i].2) := Lib.hid (fun i h1 h2 => ⟨own_below (hin i h1 h2).1 bE, own_below (hin i h1 h2).2 bE⟩)
        have HNEW : Hid (wE.heap[wD.heap.size]? = some (.cells #[.slice x1 A1.length y1, .slice x2 A2.length y2] 43 (0, 0))) := Lib.hid (by rw [hwE]; exact heap_alloc_new _ _)
        have hNE := PE.out.lt
        rw [← hwE]
        refine hK.out _ _ (fun _ => PE.out.hN) (fun hHeld2 => ?_)
        clear hK K9 hHeld hHeld2 hown hin hwE bE
        have hHeld := PE.out.hN
        try simp only [Act.put, List.getElem_toArray, List.getElem_cons_zero, List.getElem_cons_succ, List.setIfInBounds_toArray, List.set_cons_zero, List.set_cons_succ]
        refine wpAnyX_ready (rs := [8]) (by kernel_rfl) (by simp) ?_
        refine AllX.cons rfl (fun K9 hK => ?_) AllX.nil
        obtain ⟨i0, hi0, hz0, hz1, hz2⟩ := info_parts Tryz.tranInfo
        refine step_append_lies _ (by rfl) (.tmp 25) (.tmp 31) 33 (by rfl) (N + 1) 43 i0 _ 2 48 Tryz.underlying33 hi0 hz0 hz1 hz2 rfl (by omega) (.slice oa j oc) j (rows2 q).flatten (by rfl) HOW.out ⟨wD.heap.size, 0, none⟩ 1 1 [.slice x1 A1.length y1, .slice x2 A2.length y2] (by rfl) (by rfl) (World.news_of_block HNEW.out) (by simp [Value.oneCell']) (by omega) (by unfold maxLen; omega) (by omega) (by omega) wE.heap.size rfl ?_
        intro g' cap' w7 hown7 hgrow7 hat7 hlt7
        have hGT : GT 43 wE w7 := GT.of_own HOW.out hgrow7
        have N7 : Hid (w7.heap[N]? = some (.cells #[.int .i64 P, .slice oa j oc] 35 (0, 0))) := Lib.hid (hGT.heap PE.out.hN (by decide))
        have R7 := Lib.hid (hGT.heap PE.out.hR (by decide))
        have D7 : Hid (RdS w7 (w.heap.size + 1) sb) := Lib.hid (by obtain ⟨D9, h1, h2⟩ := PE.out.hr; exact ⟨D9, h1, hGT.heap h2 (by decide)⟩)
        have T7 : Hid (TrR w7 (N + 1) (.slice (some ⟨g', 0, none⟩) (j + 1) cap') (l ++ [(A1, A2)])) := Lib.hid (TrR.app hq HIN.out E1.out E2.out hGT (by rw [HLJ.out]; exact hown7))
        have B7 : Hid (Below w.heap.size w w7) := Lib.hid (PE.out.hB.grown hgrow7 (by have := PE.out.hB.size; omega) (fun k hk => by have := (World.ownsRow.lt HOW.out k hk).1; omega))
        have hN7 := heap_lt N7.out
        clear hown7 hgrow7 hat7 hlt7 hGT hi0 hz0 hz1 hz2
        refine hK.out _ _ (fun _ => N7.out) (fun hHeld2 => ?_)
        clear hK K9 hHeld hHeld2
        have hHeld := N7.out
        try simp only [Act.put, List.getElem_toArray, List.getElem_cons_zero, List.getElem_cons_succ, List.setIfInBounds_toArray, List.set_cons_zero, List.set_cons_succ]
        refine wpAnyX_take (i := 9) (v := ?v9) [10] (by kernel_rfl) rfl (by kernel_rfl) (by kernel_rfl) (by kernel_rfl) (fun _ _ _ h => h) (Or.inl ⟨by rfl, ?y9⟩) (by assumption) ?_
        case y9 => (intro w hSw; have k0 := cell_of_heap hSw 1 (v := .slice oa j oc) rfl; go_simp; try (with_reducible rfl))
        try simp only [Act.put, List.getElem_toArray, List.getElem_cons_zero, List.getElem_cons_succ, List.setIfInBounds_toArray, List.set_cons_zero, List.set_cons_succ]
        refine wpAnyX_ready (rs := [10]) (by kernel_rfl) (by simp) ?_
        refine AllX.cons rfl (fun K9 hK => ?_) AllX.nil
        have k1 : w7.cell? ⟨N, 1, none⟩ = some (.slice oa j oc) := cell_of_heap N7.out 1 rfl
        have z1 : w7.frozen? ⟨N, 1, none⟩ = false := free_of_heap N7.out 1
        go_simp
        refine hK.out _ _ (fun h => absurd rfl h) (fun hHeld2 => ?_)
        clear hK K9 hHeld hHeld2 k1 z1
        try simp only [Act.put, List.getElem_toArray, List.getElem_cons_zero, List.getElem_cons_succ, List.setIfInBounds_toArray, List.set_cons_zero, List.set_cons_succ]
        refine wpAnyX_done (by kernel_rfl) ?_ _
        have PF : Hid (PR w w.heap.size (w.heap.size + 1) N P (j + 1) (some ⟨g', 0, none⟩) cap' (l ++ [(A1, A2)]) sb (w7.setCell ⟨N, 1, none⟩ (.slice (some ⟨g', 0, none⟩) (j + 1) cap'))) := Lib.hid ⟨B7.out.setCell (by show w.heap.size ≤ N; omega) _, (heap_setCell_other _ _ _ _ (by dsimp only; omega)).trans R7.out, set_heap N7.out 1 _, by
          obtain ⟨D9, h1, h2⟩ := D7.out
          exact ⟨D9, h1, (heap_setCell_other _ _ _ _ (by dsimp only; omega)).trans h2⟩, T7.out.gt (GT.of_set N7.out 1 _) (by decide) (by decide), by rw [List.length_append, HLJ.out]; rfl⟩
        have hm1 := PF.out.hr.restLen
        have HM1 := Lib.hid hm1
        clear hm1
        go_wp2_with fail
        go_roundw
        case rel => exact ⟨l ++ [(A1, A2)], i, j + 1, sb, some ⟨g', 0, none⟩, cap', by omega, HI2, PF, HGD2, by omega, by omega⟩
        case measure => rw [HM1.out, HRL.out]; omega
end Go.Proofs.YtfcbcpfnaadpeaaGreatDoor
