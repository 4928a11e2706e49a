/- Parts Fl, AcF of this claim, laid one behind the other: walks and the plain laws behind them; each contract states its own conditions. -/
import Derived.DeepKeys4
import Derived.Sort.OwnSortedInts
import Derived.Test.YtfcbcpfnaadpeaaGreatDoorTX
import Derived.Test.YtfcbcpfnaadpeaaGreatDoorAA
import Derived.Test.YtfcbcpfnaadpeaaGreatDoorAC
import Derived.Test.YtfcbcpfnaadpeaaGreatDoorAP
namespace Go.Proofs.YtfcbcpfnaadpeaaGreatDoor
set_option maxRecDepth 100000
set_option maxHeartbeats 64000000
set_option linter.unusedSimpArgs false
set_option linter.unusedVariables false
open Go.RowKit Go.Sort
def SortedPost (base : Nat) (v : Value) (l : List Int) (w : World) (e : Ending) (w' : World) : Prop :=
 e = .returned (.tuple #[]) ∧ ∃ m : List Int, m.Perm l ∧ m.Pairwise (· ≤ ·) ∧ m.length = l.length ∧ w'.ownsRow base 3 1 v m.length (ints m) ∧ Below base w w'
theorem sortI_any (base : Nat) (v : Value) (l : List Int) (w : World) (ho : w.ownsRow base 3 1 v l.length (ints l)) (hlen : l.length < 4611686018427387904) (hbw : base ≤ w.heap.size) :
 Calls Tryz.prog 254 #[v] w (SortedPost base v l w) := by
 rcases ho.2 with ⟨rfl, h0⟩ | ⟨g, cap, cur, rfl, hbg, hg, hnc, hcm, hcs, htake⟩
 · have h1 : l = [] := List.eq_nil_of_length_eq_zero h0
   subst h1
   refine (Tryz.slices_Sort_int_none none 0 w).mono ?_
   rintro e w' ⟨rfl, rfl⟩
   exact ⟨rfl, [], by simp, List.Pairwise.nil, rfl, ho, Below.refl _ _⟩
 · have hg2 : g < w.heap.size := heap_lt hg
   rw [Nat.mul_one] at htake
   have hH := Go.holds_of_blockI hg htake
   refine (Tryz.slices_Sort_int g 0 cap l w hH hg2 hlen).mono ?_
   rintro e w' ⟨rfl, n, os, rfl⟩
   obtain ⟨m, hm⟩ : ∃ m, l.mergeSort (fun x y => decide (x ≤ y)) = m := ⟨_, rfl⟩
   have hperm := List.mergeSort_perm l (fun x y => decide (x ≤ y))
   have hpair := List.pairwise_mergeSort (le := fun x y : Int => decide (x ≤ y)) (fun a b c h k => by simp at h k ⊢; omega) (fun a b => by simp; omega) l
   rw [hm] at hperm hpair ⊢
   have hl := hperm.length_eq
   have hown := Go.ownsRow_sortedI (w := w) (n := n) (os := os) (ss := l) (ts := m) hl hbg hg hnc hcm hcs
   have hgr := Go.grownBy_sortedI (w := w) (g := g) (n := n) (os := os) m.toArray
   refine ⟨rfl, m, hperm, hpair.imp (fun h => by simpa using h), hl, ?_, ?_⟩
   · rw [hl]; exact hown
   · exact ⟨hgr.os, hgr.tape, hgr.output, hgr.size, fun k hk => hgr.block k (by omega) (fun e => by injection e with e; omega)⟩
def PmPost (L : List Int) (w : World) (e : Ending) (w' : World) : Prop := ∃ v m, e = .returned v ∧ m.Perm L ∧ Is w' v m ∧ Below w.heap.size w w'
theorem AllB_any (s : Bd.State) (sv rv pv dv kv : Value) (w : World) (h : StV w sv rv pv dv kv s) (hs : StS s) :
 Calls Tryz.prog 240 #[stV s sv rv pv dv kv] w (PmPost (Bd.allL s) w) := by
 have HA := hid (fun W (hW : Below w.heap.size w W) => allB_any s sv rv pv dv kv W (h.keep hW) hs)
 have HLn : Hid ((Bd.allL s).length ≤ 24000) := hid (by
  have q1 := Bd.robotsL_len s
  have q2 := Bd.shelvesL_len s
  have q3 := Bd.peopleL_len s
  have n1 := hs.nr
  have n2 := hs.ns
  have n3 := hs.np
  unfold Bd.allL
  rw [List.length_append, List.length_append]
  omega)
 obtain ⟨L, hL⟩ : ∃ L, Bd.allL s = L := ⟨_, rfl⟩
 rw [hL] at HA HLn ⊢
 unfold RwPost at HA
 unfold stV PmPost at *
 have HB := hid (al1 w (.cells #[.int .i64 s.tick, sv, rv, pv, dv, kv] 58))
 clear h hs hL
 go_enter Tryz.func240, Tryz.ntmps240
 go_wp2_with fail
 go_at_call 114; refine (HA.out _ HB.out.2.1).mono ?_; rintro e w2 ⟨v2, rfl, ho2, b2⟩
 have HO := hid ho2
 have hsz := b2.size
 have B2 := hid (HB.out.2.1.trans (b2.mono HB.out.2.1.size))
 have HS := hid (sortI_any _ v2 L w2 ho2 (by have := HLn.out; omega) hsz)
 have HB1 := hid HB.out.2.1.size
 clear ho2 b2
 unfold SortedPost at HS
 obtain ⟨a, cap, rfl, -⟩ := own_slice HO.out
 go_wp2_with fail
 go_at_call 254; refine HS.out.mono ?_; rintro e w3 ⟨rfl, m, hm1, hm2, hm3, hm4, b3⟩
 have HM := hid hm1
 have HO3 := hid hm4
 have B3 := hid (B2.out.trans (b3.mono HB1.out))
 clear hm1 hm2 hm3 hm4 b3
 go_wp2_with fail
 go_ret
 exact ⟨_, m, rfl, HM.out, Sl.of_own (by have := HO3.out; exact this) (by have := HLn.out; have := HM.out.length_eq; unfold maxLen; omega), B3.out⟩
open Go.RowKit
structure ActOk (s : Si.Site) (st : Bd.State) : Prop where
 ap : ∀ q ∈ s.aparts, q.1.length ≤ 9223372036854775807 ∧ q.2.length ≤ 9223372036854775807
 al : s.aparts.length ≤ 1000000
 sf : ∀ q ∈ s.shelves, q.2.length ≤ 9223372036854775807
 fr : Fl.Right s.floor
 fb : FB s.floor
 kl : s.floor.kind.length ≤ 1000000
 zs : ZnS s.zones
 ss : StS st
 tk : I64 st.tick
 ro : ∀ r ∈ st.robots, RIn s.floor.kind.length st.shelves.length r
 rc : ∀ r ∈ st.robots, I64 r.charge
 de : st.dead.length ≤ 1000000
 sk : st.stuck.length ≤ 1000000
theorem ActOk.load {s : Si.Site} {st : Bd.State} (h : ActOk s st) : ∀ r ∈ st.robots, -9223372036854775808 ≤ r.load ∧ r.load ≤ 9223372036854775807 := fun r hr => by
 have h1 := (h.ro r hr).2
 have h2 := h.ss.ns
 omega
theorem ActOk.shs {s : Si.Site} {st : Bd.State} (h : ActOk s st) : ∀ c ∈ st.shelves, -9223372036854775808 ≤ c ∧ c ≤ 9223372036854775807 := fun c hc => by
 have h1 := h.ss.sh c hc
 unfold SmC at h1
 omega
theorem move1_any (a b C T : Int) (pr pt : Nat) (w : World) (hp : w.cell? ⟨pr, 0, none⟩ = some (.int .i64 C)) (hq : w.cell? ⟨pt, 0, none⟩ = some (.int .i64 T)) :
 Calls Tryz.prog 237 #[.agg #[.int .i64 a, .int .i64 b], .pointer (some ⟨pr, 0, none⟩), .pointer (some ⟨pt, 0, none⟩)] w (BoolPost True w) := by
 have hlt := cell_block_lt hp
 dsimp only at hlt
 have hlt2 := cell_block_lt hq
 dsimp only at hlt2
 have HB := hid (al1 w (.cells #[.int .i64 a, .int .i64 b] 115))
 by_cases f0 : a = C
 · subst f0
   go_enter Tryz.func237, Tryz.ntmps237
   go_wp2_with fail
   go_ret
   exact ⟨⟨_, rfl, fun _ => trivial⟩, HB.out.2.1⟩
 · have f0' : (a == C) = false := by simpa using f0
   go_enter Tryz.func237, Tryz.ntmps237
   go_wp2_with fail
   go_ret
   exact ⟨⟨_, rfl, fun _ => trivial⟩, HB.out.2.1⟩
theorem indexSk_any (v : Value) (l : List (Int × Int)) (pr pt : Nat) (C T : Int) (w : World) (h : Rw w v 2 (l.map spanC)) (hp : w.cell? ⟨pr, 0, none⟩ = some (.int .i64 C)) (hq : w.cell? ⟨pt, 0, none⟩ = some (.int .i64 T)) :
 Calls Tryz.prog 282 #[v, .func (.func 237) #[] #[.pointer (some ⟨pr, 0, none⟩), .pointer (some ⟨pt, 0, none⟩)]] w fun e w' => (∃ r : Int, e = .returned (.int .i64 r) ∧ -1 ≤ r ∧ r < 9223372036854775807) ∧ Below w.heap.size w w' := by
 obtain ⟨a, cap, rfl, hm⟩ := two_form h
 have H := hid h
 have HCL := hid (fun (x1 x2 : Int) W (hW : Below w.heap.size w W) => move1_any x1 x2 C T pr pt W ((hW.cell (p := ⟨pr, 0, none⟩) (cell_block_lt hp)).trans hp) ((hW.cell (p := ⟨pt, 0, none⟩) (cell_block_lt hq)).trans hq))
 obtain ⟨n, hn⟩ : ∃ n, l.length = n := ⟨_, rfl⟩
 rw [hn] at hm H ⊢
 have HN := hid hn
 clear h hp hq hn
 go_enter Tryz.func282, Tryz.ntmps282
 go_wp2_with fail
 go_loopw [8] (fun iv wr => ∃ (k : Nat), k ≤ n ∧ iv = .int .i64 k ∧ Hid (Below w.heap.size w wr)) (fun iv _ => n - (intOf iv).toNat)
 case atStart => exact ⟨0, by omega, rfl, hid (Below.refl _ w)⟩
 case round =>
  obtain ⟨k, hk, rfl, HU⟩ := hrel
  by_cases hkn : k < n
  · have hkl : k < l.length := by rw [HN.out]; exact hkn
    obtain ⟨b, off, e1, hbl, c0, c1⟩ := two_cell (f := spanC) (g1 := fun p => .int .i64 p.1) (g2 := fun p => .int .i64 p.2) (fun _ => rfl) H.out k hkl
    subst e1
    obtain ⟨x, hx⟩ : ∃ x, l[k] = x := ⟨_, rfl⟩
    rw [hx] at c0 c1
    obtain ⟨x1, x2⟩ := x
    dsimp only at c0 c1
    rw [← HU.out.cell (p := ⟨b, off + k * 2, none⟩) hbl] at c0
    rw [← HU.out.cell (p := ⟨b, off + k * 2 + 1, none⟩) hbl] at c1
    have HC := hid (HCL.out x1 x2 wr HU.out)
    have k1 : (k : Int) < (n : Int) := by omega
    have k0 : (0 : Int) ≤ (k : Int) := by omega
    clear hx
    go_wp2_with fail
    go_at_call 237; refine HC.out.mono ?_; rintro e w3 ⟨⟨z, rfl, -⟩, hu3⟩
    have HU3 := hid (HU.out.trans (hu3.mono HU.out.size))
    clear hu3
    cases z with
    | false =>
     go_wp2_with fail
     go_roundw
     case rel => exact ⟨k + 1, by omega, by go_num, HU3⟩
     case measure => simp [intOf]; omega
    | true =>
     go_wp2_with fail
     go_ret
     exact ⟨⟨(k : Int), rfl, by omega, by omega⟩, HU3.out⟩
  · go_wp2_with fail
    go_ret
    exact ⟨⟨-1, rfl, by omega, by omega⟩, HU.out⟩
theorem containsSk_any (v : Value) (l : List (Int × Int)) (pr pt : Nat) (C T : Int) (w : World) (h : Rw w v 2 (l.map spanC)) (hp : w.cell? ⟨pr, 0, none⟩ = some (.int .i64 C)) (hq : w.cell? ⟨pt, 0, none⟩ = some (.int .i64 T)) :
 Calls Tryz.prog 238 #[v, .func (.func 237) #[] #[.pointer (some ⟨pr, 0, none⟩), .pointer (some ⟨pt, 0, none⟩)]] w fun e w' => (∃ b : Bool, e = .returned (.bool b)) ∧ Below w.heap.size w w' := by
 have HT := hid (indexSk_any v l pr pt C T w h hp hq)
 obtain ⟨a, cap, rfl, hm⟩ := two_form h
 clear h hp hq
 go_enter Tryz.func238, Tryz.ntmps238
 go_wp2_with fail
 go_at_call 282; refine HT.out.mono ?_; rintro e w3 ⟨⟨r, rfl, hr1, hr2⟩, hu⟩
 have HU := hid hu
 clear hu
 go_wp2_with fail
 go_ret
 exact ⟨⟨_, rfl⟩, HU.out⟩
theorem move_any (s : Si.Site) (kv ov zv av sv rv : Value) (st : Bd.State) (shv rov pev dev skv : Value) (r : Bd.Robot) (c d : Nat) (w : World) (h : SiV w kv ov zv av sv rv s) (ht : StV w shv rov pev dev skv st) (ho : ActOk s st) (hc : r.cell = (c : Int)) (hcl : c < s.floor.kind.length) (hd : d < 6) :
 Calls Tryz.prog 180 #[siV s kv ov zv av sv rv, stV st shv rov pev dev skv, .agg (robA r), .int .i64 (d : Int)] w fun e w' => (∃ k : Int, e = .returned (.int .i64 k)) ∧ Below w.heap.size w w' := by
 have HNX := hid (fun W (hb : Below w.heap.size w W) => Next_any s.floor kv ov c d W ho.fr (h.keep hb).fl hcl hd)
 have HOP := hid (fun (n : Nat) W (hb : Below w.heap.size w W) => open12_any s kv ov zv av sv rv n st.tick W (h.keep hb) ho.zs)
 have HAL := hid (fun W (hb : Below w.heap.size w W) => AllB_any st shv rov pev dev skv W (ht.keep hb) ho.ss)
 have HSK := hid (fun W (hb : Below w.heap.size w W) => (ht.keep hb).sk)
 have HDE := hid (fun W (hb : Below w.heap.size w W) => (ht.keep hb).de)
 have HNL : Hid (∀ n : Nat, Fl.next s.floor c d = some n → SmC (n : Int)) := hid (fun n h => by
  rcases next_cases ho.fr c d with ⟨-, h2⟩ | ⟨m, hm, -, h2⟩
  · rw [h2] at h; cases h
  · rw [h2] at h
    split at h
    · injection h with h
      have h3 := ho.kl
      unfold SmC
      omega
    · cases h)
 have HLo := hid (fun (n : Nat) W (h : SmC (n : Int)) => Low_any n W h)
 have HHi := hid (fun (n : Nat) W (h : SmC (n : Int)) => High_any n W h)
 have HCI := hid (fun v l x W h => ContainsI_any v l x W h)
 obtain ⟨nx, hnx⟩ : ∃ x, Fl.next s.floor c d = x := ⟨_, rfl⟩
 rw [hnx] at HNX HNL
 unfold BoolPost at HOP
 unfold PmPost at HAL
 unfold flV at HNX
 unfold robA
 rw [hc]
 obtain ⟨a1, c1, a2, c2, a3, c3, a4, c4, a5, c5, a6, c6, rfl, rfl, rfl, rfl, rfl, rfl, m1, m2, m3, m4, m5, m6⟩ := h.open
 unfold siV at *
 obtain ⟨l1, e1⟩ : ∃ n, s.floor.kind.length = n := ⟨_, rfl⟩
 obtain ⟨l2, e2⟩ : ∃ n, s.floor.out.length = n := ⟨_, rfl⟩
 obtain ⟨l3, e3⟩ : ∃ n, s.zones.length = n := ⟨_, rfl⟩
 obtain ⟨l4, e4⟩ : ∃ n, s.aparts.length = n := ⟨_, rfl⟩
 obtain ⟨l5, e5⟩ : ∃ n, s.shelves.length = n := ⟨_, rfl⟩
 obtain ⟨l6, e6⟩ : ∃ n, s.robots.length = n := ⟨_, rfl⟩
 try simp only [e1, e2, e3, e4, e5, e6] at HNX
 try simp only [e1, e2, e3, e4, e5, e6] at HOP
 rw [e1, e2, e3, e4, e5, e6]
 obtain ⟨b1, d1, b2, d2, b3, d3, b4, d4, b5, d5, rfl, rfl, rfl, rfl, rfl, k1, k2, k3, k4, k5⟩ := ht.open
 unfold stV at *
 obtain ⟨n1, g1⟩ : ∃ n, st.shelves.length = n := ⟨_, rfl⟩
 obtain ⟨n2, g2⟩ : ∃ n, st.robots.length = n := ⟨_, rfl⟩
 obtain ⟨n3, g3⟩ : ∃ n, st.people.length = n := ⟨_, rfl⟩
 obtain ⟨n4, g4⟩ : ∃ n, st.dead.length = n := ⟨_, rfl⟩
 obtain ⟨n5, g5⟩ : ∃ n, st.stuck.length = n := ⟨_, rfl⟩
 try simp only [g1, g2, g3, g4, g5] at HAL
 try simp only [g1, g2, g3, g4, g5] at HSK
 try simp only [g1, g2, g3, g4, g5] at HDE
 rw [g1, g2, g3, g4, g5]
 obtain ⟨w1, hw1⟩ : ∃ W, W = ((w.alloc (.cells #[.int .i64 s.floor.w, .int .i64 s.floor.h, .int .i64 s.floor.d, .slice a1 l1 c1, .slice a2 l2 c2, .slice a3 l3 c3, .slice a4 l4 c4, .slice a5 l5 c5, .slice a6 l6 c6] 30)).alloc (.cells #[.int .i64 st.tick, .slice b1 n1 d1, .slice b2 n2 d2, .slice b3 n3 d3, .slice b4 n4 d4, .slice b5 n5 d5] 58)).alloc (.cells #[.int .i64 (c : Int), .int .i64 r.load, .int .i64 r.charge, .int .i64 r.rest, .int .i64 r.mute, .bool r.dead] 105) := ⟨_, rfl⟩
 have HA3 := al3 w (.cells #[.int .i64 s.floor.w, .int .i64 s.floor.h, .int .i64 s.floor.d, .slice a1 l1 c1, .slice a2 l2 c2, .slice a3 l3 c3, .slice a4 l4 c4, .slice a5 l5 c5, .slice a6 l6 c6] 30) (.cells #[.int .i64 st.tick, .slice b1 n1 d1, .slice b2 n2 d2, .slice b3 n3 d3, .slice b4 n4 d4, .slice b5 n5 d5] 58) (.cells #[.int .i64 (c : Int), .int .i64 r.load, .int .i64 r.charge, .int .i64 r.rest, .int .i64 r.mute, .bool r.dead] 105)
 rw [← hw1] at HA3
 have I1 := hid HA3.1
 have I2 := hid HA3.2.1
 have I3 := hid HA3.2.2.1
 have B1 := hid HA3.2.2.2.1
 have HW1 := hid hw1
 have hs1 := heap_lt I3.out
 clear HA3
 obtain ⟨p0, p1, p2, p3, p4, -⟩ := cells9 I1.out
 have r0 : w1.cell? ⟨w.heap.size + 1 + 1, 0, none⟩ = some (.int .i64 (c : Int)) := cell_of_heap I3.out 0 rfl
 clear h e1 e2 e3 e4 e5 e6 m1 m2 m3 m4 m5 m6 hw1 ht g1 g2 g3 g4 g5 k1 k2 k3 k4 k5 ho hc hcl hnx
 go_enter Tryz.func180, Tryz.ntmps180
 go_upto_region 1 with fail
 rw [← HW1.out]
 go_wp2_with fail
 go_at_call 106; refine (HNX.out w1 B1.out).mono ?_; rintro e w2 ⟨rfl, b2⟩
 have B2 := hid (B1.out.trans (b2.mono B1.out.size))
 have J1 := hid (keep_heap I1.out b2)
 have J2 := hid (keep_heap I2.out b2)
 have J3 := hid (keep_heap I3.out b2)
 have hs2 := heap_lt J3.out
 clear b2 HNX r0 hs1 p0 p1 p2 p3 p4
 cases nx with
 | none =>
  unfold nextV
  go_wp2_with fail
  go_ret
  exact ⟨⟨_, rfl⟩, (B2.out.alloc (by have := B2.out.size; omega) _)⟩
 | some n =>
  have HSM := hid (HNL.out n rfl)
  unfold nextV
  obtain ⟨w3, hw3⟩ : ∃ W, W = w2.alloc (.cells #[.int .i64 (n : Int)] 3) := ⟨_, rfl⟩
  have A4 := al1 w2 (.cells #[.int .i64 (n : Int)] 3)
  rw [← hw3] at A4
  have B3 := hid (B2.out.trans (A4.2.1.mono B2.out.size))
  have K1 := hid (keep_heap J1.out A4.2.1)
  have K2 := hid (keep_heap J2.out A4.2.1)
  have K3 := hid (keep_heap J3.out A4.2.1)
  have K4 := hid A4.1
  have hs3 := heap_lt K4.out
  have HW3 := hid hw3
  have t0 : w3.cell? ⟨w2.heap.size, 0, none⟩ = some (.int .i64 (n : Int)) := cell_of_heap K4.out 0 rfl
  have q4 : w3.cell? ⟨w.heap.size + 1, 4, none⟩ = some (.slice b4 n4 d4) := cell_of_heap K2.out 4 rfl
  clear hw3 A4 HNL
  go_upto_region 2 with fail
  rw [← HW3.out]
  have HC := hid (HCI.out _ _ (n : Int) w3 (HDE.out w3 B3.out))
  go_wp2_with fail
  go_at_call 192; refine HC.out.mono ?_; rintro e w4 ⟨⟨b, rfl⟩, rfl⟩
  clear HC
  cases b with
  | true =>
   go_wp2_with fail
   go_ret
   exact ⟨⟨_, rfl⟩, B3.out⟩
  | false =>
   clear q4
   by_cases hd5 : d = 4 ∨ d = 5
   case neg =>
    have f4 : ((d : Int) == 4) = false := by rw [beq_eq_false_iff_ne]; omega
    have f5 : ((d : Int) == 5) = false := by rw [beq_eq_false_iff_ne]; omega
    clear hd5
    obtain ⟨p0, p1, p2, p3, p4, p5, p6, p7, p8⟩ := cells9 K1.out
    have q0 : w3.cell? ⟨w.heap.size + 1, 0, none⟩ = some (.int .i64 st.tick) := cell_of_heap K2.out 0 rfl
    have t0 : w3.cell? ⟨w2.heap.size, 0, none⟩ = some (.int .i64 (n : Int)) := cell_of_heap K4.out 0 rfl
    go_wp2_with fail
    go_at_call 239; refine (HOP.out n w3 B3.out).mono ?_; rintro e w6 ⟨⟨b, rfl, -⟩, b6⟩
    have B6 := hid (B3.out.trans (b6.mono B3.out.size))
    have M2 := hid (keep_heap K2.out b6)
    have M3 := hid (keep_heap K3.out b6)
    have M4 := hid (keep_heap K4.out b6)
    clear b6 q0 t0 p0 p1 p2 p3 p4 p5 p6 p7 p8
    cases b with
    | false =>
     go_wp2_with fail
     go_ret
     exact ⟨⟨_, rfl⟩, B6.out⟩
    | true =>
     obtain ⟨q0, q1, q2, q3, q4, q5⟩ := cells6 M2.out
     go_wp2_with fail
     go_at_call 240; refine (HAL.out w6 B6.out).mono ?_; rintro e w7 ⟨v, m, rfl, -, hv, b7⟩
     have B7 := hid (B6.out.trans (b7.mono B6.out.size))
     have N3 := hid (keep_heap M3.out b7)
     have N4 := hid (keep_heap M4.out b7)
     have HV := hid hv
     have hs7 := heap_lt N4.out
     clear b7 hv q0 q1 q2 q3 q4 q5
     have t0 : w7.cell? ⟨w2.heap.size, 0, none⟩ = some (.int .i64 (n : Int)) := cell_of_heap N4.out 0 rfl
     have r1 : w7.cell? ⟨w.heap.size + 1 + 1, 1, none⟩ = some (.int .i64 r.load) := cell_of_heap N3.out 1 rfl
     go_wp2_with fail
     go_at_call 241; refine (HLo.out n w7 HSM.out).mono ?_; rintro e w8 ⟨rfl, rfl⟩
     have HC := hid (HCI.out v m (2 * (n : Int)) w7 HV.out)
     go_wp2_with fail
     go_at_call 192; refine HC.out.mono ?_; rintro e w8 ⟨⟨b, rfl⟩, rfl⟩
     clear HC
     cases b with
     | true =>
      go_wp2_with fail
      go_ret
      exact ⟨⟨_, rfl⟩, B7.out⟩
     | false =>
      by_cases hl0 : 0 ≤ r.load
      · go_wp2_with fail
        go_at_call 242; refine (HHi.out n w7 HSM.out).mono ?_; rintro e w8 ⟨rfl, rfl⟩
        have HC := hid (HCI.out v m (2 * (n : Int) + 1) w7 HV.out)
        go_wp2_with fail
        go_at_call 192; refine HC.out.mono ?_; rintro e w8 ⟨⟨b, rfl⟩, rfl⟩
        clear HC
        cases b with
        | true =>
         go_wp2_with fail
         go_ret
         exact ⟨⟨_, rfl⟩, B7.out⟩
        | false =>
         go_wp2_with fail
         go_ret
         exact ⟨⟨_, rfl⟩, B7.out⟩
      · go_wp2_with fail
        go_ret
        exact ⟨⟨_, rfl⟩, B7.out⟩
   case pos =>
    have q5 : w3.cell? ⟨w.heap.size + 1, 5, none⟩ = some (.slice b5 n5 d5) := cell_of_heap K2.out 5 rfl
    have HC := hid (containsSk_any _ _ (w.heap.size + 1 + 1) w2.heap.size (c : Int) (n : Int) w3 (HSK.out w3 B3.out) (cell_of_heap K3.out 0 rfl) (cell_of_heap K4.out 0 rfl))
    rcases hd5 with rfl | rfl
    · go_wp2_with fail
      go_at_call 238; refine HC.out.mono ?_; rintro e w5 ⟨⟨b, rfl⟩, b5⟩
      have B5 := hid (B3.out.trans (b5.mono B3.out.size))
      have L1 := hid (keep_heap K1.out b5)
      have L2 := hid (keep_heap K2.out b5)
      have L3 := hid (keep_heap K3.out b5)
      have L4 := hid (keep_heap K4.out b5)
      clear b5 HC q5 t0
      cases b with
      | true =>
       go_wp2_with fail
       go_ret
       exact ⟨⟨_, rfl⟩, B5.out⟩
      | false =>
       obtain ⟨p0, p1, p2, p3, p4, p5, p6, p7, p8⟩ := cells9 L1.out
       have q0 : w5.cell? ⟨w.heap.size + 1, 0, none⟩ = some (.int .i64 st.tick) := cell_of_heap L2.out 0 rfl
       have t0 : w5.cell? ⟨w2.heap.size, 0, none⟩ = some (.int .i64 (n : Int)) := cell_of_heap L4.out 0 rfl
       go_wp2_with fail
       go_at_call 239; refine (HOP.out n w5 B5.out).mono ?_; rintro e w6 ⟨⟨b, rfl, -⟩, b6⟩
       have B6 := hid (B5.out.trans (b6.mono B5.out.size))
       have M2 := hid (keep_heap L2.out b6)
       have M3 := hid (keep_heap L3.out b6)
       have M4 := hid (keep_heap L4.out b6)
       clear b6 q0 t0 p0 p1 p2 p3 p4 p5 p6 p7 p8
       cases b with
       | false =>
        go_wp2_with fail
        go_ret
        exact ⟨⟨_, rfl⟩, B6.out⟩
       | true =>
        obtain ⟨q0, q1, q2, q3, q4, q5⟩ := cells6 M2.out
        go_wp2_with fail
        go_at_call 240; refine (HAL.out w6 B6.out).mono ?_; rintro e w7 ⟨v, m, rfl, -, hv, b7⟩
        have B7 := hid (B6.out.trans (b7.mono B6.out.size))
        have N3 := hid (keep_heap M3.out b7)
        have N4 := hid (keep_heap M4.out b7)
        have HV := hid hv
        have hs7 := heap_lt N4.out
        clear b7 hv q0 q1 q2 q3 q4 q5
        have t0 : w7.cell? ⟨w2.heap.size, 0, none⟩ = some (.int .i64 (n : Int)) := cell_of_heap N4.out 0 rfl
        have r1 : w7.cell? ⟨w.heap.size + 1 + 1, 1, none⟩ = some (.int .i64 r.load) := cell_of_heap N3.out 1 rfl
        go_wp2_with fail
        go_at_call 241; refine (HLo.out n w7 HSM.out).mono ?_; rintro e w8 ⟨rfl, rfl⟩
        have HC := hid (HCI.out v m (2 * (n : Int)) w7 HV.out)
        go_wp2_with fail
        go_at_call 192; refine HC.out.mono ?_; rintro e w8 ⟨⟨b, rfl⟩, rfl⟩
        clear HC
        cases b with
        | true =>
         go_wp2_with fail
         go_ret
         exact ⟨⟨_, rfl⟩, B7.out⟩
        | false =>
         by_cases hl0 : 0 ≤ r.load
         · go_wp2_with fail
           go_at_call 242; refine (HHi.out n w7 HSM.out).mono ?_; rintro e w8 ⟨rfl, rfl⟩
           have HC := hid (HCI.out v m (2 * (n : Int) + 1) w7 HV.out)
           go_wp2_with fail
           go_at_call 192; refine HC.out.mono ?_; rintro e w8 ⟨⟨b, rfl⟩, rfl⟩
           clear HC
           cases b with
           | true =>
            go_wp2_with fail
            go_ret
            exact ⟨⟨_, rfl⟩, B7.out⟩
           | false =>
            go_wp2_with fail
            go_ret
            exact ⟨⟨_, rfl⟩, B7.out⟩
         · go_wp2_with fail
           go_ret
           exact ⟨⟨_, rfl⟩, B7.out⟩
    · go_wp2_with fail
      go_at_call 238; refine HC.out.mono ?_; rintro e w5 ⟨⟨b, rfl⟩, b5⟩
      have B5 := hid (B3.out.trans (b5.mono B3.out.size))
      have L1 := hid (keep_heap K1.out b5)
      have L2 := hid (keep_heap K2.out b5)
      have L3 := hid (keep_heap K3.out b5)
      have L4 := hid (keep_heap K4.out b5)
      clear b5 HC q5 t0
      cases b with
      | true =>
       go_wp2_with fail
       go_ret
       exact ⟨⟨_, rfl⟩, B5.out⟩
      | false =>
       obtain ⟨p0, p1, p2, p3, p4, p5, p6, p7, p8⟩ := cells9 L1.out
       have q0 : w5.cell? ⟨w.heap.size + 1, 0, none⟩ = some (.int .i64 st.tick) := cell_of_heap L2.out 0 rfl
       have t0 : w5.cell? ⟨w2.heap.size, 0, none⟩ = some (.int .i64 (n : Int)) := cell_of_heap L4.out 0 rfl
       go_wp2_with fail
       go_at_call 239; refine (HOP.out n w5 B5.out).mono ?_; rintro e w6 ⟨⟨b, rfl, -⟩, b6⟩
       have B6 := hid (B5.out.trans (b6.mono B5.out.size))
       have M2 := hid (keep_heap L2.out b6)
       have M3 := hid (keep_heap L3.out b6)
       have M4 := hid (keep_heap L4.out b6)
       clear b6 q0 t0 p0 p1 p2 p3 p4 p5 p6 p7 p8
       cases b with
       | false =>
        go_wp2_with fail
        go_ret
        exact ⟨⟨_, rfl⟩, B6.out⟩
       | true =>
        obtain ⟨q0, q1, q2, q3, q4, q5⟩ := cells6 M2.out
        go_wp2_with fail
        go_at_call 240; refine (HAL.out w6 B6.out).mono ?_; rintro e w7 ⟨v, m, rfl, -, hv, b7⟩
        have B7 := hid (B6.out.trans (b7.mono B6.out.size))
        have N3 := hid (keep_heap M3.out b7)
        have N4 := hid (keep_heap M4.out b7)
        have HV := hid hv
        have hs7 := heap_lt N4.out
        clear b7 hv q0 q1 q2 q3 q4 q5
        have t0 : w7.cell? ⟨w2.heap.size, 0, none⟩ = some (.int .i64 (n : Int)) := cell_of_heap N4.out 0 rfl
        have r1 : w7.cell? ⟨w.heap.size + 1 + 1, 1, none⟩ = some (.int .i64 r.load) := cell_of_heap N3.out 1 rfl
        go_wp2_with fail
        go_at_call 241; refine (HLo.out n w7 HSM.out).mono ?_; rintro e w8 ⟨rfl, rfl⟩
        have HC := hid (HCI.out v m (2 * (n : Int)) w7 HV.out)
        go_wp2_with fail
        go_at_call 192; refine HC.out.mono ?_; rintro e w8 ⟨⟨b, rfl⟩, rfl⟩
        clear HC
        cases b with
        | true =>
         go_wp2_with fail
         go_ret
         exact ⟨⟨_, rfl⟩, B7.out⟩
        | false =>
         by_cases hl0 : 0 ≤ r.load
         · go_wp2_with fail
           go_at_call 242; refine (HHi.out n w7 HSM.out).mono ?_; rintro e w8 ⟨rfl, rfl⟩
           have HC := hid (HCI.out v m (2 * (n : Int) + 1) w7 HV.out)
           go_wp2_with fail
           go_at_call 192; refine HC.out.mono ?_; rintro e w8 ⟨⟨b, rfl⟩, rfl⟩
           clear HC
           cases b with
           | true =>
            go_wp2_with fail
            go_ret
            exact ⟨⟨_, rfl⟩, B7.out⟩
           | false =>
            go_wp2_with fail
            go_ret
            exact ⟨⟨_, rfl⟩, B7.out⟩
         · go_wp2_with fail
           go_ret
           exact ⟨⟨_, rfl⟩, B7.out⟩
theorem lift_any (s : Si.Site) (kv ov zv av sv rv : Value) (st : Bd.State) (shv rov pev dev skv : Value) (r : Bd.Robot) (c : Nat) (w : World) (h : SiV w kv ov zv av sv rv s) (ht : StV w shv rov pev dev skv st) (ho : ActOk s st) (hc : r.cell = (c : Int)) (hcl : c < s.floor.kind.length) :
 Calls Tryz.prog 181 #[siV s kv ov zv av sv rv, stV st shv rov pev dev skv, .agg (robA r)] w fun e w' => (∃ k : Int, e = .returned (.int .i64 k)) ∧ Below w.heap.size w w' := by
 have HAT := hid (fun W (hb : Below w.heap.size w W) => at12_any s kv ov zv av sv rv st shv rov pev dev skv c W (h.keep hb) (ht.keep hb) ho.load ho.shs (by have := ho.ss.ns; omega) (by have := ho.ss.nr; omega) (by have := ho.kl; omega))
 unfold robA
 rw [hc]
 obtain ⟨a1, c1, a2, c2, a3, c3, a4, c4, a5, c5, a6, c6, rfl, rfl, rfl, rfl, rfl, rfl, m1, m2, m3, m4, m5, m6⟩ := h.open
 unfold siV at *
 obtain ⟨l1, e1⟩ : ∃ n, s.floor.kind.length = n := ⟨_, rfl⟩
 obtain ⟨l2, e2⟩ : ∃ n, s.floor.out.length = n := ⟨_, rfl⟩
 obtain ⟨l3, e3⟩ : ∃ n, s.zones.length = n := ⟨_, rfl⟩
 obtain ⟨l4, e4⟩ : ∃ n, s.aparts.length = n := ⟨_, rfl⟩
 obtain ⟨l5, e5⟩ : ∃ n, s.shelves.length = n := ⟨_, rfl⟩
 obtain ⟨l6, e6⟩ : ∃ n, s.robots.length = n := ⟨_, rfl⟩
 try simp only [e1, e2, e3, e4, e5, e6] at HAT
 rw [e1, e2, e3, e4, e5, e6]
 obtain ⟨b1, d1, b2, d2, b3, d3, b4, d4, b5, d5, rfl, rfl, rfl, rfl, rfl, k1, k2, k3, k4, k5⟩ := ht.open
 unfold stV at *
 obtain ⟨n1, g1⟩ : ∃ n, st.shelves.length = n := ⟨_, rfl⟩
 obtain ⟨n2, g2⟩ : ∃ n, st.robots.length = n := ⟨_, rfl⟩
 obtain ⟨n3, g3⟩ : ∃ n, st.people.length = n := ⟨_, rfl⟩
 obtain ⟨n4, g4⟩ : ∃ n, st.dead.length = n := ⟨_, rfl⟩
 obtain ⟨n5, g5⟩ : ∃ n, st.stuck.length = n := ⟨_, rfl⟩
 try simp only [g1, g2, g3, g4, g5] at HAT
 rw [g1, g2, g3, g4, g5]
 obtain ⟨w1, hw1⟩ : ∃ W, W = ((w.alloc (.cells #[.int .i64 s.floor.w, .int .i64 s.floor.h, .int .i64 s.floor.d, .slice a1 l1 c1, .slice a2 l2 c2, .slice a3 l3 c3, .slice a4 l4 c4, .slice a5 l5 c5, .slice a6 l6 c6] 30)).alloc (.cells #[.int .i64 st.tick, .slice b1 n1 d1, .slice b2 n2 d2, .slice b3 n3 d3, .slice b4 n4 d4, .slice b5 n5 d5] 58)).alloc (.cells #[.int .i64 (c : Int), .int .i64 r.load, .int .i64 r.charge, .int .i64 r.rest, .int .i64 r.mute, .bool r.dead] 105) := ⟨_, rfl⟩
 have HA3 := al3 w (.cells #[.int .i64 s.floor.w, .int .i64 s.floor.h, .int .i64 s.floor.d, .slice a1 l1 c1, .slice a2 l2 c2, .slice a3 l3 c3, .slice a4 l4 c4, .slice a5 l5 c5, .slice a6 l6 c6] 30) (.cells #[.int .i64 st.tick, .slice b1 n1 d1, .slice b2 n2 d2, .slice b3 n3 d3, .slice b4 n4 d4, .slice b5 n5 d5] 58) (.cells #[.int .i64 (c : Int), .int .i64 r.load, .int .i64 r.charge, .int .i64 r.rest, .int .i64 r.mute, .bool r.dead] 105)
 rw [← hw1] at HA3
 have I1 := hid HA3.1
 have I2 := hid HA3.2.1
 have I3 := hid HA3.2.2.1
 have B1 := hid HA3.2.2.2.1
 have HW1 := hid hw1
 have hs1 := heap_lt I3.out
 clear HA3
 obtain ⟨p0, p1, p2, p3, p4, p5, p6, p7, p8⟩ := cells9 I1.out
 obtain ⟨q0, q1, q2, q3, q4, q5⟩ := cells6 I2.out
 have r0 : w1.cell? ⟨w.heap.size + 1 + 1, 0, none⟩ = some (.int .i64 (c : Int)) := cell_of_heap I3.out 0 rfl
 have r1 : w1.cell? ⟨w.heap.size + 1 + 1, 1, none⟩ = some (.int .i64 r.load) := cell_of_heap I3.out 1 rfl
 clear h e1 e2 e3 e4 e5 e6 m1 m2 m3 m4 m5 m6 hw1 ht g1 g2 g3 g4 g5 k1 k2 k3 k4 k5 ho hc hcl
 go_enter Tryz.func181, Tryz.ntmps181
 go_upto_region 1 with fail
 rw [← HW1.out]
 by_cases hl0 : 0 ≤ r.load
 · go_wp2_with fail
   go_ret
   exact ⟨⟨_, rfl⟩, B1.out⟩
 · go_wp2_with fail
   go_at_call 104; refine (HAT.out w1 B1.out).mono ?_; rintro e w2 ⟨⟨k, rfl, hk1, hk2⟩, b2⟩
   have B2 := hid (B1.out.trans (b2.mono B1.out.size))
   clear b2 p0 p1 p2 p3 p4 p5 p6 p7 p8 q0 q1 q2 q3 q4 q5 r0 r1
   by_cases hk0 : k < 0
   · go_wp2_with fail
     go_ret
     exact ⟨⟨_, rfl⟩, B2.out⟩
   · go_wp2_with fail
     go_ret
     exact ⟨⟨_, rfl⟩, B2.out⟩
 end Go.Proofs.YtfcbcpfnaadpeaaGreatDoor
