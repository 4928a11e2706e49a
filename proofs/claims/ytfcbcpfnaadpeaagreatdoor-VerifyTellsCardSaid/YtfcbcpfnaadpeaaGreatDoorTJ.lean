/- Parts ShelfB, SpA, SpB of this claim, laid one behind the other: walks and the plain laws behind them; each contract states its own conditions. -/
import Derived.Test.YtfcbcpfnaadpeaaGreatDoorShelf
import Derived.Shelf.Slices.Clone
import Derived.Test.YtfcbcpfnaadpeaaGreatDoorYO
import Derived.Test.YtfcbcpfnaadpeaaGreatDoorTI
import Derived.Test.YtfcbcpfnaadpeaaGreatDoorZA
namespace Go.Proofs
def Tryz.laysNm215_ren : Go.Shelf.Ren := ⟨fun | 15 => 79 | n => n, fun | 22 => 22 | 3 => 3 | 4 => 4 | n => n, fun | n => n⟩
theorem Tryz.laysNm215 : Go.Proofs.Lays2.n15 Tryz.prog Tryz.laysNm215_ren := {
 mixed := by kernel_rfl
 f15 := Tryz.func79.trans (congrArg some (by kernel_rfl))
 t3 := Tryz.underlying3
 a3 := Tryz.isAgg3
 z3 := Tryz.sizeOf3
 v3 := Tryz.zeroValue3
 t4 := Tryz.underlying4
 a4 := Tryz.isAgg4
 z4 := Tryz.sizeOf4
 v4 := Tryz.zeroValue4
 t22 := Tryz.underlying22
 a22 := Tryz.isAgg22
 z22 := Tryz.sizeOf22
 v22 := Tryz.zeroValue22
 i3 := by kernel_rfl }
open Go.RowKit Go.Lib in
theorem Tryz.slices_Clone_int (b off n c : Nat) (zs : List Int) (w : World) (hz : n ≤ zs.length) (hbig : n * 8 ≤ 140737488355328) (hc : ∀ j, j < zs.length → w.cell? ⟨b, off + j, none⟩ = some (.int .i64 (zs.getD j 0))) :
 Calls Tryz.prog 79 #[.slice (some ⟨b, off, none⟩) n c] w fun e w' => ∃ v', e = .returned v' ∧ w'.ownsRow w.heap.size 3 1 v' n ((zs.take n).map (Value.int .i64)) ∧ v' ≠ .slice none 0 0 ∧ Below w.heap.size w w' := Any.slices_Clone_int Tryz.laysNm215 b off n c zs w hz hbig hc
open Go.RowKit Go.Lib in
theorem Tryz.slices_Clone_int_nil (n c : Nat) (w : World) :
 Calls Tryz.prog 79 #[.slice none n c] w fun e w' => e = .returned (.slice none 0 0) ∧ w' = w := Any.slices_Clone_int_nil Tryz.laysNm215 n c w
open Go.RowKit Go.Lib in
theorem Tryz.slices_Clone_int_zero (a : Addr) (c : Nat) (w : World) :
 Calls Tryz.prog 79 #[.slice (some a) 0 c] w fun e w' => ∃ v', e = .returned v' ∧ w'.ownsRow w.heap.size 3 1 v' 0 [] ∧ v' ≠ .slice none 0 0 ∧ Below w.heap.size w w' := Any.slices_Clone_int_zero Tryz.laysNm215 a c w
end Go.Proofs
namespace Go.Proofs.YtfcbcpfnaadpeaaGreatDoor
set_option maxRecDepth 100000
set_option maxHeartbeats 64000000
set_option linter.unusedSimpArgs false
set_option linter.unusedVariables false
open Go.RowKit
theorem cloneI_any (v : Value) (l : List Int) (w : World) (h : Is w v l) (hm : l.length ≤ 1000000) :
 Calls Tryz.prog 79 #[v] w fun e w' => ∃ v', e = .returned v' ∧ w'.ownsRow w.heap.size 3 1 v' l.length (ints l) ∧ Below w.heap.size w w' := by
 obtain ⟨a, cap, rfl, -⟩ := h.form
 cases a with
 | none =>
  refine (Tryz.slices_Clone_int_nil l.length cap w).mono ?_
  rintro e w' ⟨rfl, rfl⟩
  have h0 : l = [] := by
   cases l with
   | nil => rfl
   | cons x t => obtain ⟨_, _, h', _⟩ := h.cell 0 (by simp); cases h'
  subst h0
  exact ⟨_, rfl, World.ownsRow_nil .., Below.refl _ _⟩
 | some a =>
  by_cases h0 : l = []
  · subst h0
    refine (Tryz.slices_Clone_int_zero a cap w).mono ?_
    rintro e w' ⟨v', rfl, h1, -, h2⟩
    exact ⟨v', rfl, h1, h2⟩
  · have hp : 0 < l.length := by cases l with
    | nil => exact absurd rfl h0
    | cons x t => simp
    obtain ⟨b, off, e, -⟩ := h.cell 0 hp
    cases e
    refine (Tryz.slices_Clone_int b off l.length cap l w (Nat.le_refl _) (by omega) (fun j hj => by
     obtain ⟨b2, off2, e, hc⟩ := h.cell j hj
     injection e with e; injection e with e1 e2; subst e1 e2
     rw [hc]; simp [List.getD, hj])).mono ?_
    rintro e w' ⟨v', rfl, h1, -, h2⟩
    rw [List.take_length] at h1
    exact ⟨v', rfl, h1, h2⟩
theorem own_cellI {w : World} {base g cap n : Nat} {l : List Int} (h : w.ownsRow base 3 1 (.slice (some ⟨g, 0, none⟩) n cap) n (ints l)) (i : Nat) {x : Int} (hx : l[i]? = some x) : w.cell? ⟨g, i, none⟩ = some (.int .i64 x) := by
 obtain ⟨hl, he⟩ := List.getElem?_eq_some_iff.1 hx
 have hI : Is w (.slice (some ⟨g, 0, none⟩) n cap) l := Sl.of_own h (own_max h)
 obtain ⟨b, off, e, hc⟩ := hI.cell i hl
 injection e with e; injection e with e1 e2; subst e1 e2
 rw [Nat.zero_add] at hc
 rw [hc, he]
theorem spare1_any (pb g n cap : Nat) (z : Nat) (x : Int) (w : World) (hp : w.cell? ⟨pb, 0, none⟩ = some (.slice (some ⟨g, 0, none⟩) n cap)) (hz : z < n) (hx : w.cell? ⟨g, z, none⟩ = some (.int .i64 x)) :
 Calls Tryz.prog 81 #[.int .i64 (z : Int), .pointer (some ⟨pb, 0, none⟩)] w fun e w' => e = .returned (.bool (decide (0 < x))) ∧ w = w' := by
 have z0 : (0 : Int) ≤ (z : Int) := by omega
 have z1 : (z : Int) < (n : Int) := by omega
 go_enter Tryz.func81, Tryz.ntmps81
 go_wp2_with fail
 go_ret
 exact ⟨rfl, rfl⟩
def IdxP (p : Int → Bool) (l : List Int) (r : Int) : Prop := (r = -1 ∧ ∀ x ∈ l, p x = false) ∨ ∃ k : Nat, r = (k : Int) ∧ ∃ h : k < l.length, p l[k] = true ∧ ∀ j, (hj : j < k) → p (l[j]'(Nat.lt_trans hj h)) = false
theorem IdxP.spare {L l : List Int} {r : Int} (h : IdxP (fun z => decide (0 < L.getD z.toNat 0)) l r) : (r = -1 ∧ Si.spareOf L l = -1) ∨ ∃ k : Nat, r = (k : Int) ∧ ∃ hk : k < l.length, Si.spareOf L l = l[k] := by
 have key : ∀ (l : List Int) (k : Nat) (hk : k < l.length), (fun z : Int => decide (0 < L.getD z.toNat 0)) l[k] = true → (∀ j, (hj : j < k) → (fun z : Int => decide (0 < L.getD z.toNat 0)) (l[j]'(Nat.lt_trans hj hk)) = false) → l.find? (fun z => decide (0 < L.getD z.toNat 0)) = some l[k] := by
  intro l
  induction l with
  | nil => intro k hk; simp at hk
  | cons a l ih =>
   intro k hk hp hn
   cases k with
   | zero =>
    simp only [List.getElem_cons_zero] at hp ⊢
    exact List.find?_cons_of_pos hp
   | succ k =>
    have h0 := hn 0 (by omega)
    simp only [List.getElem_cons_zero] at h0
    rw [List.find?_cons_of_neg (by simpa using h0)]
    exact ih k (by simpa using hk) hp (fun j hj => hn (j + 1) (by omega))
 rcases h with ⟨h1, h2⟩ | ⟨k, h1, hk, hp, hn⟩
 · refine .inl ⟨h1, ?_⟩
   unfold Si.spareOf
   rw [List.find?_eq_none.2 fun x hx => by have := h2 x hx; simpa using this]
 · refine .inr ⟨k, h1, hk, ?_⟩
   unfold Si.spareOf
   rw [key l k hk hp hn]
theorem indexZ_any (v : Value) (l : List Int) (L : List Int) (pb g n cap : Nat) (w : World) (h : Is w v l) (hp : w.cell? ⟨pb, 0, none⟩ = some (.slice (some ⟨g, 0, none⟩) n cap)) (hL : w.ownsRow 0 3 1 (.slice (some ⟨g, 0, none⟩) n cap) n (ints L)) (hl : ∀ z ∈ l, 0 ≤ z ∧ z < (n : Int)) :
 Calls Tryz.prog 80 #[v, .func (.func 81) #[] #[.pointer (some ⟨pb, 0, none⟩)]] w fun e w' => (∃ r : Int, e = .returned (.int .i64 r) ∧ IdxP (fun z => decide (0 < L.getD z.toNat 0)) l r) ∧ w = w' := by
 obtain ⟨a, cap2, rfl, hm⟩ := h.form
 have H := hid h
 have HLl : Hid (L.length = n) := hid (by have := hL.1; rw [ints_len] at this; omega)
 have HC : Hid (∀ z : Nat, z < n → Calls Tryz.prog 81 #[.int .i64 (z : Int), .pointer (some ⟨pb, 0, none⟩)] w fun e w' => e = .returned (.bool (decide (0 < L.getD z 0))) ∧ w = w') := hid (fun z hz => by
  have hx : L[z]? = some (L.getD z 0) := by
   have : z < L.length := by have := HLl.out; omega
   simp [List.getD, this]
  exact spare1_any pb g n cap z _ w hp hz (own_cellI hL z hx))
 have HR := hid hl
 obtain ⟨N, hn⟩ : ∃ N, l.length = N := ⟨_, rfl⟩
 rw [hn] at hm H ⊢
 have HN := hid hn
 have HI0 : Hid (∀ j, (hj : j < l.length) → j < 0 → (fun z : Int => decide (0 < L.getD z.toNat 0)) l[j] = false) := hid (fun j hj h => by omega)
 clear h hp hL hl hn
 go_enter Tryz.func80, Tryz.ntmps80
 go_wp2_with fail
 go_loop [8] (fun iv => ∃ k : Nat, k ≤ N ∧ iv = .int .i64 k ∧ Hid (∀ j, (hj : j < l.length) → j < k → (fun z : Int => decide (0 < L.getD z.toNat 0)) l[j] = false)) (fun iv => N - (intOf iv).toNat)
 case atStart => exact ⟨0, by omega, rfl, HI0⟩
 case round =>
  clear HI0
  obtain ⟨k, hk, rfl, HI⟩ := hrel
  by_cases hkn : k < N
  · have hkl : k < l.length := by rw [HN.out]; exact hkn
    obtain ⟨b, off, rfl, r0⟩ := H.out.cell k hkl
    obtain ⟨zz, hzz⟩ : ∃ z : Nat, l[k] = (z : Int) := ⟨l[k].toNat, by have := (HR.out _ (List.getElem_mem hkl)).1; omega⟩
    have hzn : zz < n := by have := (HR.out _ (List.getElem_mem hkl)).2; omega
    have HK := hid (HC.out zz hzn)
    obtain ⟨T, hT⟩ : ∃ b, decide (0 < L.getD zz 0) = b := ⟨_, rfl⟩
    rw [hT] at HK
    have HP : Hid ((fun z : Int => decide (0 < L.getD z.toNat 0)) l[k] = T) := hid (by rw [hzz]; simpa using hT)
    rw [hzz] at r0
    have k0 : (0 : Int) ≤ (k : Int) := by omega
    have k1 : (k : Int) < (N : Int) := by omega
    have HKL : Hid (k < l.length) := hid hkl
    clear hzz hT
    go_wp2_with fail
    go_at_call 81; refine HK.out.mono ?_; rintro e w3 ⟨rfl, rfl⟩
    cases T with
    | true =>
     go_wp2_with fail
     go_ret
     exact ⟨⟨(k : Int), rfl, .inr ⟨k, rfl, HKL.out, HP.out, fun j hj => HI.out j _ hj⟩⟩, rfl⟩
    | false =>
     have HNX : Hid (∀ j, (hj : j < l.length) → j < k + 1 → (fun z : Int => decide (0 < L.getD z.toNat 0)) l[j] = false) := hid (fun j hj h => by
      by_cases e : j < k
      · exact HI.out j hj e
      · have e2 : j = k := by omega
        subst e2; exact HP.out)
     go_wp2_with fail
     go_round
     case rel => exact ⟨k + 1, by omega, by go_num, HNX⟩
     case measure => simp [intOf]; omega
  · have HF : Hid (∀ x ∈ l, (fun z : Int => decide (0 < L.getD z.toNat 0)) x = false) := hid (fun x hx => by
     obtain ⟨j, hj, rfl⟩ := List.getElem_of_mem hx
     exact HI.out j hj (by have := HN.out; omega))
    go_wp2_with fail
    go_ret
    exact ⟨⟨-1, rfl, .inl ⟨rfl, HF.out⟩⟩, rfl⟩
theorem own_keepB {w W : World} {base : Nat} {e : TypeId} {sz : Nat} {v : Value} {n : Nat} {xs : List Value} (h : w.ownsRow base e sz v n xs) (hb : Below w.heap.size w W) : W.ownsRow base e sz v n xs :=
 World.ownsRow.kept (row := none) h ⟨hb.os, hb.tape, hb.output, hb.size, fun k hk _ => hb.block k hk⟩ (by cases hv : v.ownBlock with | none => exact .inl rfl | some g => exact .inr (by simp))
theorem own_posB {w : World} {base n cap : Nat} {e : TypeId} {a : Option Addr} {xs : List Value} (h : w.ownsRow base e 1 (.slice a n cap) n xs) (hn : 0 < n) : ∃ g cur, a = some ⟨g, 0, none⟩ ∧ base ≤ g ∧ w.heap[g]? = some (.cells cur e (0, 0)) := by
 rcases h.2 with ⟨-, h0⟩ | ⟨g, cap2, cur, e1, h1, h2, -⟩
 · omega
 · injection e1 with e1
   exact ⟨g, cur, e1, h1, h2⟩
theorem own_baseB {w : World} {base base2 n : Nat} {e : TypeId} {v : Value} {xs : List Value} (h : w.ownsRow base e 1 v n xs) (hb : base2 ≤ base) : w.ownsRow base2 e 1 v n xs := by
 refine ⟨h.1, ?_⟩
 rcases h.2 with h0 | ⟨g, cap, cur, e1, h1, h2⟩
 · exact .inl h0
 · exact .inr ⟨g, cap, cur, e1, Nat.le_trans hb h1, h2⟩
theorem own_setB0 {w : World} {base g cap n : Nat} {e : TypeId} {xs : List Value} (h : w.ownsRow base e 1 (.slice (some ⟨g, 0, none⟩) n cap) n xs) (i : Nat) (x : Value) : (w.setCell ⟨g, i, none⟩ x).ownsRow base e 1 (.slice (some ⟨g, 0, none⟩) n cap) n (xs.set i x) := by
 rcases h.2 with ⟨h, -⟩ | ⟨g2, cap2, cur, e1, h1, h2, h3, h4, h5, h6⟩
 · cases h
 · injection e1 with e1 _ e3
   injection e1 with e1
   injection e1 with e1
   subst e1 e3
   refine ⟨by rw [List.length_set]; exact h.1, .inr ⟨g, cap, _, rfl, h1, set_heap h2 i x, h3, h4, by simpa using h5, ?_⟩⟩
   simp only [Array.toList_setIfInBounds]
   rw [List.take_set, h6]
theorem ints_setB (l : List Int) (i : Nat) (x : Int) : (ints l).set i (.int .i64 x) = ints (l.set i x) := by unfold ints; rw [List.map_set]
theorem Spare_any (s : Si.Site) (kv ov zv av sv rv : Value) (pl rb : Int) (tv cv ke se : Value) (sips : List (List Int)) (st : Bd.State) (shv rov pev dev skv : Value) (w : World) (h : SiV w kv ov zv av sv rv s) (hr : Si.Right s) (hzs : ZnS s.zones)
 (hcb : ∀ z, z < s.zones.length → Si.capOf s z ≤ 1000000) (hcv : Is w cv (Si.capsL s)) (hse : Ll w se sips) (hsp : ∀ l ∈ sips, ∀ z ∈ l, 0 ≤ z ∧ z < (s.zones.length : Int)) (hs0 : s.zones.length = 0 → sips = []) (hsl : sips.length ≤ 1000000)
 (ht : StV w shv rov pev dev skv st) (hrc : ∀ r ∈ st.robots, 0 ≤ r.cell ∧ r.cell < (s.floor.kind.length : Int)) (hrl : st.robots.length ≤ 1000) :
 Calls Tryz.prog 29 #[siV s kv ov zv av sv rv, .agg #[.int .i64 pl, tv, cv, ke, .int .i64 rb, se], stV st shv rov pev dev skv] w fun e w' => (∃ v, e = .returned v ∧ Is w' v (sips.map (Si.spareOf (Si.leftL s (st.robots.map (·.cell)) st.robots.length)))) ∧ Below w.heap.size w w' := by
 have HBE := hid (fun W (hW : Below w.heap.size w W) => begin_any s kv ov zv av sv rv W (h.keep hW) hr)
 obtain ⟨ra, rc, rfl, hrm⟩ := ht.ro.form
 have HV := hid h
 have HT := hid ht
 have HSE := hid hse
 have HSP := hid hsp
 have HS0 := hid hs0
 have HCB := hid hcb
 have HRC := hid hrc
 obtain ⟨cs, hcs⟩ : ∃ l, st.robots.map (·.cell) = l := ⟨_, rfl⟩
 have HCSL : Hid (cs.length = st.robots.length) := hid (by rw [← hcs, List.length_map])
 have HCS := hid hcs
 have HCL := hid (fun W (hW : Below w.heap.size w W) => cloneI_any cv (Si.capsL s) W (hcv.keep hW) (by have := hr.zn; unfold Si.capsL; rw [List.length_map, List.length_range]; omega))
 have hnz : s.zones.length ≤ 64 := hr.zn
 obtain ⟨N, hN⟩ : ∃ n, st.robots.length = n := ⟨_, rfl⟩
 have HN := hid hN
 rw [hcs]
 unfold siV stV
 rw [hN] at hrm hrl HT ⊢
 obtain ⟨nz, hz⟩ : ∃ n, s.zones.length = n := ⟨_, rfl⟩
 have HNZ := hid hz
 rw [hz] at hnz HSP HS0 HCB
 have HCL2 : Hid ((Si.capsL s).length = nz) := hid (by unfold Si.capsL; rw [List.length_map, List.length_range, hz])
 rw [HCL2.out] at HCL
 obtain ⟨w2, hw2⟩ : ∃ W, W = ((w.alloc (.cells #[.int .i64 s.floor.w, .int .i64 s.floor.h, .int .i64 s.floor.d, kv, ov, zv, av, sv, rv] 30)).alloc (.cells #[.int .i64 pl, tv, cv, ke, .int .i64 rb, se] 38)).alloc (.cells #[.int .i64 st.tick, shv, .slice ra N rc, pev, dev, skv] 58) := ⟨_, rfl⟩
 have HA := al3 w (.cells #[.int .i64 s.floor.w, .int .i64 s.floor.h, .int .i64 s.floor.d, kv, ov, zv, av, sv, rv] 30) (.cells #[.int .i64 pl, tv, cv, ke, .int .i64 rb, se] 38) (.cells #[.int .i64 st.tick, shv, .slice ra N rc, pev, dev, skv] 58)
 rw [← hw2] at HA
 have IS := hid HA.1
 have IC := hid HA.2.1
 have IT := hid HA.2.2.1
 have B2 := hid HA.2.2.2.1
 have HW2 := hid hw2
 unfold siV at HBE
 clear h hr hzs hcb hcv hse hsp hs0 ht hrc hcs hN hz hw2 HA
 have x0 : w2.cell? ⟨w.heap.size, 0, none⟩ = some (.int .i64 s.floor.w) := cell_of_heap IS.out 0 rfl
 have x1 : w2.cell? ⟨w.heap.size, 1, none⟩ = some (.int .i64 s.floor.h) := cell_of_heap IS.out 1 rfl
 have x2 : w2.cell? ⟨w.heap.size, 2, none⟩ = some (.int .i64 s.floor.d) := cell_of_heap IS.out 2 rfl
 have x3 : w2.cell? ⟨w.heap.size, 3, none⟩ = some kv := cell_of_heap IS.out 3 rfl
 have x4 : w2.cell? ⟨w.heap.size, 4, none⟩ = some ov := cell_of_heap IS.out 4 rfl
 have x5 : w2.cell? ⟨w.heap.size, 5, none⟩ = some zv := cell_of_heap IS.out 5 rfl
 have x6 : w2.cell? ⟨w.heap.size, 6, none⟩ = some av := cell_of_heap IS.out 6 rfl
 have x7 : w2.cell? ⟨w.heap.size, 7, none⟩ = some sv := cell_of_heap IS.out 7 rfl
 have x8 : w2.cell? ⟨w.heap.size, 8, none⟩ = some rv := cell_of_heap IS.out 8 rfl
 go_enter Tryz.func29, Tryz.ntmps29
 go_upto_region 1 with fail
 rw [← HW2.out]
 go_wp2_with fail
 go_at_call 47; refine (HBE.out _ B2.out).mono ?_; rintro e w3 ⟨B, g, rfl, hzd, b3⟩
 have ZD := hid hzd
 have B3 := hid (B2.out.trans (b3.mono B2.out.size))
 have IC3 := hid (keep_heap IC.out b3)
 have IT3 := hid (keep_heap IT.out b3)
 clear hzd b3 x0 x1 x2 x3 x4 x5 x6 x7 x8
 have p2 : w3.cell? ⟨w.heap.size + 1, 2, none⟩ = some cv := cell_of_heap IC3.out 2 rfl
 go_wp2_with fail
 go_at_call 79; refine (HCL.out _ B3.out).mono ?_; rintro e w4 ⟨v4, rfl, ho4, b4⟩
 obtain ⟨la, lc, rfl, hlm⟩ := own_slice ho4
 have HO4 := hid ho4
 have BW4 := hid b4
 obtain ⟨w5, hw5⟩ : ∃ W, W = w4.alloc (.cells #[.slice la nz lc] 22) := ⟨_, rfl⟩
 have g5 := al1 w4 (.cells #[.slice la nz lc] 22)
 rw [← hw5] at g5
 have BW5 : Hid (Below w3.heap.size w3 w5) := hid (b4.trans (g5.2.1.mono b4.size))
 have HO5 : Hid (w5.ownsRow w3.heap.size 3 1 (.slice la nz lc) nz (ints (Si.leftL s cs 0))) := hid (by rw [Si.leftL_zero]; exact own_keepB ho4 g5.2.1)
 have BX5 : Hid (w5.cell? ⟨w4.heap.size, 0, none⟩ = some (.slice la nz lc)) := hid (cell_of_heap g5.1 0 rfl)
 have LB5 : Hid (w4.heap.size < w5.heap.size) := hid (heap_lt g5.1)
 have HG2 : Hid (∀ g2, la = some ⟨g2, 0, none⟩ → g2 < w4.heap.size) := hid (fun g2 e => by subst e; exact (World.ownsRow.lt ho4 g2 rfl).2)
 have LB3 : Hid (w3.heap.size ≤ w4.heap.size) := hid b4.size
 have HW5 := hid hw5
 clear ho4 b4 hw5 g5 p2
 go_upto_region 3 with fail
 rw [← HW5.out]
 have t2 : w5.cell? ⟨w.heap.size + 1 + 1, 2, none⟩ = some (.slice ra N rc) := cell_of_heap (keep_heap IT3.out BW5.out) 2 rfl
 go_wp2_with fail
 go_loopw [25] (fun iv wr => ∃ k : Nat, k ≤ N ∧ iv = .int .i64 k ∧ Hid (wr.ownsRow w3.heap.size 3 1 (.slice la nz lc) nz (ints (Si.leftL s cs k))) ∧ Hid (wr.cell? ⟨w4.heap.size, 0, none⟩ = some (.slice la nz lc)) ∧ Hid (w4.heap.size < wr.heap.size) ∧ Hid (Below w3.heap.size w3 wr)) (fun iv _ => N - (intOf iv).toNat)
 case atStart => exact ⟨0, by omega, rfl, HO5, BX5, LB5, BW5⟩
 case round =>
  clear HO5 BX5 LB5 BW5 t2
  obtain ⟨k, hk, rfl, HO, HB, HLb, HU⟩ := hrel
  have BW : Hid (Below w.heap.size w wr) := hid (B3.out.trans (HU.out.mono B3.out.size))
  by_cases hkn : k < N
  · have hkl : k < st.robots.length := by rw [HN.out]; exact hkn
    have hkc : k < cs.length := by rw [HCSL.out]; exact hkl
    obtain ⟨rb2, ro2, rfl, hrb, c0, c1, c2, c3, c4, c5⟩ := (HT.out.ro.keep BW.out).cell k hkl
    have HCK : Hid (cs[k] = st.robots[k].cell) := hid (by have := HCS.out; subst this; simp)
    have HRK := hid (HRC.out _ (List.getElem_mem hkl))
    have LN := hid (Si.leftL_none s cs k hkc)
    have LS := hid (fun z => Si.leftL_some s cs k z hkc)
    rw [HCK.out] at LN LS
    have k0 : (0 : Int) ≤ (k : Int) := by omega
    have k1 : (k : Int) < (N : Int) := by omega
    obtain ⟨X, hX⟩ : ∃ X, st.robots[k] = X := ⟨_, rfl⟩
    rw [hX] at c0 c1 c2 c3 c4 c5 HRK LN LS
    clear hX HCK hkl hkc
    obtain ⟨wa, hwa⟩ : ∃ W, W = wr.alloc (.cells #[.int .i64 X.cell, .int .i64 X.load, .int .i64 X.charge, .int .i64 X.rest, .int .i64 X.mute, .bool X.dead] 105) := ⟨_, rfl⟩
    have ga := al1 wr (.cells #[.int .i64 X.cell, .int .i64 X.load, .int .i64 X.charge, .int .i64 X.rest, .int .i64 X.mute, .bool X.dead] 105)
    rw [← hwa] at ga
    have BRA := hid ga.2.1
    have y0 : wa.cell? ⟨wr.heap.size, 0, none⟩ = some (.int .i64 X.cell) := cell_of_heap ga.1 0 rfl
    have HWA := hid hwa
    obtain ⟨c, hc⟩ : ∃ c : Nat, X.cell = (c : Int) := ⟨X.cell.toNat, by have := HRK.out.1; omega⟩
    have hck : c < s.floor.kind.length := by have := HRK.out.2; omega
    have ZA := hid (ZD.out.below (HU.out.trans (ga.2.1.mono HU.out.size)))
    have z9 : wa.cell? ⟨B, 9, none⟩ = some (.slice (some ⟨g, 0, none⟩) s.floor.kind.length s.floor.kind.length) := cell_of_heap ZA.out.hB 9 rfl
    have zc : wa.cell? ⟨g, c, none⟩ = some (.int .i64 (Si.zoneOf s.zones (c : Int))) := cell_of_heap ZA.out.hg c (by
     rw [List.getElem?_toArray]; unfold ints; rw [List.getElem?_map, Ve.zoneL_get s c hck]; rfl)
    have hzr := Si.zoneOf_range s.zones (c : Int)
    rw [HNZ.out] at hzr
    rw [hc] at y0 LN LS
    obtain ⟨Z, hZ⟩ : ∃ Z, Si.zoneOf s.zones (c : Int) = Z := ⟨_, rfl⟩
    rw [hZ] at zc LN LS hzr
    obtain ⟨K, hK⟩ : ∃ K, s.floor.kind.length = K := ⟨_, rfl⟩
    rw [hK] at z9 hck
    have c00 : (0 : Int) ≤ (c : Int) := by omega
    have c01 : (c : Int) < (K : Int) := by omega
    have OA := hid (own_keepB HO.out ga.2.1)
    have HBA : Hid (wa.cell? ⟨w4.heap.size, 0, none⟩ = some (.slice la nz lc)) := hid ((ga.2.1.cell (p := ⟨w4.heap.size, 0, none⟩) HLb.out).trans HB.out)
    have UA := hid (HU.out.trans (ga.2.1.mono HU.out.size))
    have LA : Hid (w4.heap.size < wa.heap.size) := hid (by have := ga.2.1.size; have := HLb.out; omega)
    clear hwa ga hc hZ hK
    go_upto_region 6 with fail
    rw [← HWA.out]
    clear c0 c1 c2 c3 c4 c5
    by_cases hz0 : Z < 0
    · have HLN := hid (LN.out hz0)
      have hz1 : ¬ 0 ≤ Z := by omega
      go_quiet (fail)
      go_wp2_with fail
      all_goals go_roundw
      case rel => exact ⟨k + 1, by omega, by go_num, hid (by rw [HLN.out]; exact own_keepB OA.out (below_drewN _ _ _)), HBA, LA, hid (UA.out.trans (below_drewN _ _ _))⟩
      case measure => simp [intOf]; omega
    · obtain ⟨z, hz⟩ := Int.eq_ofNat_of_zero_le (show 0 ≤ Z by omega)
      subst hz
      have hzn : z < nz := by omega
      have HLS := hid (LS.out z rfl)
      obtain ⟨g2, cur, rfl, hg2, hcur⟩ := own_posB OA.out (by omega)
      have hlt2 := HG2.out g2 rfl
      have q0 : wa.cell? ⟨g2, z, none⟩ = some (.int .i64 (Si.capOf s z - (Si.robZ s cs k z : Int))) := own_cellI OA.out z (Si.leftL_get s cs k z (by rw [HNZ.out]; exact hzn))
      have q1 : wa.frozen? ⟨g2, z, none⟩ = false := free_of_heap hcur z
      have hrz : Si.robZ s cs k z ≤ k := by unfold Si.robZ; refine Nat.le_trans (List.countP_le_length ..) ?_; rw [List.length_take]; omega
      have hcp := HCB.out z hzn
      have hcn := Si.capOf_nonneg s z
      obtain ⟨V, hV⟩ : ∃ V, Si.capOf s z - (Si.robZ s cs k z : Int) = V := ⟨_, rfl⟩
      rw [hV] at q0 HLS
      have hw1 : IntKind.i64.wrap (V - 1) = V - 1 := IntWalk.i64_in _ (by omega)
      have z0 : (0 : Int) ≤ (z : Int) := by omega
      have z1 : (z : Int) < (nz : Int) := by omega
      have hb1 := HBA.out
      have hne : w4.heap.size ≠ g2 := by omega
      clear hV hcur hcp hcn hrz hz0 hzr
      go_quiet (fail)
      go_wp2_with fail
      all_goals go_roundw
      case rel =>
       refine ⟨k + 1, by omega, by go_num, hid ?_, hid ?_, hid ?_, hid ((UA.out.trans (below_drewN _ _ _)).setCell hg2 _)⟩
       · rw [HLS.out, ← ints_setB]; exact own_setB0 (own_keepB OA.out (below_drewN _ _ _)) z _
       · exact (World.cell?_setCell_far _ _ _ _ (fun e => hne e.symm)).trans hb1
       · have := LA.out; simpa using this
      case measure => simp [intOf]; omega
  · obtain rfl : k = N := by omega
    obtain ⟨wz, hwz⟩ : ∃ W, W = wr := ⟨_, rfl⟩
    subst hwz
    have OZ := hid HO.out
    have BZ := hid HB.out
    have UZ := hid HU.out
    have LZ := hid HLb.out
    have BWZ := hid BW.out
    have HCES : Hid (wz.cell? ⟨w.heap.size + 1, 5, none⟩ = some se) := hid (cell_of_heap (keep_heap IC3.out HU.out) 5 rfl)
    obtain ⟨ea, ec, rfl, hem⟩ := HSE.out.form
    obtain ⟨M, hM⟩ : ∃ n, sips.length = n := ⟨_, rfl⟩
    have HM := hid hM
    rw [hM] at hem hsl HSE HCES
    obtain ⟨L, hL⟩ : ∃ L, Si.leftL s cs k = L := ⟨_, rfl⟩
    rw [hL] at OZ
    have HLL := hid hL
    have c5 := HCES.out
    have HO0 : Hid (wz.ownsRow wz.heap.size 3 1 (.slice none 0 0) 0 (ints ((sips.take 0).map (Si.spareOf L)))) := hid (by simp only [List.take_zero, List.map_nil]; exact World.ownsRow_nil ..)
    have HU0 := hid (Below.refl wz.heap.size wz)
    rw [hM]
    clear hM hL HO HB HU HLb BW hkn hk
    go_wp2_with fail
    go_loopw [49, 12] (fun iv vw wr => ∃ (k : Nat) (v : Value), k ≤ M ∧ iv = .int .i64 k ∧ vw = v ∧ Hid (wr.ownsRow wz.heap.size 3 1 v k (ints ((sips.take k).map (Si.spareOf L)))) ∧ Hid (Below wz.heap.size wz wr)) (fun iv _ _ => M - (intOf iv).toNat)
    case atStart => exact ⟨0, _, by omega, rfl, rfl, HO0, HU0⟩
    case round =>
     clear HO0 HU0 c5
     obtain ⟨k, v9, hk, rfl, hv9, HO, HU⟩ := hrel
     replace hv9 := hv9.symm
     subst hv9
     have BW : Hid (Below w.heap.size w wr) := hid (BWZ.out.trans (HU.out.mono BWZ.out.size))
     by_cases hkn : k < M
     · have hkl : k < sips.length := by rw [HM.out]; exact hkn
       obtain ⟨eb, eo, u, rfl, e0, hu⟩ := (HSE.out.keep BW.out).cell k hkl
       have hnp : 0 < nz := by
        rcases Nat.eq_zero_or_pos nz with e | e
        · have h0 := HS0.out e
          rw [h0] at hkl
          exact absurd hkl (by simp)
        · exact e
       obtain ⟨g2, cur, rfl, -, -⟩ := own_posB OZ.out hnp
       have hix := indexZ_any u sips[k] L w4.heap.size g2 nz lc wr hu ((HU.out.cell (p := ⟨w4.heap.size, 0, none⟩) LZ.out).trans BZ.out) (own_baseB (own_keepB OZ.out HU.out) (Nat.zero_le _)) (HSP.out _ (List.getElem_mem hkl))
       obtain ⟨ua, uc, rfl, hum⟩ := hu.form
       have HX := hid hix
       have HUI := hid hu
       have HTK : Hid (∀ x, Si.spareOf L sips[k] = x → (sips.take (k + 1)).map (Si.spareOf L) = (sips.take k).map (Si.spareOf L) ++ [x]) := hid (fun x hx => by rw [List.take_succ_eq_append_getElem hkl, List.map_append, ← hx]; rfl)
       have HSPR := hid (fun (r : Int) (h : IdxP (fun z => decide (0 < L.getD z.toNat 0)) sips[k] r) => h.spare)
       obtain ⟨l, hl⟩ : ∃ l, sips[k] = l := ⟨_, rfl⟩
       rw [hl] at HX HUI HTK HSPR hum e0
       obtain ⟨ul, hul⟩ : ∃ n, l.length = n := ⟨_, rfl⟩
       rw [hul] at HX HUI hum e0
       have HUL := hid hul
       have k0 : (0 : Int) ≤ (k : Int) := by omega
       have k1 : (k : Int) < (M : Int) := by omega
       clear hix hu hl hul hkl
       go_wp2_with fail
       go_at_call 80; refine HX.out.mono ?_; rintro e w6 ⟨⟨r, rfl, hr⟩, rfl⟩
       rcases HSPR.out r hr with ⟨rfl, hsp⟩ | ⟨j, rfl, hjl, hsp⟩
       · have SPF := hid hsp
         clear hr hsp
         go_wp2_with (at_builtin; refine wpList_append_sl rfl (.tmp 62) (.tmp 64) 22 rfl wz.heap.size 3 (.int .i64 0) 8 Tryz.underlying22 int64Info rfl v9 k (ints ((sips.take k).map (Si.spareOf L))) rfl (World.ownsRow.alloc HO.out _) (.slice (some ⟨wr.heap.size, 0, none⟩) 1 1) (ints [-1]) rfl (is_new1 (heap_alloc_new _ _)) ?c1 ?c2 ?c3 ?c4 ?_)
         case c1 => intro u hu; obtain ⟨x, -, rfl⟩ := List.mem_map.1 hu; rfl
         case c2 => rw [ints_len]; unfold maxLen; simp; omega
         case c3 => rw [ints_len]; simp; omega
         case c4 => have := HU.out.size; simp; omega
         intro v' w' ho' hg'
         have HO2 : Hid (w'.ownsRow wz.heap.size 3 1 v' (k + 1) (ints ((sips.take (k + 1)).map (Si.spareOf L)))) := hid (by rw [HTK.out (-1) SPF.out, List.map_take, show ints (List.take k (List.map (Si.spareOf L) sips) ++ [-1]) = ints (List.take k (List.map (Si.spareOf L) sips)) ++ ints [-1] by simp [ints]]; exact ho')
         have HU2 : Hid (Below wz.heap.size wz w') := hid ((HU.out.alloc HU.out.size _).trans (below_own (World.ownsRow.alloc HO.out _) hg' (Nat.le_refl _) (by have := HU.out.size; simp; omega)))
         clear ho' hg'
         go_wp2_with fail
         go_roundw
         case rel => exact ⟨k + 1, _, by omega, by go_num, rfl, HO2, HU2⟩
         case measure => simp [intOf]; omega
       · obtain ⟨X, hX⟩ : ∃ X, l[j] = X := ⟨_, rfl⟩
         obtain ⟨ub, uo, rfl, u0⟩ := HUI.out.cell j hjl
         rw [hX] at hsp u0
         have SPF := hid hsp
         have j0 : (0 : Int) ≤ (j : Int) := by omega
         have j1 : (j : Int) < (ul : Int) := by have := HUL.out; omega
         clear hr hsp hX hjl
         go_wp2_with (at_builtin; refine wpList_append_sl rfl (.tmp 62) (.tmp 64) 22 rfl wz.heap.size 3 (.int .i64 0) 8 Tryz.underlying22 int64Info rfl v9 k (ints ((sips.take k).map (Si.spareOf L))) rfl (World.ownsRow.alloc HO.out _) (.slice (some ⟨wr.heap.size, 0, none⟩) 1 1) (ints [X]) rfl (is_new1 (heap_alloc_new _ _)) ?c1 ?c2 ?c3 ?c4 ?_)
         case c1 => intro u hu; obtain ⟨x, -, rfl⟩ := List.mem_map.1 hu; rfl
         case c2 => rw [ints_len]; unfold maxLen; simp; omega
         case c3 => rw [ints_len]; simp; omega
         case c4 => have := HU.out.size; simp; omega
         intro v' w' ho' hg'
         have HO2 : Hid (w'.ownsRow wz.heap.size 3 1 v' (k + 1) (ints ((sips.take (k + 1)).map (Si.spareOf L)))) := hid (by rw [HTK.out (X) SPF.out, List.map_take, show ints (List.take k (List.map (Si.spareOf L) sips) ++ [X]) = ints (List.take k (List.map (Si.spareOf L) sips)) ++ ints [X] by simp [ints]]; exact ho')
         have HU2 : Hid (Below wz.heap.size wz w') := hid ((HU.out.alloc HU.out.size _).trans (below_own (World.ownsRow.alloc HO.out _) hg' (Nat.le_refl _) (by have := HU.out.size; simp; omega)))
         clear ho' hg'
         go_wp2_with fail
         go_roundw
         case rel => exact ⟨k + 1, _, by omega, by go_num, rfl, HO2, HU2⟩
         case measure => simp [intOf]; omega
     · have hkM : k = M := by omega
       have HI : Hid (Is wr v9 (sips.map (Si.spareOf (Si.leftL s cs _)))) := hid (by
        rw [HLL.out]
        have h9 := HO.out
        rw [hkM, ← HM.out, List.take_length] at h9
        exact Sl.of_own h9 (own_max h9))
       go_wp2_with fail
       go_ret
       exact ⟨⟨_, rfl, HI.out⟩, BW.out⟩
end Go.Proofs.YtfcbcpfnaadpeaaGreatDoor
