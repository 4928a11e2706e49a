/- Parts TeA, TeB, TeC, TeE, TeF, TeH, TeD, TeI, TeL, TeM, TeN, TeO, TeP of this claim, laid one behind the other: walks and the plain laws behind them; each contract states its own conditions. -/
import Derived.Maps.AppendAt
import Derived.Test.YtfcbcpfnaadpeaaGreatDoorMT
namespace Go.Proofs.YtfcbcpfnaadpeaaGreatDoor
set_option maxRecDepth 100000
set_option maxHeartbeats 64000000
set_option linter.unusedSimpArgs false
set_option linter.unusedVariables false
open Go.RowKit
structure RfJ (w0 W : World) (f : Fl.Floor) (kv ov : Value) (L gs go B : Nat) (sh : List Bool) (out : List Int) : Prop where
 b0 : W.heap[w0.heap.size]? = some (.cells #[.int .i64 f.w, .int .i64 f.h, .int .i64 f.d, kv, ov] 24 (0, 0))
 hs : W.heap[gs]? = some (.cells (bools sh).toArray 4 (0, 0))
 ho : W.heap[go]? = some (.cells (ints out).toArray 3 (0, 0))
 o1 : w0.heap.size < gs
 o2 : gs < go
 o3 : go < B
 o4 : B ≤ W.heap.size
 below : Below w0.heap.size w0 W
 ls : sh.length = L
 lo : out.length = L
theorem RfJ.keep {w0 W W' : World} {f : Fl.Floor} {kv ov : Value} {L gs go B : Nat} {sh : List Bool} {out : List Int} (h : RfJ w0 W f kv ov L gs go B sh out) (hb : Below B W W') : RfJ w0 W' f kv ov L gs go B sh out := by
 have h1 := h.o1; have h2 := h.o2; have h3 := h.o3
 exact ⟨(hb.block _ (by omega)).trans h.b0, (hb.block _ (by omega)).trans h.hs, (hb.block _ (by omega)).trans h.ho, h.o1, h.o2, h.o3, Nat.le_trans h.o4 hb.size, h.below.trans (hb.mono (by omega)), h.ls, h.lo⟩
theorem teIInfo : (Tryz.prog.info? 3).map (fun i => (i.zero, i.size, i.bytes)) = some (some (.int .i64 0), 1, 8) := by kernel_rfl
theorem own_form3 {w : World} {base : Nat} {e : TypeId} {sz n : Nat} {v : Value} {xs : List Value} (h : w.ownsRow base e sz v n xs) : ∃ a cap, v = .slice a n cap := by
 rcases h.2 with ⟨rfl, rfl⟩ | ⟨g1, cap, cur, rfl, -⟩
 · exact ⟨none, 0, rfl⟩
 · exact ⟨some ⟨g1, 0, none⟩, cap, rfl⟩
theorem own_belT {w W : World} {base : Nat} {e : TypeId} {sz : Nat} {v : Value} {n : Nat} {xs : List Value} (h : w.ownsRow base e sz v n xs) (hb : Below w.heap.size w W) : W.ownsRow base e sz v n xs :=
 h.kept (row := none) ⟨hb.os, hb.tape, hb.output, hb.size, fun k hk _ => hb.block k hk⟩ (by cases hv : v.ownBlock <;> simp)
def rowN (n : Nat) (f : Nat → Bool) : List Bool := (List.range n).map f
theorem rowN_set {n : Nat} (f : Nat → Bool) (j : Nat) (x : Bool) : (rowN n f).set j x = rowN n (fun i => if i = j then x else f i) := by
 apply List.ext_getElem?
 intro i
 unfold rowN
 rw [List.getElem?_set]
 simp only [List.length_map, List.length_range, List.getElem?_map]
 by_cases hi : i < n
 · rw [List.getElem?_range hi]
   by_cases hj : j = i
   · subst hj; simp [hi]
   · have hj2 : ¬ i = j := fun e => hj e.symm
     simp [hj, hj2]
 · rw [List.getElem?_eq_none (by simpa using hi)]
   by_cases hj : j = i
   · subst hj; simp [hi]
   · simp [hj]
structure TbB (W : World) (B : Nat) (v : Value) (m n : Nat) (M : Nat → Nat → Bool) (gs : List Nat) : Prop where
 ln : gs.length = m
 nd : gs.Nodup
 own : W.ownsRow B 110 1 v m (gs.map fun g => .slice (some ⟨g, 0, none⟩) n n)
 row : ∀ i, (h : i < gs.length) → W.heap[gs[i]]? = some (.cells (bools (rowN n (M i))).toArray 4 (0, 0))
 ge : ∀ g ∈ gs, B ≤ g
theorem TbB.below {W W' : World} {B m n : Nat} {v : Value} {M : Nat → Nat → Bool} {gs : List Nat} (h : TbB W B v m n M gs) (hb : Below W.heap.size W W') : TbB W' B v m n M gs :=
 ⟨h.ln, h.nd, own_belT h.own hb, fun i hi => (hb.block _ (heap_lt (h.row i hi))).trans (h.row i hi), h.ge⟩
theorem TbB.lt {W : World} {B m n : Nat} {v : Value} {M : Nat → Nat → Bool} {gs : List Nat} (h : TbB W B v m n M gs) : ∀ g ∈ gs, g < W.heap.size := fun g hg => by
 obtain ⟨i, hi, rfl⟩ := List.mem_iff_getElem.1 hg
 exact heap_lt (h.row i hi)
theorem own_typ {w : World} {base N i : Nat} {e t : TypeId} {sz n : Nat} {v x : Value} {xs : List Value} {cs : Array Value} {fr : Nat × Nat} (h : w.ownsRow base e sz v n xs) (hN : w.heap[N]? = some (.cells cs t fr)) (hne : e ≠ t) : (w.setCell ⟨N, i, none⟩ x).ownsRow base e sz v n xs := by
 refine ⟨h.1, ?_⟩
 rcases h.2 with h | ⟨g, cap, cur, rfl, h1, h2, h3⟩
 · exact .inl h
 · refine .inr ⟨g, cap, cur, rfl, h1, (heap_setCell_other _ _ _ _ (fun e => ?_)).trans h2, h3⟩
   dsimp only at e
   subst e
   rw [hN] at h2
   injection h2 with h2
   injection h2 with _ h2
   exact hne h2.symm
theorem TbB.set {W : World} {B m n : Nat} {v : Value} {M : Nat → Nat → Bool} {gs : List Nat} (h : TbB W B v m n M gs) {a : Nat} (ha : a < gs.length) (b : Nat) (x : Bool) :
 TbB (W.setCell ⟨gs[a], b, none⟩ (.bool x)) B v m n (fun i j => if i = a ∧ j = b then x else M i j) gs := by
 refine ⟨h.ln, h.nd, own_typ h.own (h.row a ha) (by decide), fun i hi => ?_, h.ge⟩
 by_cases e : i = a
 · subst e
   have h1 := set_heap (h.row i hi) b (.bool x)
   rw [bools_set, rowN_set] at h1
   simpa using h1
 · have hne : gs[i] ≠ gs[a] := by
    have hp := List.nodup_iff_pairwise_ne.1 h.nd
    rcases Nat.lt_or_gt_of_ne e with h9 | h9
    · exact List.pairwise_iff_getElem.1 hp i a hi ha h9
    · exact fun e2 => List.pairwise_iff_getElem.1 hp a i ha hi h9 e2.symm
   rw [heap_setCell_other _ _ _ _ hne, h.row i hi]
   simp [e]
theorem TbB.fun {W : World} {B m n : Nat} {v : Value} {M M' : Nat → Nat → Bool} {gs : List Nat} (h : TbB W B v m n M gs) (e : ∀ i j, i < m → j < n → M i j = M' i j) : TbB W B v m n M' gs := by
 refine ⟨h.ln, h.nd, h.own, fun i hi => ?_, h.ge⟩
 rw [h.row i hi]
 congr 3
 unfold bools
 congr 1
 unfold rowN
 exact List.map_congr_left (fun j hj => e i j (by rw [← h.ln]; exact hi) (List.mem_range.1 hj))
def KindPost (n : Nat) (c : Int) (w : World) (e : Ending) (w' : World) : Prop := (∃ k : Int, e = .returned (.int .i64 k) ∧ (k ≠ -1 → 0 ≤ c ∧ c < (n : Int))) ∧ Below w.heap.size w w'
def IntPost (w : World) (e : Ending) (w' : World) : Prop := (∃ k : Int, e = .returned (.int .i64 k)) ∧ Below w.heap.size w w'
theorem r14kind_any (f : Fl.Floor) (kv ov : Value) (c : Int) (w : World) (h : Is w kv f.kind) :
 Calls Tryz.prog 75 #[flV f kv ov, .int .i64 c] w (KindPost f.kind.length c w) := by
 obtain ⟨ka, kc, rfl, hkm⟩ := h.form
 unfold flV
 obtain ⟨n, hn⟩ : ∃ n, f.kind.length = n := ⟨_, rfl⟩
 rw [hn] at h hkm ⊢
 have HK := hid h
 have HN := hid hn
 have B1 := hid ((Below.refl _ w).alloc (Nat.le_refl _) (.cells #[.int .i64 f.w, .int .i64 f.h, .int .i64 f.d, .slice ka n kc, ov] 24))
 clear h hn
 by_cases h0 : c < 0
 · go_enter Tryz.func75, Tryz.ntmps75
   go_wp2_with fail
   go_ret
   exact ⟨⟨-1, rfl, fun h9 => absurd rfl h9⟩, B1.out⟩
 · by_cases h1 : (n : Int) ≤ c
   · go_enter Tryz.func75, Tryz.ntmps75
     go_wp2_with fail
     go_ret
     exact ⟨⟨-1, rfl, fun h9 => absurd rfl h9⟩, B1.out⟩
   · obtain ⟨x, rfl⟩ := Int.eq_ofNat_of_zero_le (show 0 ≤ c by omega)
     have hx : x < f.kind.length := by rw [HN.out]; omega
     obtain ⟨b, o, e1, c0⟩ := HK.out.cell x hx
     subst e1
     obtain ⟨k, hk⟩ : ∃ k, f.kind[x] = k := ⟨_, rfl⟩
     rw [hk] at c0
     have hb := cell_block_lt c0
     have x0 : (0 : Int) ≤ (x : Int) := by omega
     have x1 : (x : Int) < (n : Int) := by omega
     have HR : Hid (k ≠ -1 → 0 ≤ (x : Int) ∧ (x : Int) < (n : Int)) := hid (fun _ => ⟨x0, x1⟩)
     clear hk hx h0 h1
     go_enter Tryz.func75, Tryz.ntmps75
     go_wp2_with fail
     go_ret
     exact ⟨⟨k, rfl, HR.out⟩, B1.out⟩
theorem r14carrier_any (st : Bd.State) (shv rov pev dev skv : Value) (c : Int) (w : World) (h : RoV w rov st.robots) :
 Calls Tryz.prog 76 #[stV st shv rov pev dev skv, .int .i64 c] w (IntPost w) := by
 obtain ⟨ra, rc, rfl, hrm⟩ := h.form
 unfold stV
 obtain ⟨n, hn⟩ : ∃ n, st.robots.length = n := ⟨_, rfl⟩
 rw [hn] at h hrm ⊢
 have HRO := hid (fun W (hW : Below w.heap.size w W) => h.keep hW)
 have HN := hid hn
 obtain ⟨w1, hw1⟩ : ∃ w1, w1 = w.alloc (.cells #[.int .i64 st.tick, shv, .slice ra n rc, pev, dev, skv] 58) := ⟨_, rfl⟩
 have B1 : Hid (Below w.heap.size w w1) := hid (by rw [hw1]; exact (Below.refl _ w).alloc (Nat.le_refl _) _)
 have I1 : Hid (w1.heap[w.heap.size]? = some (.cells #[.int .i64 st.tick, shv, .slice ra n rc, pev, dev, skv] 58 (0, 0))) := hid (by rw [hw1]; exact heap_alloc_new _ _)
 have HW1 := hid hw1
 have p2 : w1.cell? ⟨w.heap.size, 2, none⟩ = some (.slice ra n rc) := cell_of_heap I1.out 2 rfl
 clear h hn hw1
 go_enter Tryz.func76, Tryz.ntmps76
 go_upto_region 1 with fail
 rw [← HW1.out]
 go_wp2_with fail
 go_loop [5] (fun iv => ∃ k : Nat, k ≤ n ∧ iv = .int .i64 k) (fun iv => n - (intOf iv).toNat)
 case atStart => exact ⟨0, by omega, rfl⟩
 case round =>
  obtain ⟨k, hk, rfl⟩ := hrel
  by_cases hkn : k < n
  · have k0 : (0 : Int) ≤ (k : Int) := by omega
    have k1 : (k : Int) < (n : Int) := by omega
    by_cases hc : 0 ≤ c
    · have hks : k < st.robots.length := by rw [HN.out]; exact hkn
      obtain ⟨b, o, e1, hb, t0, t1, -⟩ := (HRO.out w1 B1.out).cell k hks
      subst e1
      obtain ⟨x, hx⟩ : ∃ x, st.robots[k].load = x := ⟨_, rfl⟩
      rw [hx] at t1
      clear hx t0 hks
      by_cases hxc : x = c
      · subst hxc
        go_wp2_with fail
        go_ret
        exact ⟨⟨_, rfl⟩, B1.out⟩
      · go_wp2_with fail
        go_round
        case rel => exact ⟨k + 1, by omega, by go_num⟩
        case measure => simp [intOf]; omega
    · go_wp2_with fail
      go_ret
      exact ⟨⟨_, rfl⟩, B1.out⟩
  · have k9 : ¬ (k : Int) < (n : Int) := by omega
    go_wp2_with fail
    go_ret
    exact ⟨⟨_, rfl⟩, B1.out⟩
def RowPost (m : Nat) (w : World) (e : Ending) (w' : World) : Prop := (∃ v l, e = .returned v ∧ w'.ownsRow w.heap.size 3 1 v l.length (ints l) ∧ l.length ≤ m) ∧ Below w.heap.size w w'
theorem r14at_any (r : Bd.Robot) (c : Int) (w : World) (hc : -1152921504606846976 ≤ c ∧ c ≤ 1152921504606846976) :
 Calls Tryz.prog 224 #[.agg (robC r).toArray, .int .i64 c] w (RowPost 2 w) := by
 unfold robC
 have h1 : -9223372036854775808 ≤ 2 * c := by omega
 have h2 : 2 * c ≤ 9223372036854775807 := by omega
 have h3 : -9223372036854775808 ≤ 2 * c + 1 := by omega
 have h4 : 2 * c + 1 ≤ 9223372036854775807 := by omega
 obtain ⟨L, hL⟩ : ∃ L, r.load = L := ⟨_, rfl⟩
 rw [hL]
 have hw : ∀ O, w.heap.size ≤ (w.alloc O).heap.size := fun O => by simp
 have HB : Hid (∀ O P, Below w.heap.size w ((w.alloc O).alloc P)) := hid (fun O P => ((Below.refl _ w).alloc (Nat.le_refl _) O).alloc (hw O) P)
 have HO : Hid (∀ O (cs : Array Value) (n : Nat), n ≤ 2 → cs.size = n * 1 → ((w.alloc O).alloc (.cells cs 3)).ownsRow w.heap.size 3 1 (.slice (some ⟨(w.alloc O).heap.size, 0, none⟩) n n) n cs.toList) := hid (fun O cs n hn hs => World.ownsRow_lit (base := w.heap.size) (e := 3) (size := 1) (w.alloc O) cs n (hw O) (by unfold maxLen; omega) hs)
 clear hL hc hw
 by_cases hl : L < 0
 · go_enter Tryz.func224, Tryz.ntmps224
   go_wp2_with fail
   go_ret
   exact ⟨⟨_, [2 * c], rfl, by simpa [ints] using HO.out _ #[.int .i64 (2 * c)] 1 (by omega) rfl, by simp⟩, HB.out _ _⟩
 · go_enter Tryz.func224, Tryz.ntmps224
   go_wp2_with fail
   go_ret
   exact ⟨⟨_, [2 * c, 2 * c + 1], rfl, by simpa [ints] using HO.out _ #[.int .i64 (2 * c), .int .i64 (2 * c + 1)] 2 (by omega) rfl, by simp⟩, HB.out _ _⟩
theorem r14with_any (v : Value) (l : List Int) (c : Int) (w : World) (h : Is w v l) (hl : l.length ≤ 1000000) :
 Calls Tryz.prog 225 #[v, .int .i64 c] w (RowPost (l.length + 1) w) := by
 obtain ⟨va, vc, rfl, hvm⟩ := h.form
 obtain ⟨n, hn⟩ : ∃ n, l.length = n := ⟨_, rfl⟩
 rw [hn] at h hl hvm ⊢
 have HL := hid (fun W (hW : Below w.heap.size w W) => h.keep hW)
 have HN := hid hn
 obtain ⟨i0, hi, hz0, hz1, hz2⟩ := info_parts teIInfo
 have O0 : Hid (w.ownsRow w.heap.size 3 1 (.slice none 0 0) 0 (ints [])) := hid (World.ownsRow_nil ..)
 have Z0 : Hid (Below w.heap.size w w) := hid (Below.refl _ _)
 clear h hn
 go_enter Tryz.func225, Tryz.ntmps225
 go_wp2_with fail
 go_loopw [5, 6, 7] (fun ov dv iv wr => ∃ (i k : Nat) (D : Bool) (R : List Int) (oa : Option Addr) (oc : Nat), i ≤ n ∧ iv = .int .i64 i ∧ dv = .bool D ∧ ov = .slice oa k oc ∧ k ≤ i + 1 ∧ (D = false → k ≤ i) ∧ Hid (wr.ownsRow w.heap.size 3 1 (.slice oa k oc) k (ints R)) ∧ Hid (Below w.heap.size w wr)) (fun _ _ iv _ => n - (intOf iv).toNat)
 case atStart => exact ⟨0, 0, false, [], none, 0, by omega, rfl, rfl, rfl, by omega, (fun _ => by omega), O0, Z0⟩
 case round =>
  clear O0 Z0
  obtain ⟨i, k, D, R, oa, oc, hin, rfl, rfl, rfl, hk1, hk2, HO, HB⟩ := hrel
  obtain ⟨wA, hwA⟩ : ∃ W, W = wr := ⟨_, rfl⟩
  subst hwA
  have hsA := HB.out.size
  by_cases hil : i < n
  · have hls : i < l.length := by rw [HN.out]; exact hil
    obtain ⟨b, o, e1, c0⟩ := (HL.out wA HB.out).cell i hls
    subst e1
    have HC := hid (fun W (hW : Below w.heap.size w W) => (show ∃ x, W.cell? ⟨b, o + i, none⟩ = some (.int .i64 x) ∧ x = l[i] from by
     obtain ⟨b2, o2, e2, c2⟩ := (HL.out W hW).cell i hls
     injection e2 with e3; injection e3 with e4 e5; subst e4 e5; exact ⟨_, c2, rfl⟩))
    obtain ⟨x, hx⟩ : ∃ x, l[i] = x := ⟨_, rfl⟩
    have HCX : Hid (∀ W, Below w.heap.size w W → W.cell? ⟨b, o + i, none⟩ = some (.int .i64 x)) := hid (fun W hW => by obtain ⟨y, h1, h2⟩ := HC.out W hW; rw [h1, h2, hx])
    rw [hx] at c0
    have d0 : (0 : Int) ≤ (i : Int) := by omega
    have d1 : (i : Int) < (n : Int) := by omega
    have hbk := cell_block_lt c0
    clear hx hls HC
    cases D with
    | true =>
     clear hk2
     go_wp2_with (at_builtin; refine wpList_append_own_at _ rfl _ _ 22 rfl w.heap.size 3 i0 (.int .i64 0) 1 8 Tryz.underlying22 hi hz0 hz1 hz2 rfl (by decide) (.slice oa k oc) k _ rfl (HO.out.alloc _) ⟨wA.heap.size, 0, none⟩ 1 1 [.int .i64 x] rfl rfl (Go.cell_one_new _ _ _) ?qc3 ?qc4 ?qc5 ?qc6 ?_)
     case qc3 => first | rfl | (intro u hu; simp at hu; subst hu; rfl)
     case qc4 => unfold maxLen; omega
     case qc5 => omega
     case qc6 => first | omega | (simp; omega)
     intro v8 w8 hown8 hgrow8 hnil hat
     obtain ⟨la8, lc8, rfl⟩ := own_form3 hown8
     have hbb8 : Below w.heap.size wA w8 := ((Below.refl _ wA).alloc HB.out.size _).grown hgrow8 (by simp; omega) (fun g hg => (HO.out.lt g hg).1)
     have HB8 := hid (HB.out.trans hbb8)
     have HO8 := hid hown8
     clear hown8 hgrow8 hbb8 hnil hat
     have HR8 : Hid (w8.ownsRow w.heap.size 3 1 (.slice la8 (k + 1) lc8) (k + 1) (ints (R ++ [x]))) := hid (by rw [ints_app]; exact HO8.out)
     go_wp2_with fail
     go_roundw
     case rel => exact ⟨i + 1, k + 1, true, _, la8, lc8, by omega, by go_num, rfl, rfl, by omega, (fun h9 => by cases h9), HR8, HB8⟩
     case measure => simp [intOf]; omega
    | false =>
     have hk3 := hk2 rfl
     clear hk2
     by_cases hg : c < x
     · skip
       go_wp2_with (at_builtin; refine wpList_append_own_at _ rfl _ _ 22 rfl w.heap.size 3 i0 (.int .i64 0) 1 8 Tryz.underlying22 hi hz0 hz1 hz2 rfl (by decide) (.slice oa k oc) k _ rfl (HO.out.alloc _) ⟨wA.heap.size, 0, none⟩ 1 1 [.int .i64 c] rfl rfl (Go.cell_one_new _ _ _) ?qc3 ?qc4 ?qc5 ?qc6 ?_)
       case qc3 => first | rfl | (intro u hu; simp at hu; subst hu; rfl)
       case qc4 => unfold maxLen; omega
       case qc5 => omega
       case qc6 => first | omega | (simp; omega)
       intro v8 w8 hown8 hgrow8 hnil hat
       obtain ⟨la8, lc8, rfl⟩ := own_form3 hown8
       have hbb8 : Below w.heap.size wA w8 := ((Below.refl _ wA).alloc HB.out.size _).grown hgrow8 (by simp; omega) (fun g hg => (HO.out.lt g hg).1)
       have HB8 := hid (HB.out.trans hbb8)
       have HO8 := hid hown8
       clear hown8 hgrow8 hbb8 hnil hat
       have HR8 : Hid (w8.ownsRow w.heap.size 3 1 (.slice la8 (k + 1) lc8) (k + 1) (ints (R ++ [c]))) := hid (by rw [ints_app]; exact HO8.out)
       have c8 := HCX.out w8 HB8.out
       have hs8 := HB8.out.size
       have hbk8 := cell_block_lt c8
       clear HO8 c0 hbk
       go_wp2_with (at_builtin; refine wpList_append_own_at _ rfl _ _ 22 rfl w.heap.size 3 i0 (.int .i64 0) 1 8 Tryz.underlying22 hi hz0 hz1 hz2 rfl (by decide) (.slice la8 (k + 1) lc8) (k + 1) _ rfl (HR8.out.alloc _) ⟨w8.heap.size, 0, none⟩ 1 1 [.int .i64 x] rfl rfl (Go.cell_one_new _ _ _) ?qc3 ?qc4 ?qc5 ?qc6 ?_)
       case qc3 => first | rfl | (intro u hu; simp at hu; subst hu; rfl)
       case qc4 => unfold maxLen; omega
       case qc5 => omega
       case qc6 => first | omega | (simp; omega)
       intro v9 w9 hown9 hgrow9 hnil hat
       obtain ⟨la9, lc9, rfl⟩ := own_form3 hown9
       have hbb9 : Below w.heap.size w8 w9 := ((Below.refl _ w8).alloc HB8.out.size _).grown hgrow9 (by simp; omega) (fun g hg => (HR8.out.lt g hg).1)
       have HB9 := hid (HB8.out.trans hbb9)
       have HO9 := hid hown9
       clear hown9 hgrow9 hbb9 hnil hat
       have HR9 : Hid (w9.ownsRow w.heap.size 3 1 (.slice la9 (k + 1 + 1) lc9) (k + 1 + 1) (ints ((R ++ [c]) ++ [x]))) := hid (by rw [ints_app]; exact HO9.out)
       go_wp2_with fail
       go_roundw
       case rel => exact ⟨i + 1, k + 1 + 1, true, _, la9, lc9, by omega, by go_num, rfl, rfl, by omega, (fun h9 => by cases h9), HR9, HB9⟩
       case measure => simp [intOf]; omega
     · skip
       go_wp2_with (at_builtin; refine wpList_append_own_at _ rfl _ _ 22 rfl w.heap.size 3 i0 (.int .i64 0) 1 8 Tryz.underlying22 hi hz0 hz1 hz2 rfl (by decide) (.slice oa k oc) k _ rfl (HO.out.alloc _) ⟨wA.heap.size, 0, none⟩ 1 1 [.int .i64 x] rfl rfl (Go.cell_one_new _ _ _) ?qc3 ?qc4 ?qc5 ?qc6 ?_)
       case qc3 => first | rfl | (intro u hu; simp at hu; subst hu; rfl)
       case qc4 => unfold maxLen; omega
       case qc5 => omega
       case qc6 => first | omega | (simp; omega)
       intro v8 w8 hown8 hgrow8 hnil hat
       obtain ⟨la8, lc8, rfl⟩ := own_form3 hown8
       have hbb8 : Below w.heap.size wA w8 := ((Below.refl _ wA).alloc HB.out.size _).grown hgrow8 (by simp; omega) (fun g hg => (HO.out.lt g hg).1)
       have HB8 := hid (HB.out.trans hbb8)
       have HO8 := hid hown8
       clear hown8 hgrow8 hbb8 hnil hat
       have HR8 : Hid (w8.ownsRow w.heap.size 3 1 (.slice la8 (k + 1) lc8) (k + 1) (ints (R ++ [x]))) := hid (by rw [ints_app]; exact HO8.out)
       go_wp2_with fail
       go_roundw
       case rel => exact ⟨i + 1, k + 1, false, _, la8, lc8, by omega, by go_num, rfl, rfl, by omega, (fun _ => by omega), HR8, HB8⟩
       case measure => simp [intOf]; omega
  · have k9 : ¬ (i : Int) < (n : Int) := by omega
    have HRL := hid HO.out.1
    cases D with
    | true =>
     have hlen : R.length = k := by have h9 := HRL.out; simp [ints] at h9; omega
     have HF : Hid ((∃ v l, Ending.returned (.slice oa k oc) = .returned v ∧ wA.ownsRow w.heap.size 3 1 v l.length (ints l) ∧ l.length ≤ n + 1) ∧ Below w.heap.size w wA) := hid ⟨⟨_, R, rfl, by rw [hlen]; exact HO.out, by omega⟩, HB.out⟩
     clear hlen
     go_wp2_with fail
     go_ret
     exact HF.out
    | false =>
     have hk3 := hk2 rfl
     clear hk2
     go_wp2_with (at_builtin; refine wpList_append_own_at _ rfl _ _ 22 rfl w.heap.size 3 i0 (.int .i64 0) 1 8 Tryz.underlying22 hi hz0 hz1 hz2 rfl (by decide) (.slice oa k oc) k _ rfl (HO.out.alloc _) ⟨wA.heap.size, 0, none⟩ 1 1 [.int .i64 c] rfl rfl (Go.cell_one_new _ _ _) ?qc3 ?qc4 ?qc5 ?qc6 ?_)
     case qc3 => first | rfl | (intro u hu; simp at hu; subst hu; rfl)
     case qc4 => unfold maxLen; omega
     case qc5 => omega
     case qc6 => first | omega | (simp; omega)
     intro v8 w8 hown8 hgrow8 hnil hat
     obtain ⟨la8, lc8, rfl⟩ := own_form3 hown8
     have hbb8 : Below w.heap.size wA w8 := ((Below.refl _ wA).alloc HB.out.size _).grown hgrow8 (by simp; omega) (fun g hg => (HO.out.lt g hg).1)
     have HB8 := hid (HB.out.trans hbb8)
     have HO8 := hid hown8
     clear hown8 hgrow8 hbb8 hnil hat
     have hlen : R.length = k := by have h9 := HRL.out; simp [ints] at h9; omega
     have HF : Hid ((∃ v l, Ending.returned (.slice la8 (k + 1) lc8) = .returned v ∧ w8.ownsRow w.heap.size 3 1 v l.length (ints l) ∧ l.length ≤ n + 1) ∧ Below w.heap.size w w8) := hid ⟨⟨_, R ++ [c], rfl, by rw [List.length_append, hlen, ints_app]; exact HO8.out, by rw [List.length_append, hlen]; simp; omega⟩, HB8.out⟩
     clear hlen
     go_wp2_with fail
     go_ret
     exact HF.out
theorem r14sorted_any (v : Value) (l : List Int) (w : World) (h : Is w v l) (hl : l.length ≤ 100000) :
 Calls Tryz.prog 155 #[v] w (RowPost l.length w) := by
 obtain ⟨va, vc, rfl, hvm⟩ := h.form
 obtain ⟨n, hn⟩ : ∃ n, l.length = n := ⟨_, rfl⟩
 rw [hn] at h hl hvm ⊢
 have HL := hid (fun W (hW : Below w.heap.size w W) => h.keep hW)
 have HN := hid hn
 have O0 : Hid (w.ownsRow w.heap.size 3 1 (.slice none 0 0) 0 (ints [])) := hid (World.ownsRow_nil ..)
 have Z0 : Hid (Below w.heap.size w w) := hid (Below.refl _ _)
 clear h hn
 go_enter Tryz.func155, Tryz.ntmps155
 go_wp2_with fail
 go_loopw [3, 4] (fun ov iv wr => ∃ (i k : Nat) (R : List Int) (oa : Option Addr) (oc : Nat), i ≤ n ∧ iv = .int .i64 i ∧ ov = .slice oa k oc ∧ k ≤ i ∧ Hid (wr.ownsRow w.heap.size 3 1 (.slice oa k oc) k (ints R)) ∧ Hid (Below w.heap.size w wr)) (fun _ iv _ => n - (intOf iv).toNat)
 case atStart => exact ⟨0, 0, [], none, 0, by omega, rfl, rfl, by omega, O0, Z0⟩
 case round =>
  clear O0 Z0
  obtain ⟨i, k, R, oa, oc, hin, rfl, rfl, hk, HO, HB⟩ := hrel
  obtain ⟨wA, hwA⟩ : ∃ W, W = wr := ⟨_, rfl⟩
  subst hwA
  have hsA := HB.out.size
  have HRK : Hid (R.length = k) := hid (by have h9 := HO.out.1; simp [ints] at h9; omega)
  by_cases hil : i < n
  · have hls : i < l.length := by rw [HN.out]; exact hil
    obtain ⟨b, o, e1, c0⟩ := (HL.out wA HB.out).cell i hls
    subst e1
    obtain ⟨x, hx⟩ : ∃ x, l[i] = x := ⟨_, rfl⟩
    rw [hx] at c0
    have d0 : (0 : Int) ≤ (i : Int) := by omega
    have d1 : (i : Int) < (n : Int) := by omega
    have HIR : Hid (Is wA (.slice oa k oc) R) := hid (Sl.of_own HO.out (own_max HO.out))
    have HC := hid (r14with_any (.slice oa k oc) R x wA HIR.out (by rw [HRK.out]; omega))
    clear hx hls
    go_wp2_with fail
    go_at_call 225; refine HC.out.mono ?_; rintro e w2 ⟨⟨v2, R2, rfl, ho2, hl2⟩, b2⟩
    obtain ⟨oa2, oc2, rfl⟩ := own_form3 ho2
    rw [HRK.out] at hl2
    have HB2 := hid (HB.out.trans (b2.mono hsA))
    have HO2 := hid (own_baseB ho2 hsA)
    obtain ⟨k2, hk2⟩ : ∃ k2, R2.length = k2 := ⟨_, rfl⟩
    rw [hk2] at HO2 hl2 ⊢
    clear ho2 b2 hk2 HC
    go_wp2_with fail
    go_roundw
    case rel => exact ⟨i + 1, k2, R2, oa2, oc2, by omega, by go_num, rfl, by omega, HO2, HB2⟩
    case measure => simp [intOf]; omega
  · have k9 : ¬ (i : Int) < (n : Int) := by omega
    have HF : Hid ((∃ v l, Ending.returned (.slice oa k oc) = .returned v ∧ wA.ownsRow w.heap.size 3 1 v l.length (ints l) ∧ l.length ≤ n) ∧ Below w.heap.size w wA) := hid ⟨⟨_, R, rfl, by rw [HRK.out]; exact HO.out, by rw [HRK.out]; omega⟩, HB.out⟩
    go_wp2_with fail
    go_ret
    exact HF.out
end Go.Proofs.YtfcbcpfnaadpeaaGreatDoor
