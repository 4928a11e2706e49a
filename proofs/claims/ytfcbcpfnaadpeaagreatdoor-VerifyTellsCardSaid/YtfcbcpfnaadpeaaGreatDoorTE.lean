/- Parts TeH of this claim, laid one behind the other: walks and the plain laws behind them; each contract states its own conditions. -/
import Derived.Test.YtfcbcpfnaadpeaaGreatDoorTD
import Derived.Test.YtfcbcpfnaadpeaaGreatDoorZA
namespace Go.Proofs.YtfcbcpfnaadpeaaGreatDoor
set_option maxRecDepth 100000
set_option maxHeartbeats 64000000
set_option linter.unusedSimpArgs false
set_option linter.unusedVariables false
open Go.RowKit
def rowN (n : Nat) (f : Nat → Bool) : List Bool := (List.range n).map f
theorem rowN_get {n : Nat} (f : Nat → Bool) {j : Nat} (h : j < n) : (bools (rowN n f)).toArray[j]? = some (.bool (f j)) := by simp [bools, rowN, h]
theorem rowN_set {n : Nat} (f : Nat → Bool) (j : Nat) (x : Bool) : (rowN n f).set j x = rowN n (fun i => if i = j then x else f i) := by
 apply List.ext_getElem?
 intro i
 unfold rowN
 rw [List.getElem?_set]
 simp only [List.length_map, List.length_range, List.getElem?_map]
 by_cases hi : i < n
 · rw [List.getElem?_range hi]
   by_cases hj : j = i
   · subst hj; simp [hi]
   · have hj2 : ¬ i = j := fun e => hj e.symm
     simp [hj, hj2]
 · rw [List.getElem?_eq_none (by simpa using hi)]
   by_cases hj : j = i
   · subst hj; simp [hi]
   · simp [hj]
structure TbB (W : World) (B : Nat) (v : Value) (m n : Nat) (M : Nat → Nat → Bool) (gs : List Nat) : Prop where
 ln : gs.length = m
 nd : gs.Nodup
 own : W.ownsRow B 110 1 v m (gs.map fun g => .slice (some ⟨g, 0, none⟩) n n)
 row : ∀ i, (h : i < gs.length) → W.heap[gs[i]]? = some (.cells (bools (rowN n (M i))).toArray 4 (0, 0))
 ge : ∀ g ∈ gs, B ≤ g
theorem TbB.below {W W' : World} {B m n : Nat} {v : Value} {M : Nat → Nat → Bool} {gs : List Nat} (h : TbB W B v m n M gs) (hb : Below W.heap.size W W') : TbB W' B v m n M gs :=
 ⟨h.ln, h.nd, own_belT h.own hb, fun i hi => (hb.block _ (heap_lt (h.row i hi))).trans (h.row i hi), h.ge⟩
theorem TbB.lt {W : World} {B m n : Nat} {v : Value} {M : Nat → Nat → Bool} {gs : List Nat} (h : TbB W B v m n M gs) : ∀ g ∈ gs, g < W.heap.size := fun g hg => by
 obtain ⟨i, hi, rfl⟩ := List.mem_iff_getElem.1 hg
 exact heap_lt (h.row i hi)
theorem own_typ {w : World} {base N i : Nat} {e t : TypeId} {sz n : Nat} {v x : Value} {xs : List Value} {cs : Array Value} {fr : Nat × Nat} (h : w.ownsRow base e sz v n xs) (hN : w.heap[N]? = some (.cells cs t fr)) (hne : e ≠ t) : (w.setCell ⟨N, i, none⟩ x).ownsRow base e sz v n xs := by
 refine ⟨h.1, ?_⟩
 rcases h.2 with h | ⟨g, cap, cur, rfl, h1, h2, h3⟩
 · exact .inl h
 · refine .inr ⟨g, cap, cur, rfl, h1, (heap_setCell_other _ _ _ _ (fun e => ?_)).trans h2, h3⟩
   dsimp only at e
   subst e
   rw [hN] at h2
   injection h2 with h2
   injection h2 with _ h2
   exact hne h2.symm
theorem TbB.set {W : World} {B m n : Nat} {v : Value} {M : Nat → Nat → Bool} {gs : List Nat} (h : TbB W B v m n M gs) {a : Nat} (ha : a < gs.length) (b : Nat) (x : Bool) :
 TbB (W.setCell ⟨gs[a], b, none⟩ (.bool x)) B v m n (fun i j => if i = a ∧ j = b then x else M i j) gs := by
 refine ⟨h.ln, h.nd, own_typ h.own (h.row a ha) (by decide), fun i hi => ?_, h.ge⟩
 by_cases e : i = a
 · subst e
   have h1 := set_heap (h.row i hi) b (.bool x)
   rw [bools_set, rowN_set] at h1
   simpa using h1
 · have hne : gs[i] ≠ gs[a] := by
    have hp := List.nodup_iff_pairwise_ne.1 h.nd
    rcases Nat.lt_or_gt_of_ne e with h9 | h9
    · exact List.pairwise_iff_getElem.1 hp i a hi ha h9
    · exact fun e2 => List.pairwise_iff_getElem.1 hp a i ha hi h9 e2.symm
   rw [heap_setCell_other _ _ _ _ hne, h.row i hi]
   simp [e]
theorem own_bas {w : World} {base b2 : Nat} {e : TypeId} {sz n : Nat} {v : Value} {xs : List Value} (h : w.ownsRow base e sz v n xs) (hb : b2 ≤ base) : w.ownsRow b2 e sz v n xs := by
 rcases h.2 with ⟨rfl, h0⟩ | ⟨g, cap, cur, rfl, hbg, hr⟩
 · exact ⟨h.1, .inl ⟨rfl, h0⟩⟩
 · exact ⟨h.1, .inr ⟨g, cap, cur, rfl, Nat.le_trans hb hbg, hr⟩⟩
theorem teBInfo : (Tryz.prog.info? 110).map (fun i => (i.zero, i.size, i.bytes)) = some (some (.slice none 0 0), 1, 24) := by kernel_rfl
theorem made_row (n : Nat) : madeCells #[.bool false] n = (bools (rowN n (fun _ => false))).toArray := by
 have h := made_bools (List.replicate n 0)
 rw [List.length_replicate] at h
 rw [h]
 congr 2
 unfold rowN
 rw [List.map_replicate, List.map_const', List.length_range]
theorem TbB.fun {W : World} {B m n : Nat} {v : Value} {M M' : Nat → Nat → Bool} {gs : List Nat} (h : TbB W B v m n M gs) (e : ∀ i j, i < m → j < n → M i j = M' i j) : TbB W B v m n M' gs := by
 refine ⟨h.ln, h.nd, h.own, fun i hi => ?_, h.ge⟩
 rw [h.row i hi]
 congr 3
 unfold bools
 congr 1
 unfold rowN
 exact List.map_congr_left (fun j hj => e i j (by rw [← h.ln]; exact hi) (List.mem_range.1 hj))
def StpPost (w : World) (n : Nat) (M : Nat → Nat → Bool) (e : Ending) (w' : World) : Prop := ∃ v gs, e = .returned v ∧ TbB w' w.heap.size v n n M gs ∧ Below w.heap.size w w'
def midW (lk : Nat → Nat → Bool) (k a b : Nat) (i j : Nat) : Bool := if i < a ∨ (i = a ∧ j < b) then Vt.wk lk (k + 1) i j else Vt.wk lk k i j
theorem midW_col (lk : Nat → Nat → Bool) (k a b i : Nat) : midW lk k a b i k = Vt.wk lk k i k := by unfold midW; split <;> simp [Vt.wk_col]
theorem midW_row (lk : Nat → Nat → Bool) (k a b j : Nat) : midW lk k a b k j = Vt.wk lk k k j := by unfold midW; split <;> simp [Vt.wk_row]
theorem midW_here (lk : Nat → Nat → Bool) (k a b : Nat) : midW lk k a b a b = Vt.wk lk k a b := by unfold midW; rw [if_neg (by omega)]
theorem midW_step (lk : Nat → Nat → Bool) (k a b : Nat) (x : Bool) (hx : x = Vt.wk lk (k + 1) a b) (i j : Nat) : (if i = a ∧ j = b then x else midW lk k a b i j) = midW lk k a (b + 1) i j := by
 unfold midW
 by_cases h : i = a ∧ j = b
 · obtain ⟨rfl, rfl⟩ := h
   rw [if_pos ⟨rfl, rfl⟩, if_pos (by omega), hx]
 · rw [if_neg h]
   by_cases h2 : i < a ∨ (i = a ∧ j < b)
   · rw [if_pos h2, if_pos (by omega)]
   · rw [if_neg h2, if_neg (by omega)]
theorem midW_next (lk : Nat → Nat → Bool) (k a n : Nat) (i j : Nat) (hj : j < n) : midW lk k a n i j = midW lk k (a + 1) 0 i j := by
 unfold midW
 by_cases h : i < a ∨ (i = a ∧ j < n)
 · rw [if_pos h, if_pos (by omega)]
 · rw [if_neg h, if_neg (by omega)]
theorem midW_zero (lk : Nat → Nat → Bool) (k i j : Nat) : midW lk k 0 0 i j = Vt.wk lk k i j := by unfold midW; rw [if_neg (by omega)]
theorem midW_all (lk : Nat → Nat → Bool) (k n : Nat) (i j : Nat) (hi : i < n) : midW lk k n 0 i j = Vt.wk lk (k + 1) i j := by unfold midW; rw [if_pos (by omega)]
theorem Steps_any (s : Si.Site) (kv ov zv av sv rv : Value) (w : World) (h : SiV w kv ov zv av sv rv s) (hk : Si.Ok s) (hn : s.zones.length ≤ 1000) :
 Calls Tryz.prog 72 #[siV s kv ov zv av sv rv] w (StpPost w s.zones.length (Vt.wk (Si.linked s) s.zones.length)) := by
 have HGE := hid (fun (a b : Nat) W (hW : Below w.heap.size w W) (ha : a < s.zones.length) (hb : b < s.zones.length) (hab : a ≠ b) => rGets_in s kv ov zv av sv rv a b W (h.keep hW) hk ha hb hab)
 obtain ⟨a3, c3, rfl, hzm⟩ := h.zn.form
 obtain ⟨n, en⟩ : ∃ n, s.zones.length = n := ⟨_, rfl⟩
 rw [en] at HGE hn hzm ⊢
 unfold siV at HGE ⊢
 unfold StpPost
 have HN := hid en
 obtain ⟨lk, hlk⟩ : ∃ l, Si.linked s = l := ⟨_, rfl⟩
 rw [hlk]
 have HLK : Hid (∀ a b, a ≠ b → Si.nextZ s a b = lk a b) := hid (fun a b hab => by rw [← hlk, Ve.linked_ne hab])
 have HLS : Hid (∀ a, lk a a = false) := hid (fun a => by rw [← hlk, Ve.linked_self])
 have hmb := fun W => make_bools n (n : Int) rfl (by omega) W
 obtain ⟨w1, hw1⟩ : ∃ w1, w1 = w.alloc (.cells #[.int .i64 s.floor.w, .int .i64 s.floor.h, .int .i64 s.floor.d, kv, ov, .slice a3 n c3, av, sv, rv] 30) := ⟨_, rfl⟩
 have B1 : Hid (Below w.heap.size w w1) := hid (by rw [hw1]; exact (Below.refl _ w).alloc (Nat.le_refl _) _)
 have I1 : Hid (w1.heap[w.heap.size]? = some (.cells #[.int .i64 s.floor.w, .int .i64 s.floor.h, .int .i64 s.floor.d, kv, ov, .slice a3 n c3, av, sv, rv] 30 (0, 0))) := hid (by rw [hw1]; exact heap_alloc_new _ _)
 have HW1 := hid hw1
 have s1 : w.heap.size < w1.heap.size := heap_lt I1.out
 obtain ⟨i0, hi, hz0, hz1, hz2⟩ := info_parts teBInfo
 have HT0 : Hid (TbB w1 w1.heap.size (.slice none 0 0) 0 n (Vt.wk lk 0) []) := hid ⟨rfl, List.nodup_nil, World.ownsRow_nil .., fun i hi => by simp at hi, fun g hg => by cases hg⟩
 clear h hk en hlk hw1
 obtain ⟨p0, p1, p2, p3, p4, p5, p6, p7, p8⟩ := cells9 I1.out
 go_enter Tryz.func72, Tryz.ntmps72
 go_upto_region 1 with fail
 rw [← HW1.out]
 go_wp2_with fail
 clear p0 p1 p2 p3 p4 p5 p6 p7 p8
 go_loopw [4, 5] (fun mv iv wr => ∃ (a : Nat) (ma : Option Addr) (mc : Nat) (gs : List Nat), a ≤ n ∧ iv = .int .i64 a ∧ mv = .slice ma a mc ∧ Hid (TbB wr w1.heap.size (.slice ma a mc) a n (Vt.wk lk 0) gs) ∧ Hid (Below w1.heap.size w1 wr)) (fun _ iv _ => n - (intOf iv).toNat)
 case atStart => exact ⟨0, none, 0, [], by omega, rfl, rfl, HT0, hid (Below.refl _ _)⟩
 case round =>
  clear HT0
  obtain ⟨a, ma, mc, gs, ha, rfl, rfl, HT, HB⟩ := hrel
  obtain ⟨wp, hwp⟩ : ∃ W, W = wr := ⟨_, rfl⟩
  subst hwp
  by_cases han : a < n
  · have a1 : (a : Int) < (n : Int) := by omega
    obtain ⟨w2, hw2⟩ : ∃ W, W = wp.alloc (.cells (madeCells #[.bool false] n) 4) := ⟨_, rfl⟩
    have HW2 := hid hw2
    have hb2 : Below wp.heap.size wp w2 := by rw [hw2]; exact (Below.refl _ _).alloc (Nat.le_refl _) _
    have HR0 : Hid (w2.heap[wp.heap.size]? = some (.cells (bools (rowN n (fun j => if j < 0 then Vt.wk lk 0 a j else false))).toArray 4 (0, 0))) := hid (by
     rw [hw2, made_row]; exact heap_alloc_new _ _)
    have HT2 := hid (HT.out.below hb2)
    have HB2 := hid (HB.out.trans (hb2.mono HB.out.size))
    have hs2 : w2.heap.size = wp.heap.size + 1 := by rw [hw2]; simp
    have HGL : Hid (∀ g ∈ gs, g < wp.heap.size) := hid HT.out.lt
    have HSB := hid HB.out.size
    clear hw2 hb2 HT HB
    go_upto_region 7 with fail
    rw [← HW2.out]
    go_wp2_with fail
    go_loopw [7] (fun jv wr => ∃ j : Nat, j ≤ n ∧ jv = .int .i64 j ∧ Hid (wr.heap[wp.heap.size]? = some (.cells (bools (rowN n (fun i => if i < j then Vt.wk lk 0 a i else false))).toArray 4 (0, 0))) ∧ Hid (TbB wr w1.heap.size (.slice ma a mc) a n (Vt.wk lk 0) gs) ∧ Hid (Below w1.heap.size w1 wr)) (fun jv _ => n - (intOf jv).toNat)
    case atStart => exact ⟨0, by omega, rfl, HR0, HT2, HB2⟩
    case round =>
     clear HR0 HT2 HB2
     obtain ⟨j, hj, rfl, HR, HT, HB⟩ := hrel
     obtain ⟨wq, hwq⟩ : ∃ W, W = wr := ⟨_, rfl⟩
     subst hwq
     have lg : wp.heap.size < wq.heap.size := heap_lt HR.out
     by_cases hjn : j < n
     · have j0 : (0 : Int) ≤ (j : Int) := by omega
       have j1 : (j : Int) < (n : Int) := by omega
       have IQ := hid (keep_heap I1.out HB.out)
       have HST : Hid (∀ (W : World) (x : Bool), x = Vt.wk lk 0 a j → W.heap[wp.heap.size]? = some (.cells (bools (rowN n (fun i => if i < j then Vt.wk lk 0 a i else false))).toArray 4 (0, 0)) → (W.setCell ⟨wp.heap.size, j, none⟩ (.bool x)).heap[wp.heap.size]? = some (.cells (bools (rowN n (fun i => if i < j + 1 then Vt.wk lk 0 a i else false))).toArray 4 (0, 0))) := hid (fun W x hx hh => by
        have h1 := set_heap hh j (.bool x)
        rw [bools_set, rowN_set] at h1
        rw [h1]
        congr 5
        funext i
        by_cases e : i = j
        · subst e; rw [if_pos rfl, if_pos (by omega), hx]
        · rw [if_neg e]
          by_cases e2 : i < j
          · rw [if_pos e2, if_pos (by omega)]
          · rw [if_neg e2, if_neg (by omega)])
       have HTS : Hid (∀ (W : World) (x : Bool), TbB W w1.heap.size (.slice ma a mc) a n (Vt.wk lk 0) gs → W.heap[wp.heap.size]? = some (.cells (bools (rowN n (fun i => if i < j then Vt.wk lk 0 a i else false))).toArray 4 (0, 0)) → TbB (W.setCell ⟨wp.heap.size, j, none⟩ (.bool x)) w1.heap.size (.slice ma a mc) a n (Vt.wk lk 0) gs) := hid (fun W x ht hh =>
        ⟨ht.ln, ht.nd, own_typ ht.own hh (by decide), fun i hi => (heap_setCell_other _ _ _ _ (by
         have := HGL.out _ (List.getElem_mem hi)
         show gs[i] ≠ wp.heap.size
         omega)).trans (ht.row i hi), ht.ge⟩)
       have hsb := HSB.out
       by_cases haj : a = j
       · have e0 : ((a : Int) == (j : Int)) = true := by simp [haj]
         have HX : Hid (true = Vt.wk lk 0 a j) := hid (by rw [haj]; exact (Vt.wk_refl lk j 0).symm)
         have fz : wq.frozen? ⟨wp.heap.size, j, none⟩ = false := free_of_heap HR.out j
         have cj : wq.cell? ⟨wp.heap.size, j, none⟩ = some (.bool _) := cell_of_heap HR.out j (rowN_get _ hjn)
         clear haj
         go_wp2_with fail
         go_roundw
         case rel => exact ⟨j + 1, by omega, by go_num, hid (HST.out _ true HX.out HR.out), hid (HTS.out _ true HT.out HR.out), hid (HB.out.setCell hsb _)⟩
         case measure => simp [intOf]; omega
       · have e0 : ((a : Int) == (j : Int)) = false := by simp; omega
         have HCG := hid (HGE.out a j wq (B1.out.trans (HB.out.mono B1.out.size)) han hjn haj)
         obtain ⟨X, hX⟩ : ∃ X, Si.nextZ s a j = X := ⟨_, rfl⟩
         have HX : Hid (X = Vt.wk lk 0 a j) := hid (by rw [← hX, HLK.out a j haj]; unfold Vt.wk; rw [decide_eq_false haj, Bool.false_or])
         rw [hX] at HCG
         clear haj hX
         obtain ⟨p0, p1, p2, p3, p4, p5, p6, p7, p8⟩ := cells9 IQ.out
         go_wp2_with fail
         go_at_call 25; refine HCG.out.mono ?_; rintro e w5 ⟨rfl, b5⟩
         have HR5 := hid (keep_heap HR.out b5)
         have HT5 := hid (HT.out.below b5)
         have HB5 := hid (HB.out.trans (b5.mono HB.out.size))
         have fz : w5.frozen? ⟨wp.heap.size, j, none⟩ = false := free_of_heap HR5.out j
         have cj : w5.cell? ⟨wp.heap.size, j, none⟩ = some (.bool _) := cell_of_heap HR5.out j (rowN_get _ hjn)
         clear b5 p0 p1 p2 p3 p4 p5 p6 p7 p8
         go_wp2_with fail
         go_roundw
         case rel => exact ⟨j + 1, by omega, by go_num, hid (HST.out _ X HX.out HR5.out), hid (HTS.out _ X HT5.out HR5.out), hid (HB5.out.setCell hsb _)⟩
         case measure => simp [intOf]; omega
     · have j9 : ¬ (j : Int) < (n : Int) := by omega
       have HRF : Hid (wq.heap[wp.heap.size]? = some (.cells (bools (rowN n (Vt.wk lk 0 a))).toArray 4 (0, 0))) := hid (by
        rw [HR.out]
        congr 3
        unfold bools
        congr 1
        unfold rowN
        exact List.map_congr_left (fun i hi => by rw [if_pos (by have := List.mem_range.1 hi; omega)]))
       have hsb := HSB.out
       have hsz : w1.heap.size ≤ wq.heap.size := HB.out.size
       have HOW := hid HT.out.own
       clear HR hjn
       go_wp2_with (at_builtin; refine wpList_append_own_at _ rfl _ _ 108 rfl w1.heap.size 110 i0 (.slice none 0 0) 1 24 Tryz.underlying108 hi hz0 hz1 hz2 rfl (by decide) (.slice ma a mc) a _ rfl (HOW.out.alloc _) ⟨wq.heap.size, 0, none⟩ 1 1 [.slice (some ⟨wp.heap.size, 0, none⟩) n n] rfl rfl (Go.cell_one_new _ _ _) ?qc3 ?qc4 ?qc5 ?qc6 ?_)
       case qc3 => first | rfl | (intro u hu; simp at hu; subst hu; rfl)
       case qc4 => unfold maxLen; omega
       case qc5 => omega
       case qc6 => first | omega | (simp; omega)
       intro v' w8 hown hgrow hnil hat
       obtain ⟨qa', qc', rfl⟩ := own_form3 hown
       have hal : Below wq.heap.size wq (wq.alloc (.cells #[.slice (some ⟨wp.heap.size, 0, none⟩) n n] 110)) := (Below.refl _ wq).alloc (Nat.le_refl _) _
       have hbb : Below w1.heap.size wq w8 := ((Below.refl _ wq).alloc hsz _).grown hgrow (by simp; omega) (fun g hg => (HOW.out.lt g hg).1)
       have HKP : Hid (∀ (g : Nat) (cs : Array Value), wq.heap[g]? = some (Obj.cells cs 4 (0, 0)) → w8.heap[g]? = some (Obj.cells cs 4 (0, 0))) := hid (fun g cs hg => by
        have h1 := keep_heap hg hal
        refine (hgrow.block g (heap_lt h1) (fun e => ?_)).trans h1
        rcases (HOW.out.alloc (.cells #[.slice (some ⟨wp.heap.size, 0, none⟩) n n] 110)).2 with ⟨h, -⟩ | ⟨g2, cap, cur, h, -, hh, -⟩
        · rw [h] at e; cases e
        · rw [h] at e
          injection e with e
          dsimp only at e
          subst e
          rw [hh] at h1
          injection h1 with h1
          injection h1 with _ h1
          exact absurd h1 (by decide))
       have HTN : Hid (TbB w8 w1.heap.size (.slice qa' (a + 1) qc') (a + 1) n (Vt.wk lk 0) (gs ++ [wp.heap.size])) := hid (by
        have ht := HT.out
        refine ⟨by rw [List.length_append, ht.ln]; rfl, ?_, by rw [List.map_append]; exact hown, fun i hi => ?_, fun g hg => ?_⟩
        · rw [List.nodup_append]
          refine ⟨ht.nd, by simp, fun x hx y hy => ?_⟩
          rw [List.mem_singleton] at hy
          have := HGL.out x hx
          omega
        · by_cases hia : i < gs.length
          · rw [List.getElem_append_left hia]
            exact HKP.out _ _ (ht.row i hia)
          · have e : i = a := by rw [List.length_append, ht.ln] at hi; rw [ht.ln] at hia; simp at hi; omega
            subst e
            rw [List.getElem_append_right (by rw [ht.ln]; exact Nat.le_refl _)]
            simp only [ht.ln, Nat.sub_self, List.getElem_cons_zero]
            exact HKP.out _ _ HRF.out
        · rcases List.mem_append.1 hg with hg | hg
          · exact ht.ge g hg
          · rw [List.mem_singleton.1 hg]; exact hsb)
       have HBN := hid (HB.out.trans hbb)
       clear hown hgrow hnil hat hal hbb HKP
       go_wp2_with fail
       go_roundw
       case rel => exact ⟨a + 1, qa', qc', gs ++ [wp.heap.size], by omega, by go_num, rfl, HTN, HBN⟩
       case measure => simp [intOf]; omega
  · have a9 : ¬ (a : Int) < (n : Int) := by omega
    have HT1 : Hid (TbB wp w1.heap.size (.slice ma n mc) n n (Vt.wk lk 0) gs) := hid (by
     have e : a = n := by omega
     have h := HT.out
     rw [e] at h
     exact h)
    have HE9 : Hid ((Value.slice ma a mc) = .slice ma n mc) := hid (by rw [show a = n by omega])
    rw [HE9.out]
    clear HT han HE9
    go_wp2_with fail
    go_loopw [8] (fun kv wr => ∃ k : Nat, k ≤ n ∧ kv = .int .i64 k ∧ Hid (TbB wr w1.heap.size (.slice ma n mc) n n (Vt.wk lk k) gs) ∧ Hid (Below w1.heap.size w1 wr)) (fun kv _ => n - (intOf kv).toNat)
    case atStart => exact ⟨0, by omega, rfl, HT1, HB⟩
    case round =>
     clear HT1 HB
     obtain ⟨k, hk, rfl, HT, HB⟩ := hrel
     obtain ⟨wk, hwk⟩ : ∃ W, W = wr := ⟨_, rfl⟩
     subst hwk
     by_cases hkn : k < n
     · have k0 : (0 : Int) ≤ (k : Int) := by omega
       have k1 : (k : Int) < (n : Int) := by omega
       have HT0 : Hid (TbB wk w1.heap.size (.slice ma n mc) n n (midW lk k 0 0) gs) := hid (HT.out.fun (fun i j _ _ => (midW_zero lk k i j).symm))
       clear HT
       go_wp2_with fail
       go_loopw [9] (fun av wr => ∃ a : Nat, a ≤ n ∧ av = .int .i64 a ∧ Hid (TbB wr w1.heap.size (.slice ma n mc) n n (midW lk k a 0) gs) ∧ Hid (Below w1.heap.size w1 wr)) (fun av _ => n - (intOf av).toNat)
       case atStart => exact ⟨0, by omega, rfl, HT0, HB⟩
       case round =>
        clear HT0 HB
        obtain ⟨a', ha', rfl, HT, HB⟩ := hrel
        obtain ⟨wa, hwa⟩ : ∃ W, W = wr := ⟨_, rfl⟩
        subst hwa
        by_cases han : a' < n
        · have a0 : (0 : Int) ≤ (a' : Int) := by omega
          have a1 : (a' : Int) < (n : Int) := by omega
          have HTI := HT
          clear HT
          go_wp2_with fail
          go_loopw [10] (fun bv wr => ∃ b : Nat, b ≤ n ∧ bv = .int .i64 b ∧ Hid (TbB wr w1.heap.size (.slice ma n mc) n n (midW lk k a' b) gs) ∧ Hid (Below w1.heap.size w1 wr)) (fun bv _ => n - (intOf bv).toNat)
          case atStart => exact ⟨0, by omega, rfl, HTI, HB⟩
          case round =>
           clear HTI HB
           obtain ⟨b', hb', rfl, HT, HB⟩ := hrel
           obtain ⟨wb, hwb⟩ : ∃ W, W = wr := ⟨_, rfl⟩
           subst hwb
           by_cases hbn : b' < n
           · have b0 : (0 : Int) ≤ (b' : Int) := by omega
             have b1 : (b' : Int) < (n : Int) := by omega
             have hga : a' < gs.length := by rw [HT.out.ln]; exact han
             have hgk : k < gs.length := by rw [HT.out.ln]; exact hkn
             obtain ⟨mg, mcap, hmv⟩ : ∃ g c, (Value.slice ma n mc) = .slice (some ⟨g, 0, none⟩) n c := by
              rcases HT.out.own.2 with ⟨h, h0⟩ | ⟨g, cap, cur, h, -⟩
              · omega
              · exact ⟨g, cap, h⟩
             injection hmv with hm1 _ hm2
             subst hm1 hm2
             have x0 := (HT.out.own.cellAt a' (by omega)).trans (show (gs.map fun g => Value.slice (some ⟨g, 0, none⟩) n n)[a']? = some (.slice (some ⟨gs[a'], 0, none⟩) n n) by simp [hga])
             have x1 := (HT.out.own.cellAt k (by omega)).trans (show (gs.map fun g => Value.slice (some ⟨g, 0, none⟩) n n)[k]? = some (.slice (some ⟨gs[k], 0, none⟩) n n) by simp [hgk])
             have x2 := cell_of_heap (HT.out.row a' hga) b' (rowN_get _ hbn)
             have x3 := cell_of_heap (HT.out.row a' hga) k (rowN_get _ hkn)
             have x4 := cell_of_heap (HT.out.row k hgk) b' (rowN_get _ hbn)
             have fz : wb.frozen? ⟨gs[a'], b', none⟩ = false := free_of_heap (HT.out.row a' hga) b'
             rw [midW_here] at x2
             rw [midW_col] at x3
             rw [midW_row] at x4
             have HST : Hid (∀ x, x = Vt.wk lk (k + 1) a' b' → TbB (wb.drew.setCell ⟨gs[a'], b', none⟩ (.bool x)) w1.heap.size (.slice (some ⟨mg, 0, none⟩) n mc) n n (midW lk k a' (b' + 1)) gs) := hid (fun x hx =>
              (((HT.out.below (W' := wb.drew) ⟨rfl, rfl, rfl, Nat.le_refl _, fun _ _ => rfl⟩).set hga b' x).fun (fun i j _ _ => midW_step lk k a' b' x hx i j)))
             have hgB : w1.heap.size ≤ gs[a'] := HT.out.ge _ (List.getElem_mem hga)
             have HWK : Hid (Vt.wk lk (k + 1) a' b' = (Vt.wk lk k a' b' || (Vt.wk lk k a' k && Vt.wk lk k k b'))) := hid rfl
             have hmt : mg ≠ gs[a'] := fun e => by
              have h1 := HT.out.row a' hga
              rcases HT.out.own.2 with ⟨h, h0⟩ | ⟨g, cap, cur, h, -, hh, -⟩
              · cases h
              · injection h with h; injection h with h; injection h with h
                subst h
                rw [e] at hh
                rw [hh] at h1
                injection h1 with h1
                injection h1 with _ h1
                exact absurd h1 (by decide)
             have HSV : Hid (∀ x, x = Vt.wk lk (k + 1) a' b' → (wb.drew.setCell ⟨gs[a'], b', none⟩ (.bool x)).cell? ⟨mg, a', none⟩ = some (.slice (some ⟨gs[a'], 0, none⟩) n n) ∧ (wb.drew.setCell ⟨gs[a'], b', none⟩ (.bool x)).cell? ⟨mg, k, none⟩ = some (.slice (some ⟨gs[k], 0, none⟩) n n) ∧ (wb.drew.setCell ⟨gs[a'], b', none⟩ (.bool x)).cell? ⟨gs[a'], k, none⟩ = some (.bool (Vt.wk lk k a' k)) ∧ (wb.drew.setCell ⟨gs[a'], b', none⟩ (.bool x)).cell? ⟨gs[k], b', none⟩ = some (.bool (Vt.wk lk k k b'))) := hid (fun x hx => by
              have ht := ((HT.out.below (W' := wb.drew) ⟨rfl, rfl, rfl, Nat.le_refl _, fun _ _ => rfl⟩).set hga b' x)
              refine ⟨(World.cell?_setCell_far _ _ _ _ (Ne.symm hmt)).trans x0, (World.cell?_setCell_far _ _ _ _ (Ne.symm hmt)).trans x1, ?_, ?_⟩
              · have h1 := cell_of_heap (ht.row a' hga) k (rowN_get _ hkn)
                rw [h1]
                by_cases e : k = b'
                · subst e; rw [if_pos ⟨rfl, rfl⟩, hx, Vt.wk_col]
                · rw [if_neg (fun h => e h.2), midW_col]
              · have h1 := cell_of_heap (ht.row k hgk) b' (rowN_get _ hbn)
                rw [h1]
                by_cases e : k = a'
                · subst e; rw [if_pos ⟨rfl, rfl⟩, hx, Vt.wk_row]
                · rw [if_neg (fun h => e h.1), midW_row])
             obtain ⟨ga, hga2⟩ : ∃ g, gs[a'] = g := ⟨_, rfl⟩
             obtain ⟨gk, hgk2⟩ : ∃ g, gs[k] = g := ⟨_, rfl⟩
             obtain ⟨A, hA⟩ : ∃ x, Vt.wk lk k a' b' = x := ⟨_, rfl⟩
             obtain ⟨C, hC⟩ : ∃ x, Vt.wk lk k a' k = x := ⟨_, rfl⟩
             obtain ⟨D, hD⟩ : ∃ x, Vt.wk lk k k b' = x := ⟨_, rfl⟩
             rw [hga2] at x0 x2 x3 fz HST hgB HSV
             rw [hgk2] at x1 x4 HSV
             rw [hA] at x2 HWK
             rw [hC] at x3 HWK HSV
             rw [hD] at x4 HWK HSV
             have HBD : Hid (Below w1.heap.size w1 wb.drew) := hid (HB.out.trans ⟨rfl, rfl, rfl, Nat.le_refl _, fun _ _ => rfl⟩)
             clear hga hgk hga2 hgk2 hA hC hD hmt
             cases A with
             | true =>
              have HX : Hid (true = Vt.wk lk (k + 1) a' b') := hid (by rw [HWK.out]; rfl)
              go_upto_region 21 with fail
              refine wp_region_held_drew (S := fun W' => W'.cell? ⟨mg, a', none⟩ = some (.slice (some ⟨ga, 0, none⟩) n n) ∧ W'.cell? ⟨mg, k, none⟩ = some (.slice (some ⟨gk, 0, none⟩) n n) ∧ W'.cell? ⟨ga, k, none⟩ = some (.bool C) ∧ W'.cell? ⟨gk, b', none⟩ = some (.bool D)) (by kernel_rfl) ⟨x0, x1, x3, x4⟩ (fun hHeld => ?_)
              have ed : (wb.drew).frozen? ⟨ga, b', none⟩ = false := fz
              have cd : (wb.drew).cell? ⟨ga, b', none⟩ = some (.bool true) := x2
              refine tk 0 ?_
              try simp only [Act.put, zA, zB, zC, zD, zE, zF]
              refine tk 1 ?_
              try simp only [Act.put, zA, zB, zC, zD, zE, zF]
              refine tk 2 ?_
              try simp only [Act.put, zA, zB, zC, zD, zE, zF]
              refine tk 3 ?_
              try simp only [Act.put, zA, zB, zC, zD, zE, zF]
              refine tk 4 ?_
              try simp only [Act.put, zA, zB, zC, zD, zE, zF]
              refine tk 5 ?_
              try simp only [Act.put, zA, zB, zC, zD, zE, zF]
              refine tk 6 ?_
              try simp only [Act.put, zA, zB, zC, zD, zE, zF]
              refine tk 7 ?_
              try simp only [Act.put, zA, zB, zC, zD, zE, zF]
              refine tk 8 ?_
              try simp only [Act.put, zA, zB, zC, zD, zE, zF]
              refine tk 9 ?_
              try simp only [Act.put, zA, zB, zC, zD, zE, zF]
              refine tk 10 ?_
              try simp only [Act.put, zA, zB, zC, zD, zE, zF]
              refine wpAnyH_ready (rs := [11]) (by kernel_rfl) (by simp) ?_
              refine AllReadyH.cons (o := _) rfl (fun K hK => ?_) AllReadyH.nil
              rw [if_pos (by rfl)]
              go_simp
              go_wp2_with fail
              refine hK.out _ _ (by assumption) (fun hHeld2 => ?_)
              clear hK K
              try simp only [Act.put, zA, zB, zC, zD, zE, zF]
              refine tk 12 ?_
              try simp only [Act.put, zA, zB, zC, zD, zE, zF]
              refine tj 13 ?_
              try simp only [Act.put, zA, zB, zC, zD, zE, zF]
              refine tj 14 ?_
              try simp only [Act.put, zA, zB, zC, zD, zE, zF]
              refine tj 15 ?_
              try simp only [Act.put, zA, zB, zC, zD, zE, zF]
              refine tj 16 ?_
              try simp only [Act.put, zA, zB, zC, zD, zE, zF]
              refine tj 17 ?_
              try simp only [Act.put, zA, zB, zC, zD, zE, zF]
              refine tj 18 ?_
              try simp only [Act.put, zA, zB, zC, zD, zE, zF]
              refine tj 19 ?_
              try simp only [Act.put, zA, zB, zC, zD, zE, zF]
              refine tj 20 ?_
              try simp only [Act.put, zA, zB, zC, zD, zE, zF]
              refine tj 21 ?_
              try simp only [Act.put, zA, zB, zC, zD, zE, zF]
              refine tj 22 ?_
              try simp only [Act.put, zA, zB, zC, zD, zE, zF]
              refine tj 23 ?_
              try simp only [Act.put, zA, zB, zC, zD, zE, zF]
              refine tj 24 ?_
              try simp only [Act.put, zA, zB, zC, zD, zE, zF]
              refine tj 25 ?_
              try simp only [Act.put, zA, zB, zC, zD, zE, zF]
              refine tj 26 ?_
              try simp only [Act.put, zA, zB, zC, zD, zE, zF]
              refine tj 27 ?_
              try simp only [Act.put, zA, zB, zC, zD, zE, zF]
              refine tj 28 ?_
              try simp only [Act.put, zA, zB, zC, zD, zE, zF]
              refine tk 29 ?_
              try simp only [Act.put, zA, zB, zC, zD, zE, zF]
              refine tk 30 ?_
              try simp only [Act.put, zA, zB, zC, zD, zE, zF]
              refine wpAnyH_ready (rs := [31]) (by kernel_rfl) (by simp) ?_
              refine AllReadyH.cons (o := _) rfl (fun K hK => ?_) AllReadyH.nil
              rw [if_pos (by rfl)]
              go_simp
              go_wp2_with fail
              refine hK.out _ _ (HSV.out true HX.out) (fun hHeld3 => ?_)
              clear hHeld3
              clear hK K
              try simp only [Act.put, zA, zB, zC, zD, zE, zF]
              refine wpAnyH_done (by kernel_rfl) ?_ _
              go_wp2_with fail
              go_roundw
              case rel => exact ⟨b' + 1, by omega, by go_num, hid (HST.out true HX.out), hid (HBD.out.setCell hgB _)⟩
              case measure => simp [intOf]; omega
             | false =>
              cases C with
              | false =>
               have HX : Hid (false = Vt.wk lk (k + 1) a' b') := hid (by rw [HWK.out]; rfl)
               go_upto_region 21 with fail
               refine wp_region_held_drew (S := fun W' => W'.cell? ⟨mg, a', none⟩ = some (.slice (some ⟨ga, 0, none⟩) n n) ∧ W'.cell? ⟨mg, k, none⟩ = some (.slice (some ⟨gk, 0, none⟩) n n) ∧ W'.cell? ⟨ga, k, none⟩ = some (.bool false) ∧ W'.cell? ⟨gk, b', none⟩ = some (.bool D)) (by kernel_rfl) ⟨x0, x1, x3, x4⟩ (fun hHeld => ?_)
               have ed : (wb.drew).frozen? ⟨ga, b', none⟩ = false := fz
               have cd : (wb.drew).cell? ⟨ga, b', none⟩ = some (.bool false) := x2
               refine tk 0 ?_
               try simp only [Act.put, zA, zB, zC, zD, zE, zF]
               refine tk 1 ?_
               try simp only [Act.put, zA, zB, zC, zD, zE, zF]
               refine tk 2 ?_
               try simp only [Act.put, zA, zB, zC, zD, zE, zF]
               refine tk 3 ?_
               try simp only [Act.put, zA, zB, zC, zD, zE, zF]
               refine tk 4 ?_
               try simp only [Act.put, zA, zB, zC, zD, zE, zF]
               refine tk 5 ?_
               try simp only [Act.put, zA, zB, zC, zD, zE, zF]
               refine tk 6 ?_
               try simp only [Act.put, zA, zB, zC, zD, zE, zF]
               refine tk 7 ?_
               try simp only [Act.put, zA, zB, zC, zD, zE, zF]
               refine tk 8 ?_
               try simp only [Act.put, zA, zB, zC, zD, zE, zF]
               refine tk 9 ?_
               try simp only [Act.put, zA, zB, zC, zD, zE, zF]
               refine tk 10 ?_
               try simp only [Act.put, zA, zB, zC, zD, zE, zF]
               refine wpAnyH_ready (rs := [11]) (by kernel_rfl) (by simp) ?_
               refine AllReadyH.cons (o := _) rfl (fun K hK => ?_) AllReadyH.nil
               rw [if_pos (by rfl)]
               go_simp
               go_wp2_with fail
               refine hK.out _ _ (by assumption) (fun hHeld2 => ?_)
               clear hK K
               try simp only [Act.put, zA, zB, zC, zD, zE, zF]
               refine tk 12 ?_
               try simp only [Act.put, zA, zB, zC, zD, zE, zF]
               refine tk 13 ?_
               try simp only [Act.put, zA, zB, zC, zD, zE, zF]
               refine tk 14 ?_
               try simp only [Act.put, zA, zB, zC, zD, zE, zF]
               refine tk 15 ?_
               try simp only [Act.put, zA, zB, zC, zD, zE, zF]
               refine tk 16 ?_
               try simp only [Act.put, zA, zB, zC, zD, zE, zF]
               refine tk 17 ?_
               try simp only [Act.put, zA, zB, zC, zD, zE, zF]
               refine tk 18 ?_
               try simp only [Act.put, zA, zB, zC, zD, zE, zF]
               refine tk 19 ?_
               try simp only [Act.put, zA, zB, zC, zD, zE, zF]
               refine tk 20 ?_
               try simp only [Act.put, zA, zB, zC, zD, zE, zF]
               refine tj 21 ?_
               try simp only [Act.put, zA, zB, zC, zD, zE, zF]
               refine tj 22 ?_
               try simp only [Act.put, zA, zB, zC, zD, zE, zF]
               refine tj 23 ?_
               try simp only [Act.put, zA, zB, zC, zD, zE, zF]
               refine tj 24 ?_
               try simp only [Act.put, zA, zB, zC, zD, zE, zF]
               refine tj 25 ?_
               try simp only [Act.put, zA, zB, zC, zD, zE, zF]
               refine tj 26 ?_
               try simp only [Act.put, zA, zB, zC, zD, zE, zF]
               refine tj 27 ?_
               try simp only [Act.put, zA, zB, zC, zD, zE, zF]
               refine tk 28 ?_
               try simp only [Act.put, zA, zB, zC, zD, zE, zF]
               refine tk 29 ?_
               try simp only [Act.put, zA, zB, zC, zD, zE, zF]
               refine tk 30 ?_
               try simp only [Act.put, zA, zB, zC, zD, zE, zF]
               refine wpAnyH_ready (rs := [31]) (by kernel_rfl) (by simp) ?_
               refine AllReadyH.cons (o := _) rfl (fun K hK => ?_) AllReadyH.nil
               rw [if_pos (by rfl)]
               go_simp
               go_wp2_with fail
               refine hK.out _ _ (HSV.out false HX.out) (fun hHeld3 => ?_)
               clear hHeld3
               clear hK K
               try simp only [Act.put, zA, zB, zC, zD, zE, zF]
               refine wpAnyH_done (by kernel_rfl) ?_ _
               go_wp2_with fail
               go_roundw
               case rel => exact ⟨b' + 1, by omega, by go_num, hid (HST.out false HX.out), hid (HBD.out.setCell hgB _)⟩
               case measure => simp [intOf]; omega
              | true =>
               have HX : Hid (D = Vt.wk lk (k + 1) a' b') := hid (by rw [HWK.out]; simp)
               go_upto_region 21 with fail
               refine wp_region_held_drew (S := fun W' => W'.cell? ⟨mg, a', none⟩ = some (.slice (some ⟨ga, 0, none⟩) n n) ∧ W'.cell? ⟨mg, k, none⟩ = some (.slice (some ⟨gk, 0, none⟩) n n) ∧ W'.cell? ⟨ga, k, none⟩ = some (.bool true) ∧ W'.cell? ⟨gk, b', none⟩ = some (.bool D)) (by kernel_rfl) ⟨x0, x1, x3, x4⟩ (fun hHeld => ?_)
               have ed : (wb.drew).frozen? ⟨ga, b', none⟩ = false := fz
               have cd : (wb.drew).cell? ⟨ga, b', none⟩ = some (.bool false) := x2
               refine tk 0 ?_
               try simp only [Act.put, zA, zB, zC, zD, zE, zF]
               refine tk 1 ?_
               try simp only [Act.put, zA, zB, zC, zD, zE, zF]
               refine tk 2 ?_
               try simp only [Act.put, zA, zB, zC, zD, zE, zF]
               refine tk 3 ?_
               try simp only [Act.put, zA, zB, zC, zD, zE, zF]
               refine tk 4 ?_
               try simp only [Act.put, zA, zB, zC, zD, zE, zF]
               refine tk 5 ?_
               try simp only [Act.put, zA, zB, zC, zD, zE, zF]
               refine tk 6 ?_
               try simp only [Act.put, zA, zB, zC, zD, zE, zF]
               refine tk 7 ?_
               try simp only [Act.put, zA, zB, zC, zD, zE, zF]
               refine tk 8 ?_
               try simp only [Act.put, zA, zB, zC, zD, zE, zF]
               refine tk 9 ?_
               try simp only [Act.put, zA, zB, zC, zD, zE, zF]
               refine tk 10 ?_
               try simp only [Act.put, zA, zB, zC, zD, zE, zF]
               refine wpAnyH_ready (rs := [11]) (by kernel_rfl) (by simp) ?_
               refine AllReadyH.cons (o := _) rfl (fun K hK => ?_) AllReadyH.nil
               rw [if_pos (by rfl)]
               go_simp
               go_wp2_with fail
               refine hK.out _ _ (by assumption) (fun hHeld2 => ?_)
               clear hK K
               try simp only [Act.put, zA, zB, zC, zD, zE, zF]
               refine tk 12 ?_
               try simp only [Act.put, zA, zB, zC, zD, zE, zF]
               refine tk 13 ?_
               try simp only [Act.put, zA, zB, zC, zD, zE, zF]
               refine tk 14 ?_
               try simp only [Act.put, zA, zB, zC, zD, zE, zF]
               refine tk 15 ?_
               try simp only [Act.put, zA, zB, zC, zD, zE, zF]
               refine tk 16 ?_
               try simp only [Act.put, zA, zB, zC, zD, zE, zF]
               refine tk 17 ?_
               try simp only [Act.put, zA, zB, zC, zD, zE, zF]
               refine tk 18 ?_
               try simp only [Act.put, zA, zB, zC, zD, zE, zF]
               refine tk 19 ?_
               try simp only [Act.put, zA, zB, zC, zD, zE, zF]
               refine tk 20 ?_
               try simp only [Act.put, zA, zB, zC, zD, zE, zF]
               refine tk 21 ?_
               try simp only [Act.put, zA, zB, zC, zD, zE, zF]
               refine tk 22 ?_
               try simp only [Act.put, zA, zB, zC, zD, zE, zF]
               refine tk 23 ?_
               try simp only [Act.put, zA, zB, zC, zD, zE, zF]
               refine tk 24 ?_
               try simp only [Act.put, zA, zB, zC, zD, zE, zF]
               refine tk 25 ?_
               try simp only [Act.put, zA, zB, zC, zD, zE, zF]
               refine tk 26 ?_
               try simp only [Act.put, zA, zB, zC, zD, zE, zF]
               refine tk 27 ?_
               try simp only [Act.put, zA, zB, zC, zD, zE, zF]
               refine tk 28 ?_
               try simp only [Act.put, zA, zB, zC, zD, zE, zF]
               refine tk 29 ?_
               try simp only [Act.put, zA, zB, zC, zD, zE, zF]
               refine tk 30 ?_
               try simp only [Act.put, zA, zB, zC, zD, zE, zF]
               refine wpAnyH_ready (rs := [31]) (by kernel_rfl) (by simp) ?_
               refine AllReadyH.cons (o := _) rfl (fun K hK => ?_) AllReadyH.nil
               rw [if_pos (by rfl)]
               go_simp
               go_wp2_with fail
               refine hK.out _ _ (HSV.out D HX.out) (fun hHeld3 => ?_)
               clear hHeld3
               clear hK K
               try simp only [Act.put, zA, zB, zC, zD, zE, zF]
               refine wpAnyH_done (by kernel_rfl) ?_ _
               go_wp2_with fail
               go_roundw
               case rel => exact ⟨b' + 1, by omega, by go_num, hid (HST.out D HX.out), hid (HBD.out.setCell hgB _)⟩
               case measure => simp [intOf]; omega
           · have b9 : ¬ (b' : Int) < (n : Int) := by omega
             have HTN : Hid (TbB wb w1.heap.size (.slice ma n mc) n n (midW lk k (a' + 1) 0) gs) := hid (by
              have e : b' = n := by omega
              have h := HT.out
              rw [e] at h
              exact h.fun (fun i j _ hj => midW_next lk k a' n i j hj))
             clear HT hbn
             go_wp2_with fail
             go_roundw
             case rel => exact ⟨a' + 1, by omega, by go_num, HTN, HB⟩
             case measure => simp [intOf]; omega
        · have a9 : ¬ (a' : Int) < (n : Int) := by omega
          have HTN : Hid (TbB wa w1.heap.size (.slice ma n mc) n n (Vt.wk lk (k + 1)) gs) := hid (by
           have e : a' = n := by omega
           have h := HT.out
           rw [e] at h
           exact h.fun (fun i j hi _ => midW_all lk k n i j hi))
          clear HT han
          go_wp2_with fail
          go_roundw
          case rel => exact ⟨k + 1, by omega, by go_num, HTN, HB⟩
          case measure => simp [intOf]; omega
     · have k9 : ¬ (k : Int) < (n : Int) := by omega
       have HTN : Hid (TbB wk w1.heap.size (.slice ma n mc) n n (Vt.wk lk n) gs) := hid (by
        have e : k = n := by omega
        have h := HT.out
        rw [e] at h
        exact h)
       clear HT hkn
       go_wp2_with fail
       go_ret
       exact ⟨_, rfl, ⟨gs, HTN.out.ln, HTN.out.nd, own_bas HTN.out.own (by omega), HTN.out.row, fun g hg => Nat.le_trans (by omega) (HTN.out.ge g hg)⟩, B1.out.trans (HB.out.mono B1.out.size)⟩
end Go.Proofs.YtfcbcpfnaadpeaaGreatDoor
