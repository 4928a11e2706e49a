/- Parts Pu, Pv, Pz, Pf of this claim, laid one behind the other: walks and the plain laws behind them; each contract states its own conditions. -/
import Derived.Test.YtfcbcpfnaadpeaaGreatDoorMI
namespace Go.Proofs.YtfcbcpfnaadpeaaGreatDoor
set_option maxRecDepth 100000
set_option maxHeartbeats 64000000
set_option linter.unusedSimpArgs false
set_option linter.unusedVariables false
open Go.RowKit
theorem sub_bits (x v : Nat) (hx : x < 18446744073709551616) (hv : v < 18446744073709551616) : (bits .andNot .u64 (x : Int) (v : Int) == 0) = Pt.subB x v := by
 obtain ⟨A, hA⟩ : ∃ A : BitVec 64, A = BitVec.ofNat 64 x := ⟨_, rfl⟩
 obtain ⟨B, hB⟩ : ∃ B : BitVec 64, B = BitVec.ofNat 64 v := ⟨_, rfl⟩
 have h1 : A.toNat = x := by rw [hA, BitVec.toNat_ofNat]; exact Nat.mod_eq_of_lt (by omega)
 have h2 : B.toNat = v := by rw [hB, BitVec.toNat_ofNat]; exact Nat.mod_eq_of_lt (by omega)
 have e : bits .andNot .u64 (x : Int) (v : Int) = ((A &&& ~~~B).toNat : Int) := by
  have h3 := (A &&& ~~~B).isLt
  show IntKind.u64.wrap ((BitVec.ofInt 64 (x : Int) &&& ~~~ BitVec.ofInt 64 (v : Int)).toNat : Int) = _
  rw [BitVec.ofInt_natCast, BitVec.ofInt_natCast, ← hA, ← hB, IntKind.wrap_u64]
  omega
 rw [e]
 have key : (A &&& ~~~B).toNat = 0 ↔ x &&& v = x := by
  have k1 : (A &&& B).toNat = x &&& v := by rw [BitVec.toNat_and, h1, h2]
  have k2 : A &&& B = A ↔ x &&& v = x := by
   constructor
   · intro h; rw [← k1, h, h1]
   · intro h; exact BitVec.eq_of_toNat_eq (by rw [k1, h, h1])
  rw [← k2]
  constructor
  · intro h
    have h0 : A &&& ~~~B = 0#64 := BitVec.eq_of_toNat_eq (by simpa using h)
    apply BitVec.eq_of_getLsbD_eq
    intro i hi
    have := congrArg (fun z : BitVec 64 => z.getLsbD i) h0
    simp [hi] at this
    cases ha : A.getLsbD i
    · simp [ha]
    · have hb := this ha
      have hb2 : B.getLsbD i = true := by rw [BitVec.getLsbD_eq_getElem hi]; exact hb
      simp [ha, hb2]
  · intro h
    have h0 : A &&& ~~~B = 0#64 := by
     rw [← h]
     apply BitVec.eq_of_getLsbD_eq
     intro i hi
     simp [hi]
    rw [h0]; rfl
 unfold Pt.subB
 by_cases h : x &&& v = x
 · rw [decide_eq_true h, key.2 h]; rfl
 · rw [decide_eq_false h]
   obtain ⟨z, hz⟩ : ∃ z, (A &&& ~~~B).toNat = z := ⟨_, rfl⟩
   rw [hz] at key ⊢
   have : z ≠ 0 := fun h2 => h (key.1 h2)
   show decide ((z : Int) = 0) = false
   exact decide_eq_false (by omega)
theorem sub_any (x pb po v : Nat) (w : World) (hx : x < 18446744073709551616) (hv : v < 18446744073709551616) (hc : w.cell? ⟨pb, po, none⟩ = some (.int .u64 v)) :
 Calls Tryz.prog 63 #[.int .u64 x, .pointer (some ⟨pb, po, none⟩)] w fun e w' => e = .returned (.bool (Pt.subB x v)) ∧ w = w' := by
 rw [← sub_bits x v hx hv]
 clear hx hv
 go_enter Tryz.func63, Tryz.ntmps63
 go_wp2_with fail
 go_ret
 exact ⟨rfl, rfl⟩
def hurts (v : Nat) (e : Nat × Nat) : Bool := decide (e.1 &&& v ≠ 0) && decide (e.2 &&& v = 0)
theorem hurts_any (a b pb po v : Nat) (w : World) (ha : a < 18446744073709551616) (hb : b < 18446744073709551616) (hv : v < 18446744073709551616) (hc : w.cell? ⟨pb, po, none⟩ = some (.int .u64 v)) (hpb : pb < w.heap.size) :
 Calls Tryz.prog 147 #[.agg #[.int .u64 a, .int .u64 b], .pointer (some ⟨pb, po, none⟩)] w fun e w' => e = .returned (.bool (hurts v (a, b))) ∧ Up w w' := by
 obtain ⟨r, hr⟩ : ∃ r, hurts v (a, b) = r := ⟨_, rfl⟩
 rw [hr]
 unfold hurts at hr
 have k1 := u64_and a v ha hv
 have k2 := u64_and b v hb hv
 obtain ⟨p, hp⟩ : ∃ p, a &&& v = p := ⟨_, rfl⟩
 obtain ⟨q, hq⟩ : ∃ q, b &&& v = q := ⟨_, rfl⟩
 dsimp only at hr
 rw [hp, hq] at hr
 rw [hp] at k1
 rw [hq] at k2
 have HR := hid hr
 clear hr hp hq ha hb hv
 go_enter Tryz.func147, Tryz.ntmps147
 by_cases hp0 : p = 0
 · have e1 : ((p : Int) != 0) = false := by simp [hp0]
   have HF : Hid (r = false) := hid (by rw [← HR.out]; simp [hp0])
   clear hp0
   go_wp2_with fail
   go_ret
   exact ⟨by rw [HF.out]; rfl, (Up.refl w).alloc _⟩
 · have e1 : ((p : Int) != 0) = true := by simp; omega
   have HF : Hid (r = ((q : Int) == 0)) := hid (by
    rw [← HR.out]
    rw [decide_eq_true (show p ≠ 0 from hp0), Bool.true_and]
    by_cases hq0 : q = 0
    · simp [hq0]
    · rw [decide_eq_false hq0]; simp; omega)
   clear hp0
   go_wp2_with fail
   go_ret
   exact ⟨by rw [HF.out]; rfl, (Up.refl w).alloc _⟩
def edgeRows (l : List (Nat × Nat)) : List (List Value) := l.map fun e => [Value.int .u64 (e.1 : Int), .int .u64 (e.2 : Int)]
def Es (w : World) (v : Value) (l : List (Nat × Nat)) : Prop := Rw w v 2 (edgeRows l)
theorem edgeRows_len (l : List (Nat × Nat)) : (edgeRows l).length = l.length := by simp [edgeRows]
theorem Es.form {w : World} {v : Value} {l : List (Nat × Nat)} (h : Es w v l) : ∃ a cap, v = .slice a l.length cap ∧ l.length ≤ 9223372036854775807 := by
 obtain ⟨a, c, h1, h2⟩ := Rw.form h
 rw [edgeRows_len] at h1 h2
 exact ⟨a, c, h1, h2⟩
theorem Es.cell {w : World} {a : Option Addr} {n cap : Nat} {l : List (Nat × Nat)} (h : Es w (.slice a n cap) l) (i : Nat) (hi : i < l.length) : ∃ b off, a = some ⟨b, off, none⟩ ∧ b < w.heap.size ∧ w.cell? ⟨b, off + i * 2, none⟩ = some (.int .u64 (l[i].1 : Int)) ∧ w.cell? ⟨b, off + i * 2 + 1, none⟩ = some (.int .u64 (l[i].2 : Int)) := by
 obtain ⟨b, off, h1, h2, h3⟩ := Rw.cell h i (by rw [edgeRows_len]; exact hi)
 refine ⟨b, off, h1, h2, ?_, ?_⟩
 · rw [show off + i * 2 = off + i * 2 + 0 by rfl, h3 0 (by omega)]; simp [edgeRows]
 · rw [h3 1 (by omega)]; simp [edgeRows]
theorem any_drop {α : Type} {p : α → Bool} {l : List α} {k : Nat} (hk : k < l.length) : (l.drop k).any p = (p l[k] || (l.drop (k + 1)).any p) := by
 rw [List.drop_eq_getElem_cons hk, List.any_cons]
theorem index_any (v : Value) (l : List (Nat × Nat)) (pb po c : Nat) (w : World) (hl : ∀ e ∈ l, e.1 < 18446744073709551616 ∧ e.2 < 18446744073709551616) (hc : c < 18446744073709551616) (h : Es w v l) (hp : w.cell? ⟨pb, po, none⟩ = some (.int .u64 c)) :
 Calls Tryz.prog 219 #[v, .func (.func 147) #[] #[.pointer (some ⟨pb, po, none⟩)]] w fun e w' => (∃ r : Int, e = .returned (.int .i64 r) ∧ decide (0 ≤ r) = l.any (hurts c)) ∧ Up w w' := by
 obtain ⟨a, cap, rfl, hm⟩ := h.form
 have hpb : pb < w.heap.size := cell_block_lt hp
 have H := hid h
 have HL := hid hl
 have HP := hid hp
 obtain ⟨R, hR⟩ : ∃ R, l.any (hurts c) = R := ⟨_, rfl⟩
 have HR : Hid ((l.drop 0).any (hurts c) = R) := hid hR
 rw [hR]
 obtain ⟨n, hn⟩ : ∃ n, l.length = n := ⟨_, rfl⟩
 rw [hn] at hm H ⊢
 have HN := hid hn
 clear h hl hp hR hn
 go_enter Tryz.func219, Tryz.ntmps219
 go_wp2_with fail
 go_loopw [8] (fun iv wr => ∃ (k : Nat), k ≤ n ∧ iv = .int .i64 k ∧ Hid ((l.drop k).any (hurts c) = R) ∧ Hid (Up w wr)) (fun iv _ => n - (intOf iv).toNat)
 case atStart => exact ⟨0, by omega, rfl, HR, hid (Up.refl w)⟩
 case round =>
  obtain ⟨k, hk, rfl, HK, HU⟩ := hrel
  by_cases hkn : k < n
  · have hkl : k < l.length := by rw [HN.out]; exact hkn
    obtain ⟨b, off, e1, hbl, c1, c2⟩ := H.out.cell k hkl
    subst e1
    obtain ⟨l1, l2⟩ := HL.out _ (List.getElem_mem hkl)
    have hd := any_drop (p := hurts c) hkl
    rw [HK.out] at hd
    obtain ⟨x, hx⟩ : ∃ x, l[k] = x := ⟨_, rfl⟩
    rw [hx] at c1 c2 l1 l2 hd
    obtain ⟨x1, x2⟩ := x
    dsimp only at c1 c2 l1 l2
    rw [← HU.out.1.cell (p := ⟨b, off + k * 2, none⟩) hbl] at c1
    rw [← HU.out.1.cell (p := ⟨b, off + k * 2 + 1, none⟩) hbl] at c2
    have hpr : wr.cell? ⟨pb, po, none⟩ = some (.int .u64 c) := by rw [HU.out.1.cell (p := ⟨pb, po, none⟩) hpb]; exact HP.out
    have HC := hid (hurts_any x1 x2 pb po c wr l1 l2 hc hpr (cell_block_lt hpr))
    obtain ⟨z, hz⟩ : ∃ z, hurts c (x1, x2) = z := ⟨_, rfl⟩
    rw [hz] at HC hd
    have HD := hid hd
    have k1 : (k : Int) < (n : Int) := by omega
    have k0 : (0 : Int) ≤ (k : Int) := by omega
    clear hd hz hx l1 l2 hpr
    cases z
    · go_wp2_with fail
      go_at_call 147; refine HC.out.mono ?_; rintro e w3 ⟨rfl, hu3⟩
      have HU3 := hid (HU.out.trans hu3)
      clear hu3
      go_wp2_with fail
      go_roundw
      case rel => exact ⟨k + 1, by omega, by go_num, hid (by have := HD.out; rw [Bool.false_or] at this; exact this.symm), HU3⟩
      case measure => simp [intOf]; omega
    · go_wp2_with fail
      go_at_call 147; refine HC.out.mono ?_; rintro e w3 ⟨rfl, hu3⟩
      have HU3 := hid (HU.out.trans hu3)
      clear hu3
      go_wp2_with fail
      go_ret
      exact ⟨⟨(k : Int), rfl, by rw [HD.out, Bool.true_or]; simp⟩, HU3.out⟩
  · have HF : Hid (false = R) := hid (by
     rw [← HK.out, List.drop_eq_nil_of_le (by rw [HN.out]; omega)]; rfl)
    go_wp2_with fail
    go_ret
    exact ⟨⟨-1, rfl, by rw [← HF.out]; rfl⟩, HU.out⟩
theorem contains_any (v : Value) (l : List (Nat × Nat)) (pb po c : Nat) (w : World) (hl : ∀ e ∈ l, e.1 < 18446744073709551616 ∧ e.2 < 18446744073709551616) (hc : c < 18446744073709551616) (h : Es w v l) (hp : w.cell? ⟨pb, po, none⟩ = some (.int .u64 c)) :
 Calls Tryz.prog 146 #[v, .func (.func 147) #[] #[.pointer (some ⟨pb, po, none⟩)]] w fun e w' => e = .returned (.bool (l.any (hurts c))) ∧ Up w w' := by
 have HT := hid (index_any v l pb po c w hl hc h hp)
 obtain ⟨a, cap, rfl, hm⟩ := h.form
 obtain ⟨R, hR⟩ : ∃ R, l.any (hurts c) = R := ⟨_, rfl⟩
 rw [hR] at HT ⊢
 clear hl h hp hR
 go_enter Tryz.func146, Tryz.ntmps146
 go_wp2_with fail
 go_at_call 219; refine HT.out.mono ?_; rintro e w3 ⟨⟨r, rfl, hr⟩, hu⟩
 have HR := hid hr
 have HU := hid hu
 clear hr hu
 go_wp2_with fail
 go_ret
 exact ⟨by rw [← HR.out]; rfl, HU.out⟩
theorem closed_any (v : Value) (l : List (Nat × Nat)) (c : Nat) (w : World) (hl : ∀ e ∈ l, e.1 < 18446744073709551616 ∧ e.2 < 18446744073709551616) (hc : c < 18446744073709551616) (h : Es w v l) :
 Calls Tryz.prog 64 #[v, .int .u64 c] w fun e w' => e = .returned (.bool (Pt.closedW l c)) ∧ Up w w' := by
 obtain ⟨a, cap, rfl, hm⟩ := h.form
 have HL := hid hl
 have H := hid h
 obtain ⟨R, hR⟩ : ∃ R, Pt.closedW l c = R := ⟨_, rfl⟩
 rw [hR]
 unfold Pt.closedW at hR
 have HR : Hid ((decide (c ≠ 0) && !l.any (hurts c)) = R) := hid hR
 clear hl h hR
 go_enter Tryz.func64, Tryz.ntmps64
 by_cases hc0 : c = 0
 · have e1 : ((c : Int) != 0) = false := by simp [hc0]
   have HF : Hid (R = false) := hid (by rw [← HR.out]; simp [hc0])
   clear hc0
   go_wp2_with fail
   go_ret
   exact ⟨by rw [HF.out]; rfl, (Up.refl w).alloc _⟩
 · have e1 : ((c : Int) != 0) = true := by simp; omega
   have HF : Hid (R = !l.any (hurts c)) := hid (by rw [← HR.out, decide_eq_true (show c ≠ 0 from hc0), Bool.true_and])
   clear hc0
   go_wp2_with fail
   go_at_call 146; refine (contains_any _ l _ 0 c _ HL.out hc (Rw.keep H.out ((Up.refl w).alloc _).1) (cell_of_heap (heap_alloc_new _ _) 0 rfl)).mono ?_; rintro e w3 ⟨rfl, hu⟩
   have HU := hid (((Up.refl w).alloc _).trans hu)
   clear hu
   obtain ⟨z, hz⟩ : ∃ z, l.any (hurts c) = z := ⟨_, rfl⟩
   rw [hz] at HF ⊢
   clear hz
   go_wp2_with fail
   go_ret
   exact ⟨by rw [HF.out]; rfl, HU.out⟩
theorem Tryz.edgeInfo : (Tryz.prog.info? 182).map (fun i => (i.zero, i.size, i.bytes)) = some (some (.agg #[.int .u64 0, .int .u64 0]), 2, 16) := by kernel_rfl
def edgeOf (t : List Int × List Int) : Nat × Nat := (Si.wordI t.2, Si.wordI t.1)
theorem edgeRows_app (l : List (Nat × Nat)) (x : Nat × Nat) : (edgeRows (l ++ [x])).flatten = (edgeRows l).flatten ++ [.int .u64 (x.1 : Int), .int .u64 (x.2 : Int)] := by simp [edgeRows]
theorem wordI_lt {l : List Int} (h : ∀ p ∈ l, 0 ≤ p ∧ p < 64) : Si.wordI l < 18446744073709551616 := by
 unfold Si.wordI
 induction l with
 | nil => rw [List.map_nil, Pt.wordL]; omega
 | cons a l ih =>
  rw [List.map_cons, Pt.wordL]
  have h1 := ih fun p hp => h p (List.mem_cons_of_mem _ hp)
  obtain ⟨a0, a1⟩ := h a (List.mem_cons_self ..)
  have h2 : 2 ^ a.toNat < 2 ^ 64 := Nat.pow_lt_pow_right (by omega) (by omega)
  exact Nat.or_lt_two_pow (n := 64) h2 (by omega)
theorem heap_thr3 (w : World) (A B C : Obj) : (((w.alloc A).alloc B).alloc C).heap[w.heap.size + 2]? = some C := by
 have := heap_alloc_new ((w.alloc A).alloc B) C
 simpa [Nat.add_assoc] using this
theorem Below.al3 {b : Nat} {w : World} (hb : b ≤ w.heap.size) (A B C : Obj) : Below b w ((w.alloc A).alloc B |>.alloc C) :=
 (((Below.refl _ w).alloc hb A).alloc (by simp; omega) B).alloc (by simp; omega) C
theorem wpList_app_edge {w : World} {ops : Array Oper} {rest : List Oper} {o : Oper} {a : Act} {Q : Exit → Act → World → Prop} (hgd : o.guard = none) (s x : Operand)
 (ho : o.op = .call { callee := .builtin .append, args := #[s, x], argTypes := #[87, 87] })
 (base : Nat) (v : Value) (n : Nat) (xs : List Value) (hs : a.eval s = v) (hown : w.ownsRow base 182 2 v n xs)
 (g c : Nat) (y z : Int) (hx : a.eval x = .slice (some ⟨g, 0, none⟩) 1 c) (hg : w.heap[g]? = some (.cells #[.int .u64 y, .int .u64 z] 182 (0, 0)))
 (hsz : n + 1 ≤ 1000000000) (hbase : base ≤ w.heap.size)
 (h : ∀ a' c' w', w'.ownsRow base 182 2 (.slice a' (n + 1) c') (n + 1) (xs ++ [.int .u64 y, .int .u64 z]) → w.grownBy w' v.ownBlock → wpList Tryz.prog ops Q rest (a.put o.dst (.slice a' (n + 1) c')) w') : wpList Tryz.prog ops Q (o :: rest) a w := by
 obtain ⟨i, hi, hz, hsize, hby⟩ := info_parts Tryz.edgeInfo
 refine wpList_append_own w hgd s x _ ho base 182 i _ 2 16 Tryz.underlying87 hi hz hsize hby rfl (by decide) v n xs hs hown ⟨g, 0, none⟩ 1 c [.int .u64 y, .int .u64 z] hx rfl ?_ ?_ (by unfold maxLen; omega) (by omega) hbase ?_
 · intro j u hj
   rw [Addr.add_lit]
   have h1 := (List.getElem?_eq_some_iff.1 hj).1
   have h2 : j = 0 ∨ j = 1 := by simp at h1; omega
   rcases h2 with rfl | rfl
   · simp at hj; subst hj; exact cell_of_heap hg 0 rfl
   · simp at hj; subst hj; exact cell_of_heap hg 1 rfl
 · intro u hu
   simp at hu
   rcases hu with rfl | rfl <;> rfl
 · intro v' w' h2 h3 _
   obtain ⟨a', c', rfl, -⟩ := own_slice h2
   exact h a' c' w' h2 h3
theorem edges_any (net : Int) (v : Value) (l : List (List Int × List Int)) (w : World) (h : Tr w v l) (hl : ∀ t ∈ l, (∀ p ∈ t.1, 0 ≤ p ∧ p < 64) ∧ ∀ p ∈ t.2, 0 ≤ p ∧ p < 64) (hll : l.length ≤ 1000000) :
 Calls Tryz.prog 54 #[.agg #[.int .i64 net, v], .bool false] w fun e w' => ∃ u, e = .returned u ∧ Es w' u (l.map edgeOf) ∧ Below w.heap.size w w' := by
 obtain ⟨a, cap, rfl, hm⟩ := h.form
 have H := hid h
 have HL := hid hl
 obtain ⟨n, hn⟩ : ∃ n, l.length = n := ⟨_, rfl⟩
 rw [hn] at hm H hll ⊢
 have HN := hid hn
 have H0 : Hid (∀ W : World, W.ownsRow w.heap.size 182 2 (.slice none 0 0) 0 (edgeRows ((l.take 0).map edgeOf)).flatten) := hid (fun W => World.ownsRow_nil ..)
 clear h hl hn
 go_enter Tryz.func54, Tryz.ntmps54
 go_wp2_with fail
 go_loopw [12, 5] (fun iv ov wr => ∃ k : Nat, k ≤ n ∧ iv = .int .i64 k ∧ Hid (wr.ownsRow w.heap.size 182 2 ov k (edgeRows ((l.take k).map edgeOf)).flatten) ∧ Hid (Below w.heap.size w wr)) (fun iv _ _ => n - (intOf iv).toNat)
 case atStart => exact ⟨0, by omega, rfl, H0.out _, hid ((Below.refl _ w).alloc (Nat.le_refl _) _)⟩
 case round =>
  obtain ⟨k, hk, rfl, HO, HB⟩ := hrel
  by_cases hkn : k < n
  · have hkl : k < l.length := by rw [HN.out]; exact hkn
    obtain ⟨b, off, s1, s2, e1, hbl, c1, c2, i1, i2⟩ := (H.out.keep HB.out).cell k hkl
    subst e1
    obtain ⟨hl1, hl2⟩ := HL.out _ (List.getElem_mem hkl)
    have HTK : Hid ((l.take (k + 1)).map edgeOf = (l.take k).map edgeOf ++ [edgeOf l[k]]) := hid (by rw [List.take_succ_eq_append_getElem hkl, List.map_append]; rfl)
    obtain ⟨t, ht⟩ : ∃ t, l[k] = t := ⟨_, rfl⟩
    rw [ht] at i1 i2 hl1 hl2 HTK
    obtain ⟨t1, t2⟩ := t
    obtain ⟨a1, d1, e1, -⟩ := i1.form
    obtain ⟨a2, d2, e2, -⟩ := i2.form
    subst e1 e2
    obtain ⟨n1, hn1⟩ : ∃ n, t1.length = n := ⟨_, rfl⟩
    obtain ⟨n2, hn2⟩ : ∃ n, t2.length = n := ⟨_, rfl⟩
    dsimp only at c1 c2 i1 i2 hl1 hl2
    rw [hn1] at c1 i1
    rw [hn2] at c2 i2
    obtain ⟨x1, hx1⟩ : ∃ x, Si.wordI t1 = x := ⟨_, rfl⟩
    obtain ⟨x2, hx2⟩ : ∃ x, Si.wordI t2 = x := ⟨_, rfl⟩
    have HE : Hid (edgeOf (t1, t2) = (x2, x1)) := hid (by unfold edgeOf; rw [hx1, hx2])
    obtain ⟨oa, oc, hos, -⟩ := own_slice HO.out
    subst hos
    have hwz := HB.out.size
    have k1 : (k : Int) < (n : Int) := by omega
    have k0 : (0 : Int) ≤ (k : Int) := by omega
    have W1 : Hid (∀ W, Below wr.heap.size wr W → Calls Tryz.prog 66 #[.slice a1 n1 d1] W fun e w' => e = .returned (.int .u64 x1) ∧ W = w') := hid (fun W hW => by rw [← hx1]; exact word_any _ t1 W (i1.keep hW) hl1)
    have W2 : Hid (∀ W, Below wr.heap.size wr W → Calls Tryz.prog 66 #[.slice a2 n2 d2] W fun e w' => e = .returned (.int .u64 x2) ∧ W = w') := hid (fun W hW => by rw [← hx2]; exact word_any _ t2 W (i2.keep hW) hl2)
    clear ht i1 i2 hl1 hl2 hx1 hx2 hn1 hn2
    go_wp2_with fail
    go_region_held3 (fun w' => w'.cell? ⟨wr.heap.size, 0, none⟩ = some (.slice a1 n1 d1) ∧ w'.cell? ⟨wr.heap.size, 1, none⟩ = some (.slice a2 n2 d2)) (go_keep)
     ((go_at_call 66; (with_reducible first | refine (W1.out _ (by repeat (with_reducible first | exact Below.refl _ _ | refine Below.drew ?_ | refine Below.alloc ?_ (by simp) _))).mono ?_ | refine (W2.out _ (by repeat (with_reducible first | exact Below.refl _ _ | refine Below.drew ?_ | refine Below.alloc ?_ (by simp) _))).mono ?_); rintro e w2 ⟨rfl, rfl⟩))
    all_goals
     go_wp2_with (at_builtin; refine wpList_app_edge rfl (.tmp 29) (.tmp 31) rfl w.heap.size (.slice oa k oc) k (edgeRows ((l.take k).map edgeOf)).flatten rfl ?c3 (wr.heap.size + 2) 1 x2 x1 rfl ?c4 ?c1 ?c2 ?_)
     case c1 => omega
     case c2 => simp; omega
     case c3 => repeat (with_reducible first | exact HO.out | refine World.ownsRow.drew ?_ | refine World.ownsRow.alloc ?_ _)
     case c4 => exact heap_thr3 wr _ _ _
     intro av cv w4 ho4 hg4
     have HO4 : Hid (w4.ownsRow w.heap.size 182 2 (.slice av (k + 1) cv) (k + 1) (edgeRows ((l.take (k + 1)).map edgeOf)).flatten) := hid (by rw [HTK.out, HE.out, edgeRows_app, List.map_take]; exact ho4)
     have HB4 : Hid (Below w.heap.size w w4) := hid ((HB.out.trans (Below.drew (Below.al3 hwz _ _ _))).trans (below_own ((((HO.out.alloc _).alloc _).alloc _).drew) hg4 (Nat.le_refl _) (by simp; omega)))
     clear ho4 hg4
     go_wp2_with fail
     go_roundw
     case rel => exact ⟨k + 1, by omega, by go_num, HO4, HB4⟩
     case measure => simp [intOf]; omega
  · obtain rfl : k = n := by omega
    have HF : Hid ((l.take k).map edgeOf = l.map edgeOf) := hid (by rw [List.take_of_length_le (by rw [HN.out]; omega)])
    go_wp2_with fail
    go_ret
    have h1 := HO.out
    rw [HF.out] at h1
    exact ⟨_, rfl, Rw.of_own h1 (by simp [edgeRows, HN.out]) (fun r hr => by
     simp only [edgeRows, List.mem_map] at hr
     obtain ⟨e, -, rfl⟩ := hr
     rfl) (by omega), HB.out⟩
open Go.RowKit Go.Sort
theorem found_any (base : Nat) (v : Value) (fs : List Nat) (b x : Nat) (w : World) (hf : ∀ y ∈ fs, y < 16384) (hx : x < 16384) (ho : w.ownsRow base 90 1 v fs.length (words fs)) (hb : w.heap[b]? = some (.cells #[.int .u64 x] 90 (0, 0))) :
 Calls Tryz.prog 62 #[v, .func (.func 63) #[] #[.pointer (some ⟨b, 0, none⟩)]] w fun e w' => e = .returned (.bool (fs.any fun f => Pt.subB f x)) ∧ Up w w' := by
 have hm := own_max ho
 rcases ho.2 with ⟨rfl, h0⟩ | ⟨g, cap, cur, rfl, hbg, hg, hnc, hcm, hcs, htake⟩
 · have h1 : fs = [] := List.eq_nil_of_length_eq_zero h0
   subst h1
   refine (Tryz.slices_ContainsFunc_empty_f62 (α := U14) none 0 _ w).mono ?_
   rintro e w' ⟨rfl, rfl⟩
   exact ⟨rfl, Up.refl _⟩
 · obtain ⟨d, rfl⟩ := liftU hf
   have hD : (d.map (·.1)).length = d.length := by simp
   have eg : ∀ args w, (callFunc 63 args).run Tryz.prog w = .ok (.enter 63 args) w := enters_of Tryz.func63 (by kernel_rfl) rfl
   rw [hD] at ho hm ⊢
   refine (Tryz.slices_ContainsFunc_f62 (α := U14) encU (fun i => Pt.subB i.1 x) 63 #[.pointer (some ⟨b, 0, none⟩)] eg g 0 d.length cap d w
    (fun W y hB => (sub_any y.1 b 0 x W (by have := y.2; omega) (by omega) (cell_of_heap (keep_heap hb hB) 0 rfl)).mono fun e w' ⟨h1, h2⟩ => ⟨h1, 0, by rw [← h2]; rfl⟩) (Nat.le_refl _) (by unfold maxLen at hm; omega) (fun j hj => ?_)).mono ?_
   · have := ho.cells (g := g) rfl j (encU d[j]) (by
      unfold words encU
      rw [List.map_map, List.getElem?_map, List.getElem?_eq_getElem hj]; rfl)
     rw [Addr.add_lit] at this
     rw [this, getElem!_pos d j hj]
   · rintro e w' ⟨rfl, q, rfl⟩
     refine ⟨?_, below_drewN _ _ _, by simp [World.drewN]⟩
     rw [List.take_length, List.any_map]; rfl
def Res (w : World) (base : Nat) (v : Value) (fs : List Nat) : Prop := ∃ us : List Value, us.length = fs.length ∧ w.ownsRow base 22 1 v fs.length us ∧ ∀ i (h1 : i < fs.length) (h2 : i < us.length), w.ownsRow base 3 1 us[i] (Pt.listW fs[i]).length (ints (Si.nn (Pt.listW fs[i])))
theorem Res.nil (w : World) (base : Nat) : Res w base (.slice none 0 0) [] := ⟨[], rfl, World.ownsRow_nil .., fun i h => by simp at h⟩
theorem Res.gt {w w' : World} {base : Nat} {v : Value} {fs : List Nat} {e : TypeId} (h : Res w base v fs) (hg : GT e w w') (h1 : e ≠ 22) (h2 : e ≠ 3) : Res w' base v fs := by
 obtain ⟨us, a, b, c⟩ := h
 exact ⟨us, a, hg.row b h1, fun i k1 k2 => hg.row (c i k1 k2) h2⟩
theorem own_below {w w' : World} {base : Nat} {e : TypeId} {sz : Nat} {v : Value} {n : Nat} {xs : List Value} (h : w.ownsRow base e sz v n xs) (hb : Below w.heap.size w w') : w'.ownsRow base e sz v n xs := by
 refine ⟨h.1, ?_⟩
 rcases h.2 with h | ⟨g, cap, cur, rfl, h1, h2, h3⟩
 · exact .inl h
 · exact .inr ⟨g, cap, cur, rfl, h1, keep_heap h2 hb, h3⟩
theorem Res.below {w w' : World} {base : Nat} {v : Value} {fs : List Nat} (h : Res w base v fs) (hb : Below w.heap.size w w') : Res w' base v fs := by
 obtain ⟨us, a, b, c⟩ := h
 exact ⟨us, a, own_below b hb, fun i k1 k2 => own_below (c i k1 k2) hb⟩
theorem Res.alloc {w : World} {base : Nat} {v : Value} {fs : List Nat} (h : Res w base v fs) (o : Obj) : Res (w.alloc o) base v fs := h.below ((Below.refl _ w).alloc (Nat.le_refl _) o)
theorem Res.drew {w : World} {base : Nat} {v : Value} {fs : List Nat} (h : Res w base v fs) : Res w.drew base v fs := h.below (Below.refl _ w).drew
theorem Res.form {w : World} {base : Nat} {v : Value} {fs : List Nat} (h : Res w base v fs) : ∃ a cap, v = .slice a fs.length cap ∧ fs.length ≤ 9223372036854775807 := by
 obtain ⟨us, -, b, -⟩ := h
 obtain ⟨a, c, rfl, h1⟩ := own_slice b
 exact ⟨a, c, rfl, h1⟩
theorem Res.ll {w : World} {base : Nat} {v : Value} {fs : List Nat} (h : Res w base v fs) : Ll w v (fs.map fun x => Si.nn (Pt.listW x)) := by
 obtain ⟨us, a, b, c⟩ := h
 refine ⟨(fs.map fun x => Si.nn (Pt.listW x)).zip us, ?_, ?_, ?_⟩
 · rw [List.map_fst_zip]; simp [a]
 · rw [List.map_snd_zip (by simp [a])]
   exact Sl.of_own b (own_max b)
 · intro x hx
   obtain ⟨i, hi, rfl⟩ := List.getElem_of_mem hx
   have h1 : i < fs.length := by simpa [a] using hi
   have h2 : i < us.length := by omega
   rw [List.getElem_zip, List.getElem_map]
   exact Sl.of_own (c i h1 h2) (own_max (c i h1 h2))
theorem Tryz.rowInfo : (Tryz.prog.info? 22).map (fun i => (i.zero, i.size, i.bytes)) = some (some (.slice none 0 0), 1, 24) := by kernel_rfl
theorem Tryz.wordInfo : (Tryz.prog.info? 90).map (fun i => (i.zero, i.size, i.bytes)) = some (some (.int .u64 0), 1, 8) := by kernel_rfl
theorem words_app (l : List Nat) (y : Nat) : words (l ++ [y]) = words l ++ [.int .u64 (y : Int)] := by simp [words]
theorem wpList_app_word {w : World} {ops : Array Oper} {rest : List Oper} {o : Oper} {a : Act} {Q : Exit → Act → World → Prop} (hgd : o.guard = none) (s x : Operand)
 (ho : o.op = .call { callee := .builtin .append, args := #[s, x], argTypes := #[89, 89] })
 (base : Nat) (v : Value) (n : Nat) (fs : List Nat) (hn : fs.length = n) (hs : a.eval s = v) (hown : w.ownsRow base 90 1 v n (words fs))
 (g c y : Nat) (hx : a.eval x = .slice (some ⟨g, 0, none⟩) 1 c) (hg : w.heap[g]? = some (.cells #[.int .u64 y] 90 (0, 0)))
 (hsz : n + 1 ≤ 1000000000) (hbase : base ≤ w.heap.size)
 (h : ∀ a' c' w', w'.ownsRow base 90 1 (.slice a' (n + 1) c') (n + 1) (words (fs ++ [y])) → GT 90 w w' → w.grownBy w' v.ownBlock → Below base w w' → wpList Tryz.prog ops Q rest (a.put o.dst (.slice a' (n + 1) c')) w') : wpList Tryz.prog ops Q (o :: rest) a w := by
 subst hn
 obtain ⟨i, hi, hz, hsize, hby⟩ := info_parts Tryz.wordInfo
 refine wpList_append_own w hgd s x _ ho base 90 i _ 1 8 Tryz.underlying89 hi hz hsize hby rfl (by decide) v fs.length (words fs) hs hown ⟨g, 0, none⟩ 1 c [.int .u64 y] hx rfl ?_ ?_ (by unfold maxLen; omega) (by omega) hbase ?_
 · intro j z hj
   have h0 : j = 0 := by have := (List.getElem?_eq_some_iff.1 hj).1; simpa using this
   subst h0
   simp at hj; subst hj
   rw [Addr.add_lit]; exact cell_of_heap hg 0 rfl
 · intro z hz
   obtain rfl := List.mem_singleton.1 hz; rfl
 · intro v' w' h2 h3 _
   obtain ⟨a', c', rfl, -⟩ := own_slice h2
   rw [← words_app] at h2
   exact h a' c' w' h2 (GT.of_own hown h3) h3 (below_own hown h3 (Nat.le_refl _) hbase)
theorem step_app_res {w : World} {ops : Array Oper} {o : Oper} {a : Act} {K : Act → World → Prop} {Q : Exit → Act → World → Prop} {E : Prop} (hgd : o.guard = none) (s x : Operand)
 (ho : o.op = .call { callee := .builtin .append, args := #[s, x], argTypes := #[36, 36] })
 (base : Nat) (v : Value) (n : Nat) (fs : List Nat) (hn : fs.length = n) (hs : a.eval s = v) (hR : Res w base v fs)
 (g c y : Nat) (u : Value) (hx : a.eval x = .slice (some ⟨g, 0, none⟩) 1 c) (hg : w.heap[g]? = some (.cells #[u] 22 (0, 0)))
 (hu : w.ownsRow base 3 1 u (Pt.listW y).length (ints (Si.nn (Pt.listW y)))) (hsz : n + 1 ≤ 1000000000) (hbase : base ≤ w.heap.size)
 (h : ∀ a' c' w', Res w' base (.slice a' (n + 1) c') (fs ++ [y]) → GT 22 w w' → Below base w w' → K (a.put o.dst (.slice a' (n + 1) c')) w') :
 if Region.wanted o (yielded ops a.tmps) = true then Oper.wp Tryz.prog o a w K Q else E := by
 subst hn
 obtain ⟨i, hi, hz, hsize, hby⟩ := info_parts Tryz.rowInfo
 obtain ⟨us, hul, hown, hin⟩ := hR
 obtain ⟨ua, uc, hus, -⟩ := own_slice hu
 refine step_append_lies _ hgd s x _ ho base 22 i _ 1 24 Tryz.underlying36 hi hz hsize hby rfl (by decide) v fs.length us hs hown ⟨g, 0, none⟩ 1 c [u] hx rfl (news_one hg) ?_ (by omega) (by unfold maxLen; omega) (by omega) hbase _ rfl ?_
 · intro z hz
   obtain rfl := List.mem_singleton.1 hz
   rw [hus]; rfl
 · intro g' c' w' h2 h3 _ _
   have hgt := GT.of_own hown h3
   refine h _ c' w' ⟨us ++ [u], by simp [hul], by simpa using h2, fun i k1 k2 => ?_⟩ hgt (below_own hown h3 (Nat.le_refl _) hbase)
   by_cases hi2 : i < fs.length
   · rw [List.getElem_append_left (by omega), List.getElem_append_left hi2]
     exact hgt.row (hin i hi2 (by omega)) (by decide)
   · have e : i = fs.length := by simp at k1; omega
     subst e
     rw [List.getElem_append_right (by omega), List.getElem_append_right (by omega)]
     simp only [hul, Nat.sub_self, List.getElem_singleton]
     exact hgt.row hu (by decide)
theorem step_app_word {w : World} {ops : Array Oper} {o : Oper} {a : Act} {K : Act → World → Prop} {Q : Exit → Act → World → Prop} {E : Prop} (hgd : o.guard = none) (s x : Operand)
 (ho : o.op = .call { callee := .builtin .append, args := #[s, x], argTypes := #[89, 89] })
 (base : Nat) (v : Value) (n : Nat) (fs : List Nat) (hn : fs.length = n) (hs : a.eval s = v) (hown : w.ownsRow base 90 1 v n (words fs))
 (g c y : Nat) (hx : a.eval x = .slice (some ⟨g, 0, none⟩) 1 c) (hg : w.heap[g]? = some (.cells #[.int .u64 y] 90 (0, 0)))
 (hsz : n + 1 ≤ 1000000000) (hbase : base ≤ w.heap.size)
 (h : ∀ a' c' w', w'.ownsRow base 90 1 (.slice a' (n + 1) c') (n + 1) (words (fs ++ [y])) → GT 90 w w' → w.grownBy w' v.ownBlock → Below base w w' → K (a.put o.dst (.slice a' (n + 1) c')) w') :
 if Region.wanted o (yielded ops a.tmps) = true then Oper.wp Tryz.prog o a w K Q else E := by
 subst hn
 obtain ⟨i, hi, hz, hsize, hby⟩ := info_parts Tryz.wordInfo
 refine step_append_lies _ hgd s x _ ho base 90 i _ 1 8 Tryz.underlying89 hi hz hsize hby rfl (by decide) v fs.length (words fs) hs hown ⟨g, 0, none⟩ 1 c [.int .u64 y] hx rfl (news_one hg) ?_ (by omega) (by unfold maxLen; omega) (by omega) hbase _ rfl ?_
 · intro z hz
   obtain rfl := List.mem_singleton.1 hz; rfl
 · intro g' c' w' h2 h3 _ _
   rw [← words_app] at h2
   exact h _ c' w' h2 (GT.of_own hown h3) h3 (below_own hown h3 (Nat.le_refl _) hbase)
structure Cx (w2 : World) (x bx : Nat) (W : World) (fv : Value) (fs : List Nat) (rv : Value) (rs : List Nat) : Prop where
 own : W.ownsRow w2.heap.size 90 1 fv fs.length (words fs)
 res : Res W w2.heap.size rv rs
 bel : Below w2.heap.size w2 W
 box : W.heap[bx]? = some (.cells #[.int .u64 x] 90 (0, 0))
theorem Cx.below {w2 W W' : World} {x bx : Nat} {fv rv : Value} {fs rs : List Nat} (h : Cx w2 x bx W fv fs rv rs) (hb : Below W.heap.size W W') : Cx w2 x bx W' fv fs rv rs :=
 ⟨own_below h.own hb, h.res.below hb, h.bel.trans (hb.mono h.bel.size), keep_heap h.box hb⟩
theorem Cx.alloc {w2 W : World} {x bx : Nat} {fv rv : Value} {fs rs : List Nat} (h : Cx w2 x bx W fv fs rv rs) (o : Obj) : Cx w2 x bx (W.alloc o) fv fs rv rs := h.below ((Below.refl _ W).alloc (Nat.le_refl _) o)
theorem Cx.drew {w2 W : World} {x bx : Nat} {fv rv : Value} {fs rs : List Nat} (h : Cx w2 x bx W fv fs rv rs) : Cx w2 x bx W.drew fv fs rv rs := h.below (Below.refl _ W).drew
theorem Cx.appF {w2 W W' : World} {x bx : Nat} {fv fv' rv : Value} {fs rs : List Nat} {n : Nat} (h : Cx w2 x bx W fv fs rv rs) (hn : fs.length = n) (far : fv.ownBlock ≠ some bx) (h1 : W'.ownsRow w2.heap.size 90 1 fv' (n + 1) (words (fs ++ [x]))) (h2 : GT 90 W W') (h3 : W.grownBy W' fv.ownBlock) (h4 : Below w2.heap.size W W') : Cx w2 x bx W' fv' (fs ++ [x]) rv rs :=
 ⟨by rw [List.length_append, hn]; exact h1, h.res.gt h2 (by decide) (by decide), h.bel.trans h4, (h3.block bx (heap_lt h.box) (fun e => far e.symm)).trans h.box⟩
theorem Cx.appR {w2 W W' : World} {x bx : Nat} {fv rv rv' : Value} {fs rs rs' : List Nat} (h : Cx w2 x bx W fv fs rv rs) (h1 : Res W' w2.heap.size rv' rs') (h2 : GT 22 W W') (h4 : Below w2.heap.size W W') : Cx w2 x bx W' fv fs rv' rs' :=
 ⟨h2.row h.own (by decide), h1, h.bel.trans h4, h2.heap h.box (by decide)⟩
theorem Cx.cell {w2 W : World} {x bx : Nat} {fv rv : Value} {fs rs : List Nat} (h : Cx w2 x bx W fv fs rv rs) : W.cell? ⟨bx, 0, none⟩ = some (.int .u64 x) := cell_of_heap h.box 0 rfl
theorem Cx.own2 {w2 W : World} {x bx n : Nat} {fv rv : Value} {fs rs : List Nat} (h : Cx w2 x bx W fv fs rv rs) (hn : fs.length = n) : W.ownsRow w2.heap.size 90 1 fv n (words fs) := by
 have := h.own
 rwa [hn] at this
theorem Cx.size {w2 W : World} {x bx : Nat} {fv rv : Value} {fs rs : List Nat} (h : Cx w2 x bx W fv fs rv rs) : w2.heap.size ≤ W.heap.size := h.bel.size
theorem heap_drew {w : World} {k : Nat} {o : Obj} (h : w.heap[k]? = some o) : w.drew.heap[k]? = some o := h
theorem heap_old {w : World} {k : Nat} {o p : Obj} (h : w.heap[k]? = some o) : (w.alloc p).heap[k]? = some o := (heap_alloc_old _ _ (heap_lt h)).trans h
theorem Res.mono {w : World} {base base' : Nat} {v : Value} {fs : List Nat} (h : Res w base v fs) (hb : base' ≤ base) : Res w base' v fs := by
 obtain ⟨us, a, b, c⟩ := h
 exact ⟨us, a, own_mono b hb, fun i k1 k2 => own_mono (c i k1 k2) hb⟩
end Go.Proofs.YtfcbcpfnaadpeaaGreatDoor
