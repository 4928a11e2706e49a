/- Parts Pu, Pv, Pz of this claim, laid one behind the other: walks and the plain laws behind them; each contract states its own conditions. -/
import Derived.Test.YtfcbcpfnaadpeaaGreatDoorZK
/- Walks of package petri: closed sets. -/
namespace Go.Proofs.YtfcbcpfnaadpeaaGreatDoor
set_option linter.unusedSimpArgs false
set_option linter.unusedVariables false
open Go.RowKit

theorem sub_bits (x v : Nat) (hx : x < 18446744073709551616) (hv : v < 18446744073709551616) : (bits .andNot .u64 (x : Int) (v : Int) == 0) = Pt.subB x v := by
  obtain ⟨A, hA⟩ : ∃ A : BitVec 64, A = BitVec.ofNat 64 x := ⟨_, rfl⟩
  obtain ⟨B, hB⟩ : ∃ B : BitVec 64, B = BitVec.ofNat 64 v := ⟨_, rfl⟩
  have h1 : A.toNat = x := by rw [hA, BitVec.toNat_ofNat]; exact Nat.mod_eq_of_lt (by omega)
  have h2 : B.toNat = v := by rw [hB, BitVec.toNat_ofNat]; exact Nat.mod_eq_of_lt (by omega)
  have e : bits .andNot .u64 (x : Int) (v : Int) = ((A &&& ~~~B).toNat : Int) := by
    have h3 := (A &&& ~~~B).isLt
    show IntKind.u64.wrap ((BitVec.ofInt 64 (x : Int) &&& ~~~ BitVec.ofInt 64 (v : Int)).toNat : Int) = _
    rw [BitVec.ofInt_natCast, BitVec.ofInt_natCast, ← hA, ← hB, IntKind.wrap_u64]
    omega
  rw [e]
  have key : (A &&& ~~~B).toNat = 0 ↔ x &&& v = x := by
    have k1 : (A &&& B).toNat = x &&& v := by rw [BitVec.toNat_and, h1, h2]
    have k2 : A &&& B = A ↔ x &&& v = x := by
      constructor
      · intro h; rw [← k1, h, h1]
      · intro h; exact BitVec.eq_of_toNat_eq (by rw [k1, h, h1])
    rw [← k2]
    constructor
    · intro h
      have h0 : A &&& ~~~B = 0#64 := BitVec.eq_of_toNat_eq (by simpa using h)
      apply BitVec.eq_of_getLsbD_eq
      intro i hi
      have := congrArg (fun z : BitVec 64 => z.getLsbD i) h0
      simp [hi] at this
      cases ha : A.getLsbD i
      · simp [ha]
      · have hb := this ha
        have hb2 : B.getLsbD i = true := by rw [BitVec.getLsbD_eq_getElem hi]; exact hb
        simp [ha, hb2]
    · intro h
      have h0 : A &&& ~~~B = 0#64 := by
        rw [← h]
        apply BitVec.eq_of_getLsbD_eq
        intro i hi
        simp [hi]
      rw [h0]; rfl
  unfold Pt.subB
  by_cases h : x &&& v = x
  · rw [decide_eq_true h, key.2 h]; rfl
  · rw [decide_eq_false h]
    obtain ⟨z, hz⟩ : ∃ z, (A &&& ~~~B).toNat = z := ⟨_, rfl⟩
    rw [hz] at key ⊢
    have : z ≠ 0 := fun h2 => h (key.1 h2)
    show decide ((z : Int) = 0) = false
    exact decide_eq_false (by omega)
set_option maxRecDepth 100000 in
set_option maxHeartbeats 4000000 in
theorem sub_any (x pb po v : Nat) (w : World) (hx : x < 18446744073709551616) (hv : v < 18446744073709551616) (hc : w.cell? ⟨pb, po, none⟩ = some (.int .u64 v)) :
    Calls Tryz.prog 63 #[.int .u64 x, .pointer (some ⟨pb, po, none⟩)] w fun e w' => e = .returned (.bool (Pt.subB x v)) ∧ w = w' := by
  rw [← sub_bits x v hx hv]
  clear hx hv
  go_enter Tryz.func63, Tryz.ntmps63
  go_wp2_with fail
  go_ret
  exact ⟨rfl, rfl⟩
/-- The edge hurts the closed set. -/
def hurts (v : Nat) (e : Nat × Nat) : Bool := decide (e.1 &&& v ≠ 0) && decide (e.2 &&& v = 0)
set_option maxRecDepth 100000 in
set_option maxHeartbeats 4000000 in
theorem hurts_any (a b pb po v : Nat) (w : World) (ha : a < 18446744073709551616) (hb : b < 18446744073709551616) (hv : v < 18446744073709551616) (hc : w.cell? ⟨pb, po, none⟩ = some (.int .u64 v)) (hpb : pb < w.heap.size) :
    Calls Tryz.prog 147 #[.agg #[.int .u64 a, .int .u64 b], .pointer (some ⟨pb, po, none⟩)] w fun e w' => e = .returned (.bool (hurts v (a, b))) ∧ Up w w' := by
  obtain ⟨r, hr⟩ : ∃ r, hurts v (a, b) = r := ⟨_, rfl⟩
  rw [hr]
  unfold hurts at hr
  have k1 := u64_and a v ha hv
  have k2 := u64_and b v hb hv
  obtain ⟨p, hp⟩ : ∃ p, a &&& v = p := ⟨_, rfl⟩
  obtain ⟨q, hq⟩ : ∃ q, b &&& v = q := ⟨_, rfl⟩
  dsimp only at hr
  rw [hp, hq] at hr
  rw [hp] at k1
  rw [hq] at k2
  have HR := Lib.hid hr
  clear hr hp hq ha hb hv
  go_enter Tryz.func147, Tryz.ntmps147
  by_cases hp0 : p = 0
  · have e1 : ((p : Int) != 0) = false := by simp [hp0]
    have HF : Hid (r = false) := Lib.hid (by rw [← HR.out]; simp [hp0])
    clear hp0
    go_wp2_with fail
    go_ret
    exact ⟨by rw [HF.out]; rfl, (Up.refl w).alloc _⟩
  · have e1 : ((p : Int) != 0) = true := by simp; omega
    have HF : Hid (r = ((q : Int) == 0)) := Lib.hid (by
      rw [← HR.out]
      rw [decide_eq_true (show p ≠ 0 from hp0), Bool.true_and]
      by_cases hq0 : q = 0
      · simp [hq0]
      · rw [decide_eq_false hq0]; simp; omega)
    clear hp0
    go_wp2_with fail
    go_ret
    exact ⟨by rw [HF.out]; rfl, (Up.refl w).alloc _⟩
end Go.Proofs.YtfcbcpfnaadpeaaGreatDoor
/- Walks of package petri: whether an edge hurts a set; closed. -/
namespace Go.Proofs.YtfcbcpfnaadpeaaGreatDoor
set_option linter.unusedSimpArgs false
set_option linter.unusedVariables false
open Go.RowKit

/-- A slice of edges. -/
def edgeRows (l : List (Nat × Nat)) : List (List Value) := l.map fun e => [Value.int .u64 (e.1 : Int), .int .u64 (e.2 : Int)]
def Es (w : World) (v : Value) (l : List (Nat × Nat)) : Prop := Rw w v 2 (edgeRows l)
theorem edgeRows_len (l : List (Nat × Nat)) : (edgeRows l).length = l.length := by simp [edgeRows]
theorem Es.form {w : World} {v : Value} {l : List (Nat × Nat)} (h : Es w v l) : ∃ a cap, v = .slice a l.length cap ∧ l.length ≤ 9223372036854775807 := by
  obtain ⟨a, c, h1, h2⟩ := Rw.form h
  rw [edgeRows_len] at h1 h2
  exact ⟨a, c, h1, h2⟩
theorem Es.cell {w : World} {a : Option Addr} {n cap : Nat} {l : List (Nat × Nat)} (h : Es w (.slice a n cap) l) (i : Nat) (hi : i < l.length) : ∃ b off, a = some ⟨b, off, none⟩ ∧ b < w.heap.size ∧ w.cell? ⟨b, off + i * 2, none⟩ = some (.int .u64 (l[i].1 : Int)) ∧ w.cell? ⟨b, off + i * 2 + 1, none⟩ = some (.int .u64 (l[i].2 : Int)) := by
  obtain ⟨b, off, h1, h2, h3⟩ := Rw.cell h i (by rw [edgeRows_len]; exact hi)
  refine ⟨b, off, h1, h2, ?_, ?_⟩
  · rw [show off + i * 2 = off + i * 2 + 0 by rfl, h3 0 (by omega)]; simp [edgeRows]
  · rw [h3 1 (by omega)]; simp [edgeRows]
theorem any_drop {α : Type} {p : α → Bool} {l : List α} {k : Nat} (hk : k < l.length) : (l.drop k).any p = (p l[k] || (l.drop (k + 1)).any p) := by
  rw [List.drop_eq_getElem_cons hk, List.any_cons]
set_option maxRecDepth 100000 in
set_option maxHeartbeats 8000000 in
theorem index_any (v : Value) (l : List (Nat × Nat)) (pb po c : Nat) (w : World) (hl : ∀ e ∈ l, e.1 < 18446744073709551616 ∧ e.2 < 18446744073709551616) (hc : c < 18446744073709551616) (h : Es w v l) (hp : w.cell? ⟨pb, po, none⟩ = some (.int .u64 c)) :
    Calls Tryz.prog 219 #[v, .func (.func 147) #[] #[.pointer (some ⟨pb, po, none⟩)]] w fun e w' => (∃ r : Int, e = .returned (.int .i64 r) ∧ decide (0 ≤ r) = l.any (hurts c)) ∧ Up w w' := by
  obtain ⟨a, cap, rfl, hm⟩ := h.form
  have hpb : pb < w.heap.size := cell_block_lt hp
  have H := Lib.hid h
  have HL := Lib.hid hl
  have HP := Lib.hid hp
  obtain ⟨R, hR⟩ : ∃ R, l.any (hurts c) = R := ⟨_, rfl⟩
  have HR : Hid ((l.drop 0).any (hurts c) = R) := Lib.hid hR
  rw [hR]
  obtain ⟨n, hn⟩ : ∃ n, l.length = n := ⟨_, rfl⟩
  rw [hn] at hm H ⊢
  have HN := Lib.hid hn
  clear h hl hp hR hn
  go_enter Tryz.func219, Tryz.ntmps219
  go_wp2_with fail
  go_loopw [8] (fun iv wr => ∃ (k : Nat), k ≤ n ∧ iv = .int .i64 k ∧ Hid ((l.drop k).any (hurts c) = R) ∧ Hid (Up w wr)) (fun iv _ => n - (intOf iv).toNat)
  case atStart => exact ⟨0, by omega, rfl, HR, Lib.hid (Up.refl w)⟩
  case round =>
    obtain ⟨k, hk, rfl, HK, HU⟩ := hrel
    by_cases hkn : k < n
    · have hkl : k < l.length := by rw [HN.out]; exact hkn
      obtain ⟨b, off, e1, hbl, c1, c2⟩ := H.out.cell k hkl
      subst e1
      obtain ⟨l1, l2⟩ := HL.out _ (List.getElem_mem hkl)
      have hd := any_drop (p := hurts c) hkl
      rw [HK.out] at hd
      obtain ⟨x, hx⟩ : ∃ x, l[k] = x := ⟨_, rfl⟩
      rw [hx] at c1 c2 l1 l2 hd
      obtain ⟨x1, x2⟩ := x
      dsimp only at c1 c2 l1 l2
      rw [← HU.out.1.cell (p := ⟨b, off + k * 2, none⟩) hbl] at c1
      rw [← HU.out.1.cell (p := ⟨b, off + k * 2 + 1, none⟩) hbl] at c2
      have hpr : wr.cell? ⟨pb, po, none⟩ = some (.int .u64 c) := by rw [HU.out.1.cell (p := ⟨pb, po, none⟩) hpb]; exact HP.out
      have HC := Lib.hid (hurts_any x1 x2 pb po c wr l1 l2 hc hpr (cell_block_lt hpr))
      obtain ⟨z, hz⟩ : ∃ z, hurts c (x1, x2) = z := ⟨_, rfl⟩
      rw [hz] at HC hd
      have HD := Lib.hid hd
      have k1 : (k : Int) < (n : Int) := by omega
      have k0 : (0 : Int) ≤ (k : Int) := by omega
      clear hd hz hx l1 l2 hpr
      cases z
      · go_wp2_with fail
        go_at_call 147; refine HC.out.mono ?_; rintro e w3 ⟨rfl, hu3⟩
        have HU3 := Lib.hid (HU.out.trans hu3)
        clear hu3
        go_wp2_with fail
        go_roundw
        case rel => exact ⟨k + 1, by omega, by go_num, Lib.hid (by have := HD.out; rw [Bool.false_or] at this; exact this.symm), HU3⟩
        case measure => simp [intOf]; omega
      · go_wp2_with fail
        go_at_call 147; refine HC.out.mono ?_; rintro e w3 ⟨rfl, hu3⟩
        have HU3 := Lib.hid (HU.out.trans hu3)
        clear hu3
        go_wp2_with fail
        go_ret
        exact ⟨⟨(k : Int), rfl, by rw [HD.out, Bool.true_or]; simp⟩, HU3.out⟩
    · have HF : Hid (false = R) := Lib.hid (by
        rw [← HK.out, List.drop_eq_nil_of_le (by rw [HN.out]; omega)]; rfl)
      go_wp2_with fail
      go_ret
      exact ⟨⟨-1, rfl, by rw [← HF.out]; rfl⟩, HU.out⟩
set_option maxRecDepth 100000 in
set_option maxHeartbeats 8000000 in
theorem contains_any (v : Value) (l : List (Nat × Nat)) (pb po c : Nat) (w : World) (hl : ∀ e ∈ l, e.1 < 18446744073709551616 ∧ e.2 < 18446744073709551616) (hc : c < 18446744073709551616) (h : Es w v l) (hp : w.cell? ⟨pb, po, none⟩ = some (.int .u64 c)) :
    Calls Tryz.prog 146 #[v, .func (.func 147) #[] #[.pointer (some ⟨pb, po, none⟩)]] w fun e w' => e = .returned (.bool (l.any (hurts c))) ∧ Up w w' := by
  have HT := Lib.hid (index_any v l pb po c w hl hc h hp)
  obtain ⟨a, cap, rfl, hm⟩ := h.form
  obtain ⟨R, hR⟩ : ∃ R, l.any (hurts c) = R := ⟨_, rfl⟩
  rw [hR] at HT ⊢
  clear hl h hp hR
  go_enter Tryz.func146, Tryz.ntmps146
  go_wp2_with fail
  go_at_call 219; refine HT.out.mono ?_; rintro e w3 ⟨⟨r, rfl, hr⟩, hu⟩
  have HR := Lib.hid hr
  have HU := Lib.hid hu
  clear hr hu
  go_wp2_with fail
  go_ret
  exact ⟨by rw [← HR.out]; rfl, HU.out⟩
set_option maxRecDepth 100000 in
set_option maxHeartbeats 8000000 in
theorem closed_any (v : Value) (l : List (Nat × Nat)) (c : Nat) (w : World) (hl : ∀ e ∈ l, e.1 < 18446744073709551616 ∧ e.2 < 18446744073709551616) (hc : c < 18446744073709551616) (h : Es w v l) :
    Calls Tryz.prog 64 #[v, .int .u64 c] w fun e w' => e = .returned (.bool (Pt.closedW l c)) ∧ Up w w' := by
  obtain ⟨a, cap, rfl, hm⟩ := h.form
  have HL := Lib.hid hl
  have H := Lib.hid h
  obtain ⟨R, hR⟩ : ∃ R, Pt.closedW l c = R := ⟨_, rfl⟩
  rw [hR]
  unfold Pt.closedW at hR
  have HR : Hid ((decide (c ≠ 0) && !l.any (hurts c)) = R) := Lib.hid hR
  clear hl h hR
  go_enter Tryz.func64, Tryz.ntmps64
  by_cases hc0 : c = 0
  · have e1 : ((c : Int) != 0) = false := by simp [hc0]
    have HF : Hid (R = false) := Lib.hid (by rw [← HR.out]; simp [hc0])
    clear hc0
    go_wp2_with fail
    go_ret
    exact ⟨by rw [HF.out]; rfl, (Up.refl w).alloc _⟩
  · have e1 : ((c : Int) != 0) = true := by simp; omega
    have HF : Hid (R = !l.any (hurts c)) := Lib.hid (by rw [← HR.out, decide_eq_true (show c ≠ 0 from hc0), Bool.true_and])
    clear hc0
    go_wp2_with fail
    go_at_call 146; refine (contains_any _ l _ 0 c _ HL.out hc (Rw.keep H.out ((Up.refl w).alloc _).1) (cell_of_heap (heap_alloc_new _ _) 0 rfl)).mono ?_; rintro e w3 ⟨rfl, hu⟩
    have HU := Lib.hid (((Up.refl w).alloc _).trans hu)
    clear hu
    obtain ⟨z, hz⟩ : ∃ z, l.any (hurts c) = z := ⟨_, rfl⟩
    rw [hz] at HF ⊢
    clear hz
    go_wp2_with fail
    go_ret
    exact ⟨by rw [HF.out]; rfl, HU.out⟩
end Go.Proofs.YtfcbcpfnaadpeaaGreatDoor
/- Walks of package petri: the edges of a net. -/
namespace Go.Proofs.YtfcbcpfnaadpeaaGreatDoor
set_option linter.unusedSimpArgs false
set_option linter.unusedVariables false
open Go.RowKit

theorem Tryz.edgeInfo : (Tryz.prog.info? 182).map (fun i => (i.zero, i.size, i.bytes)) = some (some (.agg #[.int .u64 0, .int .u64 0]), 2, 16) := by kernel_rfl
/-- The edge of a transition. -/
def edgeOf (t : List Int × List Int) : Nat × Nat := (Si.wordI t.2, Si.wordI t.1)
theorem edgeRows_app (l : List (Nat × Nat)) (x : Nat × Nat) : (edgeRows (l ++ [x])).flatten = (edgeRows l).flatten ++ [.int .u64 (x.1 : Int), .int .u64 (x.2 : Int)] := by simp [edgeRows]
theorem wordI_lt {l : List Int} (h : ∀ p ∈ l, 0 ≤ p ∧ p < 64) : Si.wordI l < 18446744073709551616 := by
  unfold Si.wordI
  induction l with
  | nil => rw [List.map_nil, Pt.wordL]; omega
  | cons a l ih =>
    rw [List.map_cons, Pt.wordL]
    have h1 := ih fun p hp => h p (List.mem_cons_of_mem _ hp)
    obtain ⟨a0, a1⟩ := h a (List.mem_cons_self ..)
    have h2 : 2 ^ a.toNat < 2 ^ 64 := Nat.pow_lt_pow_right (by omega) (by omega)
    exact Nat.or_lt_two_pow (n := 64) h2 (by omega)
theorem heap_thr3 (w : World) (A B C : Obj) : (((w.alloc A).alloc B).alloc C).heap[w.heap.size + 2]? = some C := by
  have := heap_alloc_new ((w.alloc A).alloc B) C
  simpa [Nat.add_assoc] using this
theorem Below.al3 {b : Nat} {w : World} (hb : b ≤ w.heap.size) (A B C : Obj) : Below b w ((w.alloc A).alloc B |>.alloc C) :=
  (((Below.refl _ w).alloc hb A).alloc (by simp; omega) B).alloc (by simp; omega) C
/-- One more edge. -/
theorem wpList_app_edge {w : World} {ops : Array Oper} {rest : List Oper} {o : Oper} {a : Act} {Q : Exit → Act → World → Prop} (hgd : o.guard = none) (s x : Operand)
    (ho : o.op = .call { callee := .builtin .append, args := #[s, x], argTypes := #[87, 87] })
    (base : Nat) (v : Value) (n : Nat) (xs : List Value) (hs : a.eval s = v) (hown : w.ownsRow base 182 2 v n xs)
    (g c : Nat) (y z : Int) (hx : a.eval x = .slice (some ⟨g, 0, none⟩) 1 c) (hg : w.heap[g]? = some (.cells #[.int .u64 y, .int .u64 z] 182 (0, 0)))
    (hsz : n + 1 ≤ 1000000000) (hbase : base ≤ w.heap.size)
    (h : ∀ a' c' w', w'.ownsRow base 182 2 (.slice a' (n + 1) c') (n + 1) (xs ++ [.int .u64 y, .int .u64 z]) → w.grownBy w' v.ownBlock → wpList Tryz.prog ops Q rest (a.put o.dst (.slice a' (n + 1) c')) w') : wpList Tryz.prog ops Q (o :: rest) a w := by
  obtain ⟨i, hi, hz, hsize, hby⟩ := info_parts Tryz.edgeInfo
  refine wpList_append_own w hgd s x _ ho base 182 i _ 2 16 Tryz.underlying87 hi hz hsize hby rfl (by decide) v n xs hs hown ⟨g, 0, none⟩ 1 c [.int .u64 y, .int .u64 z] hx rfl ?_ ?_ (by unfold maxLen; omega) (by omega) hbase ?_
  · intro j u hj
    rw [Addr.add_lit]
    have h1 := (List.getElem?_eq_some_iff.1 hj).1
    have h2 : j = 0 ∨ j = 1 := by simp at h1; omega
    rcases h2 with rfl | rfl
    · simp at hj; subst hj; exact cell_of_heap hg 0 rfl
    · simp at hj; subst hj; exact cell_of_heap hg 1 rfl
  · intro u hu
    simp at hu
    rcases hu with rfl | rfl <;> rfl
  · intro v' w' h2 h3 _
    obtain ⟨a', c', rfl, -⟩ := own_slice h2
    exact h a' c' w' h2 h3
set_option maxRecDepth 100000 in
set_option maxHeartbeats 16000000 in
theorem edges_any (net : Int) (v : Value) (l : List (List Int × List Int)) (w : World) (h : Tr w v l) (hl : ∀ t ∈ l, (∀ p ∈ t.1, 0 ≤ p ∧ p < 64) ∧ ∀ p ∈ t.2, 0 ≤ p ∧ p < 64) (hll : l.length ≤ 1000000) :
    Calls Tryz.prog 54 #[.agg #[.int .i64 net, v], .bool false] w fun e w' => ∃ u, e = .returned u ∧ Es w' u (l.map edgeOf) ∧ Below w.heap.size w w' := by
  obtain ⟨a, cap, rfl, hm⟩ := h.form
  have H := Lib.hid h
  have HL := Lib.hid hl
  obtain ⟨n, hn⟩ : ∃ n, l.length = n := ⟨_, rfl⟩
  rw [hn] at hm H hll ⊢
  have HN := Lib.hid hn
  have H0 : Hid (∀ W : World, W.ownsRow w.heap.size 182 2 (.slice none 0 0) 0 (edgeRows ((l.take 0).map edgeOf)).flatten) := Lib.hid (fun W => World.ownsRow_nil ..)
  clear h hl hn
  go_enter Tryz.func54, Tryz.ntmps54
  go_wp2_with fail
  go_loopw [12, 5] (fun iv ov wr => ∃ k : Nat, k ≤ n ∧ iv = .int .i64 k ∧ Hid (wr.ownsRow w.heap.size 182 2 ov k (edgeRows ((l.take k).map edgeOf)).flatten) ∧ Hid (Below w.heap.size w wr)) (fun iv _ _ => n - (intOf iv).toNat)
  case atStart => exact ⟨0, by omega, rfl, H0.out _, Lib.hid ((Below.refl _ w).alloc (Nat.le_refl _) _)⟩
  case round =>
    obtain ⟨k, hk, rfl, HO, HB⟩ := hrel
    by_cases hkn : k < n
    · have hkl : k < l.length := by rw [HN.out]; exact hkn
      obtain ⟨b, off, s1, s2, e1, hbl, c1, c2, i1, i2⟩ := (H.out.keep HB.out).cell k hkl
      subst e1
      obtain ⟨hl1, hl2⟩ := HL.out _ (List.getElem_mem hkl)
      have HTK : Hid ((l.take (k + 1)).map edgeOf = (l.take k).map edgeOf ++ [edgeOf l[k]]) := Lib.hid (by rw [List.take_succ_eq_append_getElem hkl, List.map_append]; rfl)
      obtain ⟨t, ht⟩ : ∃ t, l[k] = t := ⟨_, rfl⟩
      rw [ht] at i1 i2 hl1 hl2 HTK
      obtain ⟨t1, t2⟩ := t
      obtain ⟨a1, d1, e1, -⟩ := i1.form
      obtain ⟨a2, d2, e2, -⟩ := i2.form
      subst e1 e2
      obtain ⟨n1, hn1⟩ : ∃ n, t1.length = n := ⟨_, rfl⟩
      obtain ⟨n2, hn2⟩ : ∃ n, t2.length = n := ⟨_, rfl⟩
      dsimp only at c1 c2 i1 i2 hl1 hl2
      rw [hn1] at c1 i1
      rw [hn2] at c2 i2
      obtain ⟨x1, hx1⟩ : ∃ x, Si.wordI t1 = x := ⟨_, rfl⟩
      obtain ⟨x2, hx2⟩ : ∃ x, Si.wordI t2 = x := ⟨_, rfl⟩
      have HE : Hid (edgeOf (t1, t2) = (x2, x1)) := Lib.hid (by unfold edgeOf; rw [hx1, hx2])
      obtain ⟨oa, oc, hos, -⟩ := own_slice HO.out
      subst hos
      have hwz := HB.out.size
      have k1 : (k : Int) < (n : Int) := by omega
      have k0 : (0 : Int) ≤ (k : Int) := by omega
      have W1 : Hid (∀ W, Below wr.heap.size wr W → Calls Tryz.prog 66 #[.slice a1 n1 d1] W fun e w' => e = .returned (.int .u64 x1) ∧ W = w') := Lib.hid (fun W hW => by rw [← hx1]; exact word_any _ t1 W (i1.keep hW) hl1)
      have W2 : Hid (∀ W, Below wr.heap.size wr W → Calls Tryz.prog 66 #[.slice a2 n2 d2] W fun e w' => e = .returned (.int .u64 x2) ∧ W = w') := Lib.hid (fun W hW => by rw [← hx2]; exact word_any _ t2 W (i2.keep hW) hl2)
      clear ht i1 i2 hl1 hl2 hx1 hx2 hn1 hn2
      go_wp2_with fail
      go_region_held3 (fun w' => w'.cell? ⟨wr.heap.size, 0, none⟩ = some (.slice a1 n1 d1) ∧ w'.cell? ⟨wr.heap.size, 1, none⟩ = some (.slice a2 n2 d2)) (go_keep)
        ((go_at_call 66; (with_reducible first | refine (W1.out _ (by repeat (with_reducible first | exact Below.refl _ _ | refine Below.drew ?_ | refine Below.alloc ?_ (by simp) _))).mono ?_ | refine (W2.out _ (by repeat (with_reducible first | exact Below.refl _ _ | refine Below.drew ?_ | refine Below.alloc ?_ (by simp) _))).mono ?_); rintro e w2 ⟨rfl, rfl⟩))
      all_goals
        go_wp2_with (at_builtin; refine wpList_app_edge rfl (.tmp 29) (.tmp 31) rfl w.heap.size (.slice oa k oc) k (edgeRows ((l.take k).map edgeOf)).flatten rfl ?c3 (wr.heap.size + 2) 1 x2 x1 rfl ?c4 ?c1 ?c2 ?_)
        case c1 => omega
        case c2 => simp; omega
        case c3 => repeat (with_reducible first | exact HO.out | refine World.ownsRow.drew ?_ | refine World.ownsRow.alloc ?_ _)
        case c4 => exact heap_thr3 wr _ _ _
        intro av cv w4 ho4 hg4
        have HO4 : Hid (w4.ownsRow w.heap.size 182 2 (.slice av (k + 1) cv) (k + 1) (edgeRows ((l.take (k + 1)).map edgeOf)).flatten) := Lib.hid (by rw [HTK.out, HE.out, edgeRows_app, List.map_take]; exact ho4)
        have HB4 : Hid (Below w.heap.size w w4) := Lib.hid ((HB.out.trans (Below.drew (Below.al3 hwz _ _ _))).trans (below_own ((((HO.out.alloc _).alloc _).alloc _).drew) hg4 (Nat.le_refl _) (by simp; omega)))
        clear ho4 hg4
        go_wp2_with fail
        go_roundw
        case rel => exact ⟨k + 1, by omega, by go_num, HO4, HB4⟩
        case measure => simp [intOf]; omega
    · obtain rfl : k = n := by omega
      have HF : Hid ((l.take k).map edgeOf = l.map edgeOf) := Lib.hid (by rw [List.take_of_length_le (by rw [HN.out]; omega)])
      go_wp2_with fail
      go_ret
      have h1 := HO.out
      rw [HF.out] at h1
      exact ⟨_, rfl, Rw.of_own h1 (by simp [edgeRows, HN.out]) (fun r hr => by
        simp only [edgeRows, List.mem_map] at hr
        obtain ⟨e, -, rfl⟩ := hr
        rfl) (by omega), HB.out⟩
end Go.Proofs.YtfcbcpfnaadpeaaGreatDoor
