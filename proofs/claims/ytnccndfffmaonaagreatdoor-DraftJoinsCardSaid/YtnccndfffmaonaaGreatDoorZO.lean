/- Parts DsE, DsF of this claim, laid one behind the other: walks and the plain laws behind them; each contract states its own conditions. -/
import Derived.Test.YtnccndfffmaonaaGreatDoorZN
import Derived.Deep.RegionHeld3
/- The statement DraftJoins: the walk. -/
namespace Go.Proofs.YtnccndfffmaonaaGreatDoor
set_option linter.unusedSimpArgs false
set_option linter.unusedVariables false
open Go.RowKit

theorem items_one (l : List (Dr.Item × Value)) (h : ∀ x ∈ l, ∃ a n c, x.2 = Value.slice a n c) : ∀ u ∈ itemsC l, u.oneCell' = true := by
  intro u hu
  obtain ⟨x, hx, hu⟩ := List.mem_flatMap.1 hu
  obtain ⟨a, n, c, e⟩ := h x hx
  simp only [itemC, List.mem_cons, List.not_mem_nil, or_false] at hu
  rcases hu with rfl | rfl | rfl | rfl | rfl
  · rfl
  · rfl
  · rfl
  · rfl
  · rw [e]; rfl
theorem itemsC_len (l : List (Dr.Item × Value)) : (itemsC l).length = l.length * 5 := by
  induction l with
  | nil => rfl
  | cons a l ih =>
    have e : itemsC (a :: l) = itemC a.1 a.2 ++ itemsC l := by simp [itemsC]
    rw [e, List.length_append, ih, show (itemC a.1 a.2).length = 5 from rfl, List.length_cons]; omega
theorem itemsC_cell (l : List (Dr.Item × Value)) (w : World) (b off : Nat) (hc : ∀ i, (h : i < l.length) → w.cell? ⟨b, off + i * 5, none⟩ = some (.int .i64 l[i].1.kind) ∧ w.cell? ⟨b, off + i * 5 + 1, none⟩ = some (.int .i64 l[i].1.line) ∧ w.cell? ⟨b, off + i * 5 + 2, none⟩ = some (.string ⟨l[i].1.name.toArray⟩) ∧
    w.cell? ⟨b, off + i * 5 + 3, none⟩ = some (.string ⟨l[i].1.other.toArray⟩) ∧ w.cell? ⟨b, off + i * 5 + 4, none⟩ = some l[i].2) : ∀ j u, (itemsC l)[j]? = some u → w.cell? ⟨b, off + j, none⟩ = some u := by
  intro j u hu
  obtain ⟨hj, -⟩ := List.getElem?_eq_some_iff.1 hu
  rw [itemsC_len] at hj
  have hi : j / 5 < l.length := by omega
  obtain ⟨k0, k1, k2, k3, k4⟩ := itemsC_at l (j / 5) hi
  obtain ⟨c0, c1, c2, c3, c4⟩ := hc (j / 5) hi
  have hr : j % 5 = 0 ∨ j % 5 = 1 ∨ j % 5 = 2 ∨ j % 5 = 3 ∨ j % 5 = 4 := by omega
  rcases hr with h | h | h | h | h
  · have e : j = j / 5 * 5 := by omega
    rw [show off + j = off + j / 5 * 5 by omega, c0, ← k0, ← e, hu]
  · have e : j = j / 5 * 5 + 1 := by omega
    rw [show off + j = off + j / 5 * 5 + 1 by omega, c1, ← k1, ← e, hu]
  · have e : j = j / 5 * 5 + 2 := by omega
    rw [show off + j = off + j / 5 * 5 + 2 by omega, c2, ← k2, ← e, hu]
  · have e : j = j / 5 * 5 + 3 := by omega
    rw [show off + j = off + j / 5 * 5 + 3 by omega, c3, ← k3, ← e, hu]
  · have e : j = j / 5 * 5 + 4 := by omega
    rw [show off + j = off + j / 5 * 5 + 4 by omega, c4, ← k4, ← e, hu]
/-- Items that are read are appended to items that the call owns. -/
theorem run_append_items (w : World) (base : Nat) (ty : TypeId) (v : Value) (n : Nat) (xs : List Value) (hown : w.ownsRow base 34 5 v n xs) (iv : Value) (l : List (Dr.Item × Value)) (hI : I5 w iv l) (hs : ∀ x ∈ l, ∃ a n c, x.2 = Value.slice a n c)
    (h63 : n + l.length ≤ 1000000) (hbase : base ≤ w.heap.size) :
    ∃ v' w', (Builtin.append_ #[23, 23] ty #[v, iv]).run Tryz.prog w = .ok v' w' ∧ w'.ownsRow base 34 5 v' (n + l.length) (xs ++ itemsC l) ∧ w.grownBy w' v.ownBlock := by
  obtain ⟨i0, hi0, hz0, hz1, hz2⟩ := info_parts Tryz.itemInfo
  obtain ⟨a, cap, rfl, hm, hn, hc⟩ := hI
  cases a with
  | none =>
    obtain rfl := hn rfl
    have h0 : l = [] := by
      cases l with
      | nil => rfl
      | cons u t => obtain ⟨_, _, h', _⟩ := hc 0 (by simp); cases h'
    subst h0
    exact ⟨v, w, run_append_owned_none (P := Tryz.prog) (w := w) base 23 ty 34 i0 5 Tryz.underlying23 hi0 v n xs hown, by simpa [itemsC] using hown, World.grownBy.refl w _⟩
  | some ad =>
    obtain ⟨v', w', hr, h2, h3, -⟩ := run_append_own (P := Tryz.prog) w base 23 ty 34 i0 _ 5 72 Tryz.underlying23 hi0 hz0 hz1 hz2 rfl (by omega) v n xs hown ad l.length cap (itemsC l) (itemsC_len l) (fun j u hu => by
      have hj : j < l.length * 5 := by rw [← itemsC_len]; exact (List.getElem?_eq_some_iff.1 hu).1
      obtain ⟨b, off, e, -⟩ := hc 0 (by omega)
      cases e
      have e2 : ((⟨b, off, none⟩ : Addr).add j) = ⟨b, off + j, none⟩ := by unfold Addr.add; split <;> simp_all
      rw [e2]
      exact itemsC_cell l w b off (fun i hi => by obtain ⟨b', off', e, h⟩ := hc i hi; cases e; exact h) j u hu) (items_one l hs) (by unfold maxLen; omega) (by omega) hbase
    exact ⟨v', w', hr, h2, h3⟩
theorem step_append_items {w : World} {ops : Array Oper} {o : Oper} {a : Act} {K : Act → World → Prop} {Q : Exit → Act → World → Prop} {E : Prop} (hgd : o.guard = none) (s x : Operand)
    (ho : o.op = .call { callee := .builtin .append, args := #[s, x], argTypes := #[23, 23] })
    (base : Nat) (v : Value) (n : Nat) (xs : List Value) (hs : a.eval s = v) (hown : w.ownsRow base 34 5 v n xs)
    (iv : Value) (l : List (Dr.Item × Value)) (hx : a.eval x = iv) (hI : I5 w iv l) (hl : ∀ x ∈ l, ∃ a n c, x.2 = Value.slice a n c) (N : Nat) (XS : List Value) (hN : n + l.length = N) (hXS : xs ++ itemsC l = XS) (h63 : N ≤ 1000000) (hbase : base ≤ w.heap.size)
    (h : ∀ a' cap' w', w'.ownsRow base 34 5 (.slice a' N cap') N XS → w.grownBy w' v.ownBlock → K (a.put o.dst (.slice a' N cap')) w') :
    if Region.wanted o (yielded ops a.tmps) = true then Oper.wp Tryz.prog o a w K Q else E := by
  have hw : Region.wanted o (yielded ops a.tmps) = true := by simp [Region.wanted, hgd]
  rw [if_pos hw]
  subst hN hXS
  obtain ⟨v', w', hr, h2, h3⟩ := run_append_items w base o.type v n xs hown iv l hI hl h63 hbase
  obtain ⟨a', cap', rfl, -⟩ := own_slice h2
  unfold Oper.wp execOp
  simp only [ho, resolve, invoke, builtin, Sem.run_bind, Sem.run_pure, Result.andThen_ok, List.map_toArray, List.map_cons, List.map_nil, hs, hx, hr]
  exact h a' cap' w' h2 h3

theorem draft_put {w5 u2 : World} {zb n : Nat} {v : Value} {XS : List Value} (hz : u2.heap[zb]? = some (.cells #[.slice none 0 0, .slice none 0 0] 25 (0, 0))) (hb : Below w5.heap.size w5 u2) (hzb : w5.heap.size ≤ zb) (ho : u2.ownsRow w5.heap.size 34 5 v n XS) (p q : Value) :
    ((u2.setCell ⟨zb, 0, none⟩ p).setCell ⟨zb, 1, none⟩ q).heap[zb]? = some (.cells #[p, q] 25 (0, 0)) ∧ ((u2.setCell ⟨zb, 0, none⟩ p).setCell ⟨zb, 1, none⟩ q).ownsRow w5.heap.size 34 5 v n XS ∧ Below w5.heap.size w5 ((u2.setCell ⟨zb, 0, none⟩ p).setCell ⟨zb, 1, none⟩ q) := by
  have h1 := set_heap hz 0 p
  have h2 := set_heap h1 1 q
  refine ⟨h2, ?_, ?_⟩
  · exact (GT.of_set h1 1 q).row ((GT.of_set hz 0 p).row ho (by decide)) (by decide)
  · have n1 : NB zb u2 ((u2.setCell ⟨zb, 0, none⟩ p).setCell ⟨zb, 1, none⟩ q) := ((NB.refl zb u2).set 0 p).set 1 q
    exact hb.trans (n1.below hzb hb.size)
theorem read_few {s : List UInt8} {d : Dr.Draft} (h : Dr.read s = .ok d) : d.items.length ≤ 5000 := by
  obtain ⟨ts, hl, hp⟩ := Dr.read_parts h
  have := (Dr.read_right hl hp).1
  unfold Dr.rightD at this
  simp only [Bool.and_eq_true, decide_eq_true_eq] at this
  exact this.2.2.1
theorem sameL_joined {α : Type} (p : α → α → Bool) (f : α → α) (h1 : ∀ a, p a a = true) (h : ∀ a, p (f a) a = true) (l m : List α) : Dr.sameL p (l ++ m.map f) (l ++ m) = true := by
  induction l with
  | nil => exact Dr.sameL_map p f h m
  | cons a l ih => rw [List.cons_append, List.cons_append, Dr.sameL, h1, ih]; rfl
theorem same_joined (x y : Dr.Draft) (m : Nat) : Dr.same ⟨x.decks, x.items ++ y.items.map (Dr.Item.later m)⟩ ⟨x.decks, x.items ++ y.items⟩ = true := by
  unfold Dr.same
  dsimp only
  rw [Dr.sameL_refl _ (fun a => by simp), sameL_joined _ _ (fun a => by simp [Dr.sameI]) (fun a => by simp [Dr.sameI, Dr.Item.later])]
  rfl
/-- What is read of two joined texts. -/
theorem read_joins {a b : List UInt8} {x y : Dr.Draft} (ha : a.length ≤ 2500) (hb : b.length ≤ 2500) (hx : Dr.read a = .ok x) (hy : Dr.read b = .ok y) (hd : y.decks = []) :
    ∃ front m, Lx.lex a 1 = .ok (front ++ [⟨4, [], 0, m⟩]) ∧ m ≤ 2501 ∧ front.length ≤ 2500 ∧ Dr.read (a ++ 10 :: b) = .ok ⟨x.decks, x.items ++ y.items.map (Dr.Item.later m)⟩ := by
  obtain ⟨ta, la, pa⟩ := Dr.read_parts hx
  obtain ⟨tb, lb, pb⟩ := Dr.read_parts hy
  obtain ⟨front, m, tc, h1, h2, h3⟩ := Dr.joins a b ta tb x y ha hb la lb pa pb hd
  subst h1
  obtain ⟨l1, l2, -⟩ := Lx.lex_lines _ a 1 _ (Nat.lt_succ_self _) la
  have l3 := l1 ⟨4, [], 0, m⟩ (by simp)
  simp at l2
  dsimp only at l3
  exact ⟨front, m, la, by omega, by omega, Dr.read_of h2 h3⟩
end Go.Proofs.YtnccndfffmaonaaGreatDoor
/- The statement DraftJoins: the walk, at its end. -/
namespace Go.Proofs.YtnccndfffmaonaaGreatDoor
set_option linter.unusedSimpArgs false
set_option linter.unusedVariables false
open Go.RowKit

theorem dv_form {w : World} {dv iv : Value} {d : Dr.Draft} (h : DV w dv iv d) : ∃ a1 m1 c1 a3 c3, dv = .slice a1 m1 c1 ∧ m1 = d.decks.length ∧ iv = .slice a3 d.items.length c3 ∧ m1 ≤ 9223372036854775807 ∧ d.items.length ≤ 9223372036854775807 := by
  obtain ⟨⟨us, h1, h2, -⟩, hI⟩ := h
  obtain ⟨a, c, rfl, hm⟩ := h1.slice
  obtain ⟨a3, c3, rfl, hm3, -⟩ := hI.lines
  exact ⟨a, _, c, a3, c3, rfl, h2, rfl, by unfold maxLen at hm; omega, hm3⟩
set_option maxRecDepth 100000 in
set_option maxHeartbeats 16000000 in
/-- What is too long, or can't be read, or has decks in the second text. -/
theorem DraftJoins_out (a b : ByteArray) (w : World) (hE : Env w) (h : 2500 < a.size ∨ (a.size ≤ 2500 ∧ 2500 < b.size) ∨ (a.size ≤ 2500 ∧ b.size ≤ 2500 ∧ ((∃ z ln, Dr.read (bs a) = .error (z, ln)) ∨ (∃ x, Dr.read (bs a) = .ok x ∧ ((∃ z ln, Dr.read (bs b) = .error (z, ln)) ∨ ∃ y, Dr.read (bs b) = .ok y ∧ y.decks ≠ []))))) :
    Calls Tryz.prog 5 #[.string a, .string b] w fun e w' => e = .returned (.bool true) ∧ Below w.heap.size w w' := by
  have HE := Lib.hid hE
  clear hE
  rcases h with h | ⟨h, h2⟩ | ⟨h, h2, ⟨z, ln, hr⟩ | ⟨x, hr, h3⟩⟩
  · have e1 : (2500 : Int) < (a.size : Int) := by omega
    go_enter Tryz.func5, Tryz.ntmps5
    go_wp2_with fail
    go_at_call 7; refine (small_any _ HE.out).mono ?_; rintro e w1 ⟨rfl, B⟩
    go_wp2_with fail
    go_ret
    exact ⟨rfl, B⟩
  · have e1 : (a.size : Int) ≤ 2500 := by omega
    have e2 : (2500 : Int) < (b.size : Int) := by omega
    go_enter Tryz.func5, Tryz.ntmps5
    go_wp2_with fail
    go_at_call 7; refine (small_any _ HE.out).mono ?_; rintro e w1 ⟨rfl, B⟩
    go_wp2_with fail
    go_ret
    exact ⟨rfl, B⟩
  · have e1 : (a.size : Int) ≤ 2500 := by omega
    have e2 : (b.size : Int) ≤ 2500 := by omega
    have HR := Lib.hid hr
    have hz := Dr.read_code hr
    have hz2 : ((z : Int) != 0) = true := by simp; omega
    clear hr hz
    go_enter Tryz.func5, Tryz.ntmps5
    go_wp2_with fail
    go_at_call 7; refine (small_any _ HE.out).mono ?_; rintro e w1 ⟨rfl, B⟩
    have B1 := Lib.hid B
    clear B
    go_wp2_with fail
    go_at_call 9; refine (Parse_bad a z ln HR.out _ (HE.out.below B1.out) (by omega)).mono ?_; rintro e w2 ⟨rfl, b2⟩
    have B2 := Lib.hid ((B1.out.trans (b2.mono B1.out.size)).alloc (Nat.le_trans B1.out.size b2.size) (.cells #[.slice none 0 0, .slice none 0 0] 25))
    clear b2 B1
    go_wp2_with fail
    go_at_call 9; refine (Parse_any b _ (HE.out.below B2.out) (by omega)).mono ?_; intro e w3 hp
    obtain ⟨a1, m1, c1, a3, m3, c3, z2, ln2, rfl, b3⟩ : ∃ a1 m1 c1 a3 m3 c3 z2 ln2, e = .returned (.tuple #[.agg #[.slice a1 m1 c1, .slice a3 m3 c3], .int .i64 z2, .int .i64 ln2]) ∧ Below (w2.alloc (.cells #[.slice none 0 0, .slice none 0 0] 25)).heap.size (w2.alloc (.cells #[.slice none 0 0, .slice none 0 0] 25)) w3 := by
      cases hG : Dr.read (bs b) with
      | ok y =>
        rw [hG] at hp
        obtain ⟨dv, iv, h1, h2, h3⟩ := hp
        obtain ⟨a1, m1, c1, a3, c3, rfl, -, rfl, -⟩ := dv_form h2
        exact ⟨_, _, _, _, _, _, _, _, h1, h3⟩
      | error e => rw [hG] at hp; obtain ⟨h1, h3⟩ := hp; exact ⟨_, _, _, _, _, _, _, _, h1, h3⟩
    have B3 := Lib.hid (B2.out.trans (b3.mono B2.out.size))
    clear hp b3 B2
    go_wp2_with fail
    go_ret
    exact ⟨rfl, B3.out.alloc B3.out.size _⟩
  · have e1 : (a.size : Int) ≤ 2500 := by omega
    have e2 : (b.size : Int) ≤ 2500 := by omega
    have HR := Lib.hid hr
    clear hr
    rcases h3 with ⟨z, ln, h3⟩ | ⟨y, h3, h4⟩
    · have HR2 := Lib.hid h3
      have hz := Dr.read_code h3
      have hz2 : ((z : Int) != 0) = true := by simp; omega
      clear h3 hz
      go_enter Tryz.func5, Tryz.ntmps5
      go_wp2_with fail
      go_at_call 7; refine (small_any _ HE.out).mono ?_; rintro e w1 ⟨rfl, B⟩
      have B1 := Lib.hid B
      clear B
      go_wp2_with fail
      go_at_call 9; refine (Parse_ok a x HR.out _ (HE.out.below B1.out) (by omega)).mono ?_; rintro e w2 ⟨dv, iv, rfl, D1, b2⟩
      obtain ⟨a1, m1, c1, a3, c3, rfl, -, rfl, -⟩ := dv_form D1
      have B2 := Lib.hid (B1.out.trans (b2.mono B1.out.size))
      clear b2 D1 B1
      go_wp2_with fail
      have bA := (Below.refl _ w2).alloc (Nat.le_refl _) (.cells #[.slice a1 m1 c1, .slice a3 x.items.length c3] 25)
      go_at_call 9; refine (Parse_bad b z ln HR2.out _ (by exact HE.out.below (B2.out.trans (bA.mono B2.out.size))) (by omega)).mono ?_; rintro e w3 ⟨rfl, b3⟩
      have B3 := Lib.hid ((B2.out.trans (bA.mono B2.out.size)).trans (b3.mono (B2.out.trans (bA.mono B2.out.size)).size))
      clear b3 bA B2
      go_wp2_with fail
      go_ret
      exact ⟨rfl, B3.out.alloc B3.out.size _⟩
    · have HR2 := Lib.hid h3
      have HD := Lib.hid h4
      clear h3 h4
      go_enter Tryz.func5, Tryz.ntmps5
      go_wp2_with fail
      go_at_call 7; refine (small_any _ HE.out).mono ?_; rintro e w1 ⟨rfl, B⟩
      have B1 := Lib.hid B
      clear B
      go_wp2_with fail
      go_at_call 9; refine (Parse_ok a x HR.out _ (HE.out.below B1.out) (by omega)).mono ?_; rintro e w2 ⟨dv, iv, rfl, D1, b2⟩
      obtain ⟨a1, m1, c1, a3, c3, rfl, -, rfl, -⟩ := dv_form D1
      have B2 := Lib.hid (B1.out.trans (b2.mono B1.out.size))
      clear b2 D1 B1
      go_wp2_with fail
      have bA := (Below.refl _ w2).alloc (Nat.le_refl _) (.cells #[.slice a1 m1 c1, .slice a3 x.items.length c3] 25)
      go_at_call 9; refine (Parse_ok b y HR2.out _ (by exact HE.out.below (B2.out.trans (bA.mono B2.out.size))) (by omega)).mono ?_; rintro e w3 ⟨dv, iv, rfl, D2, b3⟩
      obtain ⟨a5, m5, c5, a6, c6, rfl, hm5, rfl, -⟩ := dv_form D2
      have hm0 : 0 < m5 := by rw [hm5]; cases hy : y.decks with | nil => exact absurd hy HD.out | cons _ _ => simp
      have hmI : (0 : Int) < (m5 : Int) := by omega
      have B3 := Lib.hid ((B2.out.trans (bA.mono B2.out.size)).trans (b3.mono (B2.out.trans (bA.mono B2.out.size)).size))
      clear b3 bA B2 D2 hm5
      go_wp2_with fail
      go_ret
      exact ⟨rfl, B3.out.alloc B3.out.size _⟩

set_option maxRecDepth 100000 in
set_option maxHeartbeats 64000000 in
theorem DraftJoins_in (a b : ByteArray) (x y : Dr.Draft) (w : World) (hE : Env w) (h1 : a.size ≤ 2500) (h2 : b.size ≤ 2500) (hx : Dr.read (bs a) = .ok x) (hy : Dr.read (bs b) = .ok y) (hd : y.decks = []) :
    Calls Tryz.prog 5 #[.string a, .string b] w fun e w' => e = .returned (.bool true) ∧ Below w.heap.size w w' := by
  have HE := Lib.hid hE
  have e1 : (a.size : Int) ≤ 2500 := by omega
  have e2 : (b.size : Int) ≤ 2500 := by omega
  obtain ⟨front, m, hl, hm, hfl, hz⟩ := read_joins (a := bs a) (b := bs b) (by rw [bs_len]; exact h1) (by rw [bs_len]; exact h2) hx hy hd
  have HR := Lib.hid hx
  have HR2 := Lib.hid hy
  have HLX := Lib.hid hl
  have HLN := Lib.hid (Dr.read_lines hx)
  have HLN2 := Lib.hid (Dr.read_lines hy)
  have hzz : bs (a ++ ⟨#[10]⟩ ++ b) = bs a ++ 10 :: bs b := by rw [bs_app3, bs_app3, show bs ⟨#[10]⟩ = [10] from rfl]; simp
  have HZ : Hid (Dr.read (bs (a ++ ⟨#[10]⟩ ++ b)) = .ok ⟨x.decks, x.items ++ y.items.map (Dr.Item.later m)⟩) := Lib.hid (by rw [hzz]; exact hz)
  have hs1 : (a ++ ⟨#[10]⟩ : ByteArray).size ≤ 2501 := by rw [size_app4, show (⟨#[10]⟩ : ByteArray).size = 1 from rfl]; omega
  have hs2 : (a ++ ⟨#[10]⟩ ++ b : ByteArray).size ≤ 5001 := by rw [size_app4]; omega
  have HD := Lib.hid hd
  clear hE hx hy hd hl hz hzz
  go_enter Tryz.func5, Tryz.ntmps5
  go_wp2_with fail
  go_at_call 7; refine (small_any _ HE.out).mono ?_; rintro e w1 ⟨rfl, B⟩
  have B1 := Lib.hid B
  clear B
  go_wp2_with fail
  go_at_call 9; refine (Parse_ok a x HR.out _ (HE.out.below B1.out) (by omega)).mono ?_; rintro e w2 ⟨dv, iv, rfl, D1, b2⟩
  obtain ⟨a1, m1, c1, a3, c3, rfl, hm1, rfl, hx1, hx2⟩ := dv_form D1
  have B2 := Lib.hid (B1.out.trans (b2.mono B1.out.size))
  have D1 := Lib.hid D1
  obtain ⟨nx, hnx⟩ : ∃ nx, nx = x.items.length := ⟨_, rfl⟩
  rw [← hnx] at D1 hx2 ⊢
  have HNX := Lib.hid hnx
  clear b2 B1 hm1 hnx
  go_wp2_with fail
  have bA := (Below.refl _ w2).alloc (Nat.le_refl _) (.cells #[.slice a1 m1 c1, .slice a3 nx c3] 25)
  have bA2 := B2.out.trans (bA.mono B2.out.size)
  go_at_call 9; refine (Parse_ok b y HR2.out _ (by exact HE.out.below bA2) (by omega)).mono ?_; rintro e w3 ⟨dv, iv, rfl, D2, b3⟩
  obtain ⟨a5, m5, c5, a6, c6, rfl, hm5, rfl, hy1, hy2⟩ := dv_form D2
  rw [HD.out] at hm5
  obtain rfl : m5 = 0 := hm5
  have D2 := Lib.hid D2
  have D1 := Lib.hid ((D1.out.keep bA).keep b3)
  have X3 : Hid (w3.heap[w2.heap.size]? = some (.cells #[.slice a1 m1 c1, .slice a3 nx c3] 25 (0, 0))) := Lib.hid ((b3.block w2.heap.size (by simp)).trans (heap_alloc_new _ _))
  have B3 := Lib.hid (bA2.trans (b3.mono bA2.size))
  obtain ⟨ny, hny⟩ : ∃ ny, ny = y.items.length := ⟨_, rfl⟩
  rw [← hny] at D2 hy2 ⊢
  have HNY := Lib.hid hny
  clear b3 bA bA2 B2 hny
  go_wp2_with fail
  have bA := (Below.refl _ w3).alloc (Nat.le_refl _) (.cells #[.slice a5 0 c5, .slice a6 ny c6] 25)
  have bA2 := B3.out.trans (bA.mono B3.out.size)
  go_at_call 9; refine (Parse_ok _ _ HZ.out _ (by exact HE.out.below bA2) (by omega)).mono ?_; rintro e w4 ⟨dv, iv, rfl, D3, b4⟩
  obtain ⟨a7, m7, c7, a8, c8, rfl, hm7, rfl, hz1, hz2⟩ := dv_form D3
  have D3 := Lib.hid D3
  have D1 := Lib.hid ((D1.out.keep bA).keep b4)
  have D2 := Lib.hid ((D2.out.keep bA).keep b4)
  have X4 := Lib.hid ((b4.block w2.heap.size (by have := (Array.getElem?_eq_some_iff.1 X3.out).1; simp; omega)).trans ((heap_alloc_old _ _ (Array.getElem?_eq_some_iff.1 X3.out).1).trans X3.out))
  have Y4 : Hid (w4.heap[w3.heap.size]? = some (.cells #[.slice a5 0 c5, .slice a6 ny c6] 25 (0, 0))) := Lib.hid ((b4.block w3.heap.size (by simp)).trans (heap_alloc_new _ _))
  have B4 := Lib.hid (bA2.trans (b4.mono bA2.size))
  have HNZ : Hid ((x.items ++ y.items.map (Dr.Item.later m)).length = nx + ny) := Lib.hid (by rw [List.length_append, List.length_map, HNX.out, HNY.out])
  dsimp only at hz2 D3
  rw [HNZ.out] at hz2 D3
  dsimp only
  rw [HNZ.out]
  clear b4 bA bA2 B3 X3 hm7
  go_wp2_with fail
  have bA := (Below.refl _ w4).alloc (Nat.le_refl _) (.cells #[.slice a7 m7 c7, .slice a8 (nx + ny) c8] 25)
  have bA2 := B4.out.trans (bA.mono B4.out.size)
  go_at_call 17; refine (Lex_ok a _ HLX.out _ (by exact HE.out.below bA2) (by omega)).mono ?_; rintro e w5 ⟨g, cap, rfl, t1, hc1, hc2, b5⟩
  have bB := bA.trans (b5.mono bA.size)
  have D1 := Lib.hid (D1.out.keep bB)
  have D2 := Lib.hid (D2.out.keep bB)
  have D3 := Lib.hid (D3.out.keep bB)
  have hx4 : w2.heap.size < w4.heap.size := (Array.getElem?_eq_some_iff.1 X4.out).1
  have hy4 : w3.heap.size < w4.heap.size := (Array.getElem?_eq_some_iff.1 Y4.out).1
  have X5 := Lib.hid ((bB.block w2.heap.size hx4).trans X4.out)
  have Y5 := Lib.hid ((bB.block w3.heap.size hy4).trans Y4.out)
  have Z5 : Hid (w5.heap[w4.heap.size]? = some (.cells #[.slice a7 m7 c7, .slice a8 (nx + ny) c8] 25 (0, 0))) := Lib.hid ((b5.block w4.heap.size (by simp)).trans (heap_alloc_new _ _))
  have B5 := Lib.hid (B4.out.trans (bB.mono B4.out.size))
  have tl := (t1 front.length (by simp)).2.2.2
  have hte : ((front ++ [⟨4, [], 0, m⟩] : List Lx.Tok)[front.length]'(by simp)) = ⟨4, [], 0, m⟩ := by simp
  rw [hte] at tl
  dsimp only at tl
  obtain ⟨n, hn⟩ : ∃ n, (front ++ [⟨4, [], 0, m⟩] : List Lx.Tok).length = n := ⟨_, rfl⟩
  rw [hn] at hc1 ⊢
  have hn1 : n = front.length + 1 := by rw [← hn]; simp
  have tl2 : w5.cell? ⟨g, (n - 1) * 4 + 3, none⟩ = some (.int .i64 m) := by rw [hn1]; exact tl
  have hn5 : n ≤ 3000 := by omega
  have nI0 : (1 : Int) ≤ (n : Int) := by omega
  have nI1 : (n : Int) - 1 < (n : Int) := by omega
  have nI2 : ((n : Int) - 1).toNat = n - 1 := by omega
  have nz : ((n : Int) == 0) = false := beq_eq_false_iff_ne.2 (by omega)
  have hx5 : w2.heap.size < w5.heap.size := (Array.getElem?_eq_some_iff.1 X5.out).1
  have hy5 : w3.heap.size < w5.heap.size := (Array.getElem?_eq_some_iff.1 Y5.out).1
  have g0 : w5.cell? ⟨w2.heap.size, 0, none⟩ = some (.slice a1 m1 c1) := cell_of_heap X5.out 0 rfl
  have g1 : w5.cell? ⟨w2.heap.size, 1, none⟩ = some (.slice a3 nx c3) := cell_of_heap X5.out 1 rfl
  have g2 : w5.cell? ⟨w3.heap.size, 1, none⟩ = some (.slice a6 ny c6) := cell_of_heap Y5.out 1 rfl
  have hnx5 : nx ≤ 5000 := by rw [HNX.out]; exact read_few HR.out
  have hny5 : ny ≤ 5000 := by rw [HNY.out]; exact read_few HR2.out
  obtain ⟨lx, hlx, hIx, hSx⟩ := D1.out.2
  obtain ⟨ly, hly, hIy, hSy⟩ := D2.out.2
  have hlxn : lx.length = nx := by rw [HNX.out, ← hlx, List.length_map]
  have hlyn : ly.length = ny := by rw [HNY.out, ← hly, List.length_map]
  have HLX1 : Hid (∀ x ∈ lx, ∃ a n c, x.2 = Value.slice a n c) := Lib.hid (fun x hx => by obtain ⟨a, c, e, -⟩ := (hSx x hx).1.slice; exact ⟨_, _, _, e⟩)
  have HLY1 : Hid (∀ x ∈ ly, ∃ a n c, x.2 = Value.slice a n c) := Lib.hid (fun x hx => by obtain ⟨a, c, e, -⟩ := (hSy x hx).1.slice; exact ⟨_, _, _, e⟩)
  have HIX := Lib.hid hIx
  have HIY := Lib.hid hIy
  have HSX := Lib.hid hSx
  have HSY := Lib.hid hSy
  have HLXE := Lib.hid hlx
  have HLYE := Lib.hid hly
  have HLXN := Lib.hid hlxn
  have HLYN := Lib.hid hlyn
  have WA : Hid (Below w5.heap.size w5 (w5.alloc (.cells #[] 34)).drew) := Lib.hid (((Below.refl _ w5).alloc (Nat.le_refl _) _).drew)
  have WB : Hid (Below w5.heap.size w5 ((w5.alloc (.cells #[.slice none 0 0, .slice none 0 0] 25)).alloc (.cells #[] 34)).drew) := Lib.hid ((((Below.refl _ w5).alloc (Nat.le_refl _) _).alloc (by simp) _).drew)
  have WC : Hid (Below w5.heap.size w5 ((w5.alloc (.cells #[] 34)).alloc (.cells #[.slice none 0 0, .slice none 0 0] 25)).drew) := Lib.hid ((((Below.refl _ w5).alloc (Nat.le_refl _) _).alloc (by simp) _).drew)
  have o0 := World.ownsRow_lit (base := w5.heap.size) (e := 34) (size := 5) w5 #[] 0 (Nat.le_refl _) (by unfold maxLen; omega) rfl
  have OA : Hid (((w5.alloc (.cells #[] 34)).drew).ownsRow w5.heap.size 34 5 (.slice (some ⟨w5.heap.size, 0, none⟩) 0 0) 0 []) := Lib.hid o0.drew
  have OC : Hid ((((w5.alloc (.cells #[] 34)).alloc (.cells #[.slice none 0 0, .slice none 0 0] 25)).drew).ownsRow w5.heap.size 34 5 (.slice (some ⟨w5.heap.size, 0, none⟩) 0 0) 0 []) := Lib.hid ((World.ownsRow.alloc o0 _).drew)
  have o1 := World.ownsRow_lit (base := w5.heap.size) (e := 34) (size := 5) (w5.alloc (.cells #[.slice none 0 0, .slice none 0 0] 25)) #[] 0 (by simp) (by unfold maxLen; omega) rfl
  rw [show (w5.alloc (.cells #[.slice none 0 0, .slice none 0 0] 25)).heap.size = w5.heap.size + 1 by simp] at o1
  have OB : Hid ((((w5.alloc (.cells #[.slice none 0 0, .slice none 0 0] 25)).alloc (.cells #[] 34)).drew).ownsRow w5.heap.size 34 5 (.slice (some ⟨w5.heap.size + 1, 0, none⟩) 0 0) 0 []) := Lib.hid o1.drew
  have ZB : Hid ((((w5.alloc (.cells #[.slice none 0 0, .slice none 0 0] 25)).alloc (.cells #[] 34)).drew).heap[w5.heap.size]? = some (.cells #[.slice none 0 0, .slice none 0 0] 25 (0, 0))) := Lib.hid ((heap_alloc_old _ _ (by simp)).trans (heap_alloc_new _ _))
  have ZC : Hid ((((w5.alloc (.cells #[] 34)).alloc (.cells #[.slice none 0 0, .slice none 0 0] 25)).drew).heap[w5.heap.size + 1]? = some (.cells #[.slice none 0 0, .slice none 0 0] 25 (0, 0))) := Lib.hid (heap_two3 _ _ _)
  clear hlx hly hIx hIy hSx hSy hlxn hlyn o0 o1 t1 tl hte hn hn1 bA bA2 bB b5 X4 Y4 B4 hc1 hc2
  have nb1 : w5.heap.size ≠ w2.heap.size := by omega
  have nb2 : w5.heap.size ≠ w3.heap.size := by omega
  have nb3 : w5.heap.size + 1 ≠ w2.heap.size := by omega
  have nb4 : w5.heap.size + 1 ≠ w3.heap.size := by omega
  go_upto_region 13 with fail
  go_cut [19] (fun v wx => ∃ zb aw cw, v = .pointer (some ⟨zb, 0, none⟩) ∧ Hid (wx.heap[zb]? = some (.cells #[.slice a1 m1 c1, .slice aw (nx + ny) cw] 25 (0, 0))) ∧ Hid (wx.ownsRow w5.heap.size 34 5 (.slice aw (nx + ny) cw) (nx + ny) (itemsC lx ++ itemsC ly)) ∧ Hid (Below w5.heap.size w5 wx))
  case first =>
    go_region_held3 (fun w' => w'.cell? ⟨w2.heap.size, 0, none⟩ = some (.slice a1 m1 c1) ∧ w'.cell? ⟨w2.heap.size, 1, none⟩ = some (.slice a3 nx c3) ∧ w'.cell? ⟨w3.heap.size, 1, none⟩ = some (.slice a6 ny c6)) (go_keep)
      (first
        | (refine step_append_items (by rfl) _ _ (by rfl) w5.heap.size _ 0 [] (by rfl) (by first | exact OA.out | exact OB.out | exact OC.out) (.slice a3 nx c3) lx (by rfl) (by first | exact HIX.out.keep WA.out | exact HIX.out.keep WB.out | exact HIX.out.keep WC.out) HLX1.out nx (itemsC lx) (by rw [HLXN.out]; omega) (by rfl) (by omega) (by simp; try omega) ?_; intro aa ca u1 ho1 hg1; have G1 : GT 34 _ u1 := (by first | exact GT.of_own OA.out hg1 | exact GT.of_own OB.out hg1 | exact GT.of_own OC.out hg1); have bu1 : Below w5.heap.size w5 u1 := (by first | exact WA.out.grown hg1 (by simp) (fun k hk => (World.ownsRow.lt OA.out k hk).1) | exact WB.out.grown hg1 (by simp; omega) (fun k hk => (World.ownsRow.lt OB.out k hk).1) | exact WC.out.grown hg1 (by simp; omega) (fun k hk => (World.ownsRow.lt OC.out k hk).1)); have k0 := (bu1.cell (p := ⟨w2.heap.size, 0, none⟩) hx5).trans g0; have k1 := (bu1.cell (p := ⟨w2.heap.size, 1, none⟩) hx5).trans g1; have k2 := (bu1.cell (p := ⟨w3.heap.size, 1, none⟩) hy5).trans g2; have nu1 : u1.heap.size ≠ w2.heap.size := (by have := bu1.size; omega); have nu2 : u1.heap.size ≠ w3.heap.size := (by have := bu1.size; omega); first | (have hzB := G1.heap ZB.out (by decide)) | (have hzC := G1.heap ZC.out (by decide)) | skip)
        | (refine step_append_items (by rfl) _ _ (by rfl) w5.heap.size (.slice aa nx ca) nx (itemsC lx) (by rfl) (by first | exact ho1 | exact World.ownsRow.alloc ho1 _) (.slice a6 ny c6) ly (by rfl) (by first | exact HIY.out.keep bu1 | exact (HIY.out.keep bu1).keep ((Below.refl _ _).alloc (Nat.le_refl _) _)) HLY1.out (nx + ny) (itemsC lx ++ itemsC ly) (by rw [HLYN.out]) (by rfl) (by omega) (by have := bu1.size; simp; try omega) ?_; intro aw cw u2 ho2 hg2; have G2 : GT 34 _ u2 := (by first | exact GT.of_own ho1 hg2 | exact GT.of_own (World.ownsRow.alloc ho1 _) hg2); have bu2 : Below w5.heap.size w5 u2 := (by first | exact bu1.grown hg2 bu1.size (fun k hk => (World.ownsRow.lt ho1 k hk).1) | exact (bu1.alloc bu1.size _).grown hg2 (by have := bu1.size; simp; omega) (fun k hk => (World.ownsRow.lt ho1 k hk).1)); have k3 := (bu2.cell (p := ⟨w2.heap.size, 0, none⟩) hx5).trans g0; have k4 := (bu2.cell (p := ⟨w2.heap.size, 1, none⟩) hx5).trans g1; have k5 := (bu2.cell (p := ⟨w3.heap.size, 1, none⟩) hy5).trans g2; have nu3 : u2.heap.size ≠ w2.heap.size := (by have := bu2.size; omega); have nu4 : u2.heap.size ≠ w3.heap.size := (by have := bu2.size; omega); first | (have hz2 := G2.heap hzB (by decide); have z0 := cell_of_heap hz2 0 rfl; have z1 := cell_of_heap hz2 1 rfl; have z2 := free_of_heap hz2 0; have z3 := free_of_heap hz2 1) | (have hz2 := G2.heap hzC (by decide); have z0 := cell_of_heap hz2 0 rfl; have z1 := cell_of_heap hz2 1 rfl; have z2 := free_of_heap hz2 0; have z3 := free_of_heap hz2 1) | (have hz2 := G2.heap (heap_alloc_new u1 (.cells #[.slice none 0 0, .slice none 0 0] 25)) (by decide); have z0 := cell_of_heap hz2 0 rfl; have z1 := cell_of_heap hz2 1 rfl; have z2 := free_of_heap hz2 0; have z3 := free_of_heap hz2 1) | skip))
    all_goals
      go_wp2_with fail
      go_meet
      first
        | exact ⟨_, _, _, rfl, Lib.hid (heap_alloc_new _ _), Lib.hid (World.ownsRow.alloc ho2 _), Lib.hid (bu2.alloc bu2.size _)⟩
        | (obtain ⟨p1, p2, p3⟩ := draft_put hz2 bu2 (by first | omega | exact bu1.size) ho2 (.slice a1 m1 c1) (.slice aw (nx + ny) cw); exact ⟨_, _, _, rfl, Lib.hid p1, Lib.hid p2, Lib.hid p3⟩)
  case rest =>
    obtain ⟨zb, aw, cw, rfl, W6, HO6, B6⟩ := hcut
    have DW : Hid (DV wc (.slice a1 m1 c1) (.slice aw (nx + ny) cw) ⟨x.decks, x.items ++ y.items⟩) := Lib.hid (by
      have hll : (lx ++ ly).length = nx + ny := by rw [List.length_append, HLXN.out, HLYN.out]
      have hcc : itemsC (lx ++ ly) = itemsC lx ++ itemsC ly := by simp [itemsC]
      refine ⟨D1.out.1.keep B6.out, lx ++ ly, by rw [List.map_append, HLXE.out, HLYE.out], ?_, fun u hu => ?_⟩
      · have h := HO6.out
        rw [← hcc, ← hll] at h
        have := I5.of_own h (by rw [hll]; unfold maxLen; omega)
        rw [hll] at this; exact this
      · rcases List.mem_append.1 hu with hu | hu
        · exact ⟨(HSX.out u hu).1.below B6.out, (HSX.out u hu).2⟩
        · exact ⟨(HSY.out u hu).1.below B6.out, (HSY.out u hu).2⟩)
    have D4 := Lib.hid (D3.out.keep B6.out)
    have z4 : w4.heap.size < w5.heap.size := (Array.getElem?_eq_some_iff.1 Z5.out).1
    have Z6 := Lib.hid ((B6.out.block w4.heap.size z4).trans Z5.out)
    have X6 := Lib.hid ((B6.out.block w2.heap.size hx5).trans X5.out)
    have B7 := Lib.hid (B5.out.trans (B6.out.mono B5.out.size))
    have g3 : wc.cell? ⟨w4.heap.size, 0, none⟩ = some (.slice a7 m7 c7) := cell_of_heap Z6.out 0 rfl
    have g4 : wc.cell? ⟨w4.heap.size, 1, none⟩ = some (.slice a8 (nx + ny) c8) := cell_of_heap Z6.out 1 rfl
    have g5 : wc.cell? ⟨zb, 0, none⟩ = some (.slice a1 m1 c1) := cell_of_heap W6.out 0 rfl
    have g6 : wc.cell? ⟨zb, 1, none⟩ = some (.slice aw (nx + ny) cw) := cell_of_heap W6.out 1 rfl
    have HSM : Hid (Dr.same ⟨x.decks, x.items ++ y.items.map (Dr.Item.later m)⟩ ⟨x.decks, x.items ++ y.items⟩ = true) := Lib.hid (same_joined x y m)
    clear g0 g1 g2 tl2 OA OB OC ZB ZC WA WB WC X5 Y5 Z5 D1 D2 D3 B5 HO6 HIX HIY HLX1 HLY1 B6 z4 hx5 hy5 nb1 nb2 nb3 nb4
    go_wp2_with fail
    go_at_call 16; refine (Same_is _ _ _ _ _ _ _ HSM.out _ D4.out DW.out).mono ?_; rintro e w7 ⟨rfl, b7⟩
    have B8 := Lib.hid (B7.out.trans (b7.mono B7.out.size))
    have D5 := Lib.hid (D4.out.keep b7)
    have DW5 := Lib.hid (DW.out.keep b7)
    have Z7 := Lib.hid ((b7.block _ (Array.getElem?_eq_some_iff.1 Z6.out).1).trans Z6.out)
    have X7 := Lib.hid ((b7.block _ (Array.getElem?_eq_some_iff.1 X6.out).1).trans X6.out)
    have W7 := Lib.hid ((b7.block _ (Array.getElem?_eq_some_iff.1 W6.out).1).trans W6.out)
    clear b7 g3 g4 g5 g6 D4 DW Z6 X6 W6 B7
    obtain ⟨N, hN⟩ : ∃ N, N = nx + ny := ⟨_, rfl⟩
    have hN5 : N ≤ 10000 := by omega
    rw [← hN] at Z7 W7 D5 DW5
    have HN : Hid (N = nx + ny) := Lib.hid hN
    go_wp2_with fail
    go_loop [20] (fun iv => ∃ q : Nat, q ≤ N ∧ iv = .int .i64 q) (fun iv => N - (intOf iv).toNat)
    case atStart => exact ⟨0, by omega, rfl⟩
    case round =>
      obtain ⟨q, hq, rfl⟩ := hrel
      have g1 : w7.cell? ⟨w4.heap.size, 1, none⟩ = some (.slice a8 N c8) := cell_of_heap Z7.out 1 rfl
      have g2 : w7.cell? ⟨zb, 1, none⟩ = some (.slice aw N cw) := cell_of_heap W7.out 1 rfl
      have g3 : w7.cell? ⟨w2.heap.size, 1, none⟩ = some (.slice a3 nx c3) := cell_of_heap X7.out 1 rfl
      by_cases hqN : q < N
      · have hlz : (x.items ++ y.items.map (Dr.Item.later m)).length = N := by rw [HNZ.out, hN]
        have hlw : (x.items ++ y.items).length = N := by rw [List.length_append, ← HNX.out, ← HNY.out, hN]
        have hqz : q < (x.items ++ y.items.map (Dr.Item.later m)).length := by omega
        have hqw : q < (x.items ++ y.items).length := by omega
        obtain ⟨a9, c9, e1, -, hx⟩ := D5.out.2.lines
        dsimp only at e1 hx
        rw [hlz] at e1
        obtain ⟨b8, o8, rfl, x1⟩ := hx q hqz
        injection e1 with e1 e3 e4
        subst e1
        obtain ⟨a9, c9, e1, -, hx9⟩ := DW5.out.2.lines
        dsimp only at e1 hx9
        rw [hlw] at e1
        obtain ⟨b9, o9, rfl, x2⟩ := hx9 q hqw
        injection e1 with e1 e5 e6
        subst e1
        have hlb : 0 ≤ ((x.items ++ y.items)[q]'hqw).line ∧ ((x.items ++ y.items)[q]'hqw).line ≤ 10000 := by
          rcases List.mem_append.1 (List.getElem_mem hqw) with h | h
          · have := HLN.out _ h; rw [bs_len] at this; omega
          · have := HLN2.out _ h; rw [bs_len] at this; omega
        have hzl : ((x.items ++ y.items.map (Dr.Item.later m))[q]'hqz).line = if q < nx then ((x.items ++ y.items)[q]'hqw).line else ((x.items ++ y.items)[q]'hqw).line + (m : Int) := by
          by_cases h : q < nx
          · rw [if_pos h, List.getElem_append_left (by rw [← HNX.out]; exact h), List.getElem_append_left (by rw [← HNX.out]; exact h)]
          · rw [if_neg h, List.getElem_append_right (by rw [← HNX.out]; omega), List.getElem_append_right (by rw [← HNX.out]; omega), List.getElem_map]
            rfl
        obtain ⟨ln, hln⟩ : ∃ ln, ln = ((x.items ++ y.items)[q]'hqw).line := ⟨_, rfl⟩
        rw [← hln] at x2 hlb hzl
        rw [hzl] at x1
        obtain ⟨hl0, hl1⟩ := hlb
        have qI0 : (0 : Int) ≤ (q : Int) := by omega
        have qI1 : (q : Int) < (N : Int) := by omega
        clear hx hx9 e3 e4 e5 e6 hln hzl hqz hqw hlz hlw hN
        by_cases h : q < nx
        · rw [if_pos h] at x1
          have hqx : (q : Int) < (nx : Int) := by omega
          have hne : (ln != ln) = false := by simp
          go_wp2_with fail
          go_round
          case rel => exact ⟨q + 1, by omega, by go_num⟩
          case measure => simp [intOf]; omega
        · rw [if_neg h] at x1
          have hqx : (nx : Int) ≤ (q : Int) := by omega
          have hne : ((ln + (m : Int)) != (ln + (m : Int))) = false := by simp
          go_wp2_with fail
          go_round
          case rel => exact ⟨q + 1, by omega, by go_num⟩
          case measure => simp [intOf]; omega
      · obtain rfl : q = N := by omega
        clear hN
        go_wp2_with fail
        go_ret
        exact ⟨rfl, B8.out⟩
theorem DraftJoins_any (a b : ByteArray) (w : World) (hE : Env w) :
    Calls Tryz.prog 5 #[.string a, .string b] w fun e w' => e = .returned (.bool true) ∧ Below w.heap.size w w' := by
  by_cases h1 : a.size ≤ 2500
  · by_cases h2 : b.size ≤ 2500
    · cases hx : Dr.read (bs a) with
      | error e => exact DraftJoins_out a b w hE (.inr (.inr ⟨h1, h2, .inl ⟨e.1, e.2, hx⟩⟩))
      | ok x =>
        cases hy : Dr.read (bs b) with
        | error e => exact DraftJoins_out a b w hE (.inr (.inr ⟨h1, h2, .inr ⟨x, hx, .inl ⟨e.1, e.2, hy⟩⟩⟩))
        | ok y =>
          by_cases hd : y.decks = []
          · exact DraftJoins_in a b x y w hE h1 h2 hx hy hd
          · exact DraftJoins_out a b w hE (.inr (.inr ⟨h1, h2, .inr ⟨x, hx, .inr ⟨y, hy, hd⟩⟩⟩))
    · exact DraftJoins_out a b w hE (.inr (.inl ⟨h1, by omega⟩))
  · exact DraftJoins_out a b w hE (.inl (by omega))
end Go.Proofs.YtnccndfffmaonaaGreatDoor
