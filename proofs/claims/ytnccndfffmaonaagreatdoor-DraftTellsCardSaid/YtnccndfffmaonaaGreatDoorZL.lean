/- Parts DrM, DrU of this claim, laid one behind the other: walks and the plain laws behind them; each contract states its own conditions. -/
import Derived.Test.YtnccndfffmaonaaGreatDoorZI
import Derived.Test.YtnccndfffmaonaaGreatDoorZA
import Derived.Deep.DeepCutAuto
import Derived.Test.YtnccndfffmaonaaGreatDoorZJ
import Derived.Deep.RegionHeld3
import Derived.Deep.RegionLaw
import Derived.Outline
/- Walks of package draft: the line of an item. -/
namespace Go.Proofs.YtnccndfffmaonaaGreatDoor
set_option linter.unusedSimpArgs false
set_option linter.unusedVariables false
open Go.RowKit Go.Maps

theorem forms_word : ∀ k, k < 6 → formsC.toArray[k * 2]? = some (.string ⟨(Dr.wordOf k).toArray⟩) := by
  intro k hk
  match k, hk with
  | 0, _ => rfl
  | 1, _ => rfl
  | 2, _ => rfl
  | 3, _ => rfl
  | 4, _ => rfl
  | 5, _ => rfl
theorem heap3 (w : World) (A B C : Obj) : (((w.alloc A).alloc B).alloc C).heap[w.heap.size]? = some A ∧ (((w.alloc A).alloc B).alloc C).heap[w.heap.size + 1]? = some B ∧ (((w.alloc A).alloc B).alloc C).heap[w.heap.size + 2]? = some C := by
  refine ⟨?_, ?_, ?_⟩
  · rw [heap_alloc_old _ _ (by simp; omega), heap_alloc_old _ _ (by simp)]; exact heap_alloc_new _ _
  · rw [heap_alloc_old _ _ (by simp)]; exact heap_two3 _ _ _
  · have := heap_alloc_new ((w.alloc A).alloc B) C
    simpa using this
/-- The list without its first element. -/
theorem Sl_cut1 {w : World} {s : Value} {x : Value} {xs : List Value} {T E : TypeId} (h : Sl w s (x :: xs)) (hk : capOk s) (ht : Tryz.prog.underlying T = some (.slice E)) (hE : ∀ W : World, (sizeOf E).run Tryz.prog W = .ok 1 W) :
    ∃ s', (∀ W : World, (Instr.slice T s (some (.int .i64 1)) none none).run Tryz.prog W = .ok s' W) ∧ Sl w s' xs ∧ capOk s' := by
  obtain ⟨a, cap, rfl, hm, hn, hc⟩ := h
  obtain ⟨b, off, rfl, h0⟩ := hc 0 (by simp)
  have he : Tryz.prog.elem T = E := by unfold Program.elem; rw [ht]
  have hlen : (x :: xs).length = xs.length + 1 := rfl
  have hk' : xs.length + 1 ≤ cap := hk
  have hr := fun W : World => run_slice_l (P := Tryz.prog) (w := W) T (some ⟨b, off, none⟩) (x :: xs).length cap (by rw [he, ht]) .i64 1 (by omega) (by rw [hlen]; omega)
  by_cases hcap : cap = 1
  · subst hcap
    obtain rfl : xs = [] := List.eq_nil_of_length_eq_zero (by omega)
    refine ⟨.slice (some ⟨b, off, none⟩) 0 0, fun W => ?_, ⟨some ⟨b, off, none⟩, 0, rfl, by simp, (fun h => by cases h), fun i hi => by simp at hi⟩, Nat.le_refl _⟩
    rw [hr W, he, hE W]; rfl
  · refine ⟨.slice (some ⟨b, off + 1, none⟩) xs.length (cap - 1), fun W => ?_, ⟨_, _, rfl, by rw [hlen] at hm; omega, (fun h => by cases h), fun i hi => ⟨b, off + 1, rfl, ?_⟩⟩, by show xs.length ≤ cap - 1; omega⟩
    · rw [hr W, he, hE W]
      simp [Result.andThen, sliced, hcap, Addr.add]
    · obtain ⟨b', off', e, hci⟩ := hc (i + 1) (by rw [hlen]; omega)
      cases e
      rw [show off + 1 + i = off + (i + 1) by omega]
      exact hci.trans (by simp)
theorem own_block {w w' : World} {base : Nat} {e : TypeId} {sz : Nat} {v : Value} {n : Nat} {xs : List Value} (h : w.ownsRow base e sz v n xs) (hk : ∀ g, v.ownBlock = some g → w'.heap[g]? = w.heap[g]?) : w'.ownsRow base e sz v n xs := by
  refine ⟨h.1, ?_⟩
  rcases h.2 with h0 | ⟨g, cap, cur, rfl, hb, hh, hr⟩
  · exact .inl h0
  · exact .inr ⟨g, cap, cur, rfl, hb, (hk g rfl).trans hh, hr⟩
theorem own_obj {w : World} {base : Nat} {e : TypeId} {sz : Nat} {v : Value} {n : Nat} {xs : List Value} (h : w.ownsRow base e sz v n xs) {k : Nat} (hk : v.ownBlock = some k) : ∃ cs, w.heap[k]? = some (.cells cs e (0, 0)) := by
  rcases h.2 with ⟨rfl, -⟩ | ⟨g, cap, cur, rfl, hb, hh, hr⟩
  · cases hk
  · cases hk; exact ⟨_, hh⟩
/-- What holds while a line is made: the words so far, the names, the place in the form. -/
structure LnS (w1 wr : World) (P : ByteArray) (nm ot : List UInt8) (pos : Nat) (ov : Value) (O : List (List UInt8)) : Prop where
  hO : wr.ownsRow w1.heap.size 9 1 ov O.length (strs O)
  hM : wr.heap[w1.heap.size + 1]? = some (.cells #[.string ⟨nm.toArray⟩, .string ⟨ot.toArray⟩] 9 (0, 0))
  hI : wr.heap[w1.heap.size + 2]? = some (.stringIter P pos)
  hne : ov.ownBlock ≠ some (w1.heap.size + 1)
  hB : Below w1.heap.size w1 wr
theorem LnS.keep {w1 wr w' : World} {P : ByteArray} {nm ot : List UInt8} {pos : Nat} {ov : Value} {O : List (List UInt8)} (h : LnS w1 wr P nm ot pos ov O) (hb : Below wr.heap.size wr w') : LnS w1 w' P nm ot pos ov O :=
  have l1 : w1.heap.size + 1 < wr.heap.size := (Array.getElem?_eq_some_iff.1 h.hM).1
  have l2 : w1.heap.size + 2 < wr.heap.size := (Array.getElem?_eq_some_iff.1 h.hI).1
  ⟨own_block h.hO (fun g hg => hb.block g (World.ownsRow.lt h.hO g hg).2), (hb.block _ l1).trans h.hM, (hb.block _ l2).trans h.hI, h.hne, h.hB.trans (hb.mono h.hB.size)⟩
theorem LnS.iter {w1 wr : World} {P : ByteArray} {nm ot : List UInt8} {pos : Nat} {ov : Value} {O : List (List UInt8)} (h : LnS w1 wr P nm ot pos ov O) (p : Nat) : LnS w1 (wr.iterAt (w1.heap.size + 2) P p) P nm ot p ov O := by
  refine ⟨own_block h.hO (fun g hg => Lib.iterAt_other _ _ _ _ _ ?_), (Lib.iterAt_other _ _ _ _ _ (by omega)).trans h.hM, Lib.iterAt_heap _ _ _ _ _ h.hI, h.hne, ?_⟩
  · rintro rfl
    obtain ⟨cs, hc⟩ := own_obj h.hO hg
    rw [h.hI] at hc; cases hc
  · exact h.hB.trans ((nb_iterAt (k := w1.heap.size + 2) P p).below (by omega) h.hB.size)
theorem strs_snoc2 (O : List (List UInt8)) (t : List UInt8) : strs (O ++ [t]) = strs O ++ [.string ⟨t.toArray⟩] := by simp [strs]
theorem LnS.app {w1 wr w' : World} {P : ByteArray} {nm ot t : List UInt8} {pos g H cap : Nat} {ov : Value} {O : List (List UInt8)} (h : LnS w1 wr P nm ot pos ov O)
    (hown : w'.ownsRow w1.heap.size 9 1 (.slice (some ⟨g, 0, none⟩) (O.length + 1) cap) (O.length + 1) (strs O ++ [.string ⟨t.toArray⟩])) (hg : wr.grownBy w' ov.ownBlock) (hat : ov.ownBlock = some g ∨ g = H) (hH : wr.heap.size ≤ H) :
    LnS w1 w' P nm ot pos (.slice (some ⟨g, 0, none⟩) (O.length + 1) cap) (O ++ [t]) := by
  have l1 : w1.heap.size + 1 < wr.heap.size := (Array.getElem?_eq_some_iff.1 h.hM).1
  have l2 : w1.heap.size + 2 < wr.heap.size := (Array.getElem?_eq_some_iff.1 h.hI).1
  refine ⟨by rw [strs_snoc2, List.length_append]; exact hown, (hg.block _ l1 (fun e => h.hne e.symm)).trans h.hM, (hg.block _ l2 (fun e => ?_)).trans h.hI, ?_, h.hB.grown hg h.hB.size (fun k hk => (World.ownsRow.lt h.hO k hk).1)⟩
  · obtain ⟨cs, hc⟩ := own_obj h.hO e.symm
    rw [h.hI] at hc; cases hc
  · intro e
    have e : g = w1.heap.size + 1 := by injection e
    rcases hat with hat | hat
    · exact h.hne (by rw [hat, e])
    · omega
theorem lns_pos {w1 wr : World} {P : ByteArray} {nm ot : List UInt8} {pos : Nat} {ov : Value} {O : List (List UInt8)} (h : LnS w1 wr P nm ot pos ov O) : wr.iterPos (w1.heap.size + 2) = pos := by simp [World.iterPos, h.hI]
theorem Dec_k (n : Int) (h0 : -9223372036854775808 ≤ n) (h1 : n ≤ 9223372036854775807) (w : World) (hE : Env w) :
    Calls Tryz.prog 65 #[.int .i64 n] w fun e w' => e = .returned (.string ⟨(Lib.itoa n).toArray⟩) ∧ Below w.heap.size w w' := Decimal_any n h0 h1 w hE

/-! ### The form's bytes -/
def isN (c : UInt8) : Bool := c == 110 || c == 100
def isW (c : UInt8) : Bool := c == 119 || c == 111
theorem cnt_drop {Q : List UInt8} {pos : Nat} (p : UInt8 → Bool) (h : pos < Q.length) : (Q.drop pos).countP p = (if p Q[pos] = true then 1 else 0) + (Q.drop (pos + 1)).countP p := by
  rw [List.drop_eq_getElem_cons h, List.countP_cons]; omega
theorem form_dir : ∀ k, k < 6 → ∀ pos, (h : pos < (Dr.partsOf k).length) → (Dr.partsOf k)[pos] = 100 → k = 2 ∧ ((Dr.partsOf k).drop pos).countP isN = 1 := by decide
theorem form_nums : ∀ k, k < 6 → (Dr.partsOf k).countP isN = Dr.nums k := by decide
theorem form_names : ∀ k, k < 6 → (Dr.partsOf k).countP isW ≤ 2 := by decide
theorem outs_n {Q : List UInt8} {pos : Nat} {nms : List (List UInt8)} {v : Int} {ns : List Int} (h : pos < Q.length) (hc : Q[pos] = 110) : Dr.outs (Q.drop pos) nms (v :: ns) = Lib.itoa v :: Dr.outs (Q.drop (pos + 1)) nms ns := by
  rw [List.drop_eq_getElem_cons h, hc, Dr.outs, if_pos rfl]; rfl
theorem outs_d {Q : List UInt8} {pos : Nat} {nms : List (List UInt8)} {v : Int} {ns : List Int} (h : pos < Q.length) (hc : Q[pos] = 100) : Dr.outs (Q.drop pos) nms (v :: ns) = Dr.dirs.getD v.toNat [] :: Dr.outs (Q.drop (pos + 1)) nms ns := by
  rw [List.drop_eq_getElem_cons h, hc, Dr.outs, if_neg (by decide), if_pos rfl]; rfl
theorem outs_w {Q : List UInt8} {pos : Nat} {nm : List UInt8} {nms : List (List UInt8)} {ns : List Int} (h : pos < Q.length) (hc : Q[pos] = 119 ∨ Q[pos] = 111) (hn : nm ≠ []) : Dr.outs (Q.drop pos) (nm :: nms) ns = nm :: Dr.outs (Q.drop (pos + 1)) nms ns := by
  rw [List.drop_eq_getElem_cons h, Dr.outs, if_neg (by rcases hc with h | h <;> rw [h] <;> decide), if_neg (by rcases hc with h | h <;> rw [h] <;> decide), if_neg (show ¬ (nm :: nms).headD [] = [] from hn)]; rfl
theorem outs_e {Q : List UInt8} {pos : Nat} {nms : List (List UInt8)} {ns : List Int} (h : pos < Q.length) (hc : Q[pos] = 119 ∨ Q[pos] = 111) : Dr.outs (Q.drop pos) ([] :: nms) ns = Dr.outs (Q.drop (pos + 1)) ([] :: nms) ns := by
  rw [List.drop_eq_getElem_cons h, Dr.outs, if_neg (by rcases hc with h | h <;> rw [h] <;> decide), if_neg (by rcases hc with h | h <;> rw [h] <;> decide), if_pos (show ([] :: nms).headD [] = ([] : List UInt8) from rfl)]
theorem join_spaced (a : List UInt8) : ∀ l : List (List UInt8), Lib.join (a :: l) [32] = a ++ Dr.spaced l := by
  intro l
  induction l generalizing a with
  | nil => rw [Lib.join_one]; simp [Dr.spaced]
  | cons b l ih =>
    have e : Lib.join (a :: b :: l) [32] = a ++ ([32] ++ Lib.join (b :: l) [32]) := by simp [Lib.join, List.intercalate, List.intersperse]
    rw [e, ih]; simp [Dr.spaced]
theorem spaced_len {l : List (List UInt8)} (h : ∀ s ∈ l, s.length ≤ 30) : (Dr.spaced l).length ≤ 31 * l.length := by
  induction l with
  | nil => simp [Dr.spaced]
  | cons a l ih =>
    have := ih fun s hs => h s (List.mem_cons_of_mem _ hs)
    have h1 := h a (List.mem_cons_self ..)
    have e : Dr.spaced (a :: l) = (32 :: a) ++ Dr.spaced l := rfl
    rw [e, List.length_append, List.length_cons, List.length_cons]; omega
theorem outs_len : ∀ (ps : List UInt8) (nms : List (List UInt8)) (ns : List Int), (Dr.outs ps nms ns).length ≤ ps.length
  | [], _, _ => Nat.le_refl _
  | p :: ps, nms, ns => by
    rw [Dr.outs]
    split
    · have := outs_len ps nms ns.tail; simp; omega
    split
    · have := outs_len ps nms ns.tail; simp; omega
    split
    · have := outs_len ps nms ns; simp; omega
    · have := outs_len ps nms.tail ns; simp; omega
theorem dirs_len (k : Nat) : (Dr.dirs.getD k []).length ≤ 5 := by
  rcases Nat.lt_or_ge k 6 with h | h
  · have : ∀ k, k < 6 → (Dr.dirs.getD k []).length ≤ 5 := by decide
    exact this k h
  · rw [List.getD_eq_getElem?_getD, List.getElem?_eq_none (by exact h)]; simp
theorem outs_short : ∀ (ps : List UInt8) (nms : List (List UInt8)) (ns : List Int), (∀ nm ∈ nms, nm.length ≤ 30) → (∀ n ∈ ns, -9223372036854775808 ≤ n ∧ n ≤ 9223372036854775807) → ∀ s ∈ Dr.outs ps nms ns, s.length ≤ 30
  | [], _, _, _, _ => by intro s hs; cases hs
  | p :: ps, nms, ns, hm, hn => by
    have hn' : ∀ n ∈ ns.tail, -9223372036854775808 ≤ n ∧ n ≤ 9223372036854775807 := fun n h => hn n (List.mem_of_mem_tail h)
    have hm' : ∀ n ∈ nms.tail, n.length ≤ 30 := fun n h => hm n (List.mem_of_mem_tail h)
    rw [Dr.outs]
    split
    · intro s hs
      rcases List.mem_cons.1 hs with rfl | hs
      · have h := Lib.itoa_length_le (ns.headD 0)
        cases ns with
        | nil => have := h (by decide) (by decide); omega
        | cons a l => have := hn a (List.mem_cons_self ..); have := h this.1 this.2; omega
      · exact outs_short ps nms ns.tail hm hn' s hs
    split
    · intro s hs
      rcases List.mem_cons.1 hs with rfl | hs
      · have := dirs_len (ns.headD 0).toNat; omega
      · exact outs_short ps nms ns.tail hm hn' s hs
    split
    · exact outs_short ps nms ns hm hn
    · intro s hs
      rcases List.mem_cons.1 hs with rfl | hs
      · cases nms with
        | nil => simp
        | cons a l => exact hm a (List.mem_cons_self ..)
      · exact outs_short ps nms.tail ns hm' hn s hs
end Go.Proofs.YtnccndfffmaonaaGreatDoor
/- Walks of package draft: the line of an item. -/
namespace Go.Proofs.YtnccndfffmaonaaGreatDoor
set_option linter.unusedSimpArgs false
set_option linter.unusedVariables false
open Go.RowKit Go.Maps

theorem Tryz.dirsArr : ∀ k, k < 6 → dirsC.toArray[k]? = some (.string ⟨(Dr.dirs.getD k []).toArray⟩) := by
  intro k hk
  match k, hk with
  | 0, _ => rfl
  | 1, _ => rfl
  | 2, _ => rfl
  | 3, _ => rfl
  | 4, _ => rfl
  | 5, _ => rfl
theorem Dec_is (n : Int) (D : ByteArray) (hD : (⟨(Lib.itoa n).toArray⟩ : ByteArray) = D) (h0 : -9223372036854775808 ≤ n) (h1 : n ≤ 9223372036854775807) (w : World) (hE : Env w) :
    Calls Tryz.prog 65 #[.int .i64 n] w fun e w' => e = .returned (.string D) ∧ Below w.heap.size w w' := by
  rw [← hD]; exact Dec_k n h0 h1 w hE
set_option maxRecDepth 100000 in
set_option maxHeartbeats 64000000 in
theorem lineI_any (x : Dr.Item) (k : Nat) (hk : k < 6) (hxk : x.kind = (k : Int)) (nv : Value) (w : World) (hx : Dr.rightI x = true) (hn : Sl w nv (ints x.n)) (hcp : capOk nv) (hmx : ∀ n ∈ x.n, n ≤ 9223372036854775807) (hE : Env w) :
    Calls Tryz.prog 36 #[itemV x nv] w fun e w' => e = .returned (.string ⟨(Dr.lineB x).toArray⟩) ∧ Below w.heap.size w w' := by
  obtain ⟨i0, hi0, hz0, hz1, hz2⟩ := info_parts Tryz.strInfo
  have hxk2 : x.kind.toNat = k := by omega
  obtain ⟨-, -, hn0, hnl, hdir, hnm, hot⟩ := Dr.right_parts hx
  rw [hxk2] at hnl
  obtain ⟨na, nc, rfl, hnm1⟩ := hn.slice
  have hw1 : x.name.length ≤ 30 := by
    unfold Dr.nameOk at hnm
    simp only [Bool.or_eq_true, Bool.and_eq_true, decide_eq_true_eq] at hnm
    rcases hnm with ⟨h, -⟩ | ⟨-, h⟩
    · rw [h]; simp
    · unfold Lx.word at h; simp only [Bool.and_eq_true, decide_eq_true_eq] at h; omega
  have hw2 : x.other.length ≤ 30 := by
    unfold Dr.otherOk at hot
    simp only [Bool.or_eq_true, Bool.and_eq_true, decide_eq_true_eq] at hot
    rcases hot with ⟨h, -⟩ | ⟨-, h⟩
    · rw [h]; simp
    · unfold Lx.word at h; simp only [Bool.and_eq_true, decide_eq_true_eq] at h; omega
  obtain ⟨Q, hQ⟩ : ∃ Q, Dr.partsOf k = Q := ⟨_, rfl⟩
  have hfc := forms_cell k hk
  have hfw := forms_word k hk
  obtain ⟨p8, p4, -⟩ := parts_four k hk
  have pd := form_dir k hk
  have pn := form_nums k hk
  have pw := form_names k hk
  rw [hQ] at hfc p8 p4 pd pn pw
  obtain ⟨P, hP⟩ : ∃ P : ByteArray, P = ⟨Q.toArray⟩ := ⟨_, rfl⟩
  have hPs : P.size = Q.length := by rw [hP, ← bs_len, bs_lit0 Q]
  have hPg : ∀ i, (h : i < Q.length) → (h' : i < P.size) → P[i] = Q[i] := fun i h h' => by subst hP; rfl
  rw [← hP] at hfc
  obtain ⟨Wd, hWd⟩ : ∃ Wd, Dr.wordOf k = Wd := ⟨_, rfl⟩
  have hWl : Wd.length ≤ 30 := by
    have : ∀ k, k < 6 → (Dr.wordOf k).length ≤ 30 := by decide
    rw [← hWd]; exact this k hk
  rw [hWd] at hfw
  obtain ⟨G, hG⟩ : ∃ G, G = Wd :: Dr.outs Q [x.name, x.other] x.n := ⟨_, rfl⟩
  have HGL : Hid (Dr.lineB x = Lib.join G [32] ++ [10]) := Lib.hid (by rw [hG, join_spaced]; unfold Dr.lineB; rw [hxk2, hQ, hWd])
  have HGN : Hid (G.length ≤ 9 ∧ ∀ s ∈ G, s.length ≤ 30) := Lib.hid (by
    rw [hG]
    refine ⟨?_, fun s hs => ?_⟩
    · have := outs_len Q [x.name, x.other] x.n; simp; omega
    · rcases List.mem_cons.1 hs with rfl | hs
      · exact hWl
      · refine outs_short Q [x.name, x.other] x.n ?_ (fun n h => ⟨by have := hn0 n h; omega, hmx n h⟩) s hs
        intro nm h
        rcases List.mem_cons.1 h with rfl | h
        · exact hw1
        · obtain rfl := List.mem_singleton.1 h; exact hw2)
  have HX : Hid (∀ n ∈ x.n, 0 ≤ n ∧ n ≤ 9223372036854775807) := Lib.hid fun n h => ⟨hn0 n h, hmx n h⟩
  have HD : Hid (∀ v, x.kind = 2 → x.n.drop 3 = [v] → v < 6) := Lib.hid (fun v h2 h3 => by
    have h4 := hdir h2
    have e : x.n.getD 3 0 = v := by
      have : (x.n.drop 3)[0]? = some v := by rw [h3]; rfl
      rw [List.getElem?_drop] at this
      simp [List.getD_eq_getElem?_getD, this]
    omega)
  have hNL : x.n.length = Q.countP isN := by rw [hnl, pn]
  have HNL := Lib.hid hNL
  have hQN : Q.countP isN = Dr.nums k := pn
  have HQN := Lib.hid hQN
  have HPS := Lib.hid hPs
  have HPG := Lib.hid hPg
  have HP4 := Lib.hid p4
  have HPD := Lib.hid pd
  have HG := Lib.hid hG
  have HE := Lib.hid hE
  have HS := Lib.hid hn
  have HXK := Lib.hid hxk
  have hcp1 : (ints x.n).length ≤ nc := hcp
  have HCP := Lib.hid hcp
  have kI0 : (0 : Int) ≤ (k : Int) := by omega
  have kI1 : (k : Int) < 6 := by omega
  have kI2 : (k : Int).toNat = k := by omega
  obtain ⟨L, hL⟩ : ∃ L, (ints x.n).length = L := ⟨_, rfl⟩
  have HL := Lib.hid hL
  rw [hL] at HS HCP hnm1 hcp1 ⊢
  have hL63 : L ≤ 9223372036854775807 := by unfold maxLen at hnm1; omega
  unfold itemV
  rw [hxk]
  have B1 := Lib.hid ((Below.refl _ w).alloc (Nat.le_refl _) (.cells #[.int .i64 k, .int .i64 x.line, .string ⟨x.name.toArray⟩, .string ⟨x.other.toArray⟩, .slice na L nc] 34))
  obtain ⟨F, hF⟩ : ∃ F : Obj, F = .cells formsC.toArray 86 := ⟨_, rfl⟩
  clear hx hn0 hnl hdir hnm hot hmx hn hxk hxk2 hQ hP hPs hPg hWd hG hE hL p4 pd pn hw1 hw2 hnm1 hNL hcp hF
  go_enter Tryz.func36, Tryz.ntmps36
  go_upto_region 1 with fail
  go_cut [3] (fun v wx => ∃ fb, v = .pointer (some ⟨fb, 0, none⟩) ∧ w.heap.size + 1 ≤ fb ∧ Hid (wx.heap[fb]? = some (.cells #[.string ⟨Wd.toArray⟩, .string P] 86 (0, 0))) ∧ Hid (wx.heap[w.heap.size]? = some (.cells #[.int .i64 k, .int .i64 x.line, .string ⟨x.name.toArray⟩, .string ⟨x.other.toArray⟩, .slice na L nc] 34 (0, 0))) ∧ Hid (Below w.heap.size w wx))
  case first =>
    first
      | (go_region_with ((go_at_call 48; refine (forms_any _).mono ?_; rintro e w3 ⟨rfl, rfl⟩)))
      | fail
    all_goals
      go_wp2_with fail
      go_meet
      first
        | exact ⟨_, rfl, by simp, Lib.hid (heap3 w _ _ _).2.1, Lib.hid (heap3 w _ _ _).1, Lib.hid (((B1.out.alloc (by simp) _).alloc (by simp; omega) _).drew)⟩
        | exact ⟨_, rfl, by simp, Lib.hid (heap3 w _ _ _).2.2, Lib.hid (heap3 w _ _ _).1, Lib.hid (((B1.out.alloc (by simp) _).alloc (by simp; omega) _).drew)⟩
        | (refine ⟨_, rfl, ?_, ?_, ?_, ?_⟩ <;> trace_state <;> sorry)
  case rest =>
    obtain ⟨fb, rfl, hfb, F0, I0, B2⟩ := hcut
    have cF0 : wc.cell? ⟨fb, 0, none⟩ = some (.string ⟨Wd.toArray⟩) := cell_of_heap F0.out 0 rfl
    have cF1 : wc.cell? ⟨fb, 1, none⟩ = some (.string P) := cell_of_heap F0.out 1 rfl
    have c2 : wc.cell? ⟨w.heap.size, 2, none⟩ = some (.string ⟨x.name.toArray⟩) := cell_of_heap I0.out 2 rfl
    have c3 : wc.cell? ⟨w.heap.size, 3, none⟩ = some (.string ⟨x.other.toArray⟩) := cell_of_heap I0.out 3 rfl
    have c4 : wc.cell? ⟨w.heap.size, 4, none⟩ = some (.slice na L nc) := cell_of_heap I0.out 4 rfl
    have l1 : fb < wc.heap.size := (Array.getElem?_eq_some_iff.1 F0.out).1
    have l2 : w.heap.size < wc.heap.size := (Array.getElem?_eq_some_iff.1 I0.out).1
    clear B1 hfc hfw
    go_wp2_with fail
    go_region_held3 (fun w' => w'.cell? ⟨w.heap.size, 2, none⟩ = some (.string ⟨x.name.toArray⟩) ∧ w'.cell? ⟨w.heap.size, 3, none⟩ = some (.string ⟨x.other.toArray⟩) ∧ w'.cell? ⟨w.heap.size, 4, none⟩ = some (.slice na L nc)) (go_keep) (fail)
    go_wp2_with fail
    have LS0 : LnS wc (((wc.alloc (.cells #[.string ⟨Wd.toArray⟩] 9)).alloc (.cells #[.string ⟨x.name.toArray⟩, .string ⟨x.other.toArray⟩] 9)).drew.iter P 0) P x.name x.other 0 (.slice (some ⟨wc.heap.size, 0, none⟩) 1 1) [Wd] := by
      unfold World.iter
      refine ⟨⟨rfl, .inr ⟨wc.heap.size, 1, _, rfl, Nat.le_refl _, (heap3 wc _ _ _).1, Nat.le_refl _, by unfold maxLen; omega, rfl, rfl⟩⟩, (heap3 wc _ _ _).2.1, (heap3 wc _ _ _).2.2, by simp [Value.ownBlock], ?_⟩
      exact ((((Below.refl _ wc).alloc (Nat.le_refl _) _).alloc (by simp) _).drew).alloc (by simp; omega) _
    have HLS0 := Lib.hid LS0
    have HS0 : Hid (Sl wc (.slice na L nc) (ints (x.n.drop 0)) ∧ capOk (.slice na L nc)) := Lib.hid ⟨HS.out.below B2.out, HCP.out⟩
    have HG0 : Hid (G = [Wd] ++ Dr.outs (Q.drop 0) ([x.name, x.other].drop 0) (x.n.drop 0)) := HG
    clear cF0 cF1 c2 c3 c4 l1 l2 F0 I0 LS0
    go_loopw [4, 5, 6] (fun ov nm nv' wr => ∃ (O : List (List UInt8)) (pos j i : Nat) (a6 : Option Addr) (m6 c6 : Nat), Hid (LnS wc wr P x.name x.other pos ov O) ∧ pos ≤ Q.length ∧ nm = namesV (wc.heap.size + 1) j ∧ nv' = .slice a6 m6 c6 ∧ Hid (Sl wc (.slice a6 m6 c6) (ints (x.n.drop i)) ∧ capOk (.slice a6 m6 c6)) ∧ Hid (G = O ++ Dr.outs (Q.drop pos) ([x.name, x.other].drop j) (x.n.drop i)) ∧ j + (Q.drop pos).countP isW ≤ 2 ∧ i + (Q.drop pos).countP isN = x.n.length ∧ O.length ≤ pos + 1) (fun _ _ _ wr => P.size - wr.iterPos (wc.heap.size + 2))
    case atStart => exact ⟨_, 0, 0, 0, _, _, _, HLS0, by omega, rfl, rfl, HS0, HG0, by rw [List.drop_zero]; omega, by rw [List.drop_zero]; have := HNL.out; omega, by simp⟩
    case round =>
      obtain ⟨O, pos, j, i, a6, m6, c6, HLS, hpl, rfl, rfl, HSN, HGR, hjc, hic, hOl⟩ := hrel
      clear HLS0 HS0 HG0
      obtain ⟨ao, co, rfl, hol⟩ := own_slice HLS.out.hO
      by_cases hpq : pos < Q.length
      · have hlt2 : pos < P.size := by rw [HPS.out]; exact hpq
        have hc4 := HP4.out Q[pos] (List.getElem_mem hpq)
        have hasc : (P[pos].toNat : Nat) < 128 := by rw [HPG.out pos hpq hlt2]; rcases hc4 with h | h | h | h <;> rw [h] <;> decide
        have hnext : ∀ ty, (Instr.next (.pointer (some ⟨wc.heap.size + 1 + 1, 0, none⟩)) true ty).run Tryz.prog wr = _ := fun ty => Lib.run_next_ascii_at wr (wc.heap.size + 2) P pos ty HLS.out.hI hlt2 hasc
        have s1 := HLS.out.iter (pos + 1)
        have S1 := Lib.hid s1
        clear s1
        generalize wr.iterAt (wc.heap.size + 2) P (pos + 1) = W1 at hnext S1
        rcases hc4 with hc | hc | hc | hc
        · have e110 : ((P[pos].toNat : Int) == 110) = true := by rw [HPG.out pos hpq hlt2, hc]; rfl
          have hcw : List.countP isW (List.drop pos Q) = 0 + List.countP isW (List.drop (pos + 1) Q) := by rw [cnt_drop isW hpq, hc]; rfl
          have hcn : List.countP isN (List.drop pos Q) = 1 + List.countP isN (List.drop (pos + 1) Q) := by rw [cnt_drop isN hpq, hc]; rfl
          have hix : i < x.n.length := by omega
          have hdi := List.drop_eq_getElem_cons hix
          obtain ⟨v, hv⟩ : ∃ v, v = x.n[i] := ⟨_, rfl⟩
          rw [← hv] at hdi
          obtain ⟨hv0, hv1⟩ := HX.out v (by rw [hv]; exact List.getElem_mem hix)
          have hsl : Sl wc (.slice a6 m6 c6) (.int .i64 v :: ints (x.n.drop (i + 1))) := by
            have h := HSN.out.1
            rw [hdi] at h; exact h
          obtain ⟨nv2, hrun, hs2, hc2⟩ := Sl_cut1 hsl HSN.out.2 Tryz.underlying32 (fun _ => by kernel_rfl)
          obtain ⟨b2, o2, cc2, e6, hm2, hcs⟩ := hsl.some (by simp)
          injection e6 with e6 e7 e8
          subst e6
          have q0 : wc.cell? ⟨b2, o2, none⟩ = some (.int .i64 v) := hcs 0 (by simp)
          have lb2 : b2 < wc.heap.size := cell_block_lt q0
          have lw1 := S1.out.hB.size
          have lb3 : b2 < W1.heap.size := by omega
          have q0 : W1.cell? ⟨b2, o2, none⟩ = some (.int .i64 v) := (S1.out.hB.cell (p := ⟨b2, o2, none⟩) lb2).trans q0
          have hM0 : 0 < m6 := by rw [e7]; simp
          have hM1 : (0 : Int) < (m6 : Int) := by omega
          have HEW := Lib.hid ((HE.out.below B2.out).below S1.out.hB)
          obtain ⟨a7, m7, c7, rfl⟩ : ∃ a n c, nv2 = Value.slice a n c := by obtain ⟨a, c, h, -⟩ := hs2.slice; exact ⟨_, _, _, h⟩
          have HS2 : Hid (Sl wc (.slice a7 m7 c7) (ints (x.n.drop (i + 1))) ∧ capOk (.slice a7 m7 c7)) := Lib.hid ⟨hs2, hc2⟩
          have hne2 : ∀ k, (Value.slice ao O.length co).ownBlock = some k → wc.heap.size ≤ k := fun k hk => (World.ownsRow.lt S1.out.hO k hk).1
          have HNE := Lib.hid hne2
          have HGN2 : Hid (G = (O ++ [Lib.itoa v]) ++ Dr.outs (Q.drop (pos + 1)) ([x.name, x.other].drop j) (x.n.drop (i + 1))) := Lib.hid (by rw [HGR.out, hdi, outs_n hpq hc]; simp)
          obtain ⟨D, hD⟩ : ∃ D : ByteArray, (⟨(Lib.itoa v).toArray⟩ : ByteArray) = D := ⟨_, rfl⟩
          have HD2 := Lib.hid hD
          have hcw2 : j + List.countP isW (List.drop (pos + 1) Q) ≤ 2 := by omega
          have hcn2 : i + 1 + List.countP isN (List.drop (pos + 1) Q) = x.n.length := by omega
          clear hcw hcn hjc hic hdi hv hsl hs2 hc2 hcs hm2 e7 e8 hc hD hne2
          go_wp2_with fail
          go_region_held3 (fun w' => w'.cell? ⟨b2, o2, none⟩ = some (.int .i64 v)) (go_keep)
            (first | (go_at_call 65; refine (Dec_is v D HD2.out (by omega) (by omega) _ (by exact HEW.out.drewN 1)).mono ?_; rintro e w3 ⟨rfl, b3⟩; have q1 := (b3.cell (p := ⟨b2, o2, none⟩) (cell_lt q0)).trans q0; have hb3 : wc.heap.size ≤ w3.heap.size := Nat.le_trans lw1 b3.size) | (refine step_append_lies _ (by rfl) _ _ _ (by rfl) wc.heap.size 9 i0 _ 1 16 Tryz.underlying45 hi0 hz0 hz1 hz2 rfl (by omega) (.slice ao O.length co) O.length (strs O) (by rfl) (by exact World.ownsRow.alloc (S1.out.keep ((below_drewN _ _ _).trans b3)).hO _) ⟨w3.heap.size, 0, none⟩ 1 1 [.string D] (by rfl) (by rfl) (World.news_of_block (cs := #[.string D]) (t := 9) (fr := (0, 0)) (by exact heap_alloc_new _ _)) (by simp [Value.oneCell']) (by omega) (by unfold maxLen; omega) (by omega) (by simp; omega) (w3.heap.size + 1) (by simp) ?_; intro g' cap' w4 hown4 hgrow hat hlt4; have q2 : w4.cell? ⟨b2, o2, none⟩ = some (.int .i64 v) := (hgrow.cell_far ⟨b2, o2, none⟩ (Nat.lt_of_lt_of_le (Nat.lt_of_lt_of_le lb2 (Nat.le_trans lw1 b3.size)) (by simp)) (fun e => absurd (HNE.out b2 e.symm) (Nat.not_le_of_lt lb2))).trans ((((Below.refl _ w3).alloc (Nat.le_refl _) _).cell (p := ⟨b2, o2, none⟩) (Nat.lt_of_lt_of_le lb2 (Nat.le_trans lw1 b3.size))).trans q1)))
          all_goals
            rw [← HD2.out] at hown4
            have S4 := Lib.hid (((S1.out.keep ((below_drewN _ _ _).trans b3)).keep ((Below.refl _ _).alloc (Nat.le_refl _) _)).app hown4 hgrow hat (by simp))
            clear hown4 hgrow hat b3 q0 q1 q2 hrun
            go_wp2_with fail
            go_roundw
            case rel => exact ⟨O ++ [Lib.itoa v], pos + 1, j, i + 1, _, _, _, S4, by omega, rfl, rfl, HS2, HGN2, hcw2, hcn2, by simp; omega⟩
            case measure => rw [lns_pos HLS.out, lns_pos S4.out]; omega
        · have e110 : ((P[pos].toNat : Int) == 110) = false := by rw [HPG.out pos hpq hlt2, hc]; rfl
          have e100 : ((P[pos].toNat : Int) == 100) = true := by rw [HPG.out pos hpq hlt2, hc]; rfl
          obtain ⟨hk2, hcn1⟩ := HPD.out pos hpq hc
          have hcw : List.countP isW (List.drop pos Q) = 0 + List.countP isW (List.drop (pos + 1) Q) := by rw [cnt_drop isW hpq, hc]; rfl
          have hcn : List.countP isN (List.drop pos Q) = 1 + List.countP isN (List.drop (pos + 1) Q) := by rw [cnt_drop isN hpq, hc]; rfl
          have hix : i < x.n.length := by omega
          have hdi := List.drop_eq_getElem_cons hix
          obtain ⟨v, hv⟩ : ∃ v, v = x.n[i] := ⟨_, rfl⟩
          rw [← hv] at hdi
          obtain ⟨hv0', hv1⟩ := HX.out v (by rw [hv]; exact List.getElem_mem hix)
          obtain ⟨v2, hv2⟩ : ∃ v2 : Nat, v = (v2 : Int) := ⟨v.toNat, by omega⟩
          subst hv2
          rename Nat => v
          have hv0 : (0 : Int) ≤ (v : Int) := by omega
          clear hv0'
          have hsl : Sl wc (.slice a6 m6 c6) (.int .i64 (v : Int) :: ints (x.n.drop (i + 1))) := by
            have h := HSN.out.1
            rw [hdi] at h; exact h
          obtain ⟨nv2, hrun, hs2, hc2⟩ := Sl_cut1 hsl HSN.out.2 Tryz.underlying32 (fun _ => by kernel_rfl)
          obtain ⟨b2, o2, cc2, e6, hm2, hcs⟩ := hsl.some (by simp)
          injection e6 with e6 e7 e8
          subst e6
          have q0 : wc.cell? ⟨b2, o2, none⟩ = some (.int .i64 (v : Int)) := hcs 0 (by simp)
          have lb2 : b2 < wc.heap.size := cell_block_lt q0
          have lw1 := S1.out.hB.size
          have lb3 : b2 < W1.heap.size := by omega
          have q0 : W1.cell? ⟨b2, o2, none⟩ = some (.int .i64 (v : Int)) := (S1.out.hB.cell (p := ⟨b2, o2, none⟩) lb2).trans q0
          have hM0 : 0 < m6 := by rw [e7]; simp
          have hM1 : (0 : Int) < (m6 : Int) := by omega
          have HEW := Lib.hid ((HE.out.below B2.out).below S1.out.hB)
          obtain ⟨a7, m7, c7, rfl⟩ : ∃ a n c, nv2 = Value.slice a n c := by obtain ⟨a, c, h, -⟩ := hs2.slice; exact ⟨_, _, _, h⟩
          have HS2 : Hid (Sl wc (.slice a7 m7 c7) (ints (x.n.drop (i + 1))) ∧ capOk (.slice a7 m7 c7)) := Lib.hid ⟨hs2, hc2⟩
          have hne2 : ∀ k, (Value.slice ao O.length co).ownBlock = some k → wc.heap.size ≤ k := fun k hk => (World.ownsRow.lt S1.out.hO k hk).1
          have HNE := Lib.hid hne2
          have hv6 : (v : Int) < 6 := by
            have hl4 : x.n.length = 4 := by have h1 := HNL.out; have h2 := HQN.out; rw [hk2] at h2; rw [h1]; exact h2
            have hi3 : i = 3 := by omega
            subst hi3
            refine HD.out (v : Int) (by rw [HXK.out, hk2]; rfl) ?_
            rw [hdi, List.drop_eq_nil_of_le (by omega)]
          have vI : (v : Int).toNat = v := by omega
          have vN : v < 6 := by omega
          have hdc : dirsC.toArray[v]? = some (.string ⟨(Dr.dirs.getD v []).toArray⟩) := Tryz.dirsArr v (by omega)
          obtain ⟨D, hD⟩ : ∃ D : ByteArray, (⟨(Dr.dirs.getD v []).toArray⟩ : ByteArray) = D := ⟨_, rfl⟩
          rw [hD] at hdc
          have HD2 := Lib.hid hD
          have HGN2 : Hid (G = (O ++ [Dr.dirs.getD v []]) ++ Dr.outs (Q.drop (pos + 1)) ([x.name, x.other].drop j) (x.n.drop (i + 1))) := Lib.hid (by rw [HGR.out, hdi, outs_d hpq hc, vI]; simp)
          have hcw2 : j + List.countP isW (List.drop (pos + 1) Q) ≤ 2 := by omega
          have hcn2 : i + 1 + List.countP isN (List.drop (pos + 1) Q) = x.n.length := by omega
          clear hcw hcn hjc hic hdi hv hsl hs2 hc2 hcs hm2 e7 e8 hc hD hne2 hk2 hcn1
          have hown3 := World.ownsRow.alloc (S1.out.keep (((Below.refl _ W1).alloc (Nat.le_refl _) (.cells dirsC.toArray 9)).drew)).hO (.cells #[.string D] 9)
          have HO3 := Lib.hid hown3
          clear hown3
          go_wp2_with fail
          go_region_law (first | (refine step_append_lies _ (by rfl) _ _ _ (by rfl) wc.heap.size 9 i0 _ 1 16 Tryz.underlying45 hi0 hz0 hz1 hz2 rfl (by omega) (.slice ao O.length co) O.length (strs O) (by rfl) (by exact HO3.out) ⟨W1.heap.size + 1, 0, none⟩ 1 1 [.string D] (by rfl) (by rfl) (World.news_of_block (cs := #[.string D]) (t := 9) (fr := (0, 0)) (by exact heap_two3 W1 _ _)) (by simp [Value.oneCell']) (by omega) (by unfold maxLen; omega) (by omega) (by simp; omega) (W1.heap.size + 2) (by simp) ?_; intro g' cap' w4 hown4 hgrow hat hlt4) | (go_simp; go_wp2_with (go_at_call 66; refine (directions_any _).mono ?_; rintro e w3 ⟨rfl, rfl⟩)))
          all_goals
            rw [← HD2.out] at hown4
            have S4 := Lib.hid (((S1.out.keep (((Below.refl _ W1).alloc (Nat.le_refl _) (.cells dirsC.toArray 9)).drew)).keep ((Below.refl _ _).alloc (Nat.le_refl _) _)).app hown4 hgrow hat (by simp))
            clear hown4 hgrow hat q0 hrun
            go_wp2_with fail
            go_roundw
            case rel => ((repeat apply Exists.intro); exact ⟨⟨O ++ [Dr.dirs.getD v []], pos + 1, j, i + 1, a7, m7, c7, S4, by omega, rfl, rfl, HS2, HGN2, hcw2, hcn2, by simp; omega⟩, rfl⟩)
            case measure => rw [lns_pos HLS.out, lns_pos S4.out]; omega
        · have e110 : ((P[pos].toNat : Int) == 110) = false := by rw [HPG.out pos hpq hlt2, hc]; rfl
          have e100 : ((P[pos].toNat : Int) == 100) = false := by rw [HPG.out pos hpq hlt2, hc]; rfl
          have hcw : List.countP isW (List.drop pos Q) = 1 + List.countP isW (List.drop (pos + 1) Q) := by rw [cnt_drop isW hpq, hc]; rfl
          have hcn : List.countP isN (List.drop pos Q) = 0 + List.countP isN (List.drop (pos + 1) Q) := by rw [cnt_drop isN hpq, hc]; rfl
          obtain rfl | rfl : j = 0 ∨ j = 1 := by omega
          · obtain ⟨nm, hnm⟩ : ∃ nm, nm = x.name := ⟨_, rfl⟩
            have p1 : W1.cell? ⟨wc.heap.size + 1, 0, none⟩ = some (.string ⟨nm.toArray⟩) := by rw [hnm]; exact cell_of_heap S1.out.hM 0 rfl
            have lp1 : wc.heap.size + 1 < W1.heap.size := (Array.getElem?_eq_some_iff.1 S1.out.hM).1
            have lw1 := S1.out.hB.size
            have en : namesV (wc.heap.size + 1) 0 = .slice (some ⟨wc.heap.size + 1, 0, none⟩) 2 2 := rfl
            have hne2 : ∀ k, (Value.slice ao O.length co).ownBlock = some k → k ≠ wc.heap.size + 1 := fun k hk e => S1.out.hne (by rw [hk, e])
            have HNE := Lib.hid hne2
            have hcn2 : i + List.countP isN (List.drop (pos + 1) Q) = x.n.length := by omega
            by_cases hs : nm = []
            · have HGN2 : Hid (G = O ++ Dr.outs (Q.drop (pos + 1)) ([x.name, x.other].drop 0) (x.n.drop i)) := Lib.hid (by
                rw [HGR.out]
                have e : [x.name, x.other].drop 0 = [] :: [x.name, x.other].drop 1 := by rw [← hs, hnm]; rfl
                rw [e, outs_e hpq (.inl hc)])
              have hcw2 : 0 + List.countP isW (List.drop (pos + 1) Q) ≤ 2 := by omega
              have hs1 : (nm != []) = false := by rw [hs]; rfl
              have hs2 : nm.isEmpty = true := by rw [hs]; rfl
              have HSS := Lib.hid hs
              clear hcw hcn hjc hic hc hne2 hnm hs
              go_wp2_with fail
              go_roundw
              case rel => exact ⟨O, pos + 1, 0, i, _, _, _, S1, by omega, rfl, rfl, HSN, HGN2, hcw2, hcn2, by omega⟩
              case measure => rw [lns_pos HLS.out, lns_pos S1.out]; omega
            · have HGN2 : Hid (G = (O ++ [nm]) ++ Dr.outs (Q.drop (pos + 1)) ([x.name, x.other].drop 1) (x.n.drop i)) := Lib.hid (by
                rw [HGR.out]
                have e : [x.name, x.other].drop 0 = nm :: [x.name, x.other].drop 1 := by rw [hnm]; rfl
                rw [e, outs_w hpq (.inl hc) hs]; simp)
              have hcw2 : 1 + List.countP isW (List.drop (pos + 1) Q) ≤ 2 := by omega
              have hs1 : (nm != []) = true := by simpa using hs
              have hs2 : nm.isEmpty = false := by cases nm with | nil => exact absurd rfl hs | cons _ _ => rfl
              have HSS := Lib.hid hs
              clear hcw hcn hjc hic hc hne2 hnm hs
              go_wp2_with fail
              go_region_held3 (fun w' => w'.cell? ⟨wc.heap.size + 1, 0, none⟩ = some (.string ⟨nm.toArray⟩)) (go_keep)
                ((refine step_append_lies _ (by rfl) _ _ _ (by rfl) wc.heap.size 9 i0 _ 1 16 Tryz.underlying45 hi0 hz0 hz1 hz2 rfl (by omega) (.slice ao O.length co) O.length (strs O) (by rfl) (by exact (World.ownsRow.alloc S1.out.hO _).drew) ⟨W1.heap.size, 0, none⟩ 1 1 [.string ⟨nm.toArray⟩] (by rfl) (by rfl) (World.news_of_block (cs := #[.string ⟨nm.toArray⟩]) (t := 9) (fr := (0, 0)) (by exact heap_alloc_new _ _)) (by simp [Value.oneCell']) (by omega) (by unfold maxLen; omega) (by omega) (by simp; omega) (W1.heap.size + 1) (by simp) ?_; intro g' cap' w4 hown4 hgrow hat hlt4; have q2 : w4.cell? ⟨wc.heap.size + 1, 0, none⟩ = some (.string ⟨nm.toArray⟩) := (hgrow.cell_far ⟨wc.heap.size + 1, 0, none⟩ (by simp; omega) (fun e => HNE.out _ e.symm rfl)).trans ((((Below.refl _ W1).alloc (Nat.le_refl _) _).cell (p := ⟨wc.heap.size + 1, 0, none⟩) (by show _ < W1.heap.size; omega)).trans p1)))
              all_goals
                have S4 := Lib.hid ((S1.out.keep (((Below.refl _ W1).alloc (Nat.le_refl _) _).drew)).app hown4 hgrow hat (by simp))
                clear hown4 hgrow hat p1 q2 en
                go_wp2_with fail
                go_roundw
                case rel => exact ⟨O ++ [nm], pos + 1, 1, i, _, _, _, S4, by omega, rfl, rfl, HSN, HGN2, hcw2, hcn2, by simp; omega⟩
                case measure => rw [lns_pos HLS.out, lns_pos S4.out]; omega
          · obtain ⟨nm, hnm⟩ : ∃ nm, nm = x.other := ⟨_, rfl⟩
            have p1 : W1.cell? ⟨wc.heap.size + 1, 1, none⟩ = some (.string ⟨nm.toArray⟩) := by rw [hnm]; exact cell_of_heap S1.out.hM 1 rfl
            have lp1 : wc.heap.size + 1 < W1.heap.size := (Array.getElem?_eq_some_iff.1 S1.out.hM).1
            have lw1 := S1.out.hB.size
            have en : namesV (wc.heap.size + 1) 1 = .slice (some ⟨wc.heap.size + 1, 1, none⟩) 1 1 := rfl
            have hne2 : ∀ k, (Value.slice ao O.length co).ownBlock = some k → k ≠ wc.heap.size + 1 := fun k hk e => S1.out.hne (by rw [hk, e])
            have HNE := Lib.hid hne2
            have hcn2 : i + List.countP isN (List.drop (pos + 1) Q) = x.n.length := by omega
            by_cases hs : nm = []
            · have HGN2 : Hid (G = O ++ Dr.outs (Q.drop (pos + 1)) ([x.name, x.other].drop 1) (x.n.drop i)) := Lib.hid (by
                rw [HGR.out]
                have e : [x.name, x.other].drop 1 = [] :: [x.name, x.other].drop 2 := by rw [← hs, hnm]; rfl
                rw [e, outs_e hpq (.inl hc)])
              have hcw2 : 1 + List.countP isW (List.drop (pos + 1) Q) ≤ 2 := by omega
              have hs1 : (nm != []) = false := by rw [hs]; rfl
              have hs2 : nm.isEmpty = true := by rw [hs]; rfl
              have HSS := Lib.hid hs
              clear hcw hcn hjc hic hc hne2 hnm hs
              go_wp2_with fail
              go_roundw
              case rel => exact ⟨O, pos + 1, 1, i, _, _, _, S1, by omega, rfl, rfl, HSN, HGN2, hcw2, hcn2, by omega⟩
              case measure => rw [lns_pos HLS.out, lns_pos S1.out]; omega
            · have HGN2 : Hid (G = (O ++ [nm]) ++ Dr.outs (Q.drop (pos + 1)) ([x.name, x.other].drop 2) (x.n.drop i)) := Lib.hid (by
                rw [HGR.out]
                have e : [x.name, x.other].drop 1 = nm :: [x.name, x.other].drop 2 := by rw [hnm]; rfl
                rw [e, outs_w hpq (.inl hc) hs]; simp)
              have hcw2 : 2 + List.countP isW (List.drop (pos + 1) Q) ≤ 2 := by omega
              have hs1 : (nm != []) = true := by simpa using hs
              have hs2 : nm.isEmpty = false := by cases nm with | nil => exact absurd rfl hs | cons _ _ => rfl
              have HSS := Lib.hid hs
              clear hcw hcn hjc hic hc hne2 hnm hs
              go_wp2_with fail
              go_region_held3 (fun w' => w'.cell? ⟨wc.heap.size + 1, 1, none⟩ = some (.string ⟨nm.toArray⟩)) (go_keep)
                ((refine step_append_lies _ (by rfl) _ _ _ (by rfl) wc.heap.size 9 i0 _ 1 16 Tryz.underlying45 hi0 hz0 hz1 hz2 rfl (by omega) (.slice ao O.length co) O.length (strs O) (by rfl) (by exact (World.ownsRow.alloc S1.out.hO _).drew) ⟨W1.heap.size, 0, none⟩ 1 1 [.string ⟨nm.toArray⟩] (by rfl) (by rfl) (World.news_of_block (cs := #[.string ⟨nm.toArray⟩]) (t := 9) (fr := (0, 0)) (by exact heap_alloc_new _ _)) (by simp [Value.oneCell']) (by omega) (by unfold maxLen; omega) (by omega) (by simp; omega) (W1.heap.size + 1) (by simp) ?_; intro g' cap' w4 hown4 hgrow hat hlt4; have q2 : w4.cell? ⟨wc.heap.size + 1, 1, none⟩ = some (.string ⟨nm.toArray⟩) := (hgrow.cell_far ⟨wc.heap.size + 1, 1, none⟩ (by simp; omega) (fun e => HNE.out _ e.symm rfl)).trans ((((Below.refl _ W1).alloc (Nat.le_refl _) _).cell (p := ⟨wc.heap.size + 1, 1, none⟩) (by show _ < W1.heap.size; omega)).trans p1)))
              all_goals
                have S4 := Lib.hid ((S1.out.keep (((Below.refl _ W1).alloc (Nat.le_refl _) _).drew)).app hown4 hgrow hat (by simp))
                clear hown4 hgrow hat p1 q2 en
                go_wp2_with fail
                go_roundw
                case rel => exact ⟨O ++ [nm], pos + 1, 2, i, _, _, _, S4, by omega, rfl, rfl, HSN, HGN2, hcw2, hcn2, by simp; omega⟩
                case measure => rw [lns_pos HLS.out, lns_pos S4.out]; omega
        · have e110 : ((P[pos].toNat : Int) == 110) = false := by rw [HPG.out pos hpq hlt2, hc]; rfl
          have e100 : ((P[pos].toNat : Int) == 100) = false := by rw [HPG.out pos hpq hlt2, hc]; rfl
          have hcw : List.countP isW (List.drop pos Q) = 1 + List.countP isW (List.drop (pos + 1) Q) := by rw [cnt_drop isW hpq, hc]; rfl
          have hcn : List.countP isN (List.drop pos Q) = 0 + List.countP isN (List.drop (pos + 1) Q) := by rw [cnt_drop isN hpq, hc]; rfl
          obtain rfl | rfl : j = 0 ∨ j = 1 := by omega
          · obtain ⟨nm, hnm⟩ : ∃ nm, nm = x.name := ⟨_, rfl⟩
            have p1 : W1.cell? ⟨wc.heap.size + 1, 0, none⟩ = some (.string ⟨nm.toArray⟩) := by rw [hnm]; exact cell_of_heap S1.out.hM 0 rfl
            have lp1 : wc.heap.size + 1 < W1.heap.size := (Array.getElem?_eq_some_iff.1 S1.out.hM).1
            have lw1 := S1.out.hB.size
            have en : namesV (wc.heap.size + 1) 0 = .slice (some ⟨wc.heap.size + 1, 0, none⟩) 2 2 := rfl
            have hne2 : ∀ k, (Value.slice ao O.length co).ownBlock = some k → k ≠ wc.heap.size + 1 := fun k hk e => S1.out.hne (by rw [hk, e])
            have HNE := Lib.hid hne2
            have hcn2 : i + List.countP isN (List.drop (pos + 1) Q) = x.n.length := by omega
            by_cases hs : nm = []
            · have HGN2 : Hid (G = O ++ Dr.outs (Q.drop (pos + 1)) ([x.name, x.other].drop 0) (x.n.drop i)) := Lib.hid (by
                rw [HGR.out]
                have e : [x.name, x.other].drop 0 = [] :: [x.name, x.other].drop 1 := by rw [← hs, hnm]; rfl
                rw [e, outs_e hpq (.inr hc)])
              have hcw2 : 0 + List.countP isW (List.drop (pos + 1) Q) ≤ 2 := by omega
              have hs1 : (nm != []) = false := by rw [hs]; rfl
              have hs2 : nm.isEmpty = true := by rw [hs]; rfl
              have HSS := Lib.hid hs
              clear hcw hcn hjc hic hc hne2 hnm hs
              go_wp2_with fail
              go_roundw
              case rel => exact ⟨O, pos + 1, 0, i, _, _, _, S1, by omega, rfl, rfl, HSN, HGN2, hcw2, hcn2, by omega⟩
              case measure => rw [lns_pos HLS.out, lns_pos S1.out]; omega
            · have HGN2 : Hid (G = (O ++ [nm]) ++ Dr.outs (Q.drop (pos + 1)) ([x.name, x.other].drop 1) (x.n.drop i)) := Lib.hid (by
                rw [HGR.out]
                have e : [x.name, x.other].drop 0 = nm :: [x.name, x.other].drop 1 := by rw [hnm]; rfl
                rw [e, outs_w hpq (.inr hc) hs]; simp)
              have hcw2 : 1 + List.countP isW (List.drop (pos + 1) Q) ≤ 2 := by omega
              have hs1 : (nm != []) = true := by simpa using hs
              have hs2 : nm.isEmpty = false := by cases nm with | nil => exact absurd rfl hs | cons _ _ => rfl
              have HSS := Lib.hid hs
              clear hcw hcn hjc hic hc hne2 hnm hs
              go_wp2_with fail
              go_region_held3 (fun w' => w'.cell? ⟨wc.heap.size + 1, 0, none⟩ = some (.string ⟨nm.toArray⟩)) (go_keep)
                ((refine step_append_lies _ (by rfl) _ _ _ (by rfl) wc.heap.size 9 i0 _ 1 16 Tryz.underlying45 hi0 hz0 hz1 hz2 rfl (by omega) (.slice ao O.length co) O.length (strs O) (by rfl) (by exact (World.ownsRow.alloc S1.out.hO _).drew) ⟨W1.heap.size, 0, none⟩ 1 1 [.string ⟨nm.toArray⟩] (by rfl) (by rfl) (World.news_of_block (cs := #[.string ⟨nm.toArray⟩]) (t := 9) (fr := (0, 0)) (by exact heap_alloc_new _ _)) (by simp [Value.oneCell']) (by omega) (by unfold maxLen; omega) (by omega) (by simp; omega) (W1.heap.size + 1) (by simp) ?_; intro g' cap' w4 hown4 hgrow hat hlt4; have q2 : w4.cell? ⟨wc.heap.size + 1, 0, none⟩ = some (.string ⟨nm.toArray⟩) := (hgrow.cell_far ⟨wc.heap.size + 1, 0, none⟩ (by simp; omega) (fun e => HNE.out _ e.symm rfl)).trans ((((Below.refl _ W1).alloc (Nat.le_refl _) _).cell (p := ⟨wc.heap.size + 1, 0, none⟩) (by show _ < W1.heap.size; omega)).trans p1)))
              all_goals
                have S4 := Lib.hid ((S1.out.keep (((Below.refl _ W1).alloc (Nat.le_refl _) _).drew)).app hown4 hgrow hat (by simp))
                clear hown4 hgrow hat p1 q2 en
                go_wp2_with fail
                go_roundw
                case rel => exact ⟨O ++ [nm], pos + 1, 1, i, _, _, _, S4, by omega, rfl, rfl, HSN, HGN2, hcw2, hcn2, by simp; omega⟩
                case measure => rw [lns_pos HLS.out, lns_pos S4.out]; omega
          · obtain ⟨nm, hnm⟩ : ∃ nm, nm = x.other := ⟨_, rfl⟩
            have p1 : W1.cell? ⟨wc.heap.size + 1, 1, none⟩ = some (.string ⟨nm.toArray⟩) := by rw [hnm]; exact cell_of_heap S1.out.hM 1 rfl
            have lp1 : wc.heap.size + 1 < W1.heap.size := (Array.getElem?_eq_some_iff.1 S1.out.hM).1
            have lw1 := S1.out.hB.size
            have en : namesV (wc.heap.size + 1) 1 = .slice (some ⟨wc.heap.size + 1, 1, none⟩) 1 1 := rfl
            have hne2 : ∀ k, (Value.slice ao O.length co).ownBlock = some k → k ≠ wc.heap.size + 1 := fun k hk e => S1.out.hne (by rw [hk, e])
            have HNE := Lib.hid hne2
            have hcn2 : i + List.countP isN (List.drop (pos + 1) Q) = x.n.length := by omega
            by_cases hs : nm = []
            · have HGN2 : Hid (G = O ++ Dr.outs (Q.drop (pos + 1)) ([x.name, x.other].drop 1) (x.n.drop i)) := Lib.hid (by
                rw [HGR.out]
                have e : [x.name, x.other].drop 1 = [] :: [x.name, x.other].drop 2 := by rw [← hs, hnm]; rfl
                rw [e, outs_e hpq (.inr hc)])
              have hcw2 : 1 + List.countP isW (List.drop (pos + 1) Q) ≤ 2 := by omega
              have hs1 : (nm != []) = false := by rw [hs]; rfl
              have hs2 : nm.isEmpty = true := by rw [hs]; rfl
              have HSS := Lib.hid hs
              clear hcw hcn hjc hic hc hne2 hnm hs
              go_wp2_with fail
              go_roundw
              case rel => exact ⟨O, pos + 1, 1, i, _, _, _, S1, by omega, rfl, rfl, HSN, HGN2, hcw2, hcn2, by omega⟩
              case measure => rw [lns_pos HLS.out, lns_pos S1.out]; omega
            · have HGN2 : Hid (G = (O ++ [nm]) ++ Dr.outs (Q.drop (pos + 1)) ([x.name, x.other].drop 2) (x.n.drop i)) := Lib.hid (by
                rw [HGR.out]
                have e : [x.name, x.other].drop 1 = nm :: [x.name, x.other].drop 2 := by rw [hnm]; rfl
                rw [e, outs_w hpq (.inr hc) hs]; simp)
              have hcw2 : 2 + List.countP isW (List.drop (pos + 1) Q) ≤ 2 := by omega
              have hs1 : (nm != []) = true := by simpa using hs
              have hs2 : nm.isEmpty = false := by cases nm with | nil => exact absurd rfl hs | cons _ _ => rfl
              have HSS := Lib.hid hs
              clear hcw hcn hjc hic hc hne2 hnm hs
              go_wp2_with fail
              go_region_held3 (fun w' => w'.cell? ⟨wc.heap.size + 1, 1, none⟩ = some (.string ⟨nm.toArray⟩)) (go_keep)
                ((refine step_append_lies _ (by rfl) _ _ _ (by rfl) wc.heap.size 9 i0 _ 1 16 Tryz.underlying45 hi0 hz0 hz1 hz2 rfl (by omega) (.slice ao O.length co) O.length (strs O) (by rfl) (by exact (World.ownsRow.alloc S1.out.hO _).drew) ⟨W1.heap.size, 0, none⟩ 1 1 [.string ⟨nm.toArray⟩] (by rfl) (by rfl) (World.news_of_block (cs := #[.string ⟨nm.toArray⟩]) (t := 9) (fr := (0, 0)) (by exact heap_alloc_new _ _)) (by simp [Value.oneCell']) (by omega) (by unfold maxLen; omega) (by omega) (by simp; omega) (W1.heap.size + 1) (by simp) ?_; intro g' cap' w4 hown4 hgrow hat hlt4; have q2 : w4.cell? ⟨wc.heap.size + 1, 1, none⟩ = some (.string ⟨nm.toArray⟩) := (hgrow.cell_far ⟨wc.heap.size + 1, 1, none⟩ (by simp; omega) (fun e => HNE.out _ e.symm rfl)).trans ((((Below.refl _ W1).alloc (Nat.le_refl _) _).cell (p := ⟨wc.heap.size + 1, 1, none⟩) (by show _ < W1.heap.size; omega)).trans p1)))
              all_goals
                have S4 := Lib.hid ((S1.out.keep (((Below.refl _ W1).alloc (Nat.le_refl _) _).drew)).app hown4 hgrow hat (by simp))
                clear hown4 hgrow hat p1 q2 en
                go_wp2_with fail
                go_roundw
                case rel => exact ⟨O ++ [nm], pos + 1, 2, i, _, _, _, S4, by omega, rfl, rfl, HSN, HGN2, hcw2, hcn2, by simp; omega⟩
                case measure => rw [lns_pos HLS.out, lns_pos S4.out]; omega
      · obtain rfl : pos = Q.length := by omega
        have hnp : ¬ Q.length < P.size := by rw [HPS.out]; omega
        have hnext : ∀ ty, (Instr.next (.pointer (some ⟨wc.heap.size + 1 + 1, 0, none⟩)) true ty).run Tryz.prog wr = _ := fun ty => Lib.run_next_end_at wr (wc.heap.size + 2) P Q.length ty HLS.out.hI hnp
        have hGO : G = O := by rw [HGR.out, List.drop_length, Dr.outs, List.append_nil]
        have HO := Lib.hid HLS.out.hO
        have HBW := Lib.hid (B2.out.trans (HLS.out.hB.mono B2.out.size))
        subst hGO
        obtain ⟨bo, cap, hoe, hb1, hb2⟩ := HO.out.form (by have := HG.out; rw [this]; simp)
        cases hoe
        have hcap : G.length ≤ co := own_capOk HO.out
        have hg9 := HGN.out.1
        obtain ⟨J, hJ⟩ : ∃ J : ByteArray, J = ⟨(Lib.join G [32]).toArray⟩ := ⟨_, rfl⟩
        have hbj : bs J = Lib.join G [32] := by rw [hJ, bs_lit0]
        have hjl : (Lib.join G [32]).length ≤ 1000 := by
          have e := HG.out
          rw [e, join_spaced, List.length_append]
          have h1 := spaced_len (l := Dr.outs Q [x.name, x.other] x.n) (fun s hs => HGN.out.2 s (by rw [e]; exact List.mem_cons_of_mem _ hs))
          have h2 := outs_len Q [x.name, x.other] x.n
          omega
        have hJs : J.size ≤ 1000 := by rw [← bs_len, hbj]; exact hjl
        have HJ := Lib.hid hbj
        have hcl : ∀ (j : Nat) y, (G.map fun t => (⟨t.toArray⟩ : ByteArray))[j]? = some y → wr.cell? ⟨bo, 0 + j, none⟩ = some (.string y) := by
          intro j y hy
          have h1 := HO.out.cells (g := bo) rfl j (.string y) (by
            rw [List.getElem?_map] at hy
            simp only [strs, List.getElem?_map]
            cases hgj : G[j]? with
            | none => rw [hgj] at hy; cases hy
            | some t => rw [hgj] at hy; cases hy; rfl)
          have e2 : ((⟨bo, 0, none⟩ : Addr).add j) = ⟨bo, 0 + j, none⟩ := by unfold Addr.add; split <;> simp_all
          rw [e2] at h1; exact h1
        have hmm : (G.map fun t => (⟨t.toArray⟩ : ByteArray)).map (·.data.toList) = G := by simp [Function.comp_def]
        have HC := Lib.hid (Tryz.strings_Join bo 0 co (G.map fun t => (⟨t.toArray⟩ : ByteArray)) ⟨#[32]⟩ wr hcl (by omega) (by simp; omega) (by simpa using hcap) (by rw [hmm]; show (Lib.join G [32]).length ≤ _; omega))
        rw [hmm, List.length_map, show (⟨#[32]⟩ : ByteArray).data.toList = [32] from rfl, ← hJ] at HC
        clear HGR hjc hic hcl hmm hJ hbj hjl hcap hg9 hb1 hb2
        go_wp2_with fail
        go_at_call 67; refine HC.out.mono ?_; rintro e w3 ⟨rfl, b3⟩
        have HB3 := Lib.hid (HBW.out.trans (b3.mono HBW.out.size))
        clear b3
        go_wp2_with fail
        go_ret
        refine ⟨?_, HB3.out⟩
        rw [HGL.out, ← HJ.out]
        exact congrArg (fun b => Ending.returned (.string b)) (by rw [show bs J ++ [10] = bs (J ++ ⟨#[10]⟩) by simp [bs]]; exact (mk_data _).symm)
end Go.Proofs.YtnccndfffmaonaaGreatDoor
