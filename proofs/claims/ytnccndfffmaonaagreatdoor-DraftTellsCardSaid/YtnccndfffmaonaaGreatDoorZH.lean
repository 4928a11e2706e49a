/- Parts DrI, DrK of this claim, laid one behind the other: walks and the plain laws behind them; each contract states its own conditions. -/
import Derived.Test.YtnccndfffmaonaaGreatDoorZF
import Derived.Deep.RegionHeld3
import Derived.Deep.RegionLaw
import Derived.Test.YtnccndfffmaonaaGreatDoorZG
import Derived.Maps.OwnSet
import Derived.Maps.Views
/- Walks of package draft: item. -/
namespace Go.Proofs.YtnccndfffmaonaaGreatDoor
set_option linter.unusedSimpArgs false
set_option linter.unusedVariables false
open Go.RowKit

theorem parts_four : ∀ k, k < 6 → (Dr.partsOf k).length ≤ 8 ∧ (∀ c ∈ Dr.partsOf k, c = 110 ∨ c = 100 ∨ c = 119 ∨ c = 111) ∧ (Dr.partsOf k).countP (fun c => c == 119 || c == 111) ≤ 2 := by decide
theorem forms_cell : ∀ k, k < 6 → formsC.toArray[k * 2 + 1]? = some (.string ⟨(Dr.partsOf k).toArray⟩) := by
  intro k hk
  match k, hk with
  | 0, _ => rfl
  | 1, _ => rfl
  | 2, _ => rfl
  | 3, _ => rfl
  | 4, _ => rfl
  | 5, _ => rfl
/-- What item comes to. -/
def ItPost (b : Nat) (w : World) (d : Dr.Draft) (G : Except (List Lx.Tok) (Dr.Item × List Lx.Tok)) (e : Ending) (w' : World) : Prop :=
  match G with
  | .ok x => e = .returned (.int .i64 0) ∧ PR b w' ⟨d.decks, d.items ++ [x.1]⟩ x.2 ∧ EndT x.2 ∧ Below b w w'
  | .error us => e = .returned (.int .i64 11) ∧ (∃ dv iv, PT b dv iv w' us) ∧ EndT us ∧ Below b w w'
theorem ItPost.bad {b : Nat} {w w' : World} {d : Dr.Draft} {G : Except (List Lx.Tok) (Dr.Item × List Lx.Tok)} {us : List Lx.Tok} {dv iv : Value} (hG : G = .error us) (h1 : PT b dv iv w' us) (h2 : EndT us) (h3 : NB b w w') (hlt : b < w.heap.size) : ItPost b w d G (.returned (.int .i64 11)) w' := by
  subst hG; exact ⟨rfl, ⟨dv, iv, h1⟩, h2, h3.below (Nat.le_refl _) (by omega)⟩
theorem fields_n1 {Q : List UInt8} {pos j : Nat} {x : Dr.Item} {t : Lx.Tok} {r : List Lx.Tok} (h : pos < Q.length) (hc : Q[pos] = 110) (hk : t.kind = 1) : Dr.fields (Q.drop pos) j x (t :: r) = Dr.fields (Q.drop (pos + 1)) j { x with n := x.n ++ [t.n] } r := by
  rw [List.drop_eq_getElem_cons h, hc, Dr.fields, if_pos rfl, if_pos hk]
theorem fields_n0 {Q : List UInt8} {pos j : Nat} {x : Dr.Item} {t : Lx.Tok} {r : List Lx.Tok} (h : pos < Q.length) (hc : Q[pos] = 110) (hk : t.kind ≠ 1) : Dr.fields (Q.drop pos) j x (t :: r) = .error (t :: r) := by
  rw [List.drop_eq_getElem_cons h, hc, Dr.fields, if_pos rfl, if_neg hk]
theorem fields_d1 {Q : List UInt8} {pos j k : Nat} {x : Dr.Item} {t : Lx.Tok} {r : List Lx.Tok} (h : pos < Q.length) (hc : Q[pos] = 100) (hk : t.kind = 0) (hd : Dr.dirOf t.text = some k) : Dr.fields (Q.drop pos) j x (t :: r) = Dr.fields (Q.drop (pos + 1)) j { x with n := x.n ++ [(k : Int)] } r := by
  rw [List.drop_eq_getElem_cons h, hc, Dr.fields, if_neg (by decide), if_pos rfl, if_pos hk, hd]
theorem fields_d0 {Q : List UInt8} {pos j : Nat} {x : Dr.Item} {t : Lx.Tok} {r : List Lx.Tok} (h : pos < Q.length) (hc : Q[pos] = 100) (hk : t.kind = 0) (hd : Dr.dirOf t.text = none) : Dr.fields (Q.drop pos) j x (t :: r) = .error r := by
  rw [List.drop_eq_getElem_cons h, hc, Dr.fields, if_neg (by decide), if_pos rfl, if_pos hk, hd]
theorem fields_dn {Q : List UInt8} {pos j : Nat} {x : Dr.Item} {t : Lx.Tok} {r : List Lx.Tok} (h : pos < Q.length) (hc : Q[pos] = 100) (hk : t.kind ≠ 0) : Dr.fields (Q.drop pos) j x (t :: r) = .error (t :: r) := by
  rw [List.drop_eq_getElem_cons h, hc, Dr.fields, if_neg (by decide), if_pos rfl, if_neg hk]
theorem fields_w1 {Q : List UInt8} {pos j : Nat} {x : Dr.Item} {t : Lx.Tok} {r : List Lx.Tok} (h : pos < Q.length) (hc : Q[pos] = 119 ∨ Q[pos] = 111) (hk : t.kind = 0) : Dr.fields (Q.drop pos) j x (t :: r) = Dr.fields (Q.drop (pos + 1)) (j + 1) (Dr.setName x j t.text) r := by
  rw [List.drop_eq_getElem_cons h, Dr.fields, if_neg (by rcases hc with h | h <;> rw [h] <;> decide), if_neg (by rcases hc with h | h <;> rw [h] <;> decide), if_pos hk]
theorem fields_w0 {Q : List UInt8} {pos j : Nat} {x : Dr.Item} {t : Lx.Tok} {r : List Lx.Tok} (h : pos < Q.length) (hc : Q[pos] = 119) (hk : t.kind ≠ 0) : Dr.fields (Q.drop pos) j x (t :: r) = .error (t :: r) := by
  rw [List.drop_eq_getElem_cons h, hc, Dr.fields, if_neg (by decide), if_neg (by decide), if_neg hk, if_pos rfl]
theorem fields_o0 {Q : List UInt8} {pos j : Nat} {x : Dr.Item} {t : Lx.Tok} {r : List Lx.Tok} (h : pos < Q.length) (hc : Q[pos] = 111) (hk : t.kind ≠ 0) : Dr.fields (Q.drop pos) j x (t :: r) = Dr.fields (Q.drop (pos + 1)) j x (t :: r) := by
  rw [List.drop_eq_getElem_cons h, hc, Dr.fields, if_neg (by decide), if_neg (by decide), if_neg hk, if_neg (by decide)]
theorem count_drop {Q : List UInt8} {pos : Nat} (h : pos < Q.length) : (Q.drop pos).countP (fun c => c == 119 || c == 111) = (if (Q[pos] == 119 || Q[pos] == 111) = true then 1 else 0) + (Q.drop (pos + 1)).countP (fun c => c == 119 || c == 111) := by
  rw [List.drop_eq_getElem_cons h, List.countP_cons]; omega
theorem setName_n (x : Dr.Item) (j : Nat) (t : List UInt8) : (Dr.setName x j t).n = x.n := by unfold Dr.setName; split <;> rfl
def dirsB : List ByteArray := Dr.dirs.map fun x => ⟨x.toArray⟩
theorem dirs_cells (w : World) : ∀ j, j < dirsB.length → (w.alloc (.cells dirsC.toArray 9)).cell? ⟨w.heap.size, 0 + j, none⟩ = some (.string (dirsB.getD j ByteArray.empty)) := by
  intro j hj
  have h := heap_alloc_new w (.cells dirsC.toArray 9)
  rw [Nat.zero_add]
  refine cell_of_heap h j ?_
  have h6 : j < 6 := hj
  match j, h6 with
  | 0, _ => rfl
  | 1, _ => rfl
  | 2, _ => rfl
  | 3, _ => rfl
  | 4, _ => rfl
  | 5, _ => rfl
theorem idxFrom_dir (t : List UInt8) : ∀ (zs : List (List UInt8)) (i : Nat), Lib.idxFromS (zs.map fun x => (⟨x.toArray⟩ : ByteArray)) ⟨t.toArray⟩ i = match zs.findIdx? (· == t) with | some k => ((i + k : Nat) : Int) | none => -1
  | [], i => rfl
  | z :: zs, i => by
    rw [List.map_cons, Lib.idxFromS, List.findIdx?_cons]
    by_cases h : z = t
    · subst h; simp
    · have hne : (⟨z.toArray⟩ : ByteArray) ≠ ⟨t.toArray⟩ := fun e => h (by rw [← bs_lit0 z, ← bs_lit0 t, e])
      rw [if_neg (by simpa using hne), idxFrom_dir t zs (i + 1), if_neg (by simpa using h)]
      cases zs.findIdx? (· == t) with
      | none => rfl
      | some k => show ((i + 1 + k : Nat) : Int) = ((i + (k + 1) : Nat) : Int); omega
theorem idx_dir (t : List UInt8) : Lib.idxOfS (dirsB.take 6) ⟨t.toArray⟩ = match Dr.dirOf t with | some k => (k : Int) | none => -1 := by
  have h : dirsB.take 6 = dirsB := rfl
  rw [h]
  have := idxFrom_dir t Dr.dirs 0
  unfold Lib.idxOfS
  rw [show dirsB = Dr.dirs.map fun x => (⟨x.toArray⟩ : ByteArray) from rfl, this]
  unfold Dr.dirOf
  cases Dr.dirs.findIdx? (· == t) with
  | none => rfl
  | some k => simp
theorem Index_dirs (t : List UInt8) (K : Int) (hK : (match Dr.dirOf t with | some k => (k : Int) | none => -1) = K) (g : Nat) (W : World) (hc : ∀ j, j < dirsB.length → W.cell? ⟨g, 0 + j, none⟩ = some (.string (dirsB.getD j ByteArray.empty))) :
    Calls Tryz.prog 78 #[.slice (some ⟨g, 0, none⟩) 6 6, .string ⟨t.toArray⟩] W fun e w' => e = .returned (.int .i64 K) ∧ W = w' := by
  refine (Tryz.slices_Index_string g 0 6 6 dirsB ⟨t.toArray⟩ _ (by decide) (by decide) hc).mono ?_
  rintro e w' ⟨rfl, rfl⟩
  exact ⟨by rw [idx_dir, hK], rfl⟩
theorem Tryz.itemInfo : (Tryz.prog.info? 34).map (fun i => (i.zero, i.size, i.bytes)) = some (some (.agg #[.int .i64 0, .int .i64 0, .string ⟨#[]⟩, .string ⟨#[]⟩, .slice none 0 0]), 5, 72) := by kernel_rfl
theorem heap1d (w : World) (A : Obj) : (w.alloc A).drew.heap[w.heap.size]? = some A := heap_alloc_new w A
theorem cl1 {w : World} {b o : Nat} {v : Value} (h : w.cell? ⟨b, o, none⟩ = some v) (hlt : b < w.heap.size) (A : Obj) : (w.alloc A).drew.cell? ⟨b, o, none⟩ = some v :=
  (((Below.refl _ w).alloc (Nat.le_refl _) A).drew.cell (p := ⟨b, o, none⟩) hlt).trans h
theorem fz1 {w : World} {b o : Nat} (h : w.frozen? ⟨b, o, none⟩ = false) (hlt : b < w.heap.size) (A : Obj) : (w.alloc A).drew.frozen? ⟨b, o, none⟩ = false :=
  (((Below.refl _ w).alloc (Nat.le_refl _) A).drew.frozen (p := ⟨b, o, none⟩) hlt).trans h
theorem itemsC_snoc (l : List (Dr.Item × Value)) (x : Dr.Item) (nv : Value) : itemsC (l ++ [(x, nv)]) = itemsC l ++ itemC x nv := by simp [itemsC]
theorem ItPost.ok {b : Nat} {w w' : World} {d : Dr.Draft} {G : Except (List Lx.Tok) (Dr.Item × List Lx.Tok)} {x : Dr.Item} {us : List Lx.Tok} (hG : G = .ok (x, us)) (h1 : PR b w' ⟨d.decks, d.items ++ [x]⟩ us) (h2 : EndT us) (h3 : Below b w w') : ItPost b w d G (.returned (.int .i64 0)) w' := by
  subst hG; exact ⟨rfl, h1, h2, h3⟩
theorem item_end {b xb : Nat} {w wr w2 : World} {lv dv iv nv v2 : Value} {d : Dr.Draft} {x : Dr.Item} {ts : List Lx.Tok} {l : List (Dr.Item × Value)} {ia na : Option Addr} {ica nca : Nat} {A : Obj} (h0 : wr.heap[b]? = some (.cells #[lv, dv, iv] 50 (0, 0))) (hT : TB b wr lv ts) (hN : NB b w wr)
    (hD : DK b w dv d.decks) (hl : l.map (·.1) = d.items) (how : w.ownsRow (b + 1) 34 5 iv l.length (itemsC l)) (hns : ∀ x ∈ l, w.ownsRow (b + 1) 3 1 x.2 x.1.n.length (ints x.1.n)) (hnx : wr.ownsRow (xb + 4) 3 1 nv x.n.length (ints x.n)) (hbx : b < xb)
    (hive : iv = .slice ia l.length ica) (hnve : nv = .slice na x.n.length nca)
    (h1 : w2.ownsRow (b + 1) 34 5 v2 (l.length + 1) (itemsC l ++ [.int .i64 x.kind, .int .i64 x.line, .string ⟨x.name.toArray⟩, .string ⟨x.other.toArray⟩, .slice na x.n.length nca])) (hg : (wr.alloc A).drew.grownBy w2 (Value.slice ia l.length ica).ownBlock) :
    PR b (w2.setCell ⟨b, 2, none⟩ v2) ⟨d.decks, d.items ++ [x]⟩ ts ∧ Below b w (w2.setCell ⟨b, 2, none⟩ v2) := by
  rw [← hive] at hg
  rw [← hnve] at h1
  have hlt : b < wr.heap.size := (Array.getElem?_eq_some_iff.1 h0).1
  have NA : NB b wr (wr.alloc A).drew := ((NB.refl b wr).alloc A).drew
  have H1 : (wr.alloc A).drew.heap[b]? = some (.cells #[lv, dv, iv] 50 (0, 0)) := (heap_alloc_old wr A hlt).trans h0
  have how1 := NA.row (hN.row how (by omega)) (by omega)
  have G2 : GT 34 (wr.alloc A).drew w2 := GT.of_own how1 hg
  have H2 := G2.heap H1 (by decide)
  have N3 : NB b w2 (w2.setCell ⟨b, 2, none⟩ v2) := (NB.refl b w2).set 2 v2
  have H3 : (w2.setCell ⟨b, 2, none⟩ v2).heap[b]? = some (.cells #[lv, dv, v2] 50 (0, 0)) := by rw [set_heap H2]; rfl
  have hB2 : Below b (wr.alloc A).drew w2 := by
    refine (Below.refl _ _).grown hg (by have := NA.size; omega) (fun k hk => ?_)
    have := (World.ownsRow.lt how1 k hk).1; omega
  have hB3 : Below b wr (w2.setCell ⟨b, 2, none⟩ v2) := ((NA.below (Nat.le_refl _) (by omega)).trans hB2).trans (N3.below (Nat.le_refl _) (by have := hB2.size; have := NA.size; omega))
  have hwl : b ≤ w.heap.size := by
    rcases how.2 with ⟨-, -⟩ | ⟨g, cap, cur, -, hb, hh, -⟩
    · obtain ⟨dvs, c, -, -, h4, h5, -⟩ := hD; omega
    · obtain ⟨dvs, c, -, -, h4, h5, -⟩ := hD; omega
  have hB : Below b w (w2.setCell ⟨b, 2, none⟩ v2) := (hN.below (Nat.le_refl _) hwl).trans hB3
  refine ⟨⟨lv, dv, v2, H3, hT.keep hB3, (((hD.nb hN).nb NA).gt G2 (by decide) (by decide)).nb N3, l ++ [(x, nv)], by simp [hl], ?_, fun y hy => ?_⟩, hB⟩
  · rw [List.length_append, itemsC_snoc]; exact N3.row h1 (by omega)
  · rcases List.mem_append.1 hy with hy | hy
    · exact N3.row (G2.row (NA.row (hN.row (hns y hy) (by omega)) (by omega)) (by decide)) (by omega)
    · obtain rfl := List.mem_singleton.1 hy
      exact N3.row (own_mono (G2.row (NA.row hnx (by omega)) (by decide)) (by omega)) (by omega)
theorem heap_two3 (w : World) (A B : Obj) : ((w.alloc A).alloc B).heap[w.heap.size + 1]? = some B := by
  have := heap_alloc_new (w.alloc A) B
  rwa [show (w.alloc A).heap.size = w.heap.size + 1 by simp] at this
theorem its_start {b k n cap g off : Nat} {w : World} {ln : Int} {dv iv lv : Value} {P : ByteArray} {r : List Lx.Tok} (h0 : w.heap[b]? = some (.cells #[lv, dv, iv] 50 (0, 0))) (hT : TB b w (.slice (some ⟨g, off, none⟩) n cap) r) (hE : EndT r) :
    ItS b w.heap.size P dv iv w (((((w.setCell ⟨b, 0, none⟩ (.slice (some ⟨g, off, none⟩) n cap)).alloc (.cells #[.int .i64 k, .int .i64 ln, .string ⟨#[]⟩, .string ⟨#[]⟩, .slice none 0 0] 34)).alloc (.cells #[.pointer (some ⟨w.heap.size, 2, none⟩), .pointer (some ⟨w.heap.size, 3, none⟩)] 106)).alloc (.cells formsC.toArray 86)).iter P 0) ⟨k, ln, [], [], []⟩ 0 r (.slice none 0 0) := by
  have hlt : b < w.heap.size := (Array.getElem?_eq_some_iff.1 h0).1
  obtain ⟨w1, hw1⟩ : ∃ w1, w1 = w.setCell ⟨b, 0, none⟩ (.slice (some ⟨g, off, none⟩) n cap) := ⟨_, rfl⟩
  have hs : w.heap.size = w1.heap.size := by rw [hw1]; simp
  have N1 : NB b w w1 := by rw [hw1]; exact (NB.refl b w).set 0 _
  have H1 : w1.heap[b]? = some (.cells #[.slice (some ⟨g, off, none⟩) n cap, dv, iv] 50 (0, 0)) := by rw [hw1, set_heap h0]; rfl
  rw [← hw1, hs]
  unfold World.iter
  refine ⟨?_, ?_, ?_, ⟨rfl, .inl ⟨rfl, rfl⟩⟩, ⟨.slice (some ⟨g, off, none⟩) n cap, ?_, ?_⟩, hE, (((N1.alloc _).alloc _).alloc _).alloc _, by omega, by omega⟩
  · rw [heap_alloc_old _ _ (by simp; omega), heap_alloc_old _ _ (by simp; omega), heap_alloc_old _ _ (by simp)]; exact heap_alloc_new _ _
  · rw [heap_alloc_old _ _ (by simp), heap_alloc_old _ _ (by simp)]; exact heap_two3 _ _ _
  · have := heap_alloc_new (((w1.alloc (.cells #[.int .i64 k, .int .i64 ln, .string ⟨#[]⟩, .string ⟨#[]⟩, .slice none 0 0] 34)).alloc (.cells #[.pointer (some ⟨w1.heap.size, 2, none⟩), .pointer (some ⟨w1.heap.size, 3, none⟩)] 106)).alloc (.cells formsC.toArray 86)) (.stringIter P 0)
    simpa using this
  · rw [heap_alloc_old _ _ (by simp; omega), heap_alloc_old _ _ (by simp; omega), heap_alloc_old _ _ (by simp; omega), heap_alloc_old _ _ (by omega)]; exact H1
  · exact hT.keep (((((N1.alloc _).alloc _).alloc _).alloc _).below (Nat.le_refl _) (by omega))
theorem its_pos {b xb : Nat} {P : ByteArray} {dv iv : Value} {w wr : World} {x : Dr.Item} {pos : Nat} {ts : List Lx.Tok} {nv : Value} (h : ItS b xb P dv iv w wr x pos ts nv) : wr.iterPos (xb + 3) = pos := by simp [World.iterPos, h.hit]
set_option maxRecDepth 100000 in
set_option maxHeartbeats 4000000 in
theorem item_full (b : Nat) (d : Dr.Draft) (ts : List Lx.Tok) (k : Int) (w : World) (h : PR b w d ts) (hf : 5000 ≤ d.items.length) :
    Calls Tryz.prog 51 #[.pointer (some ⟨b, 0, none⟩), .int .i64 k] w fun e w' => e = .returned (.int .i64 6) ∧ w = w' := by
  obtain ⟨lv, dv, iv, h0, hT, hD, hI⟩ := h
  obtain ⟨l, hl, hiv, -⟩ := hI
  obtain ⟨a, ca, rfl, hla⟩ := own_slice hiv
  have c1 : w.cell? ⟨b, 2, none⟩ = some (.slice a l.length ca) := cell_of_heap h0 2 rfl
  have e1 : (5000 : Int) ≤ (l.length : Int) := by rw [← hl, List.length_map] at hf; omega
  clear h0 hT hD hiv hl hf
  go_enter Tryz.func51, Tryz.ntmps51
  go_wp2_with fail
  go_ret
  exact ⟨rfl, rfl⟩

set_option maxRecDepth 100000 in
set_option maxHeartbeats 64000000 in
theorem item_any (b k : Nat) (d : Dr.Draft) (t : Lx.Tok) (r : List Lx.Tok) (w : World) (h : PR b w d (t :: r)) (hk : k < 6) (hf : d.items.length < 5000) (hE : EndT r) :
    Calls Tryz.prog 51 #[.pointer (some ⟨b, 0, none⟩), .int .i64 k] w (ItPost b w d (Dr.fields (Dr.partsOf k) 0 ⟨k, t.line, [], [], []⟩ r)) := by
  obtain ⟨i0, hi0, hz0, hz1, hz2⟩ := info_parts Tryz.itemInfo
  obtain ⟨G, hG⟩ : ∃ G, G = Dr.fields (Dr.partsOf k) 0 ⟨k, t.line, [], [], []⟩ r := ⟨_, rfl⟩
  rw [← hG]
  have hlt := h.cells
  have hr : 1 ≤ r.length := by obtain ⟨_, _, rfl⟩ := hE.ne; simp
  obtain ⟨lv, dv, iv, h0, hT, hD, hI⟩ := h
  obtain ⟨g, off, n, cap, rfl, hg, hn, hn1, hn2, hnc, hcm, q0, q1, q2, q3⟩ := hT.head
  have hI' := hI
  obtain ⟨l, hl, hiv, hNs⟩ := hI'
  obtain ⟨ia, ica, hive, hla⟩ := own_slice hiv
  have c0 : w.cell? ⟨b, 0, none⟩ = some (.slice (some ⟨g, off, none⟩) n cap) := cell_of_heap h0 0 rfl
  have c2 : w.cell? ⟨b, 2, none⟩ = some (.slice ia l.length ica) := cell_of_heap h0 2 (by rw [← hive]; rfl)
  have f0 : w.frozen? ⟨b, 0, none⟩ = false := free_of_heap h0 0
  have hn3 : 2 ≤ n := by have := hn.out; omega
  have hcap : ¬ cap = 1 := by omega
  have hcap1 : 1 ≤ cap := by omega
  have nI : (1 : Int) ≤ (n : Int) := by omega
  have nI2 : (1 : Int) ≤ (cap : Int) := by omega
  have hll : l.length < 5000 := by rw [← hl, List.length_map] at hf; exact hf
  have hlI : (l.length : Int) < 5000 := by omega
  have kI0 : (0 : Int) ≤ (k : Int) := by omega
  have kI1 : (k : Int) < 6 := by omega
  have kI2 : (k : Int).toNat = k := by omega
  obtain ⟨p8, p4, p2⟩ := parts_four k hk
  obtain ⟨Q, hQ⟩ : ∃ Q, Dr.partsOf k = Q := ⟨_, rfl⟩
  have hfc := forms_cell k hk
  rw [hQ] at p8 p4 p2 hG hfc
  obtain ⟨P, hP⟩ : ∃ P : ByteArray, P = ⟨Q.toArray⟩ := ⟨_, rfl⟩
  have hPs : P.size = Q.length := by rw [hP, ← bs_len, bs_lit0 Q]
  have hPg : ∀ i, (h : i < Q.length) → (h' : i < P.size) → P[i] = Q[i] := fun i h h' => by subst hP; rfl
  rw [← hP] at hfc
  have HPS := Lib.hid hPs
  have HPG := Lib.hid hPg
  have HP4 := Lib.hid p4
  have HG := Lib.hid hG
  have H0 := Lib.hid h0
  have HT := Lib.hid hT.tail
  have HDI := Lib.hid (And.intro hD hI)
  have HE := Lib.hid hE
  have HIV := Lib.hid hive
  have HL := Lib.hid hl
  have HOW := Lib.hid hiv
  have HNS := Lib.hid hNs
  have hbg : b ≠ g := by omega
  have hgw : g < w.heap.size := by omega
  obtain ⟨xb, hxb⟩ : ∃ xb, xb = w.heap.size := ⟨_, rfl⟩
  have HXB := Lib.hid hxb
  obtain ⟨F, hF⟩ : ∃ F : Obj, F = .cells formsC.toArray 86 := ⟨_, rfl⟩
  clear h0 hT hD hI hl hiv hNs hive hPs hPg p4 hP hQ hG hE
  go_enter Tryz.func51, Tryz.ntmps51
  go_wp2_with fail
  go_at_call 48; refine (forms_any _).mono ?_; rintro e wf ⟨rfl, rfl⟩
  have HS0 : Hid (ItS b w.heap.size P dv iv w (((((w.setCell ⟨b, 0, none⟩ (.slice (some ⟨g, off + 4, none⟩) (n - 1) (cap - 1))).alloc (.cells #[.int .i64 k, .int .i64 t.line, .string ⟨#[]⟩, .string ⟨#[]⟩, .slice none 0 0] 34)).alloc (.cells #[.pointer (some ⟨w.heap.size, 2, none⟩), .pointer (some ⟨w.heap.size, 3, none⟩)] 106)).alloc (.cells formsC.toArray 86)).iter P 0) ⟨k, t.line, [], [], []⟩ 0 r (.slice none 0 0)) := Lib.hid (its_start H0.out HT.out HE.out)
  go_wp2_with fail
  go_loopw [6] (fun nm wr => ∃ (x : Dr.Item) (j pos : Nat) (ts : List Lx.Tok) (nv : Value), Hid (ItS b w.heap.size P dv iv w wr x pos ts nv) ∧ pos ≤ Q.length ∧ nm = namesV (w.heap.size + 1) j ∧ Hid (G = Dr.fields (Q.drop pos) j x ts) ∧ j + (Q.drop pos).countP (fun c => c == 119 || c == 111) ≤ 2 ∧ x.n.length ≤ pos) (fun _ wr => P.size - wr.iterPos (w.heap.size + 3))
  case atStart => exact ⟨_, 0, 0, _, _, HS0, by omega, rfl, HG, by simpa using p2, by simp⟩
  case round =>
    obtain ⟨x, j, pos, ts, nv, HS, hpl, rfl, HGR, hjc, hxn⟩ := hrel
    clear HS0
    obtain ⟨u, r2, rfl⟩ := HS.out.hE.ne
    have HES := Lib.hid HS.out.hE
    by_cases hpq : pos < Q.length
    · have hlt2 : pos < P.size := by rw [HPS.out]; exact hpq
      have hcd := count_drop hpq
      have hc4 := HP4.out Q[pos] (List.getElem_mem hpq)
      have hasc : (P[pos].toNat : Nat) < 128 := by rw [HPG.out pos hpq hlt2]; rcases hc4 with h | h | h | h <;> rw [h] <;> decide
      have hnext : ∀ ty, (Instr.next (.pointer (some ⟨w.heap.size + 1 + 1 + 1, 0, none⟩)) true ty).run Tryz.prog wr = _ := fun ty => Lib.run_next_ascii_at wr (w.heap.size + 3) P pos ty HS.out.hit hlt2 hasc
      have s1 := HS.out.iter (pos + 1)
      have S1 := Lib.hid s1
      clear s1
      generalize wr.iterAt (w.heap.size + 3) P (pos + 1) = W1 at hnext S1
      rcases hc4 with hc | hc | hc | hc
      · have e110 : ((P[pos].toNat : Int) == 110) = true := by rw [HPG.out pos hpq hlt2, hc]; rfl
        have hcd2 : (Q.drop (pos + 1)).countP (fun c => c == 119 || c == 111) = (Q.drop pos).countP (fun c => c == 119 || c == 111) := by rw [hcd, hc]; simp
        by_cases hk1 : u.kind = 1
        · have HK := Lib.hid hk1
          have HE2 := Lib.hid (HES.out.cons (by omega)).1
          have hr2 := (HES.out.cons (by omega)).2
          have HGN : Hid (G = Dr.fields (Q.drop (pos + 1)) j { x with n := x.n ++ [u.n] } r2) := Lib.hid (HGR.out.trans (fields_n1 hpq hc hk1))
          clear hk1 hc hcd
          obtain ⟨uk, ut, un, ul⟩ := u
          go_wp2_with fail
          go_at_call 52; refine (nextT_ok b 1 dv iv ⟨uk, ut, un, ul⟩ r2 _ S1.out.hP HK.out hr2 _ rfl).mono ?_; rintro e W2 ⟨rfl, N2, P2⟩
          have S2 := Lib.hid (S1.out.next N2 P2 HE2.out)
          clear N2 P2
          have S3 := Lib.hid (S2.out.alloc (.cells #[.int .i64 uk, .string ⟨ut.toArray⟩, .int .i64 un, .int .i64 ul] 42))
          unfold tokV
          obtain ⟨na, nca, rfl, hnl⟩ := own_slice S3.out.hN
          have d4 : W2.cell? ⟨w.heap.size, 4, none⟩ = some (.slice na x.n.length nca) := cell_of_heap S2.out.hx 4 rfl
          have hxl2 : w.heap.size < W2.heap.size := (Array.getElem?_eq_some_iff.1 S2.out.hx).1
          go_wp2_with (at_builtin; refine wpList_app_int rfl _ _ rfl (w.heap.size + 4) _ x.n rfl (S3.out.alloc _).hN (W2.heap.size + 1) 1 un rfl (heap_two3 _ _ _) (by omega) ?q1 ?q2)
          case q1 => have := (Array.getElem?_eq_some_iff.1 S2.out.hit).1; simp; omega
          case q2 =>
            intro v' W3 h1 h2
            obtain ⟨na2, nca2, rfl, -⟩ := own_slice h1
            obtain ⟨hx3, s4⟩ := (S3.out.alloc _).num un h1 h2
            have S4 := Lib.hid s4
            have d5 : W3.cell? ⟨w.heap.size, 4, none⟩ = some (.slice na x.n.length nca) := cell_of_heap hx3 4 rfl
            have k5 : W3.frozen? ⟨w.heap.size, 4, none⟩ = false := free_of_heap hx3 4
            clear h1 h2 hx3 s4
            go_wp2_with fail
            go_roundw
            case rel => exact ⟨_, j, pos + 1, _, _, S4, by omega, rfl, HGN, by omega, by simp; omega⟩
            case measure => rw [its_pos HS.out, its_pos S4.out]; omega
        · have HK := Lib.hid hk1
          have HGN : Hid (G = .error (u :: r2)) := Lib.hid (HGR.out.trans (fields_n0 hpq hc hk1))
          clear hk1 hc hcd
          go_wp2_with fail
          go_at_call 52; refine (nextT_no b 1 dv iv u r2 _ S1.out.hP HK.out _ rfl).mono ?_; rintro e W2 ⟨rfl, N2, P2⟩
          have S2 := Lib.hid (S1.out.next N2 P2 S1.out.hE)
          clear N2 P2
          unfold tokV
          go_wp2_with fail
          go_ret
          exact ItPost.bad HGN.out (S2.out.alloc _).hP S2.out.hE (S2.out.alloc _).hB hlt
      · have e110 : ((P[pos].toNat : Int) == 110) = false := by rw [HPG.out pos hpq hlt2, hc]; rfl
        have e100 : ((P[pos].toNat : Int) == 100) = true := by rw [HPG.out pos hpq hlt2, hc]; rfl
        have hcd2 : (Q.drop (pos + 1)).countP (fun c => c == 119 || c == 111) = (Q.drop pos).countP (fun c => c == 119 || c == 111) := by rw [hcd, hc]; simp
        obtain ⟨KV, hKV⟩ : ∃ KV : Int, (match Dr.dirOf u.text with | some k => (k : Int) | none => -1) = KV := ⟨_, rfl⟩
        have HDK := Lib.hid hKV
        clear hKV
        obtain ⟨lv2, h02, hT2⟩ := S1.out.hP
        obtain ⟨g2, off2, m2, cap2, rfl, hg2, hm, hm1, hm2, hmc, hmm, t0, t1, t2, t3⟩ := hT2.head
        have y0 : W1.cell? ⟨b, 0, none⟩ = some (.slice (some ⟨g2, off2, none⟩) m2 cap2) := cell_of_heap h02 0 rfl
        have hbl : b < W1.heap.size := (Array.getElem?_eq_some_iff.1 h02).1
        have hgl : g2 < W1.heap.size := by omega
        have mI : (0 : Int) < (m2 : Int) := by omega
        have mN : 0 < m2 := by omega
        clear h02 hT2 t0 t2 t3
        go_wp2_with fail
        go_region_held3 (fun w' => w'.cell? ⟨b, 0, none⟩ = some (.slice (some ⟨g2, off2, none⟩) m2 cap2) ∧ w'.cell? ⟨g2, off2 + 1, none⟩ = some (.string ⟨u.text.toArray⟩)) (go_keep)
          (first | (go_at_call 66; refine (directions_any _).mono ?_; rintro e w3 ⟨rfl, rfl⟩) | (go_at_call 78; refine (Index_dirs u.text KV HDK.out W1.heap.size _ (by exact fun j hj => dirs_cells W1 j hj)).mono ?_; rintro e w3 ⟨rfl, rfl⟩))
        all_goals
          have S1b := Lib.hid (S1.out.alloc (.cells dirsC.toArray 9)).drew
          by_cases hk1 : u.kind = 0
          · have HK := Lib.hid hk1
            have HE2 := Lib.hid (HES.out.cons (by omega)).1
            have hr2 := (HES.out.cons (by omega)).2
            cases hd : Dr.dirOf u.text with
            | some q =>
              have HGN : Hid (G = Dr.fields (Q.drop (pos + 1)) j { x with n := x.n ++ [(q : Int)] } r2) := Lib.hid (HGR.out.trans (fields_d1 hpq hc hk1 hd))
              have hKV : KV = (q : Int) := by rw [← HDK.out, hd]
              subst hKV
              have qI : (0 : Int) ≤ (q : Int) := by omega
              clear hk1 hc hcd hd HDK
              obtain ⟨uk, ut, un, ul⟩ := u
              go_wp2_with fail
              go_at_call 52; refine (nextT_ok b 0 dv iv ⟨uk, ut, un, ul⟩ r2 _ S1b.out.hP HK.out hr2 _ rfl).mono ?_; rintro e W2 ⟨rfl, N2, P2⟩
              have S2 := Lib.hid (S1b.out.next N2 P2 HE2.out)
              clear N2 P2
              have S3 := Lib.hid (S2.out.alloc (.cells #[.int .i64 uk, .string ⟨ut.toArray⟩, .int .i64 un, .int .i64 ul] 42))
              unfold tokV
              obtain ⟨na, nca, rfl, hnl⟩ := own_slice S3.out.hN
              have d4 : W2.cell? ⟨w.heap.size, 4, none⟩ = some (.slice na x.n.length nca) := cell_of_heap S2.out.hx 4 rfl
              have hxl2 : w.heap.size < W2.heap.size := (Array.getElem?_eq_some_iff.1 S2.out.hx).1
              go_wp2_with (at_builtin; refine wpList_app_int rfl _ _ rfl (w.heap.size + 4) _ x.n rfl (S3.out.alloc _).hN (W2.heap.size + 1) 1 (q : Int) rfl (heap_two3 _ _ _) (by omega) ?q1 ?q2)
              case q1 => have := (Array.getElem?_eq_some_iff.1 S2.out.hit).1; simp; omega
              case q2 =>
                intro v' W3 h1 h2
                obtain ⟨na2, nca2, rfl, -⟩ := own_slice h1
                obtain ⟨hx3, s4⟩ := (S3.out.alloc _).num (q : Int) h1 h2
                have S4 := Lib.hid s4
                have d5 : W3.cell? ⟨w.heap.size, 4, none⟩ = some (.slice na x.n.length nca) := cell_of_heap hx3 4 rfl
                have k5 : W3.frozen? ⟨w.heap.size, 4, none⟩ = false := free_of_heap hx3 4
                clear h1 h2 hx3 s4
                go_wp2_with fail
                go_roundw
                case rel => exact ⟨_, j, pos + 1, _, _, S4, by omega, rfl, HGN, by omega, by simp; omega⟩
                case measure => rw [its_pos HS.out, its_pos S4.out]; omega
            | none =>
              have HGN : Hid (G = .error r2) := Lib.hid (HGR.out.trans (fields_d0 hpq hc hk1 hd))
              have hKV : KV = -1 := by rw [← HDK.out, hd]
              subst hKV
              clear hk1 hc hcd hd HDK
              go_wp2_with fail
              go_at_call 52; refine (nextT_ok b 0 dv iv u r2 _ S1b.out.hP HK.out hr2 _ rfl).mono ?_; rintro e W2 ⟨rfl, N2, P2⟩
              have S2 := Lib.hid (S1b.out.next N2 P2 HE2.out)
              clear N2 P2
              unfold tokV
              go_wp2_with fail
              go_ret
              exact ItPost.bad HGN.out (S2.out.alloc _).hP S2.out.hE (S2.out.alloc _).hB hlt
          · have HK := Lib.hid hk1
            have HGN : Hid (G = .error (u :: r2)) := Lib.hid (HGR.out.trans (fields_dn hpq hc hk1))
            clear hk1 hc hcd
            go_wp2_with fail
            go_at_call 52; refine (nextT_no b 0 dv iv u r2 _ S1b.out.hP HK.out _ rfl).mono ?_; rintro e W2 ⟨rfl, N2, P2⟩
            have S2 := Lib.hid (S1b.out.next N2 P2 S1b.out.hE)
            clear N2 P2
            unfold tokV
            go_wp2_with fail
            go_ret
            exact ItPost.bad HGN.out (S2.out.alloc _).hP S2.out.hE (S2.out.alloc _).hB hlt
      · have e110 : ((P[pos].toNat : Int) == 110) = false := by rw [HPG.out pos hpq hlt2, hc]; rfl
        have e100 : ((P[pos].toNat : Int) == 100) = false := by rw [HPG.out pos hpq hlt2, hc]; rfl
        have e119 : ((P[pos].toNat : Int) == 119) = true := by rw [HPG.out pos hpq hlt2, hc]; rfl
        have hcd2 : (Q.drop pos).countP (fun c => c == 119 || c == 111) = 1 + (Q.drop (pos + 1)).countP (fun c => c == 119 || c == 111) := by rw [hcd, hc]; simp
        by_cases hk1 : u.kind = 0
        · have HK := Lib.hid hk1
          have HE2 := Lib.hid (HES.out.cons (by omega)).1
          have hr2 := (HES.out.cons (by omega)).2
          have HGN : Hid (G = Dr.fields (Q.drop (pos + 1)) (j + 1) (Dr.setName x j u.text) r2) := Lib.hid (HGR.out.trans (fields_w1 hpq (.inl hc) hk1))
          clear hk1 hc hcd
          obtain ⟨uk, ut, un, ul⟩ := u
          obtain rfl | rfl : j = 0 ∨ j = 1 := by omega
          · go_wp2_with fail
            go_at_call 52; refine (nextT_ok b 0 dv iv ⟨uk, ut, un, ul⟩ r2 _ S1.out.hP HK.out hr2 _ rfl).mono ?_; rintro e W2 ⟨rfl, N2, P2⟩
            have S2 := Lib.hid (S1.out.next N2 P2 HE2.out)
            clear N2 P2
            have S3 := Lib.hid (S2.out.alloc (.cells #[.int .i64 uk, .string ⟨ut.toArray⟩, .int .i64 un, .int .i64 ul] 42))
            unfold tokV
            have en : namesV (w.heap.size + 1) 0 = .slice (some ⟨w.heap.size + 1, 0, none⟩) 2 2 := rfl
            have p1 : W2.cell? ⟨w.heap.size + 1, 0, none⟩ = some (.pointer (some ⟨w.heap.size, 2, none⟩)) := cell_of_heap S2.out.hnm 0 rfl
            have p2 : W2.cell? ⟨w.heap.size, 2, none⟩ = some (.string ⟨x.name.toArray⟩) := cell_of_heap S2.out.hx 2 rfl
            have p3 : W2.frozen? ⟨w.heap.size, 2, none⟩ = false := free_of_heap S2.out.hx 2
            have hxl1 : w.heap.size + 1 < W2.heap.size := (Array.getElem?_eq_some_iff.1 S2.out.hnm).1
            have hxl2 : w.heap.size < W2.heap.size := by omega
            have S4 := Lib.hid ((S2.out.name0 ut).alloc (.cells #[.int .i64 uk, .string ⟨ut.toArray⟩, .int .i64 un, .int .i64 ul] 42)).drew
            go_wp2_with fail
            go_region
            all_goals
              clear en
              go_wp2_with fail
              go_roundw
              case rel => exact ⟨_, 0 + 1, pos + 1, _, _, S4, by omega, rfl, HGN, by omega, by rw [setName_n]; omega⟩
              case measure => rw [its_pos HS.out, its_pos S4.out]; omega
          · go_wp2_with fail
            go_at_call 52; refine (nextT_ok b 0 dv iv ⟨uk, ut, un, ul⟩ r2 _ S1.out.hP HK.out hr2 _ rfl).mono ?_; rintro e W2 ⟨rfl, N2, P2⟩
            have S2 := Lib.hid (S1.out.next N2 P2 HE2.out)
            clear N2 P2
            have S3 := Lib.hid (S2.out.alloc (.cells #[.int .i64 uk, .string ⟨ut.toArray⟩, .int .i64 un, .int .i64 ul] 42))
            unfold tokV
            have en : namesV (w.heap.size + 1) 1 = .slice (some ⟨w.heap.size + 1, 1, none⟩) 1 1 := rfl
            have p1 : W2.cell? ⟨w.heap.size + 1, 1, none⟩ = some (.pointer (some ⟨w.heap.size, 3, none⟩)) := cell_of_heap S2.out.hnm 1 rfl
            have p2 : W2.cell? ⟨w.heap.size, 3, none⟩ = some (.string ⟨x.other.toArray⟩) := cell_of_heap S2.out.hx 3 rfl
            have p3 : W2.frozen? ⟨w.heap.size, 3, none⟩ = false := free_of_heap S2.out.hx 3
            have hxl1 : w.heap.size + 1 < W2.heap.size := (Array.getElem?_eq_some_iff.1 S2.out.hnm).1
            have hxl2 : w.heap.size < W2.heap.size := by omega
            have S4 := Lib.hid ((S2.out.name1 ut).alloc (.cells #[.int .i64 uk, .string ⟨ut.toArray⟩, .int .i64 un, .int .i64 ul] 42)).drew
            go_wp2_with fail
            go_region
            all_goals
              clear en
              go_wp2_with fail
              go_roundw
              case rel => exact ⟨_, 1 + 1, pos + 1, _, _, S4, by omega, rfl, HGN, by omega, by rw [setName_n]; omega⟩
              case measure => rw [its_pos HS.out, its_pos S4.out]; omega
        · have HK := Lib.hid hk1
          have HGN : Hid (G = .error (u :: r2)) := Lib.hid (HGR.out.trans (fields_w0 hpq hc hk1))
          clear hk1 hc hcd
          go_wp2_with fail
          go_at_call 52; refine (nextT_no b 0 dv iv u r2 _ S1.out.hP HK.out _ rfl).mono ?_; rintro e W2 ⟨rfl, N2, P2⟩
          have S2 := Lib.hid (S1.out.next N2 P2 S1.out.hE)
          clear N2 P2
          unfold tokV
          go_wp2_with fail
          go_ret
          exact ItPost.bad HGN.out (S2.out.alloc _).hP S2.out.hE (S2.out.alloc _).hB hlt
      · have e110 : ((P[pos].toNat : Int) == 110) = false := by rw [HPG.out pos hpq hlt2, hc]; rfl
        have e100 : ((P[pos].toNat : Int) == 100) = false := by rw [HPG.out pos hpq hlt2, hc]; rfl
        have e119 : ((P[pos].toNat : Int) == 119) = false := by rw [HPG.out pos hpq hlt2, hc]; rfl
        have hcd2 : (Q.drop pos).countP (fun c => c == 119 || c == 111) = 1 + (Q.drop (pos + 1)).countP (fun c => c == 119 || c == 111) := by rw [hcd, hc]; simp
        by_cases hk1 : u.kind = 0
        · have HK := Lib.hid hk1
          have HE2 := Lib.hid (HES.out.cons (by omega)).1
          have hr2 := (HES.out.cons (by omega)).2
          have HGN : Hid (G = Dr.fields (Q.drop (pos + 1)) (j + 1) (Dr.setName x j u.text) r2) := Lib.hid (HGR.out.trans (fields_w1 hpq (.inr hc) hk1))
          clear hk1 hc hcd
          obtain ⟨uk, ut, un, ul⟩ := u
          obtain rfl | rfl : j = 0 ∨ j = 1 := by omega
          · go_wp2_with fail
            go_at_call 52; refine (nextT_ok b 0 dv iv ⟨uk, ut, un, ul⟩ r2 _ S1.out.hP HK.out hr2 _ rfl).mono ?_; rintro e W2 ⟨rfl, N2, P2⟩
            have S2 := Lib.hid (S1.out.next N2 P2 HE2.out)
            clear N2 P2
            have S3 := Lib.hid (S2.out.alloc (.cells #[.int .i64 uk, .string ⟨ut.toArray⟩, .int .i64 un, .int .i64 ul] 42))
            unfold tokV
            have en : namesV (w.heap.size + 1) 0 = .slice (some ⟨w.heap.size + 1, 0, none⟩) 2 2 := rfl
            have p1 : W2.cell? ⟨w.heap.size + 1, 0, none⟩ = some (.pointer (some ⟨w.heap.size, 2, none⟩)) := cell_of_heap S2.out.hnm 0 rfl
            have p2 : W2.cell? ⟨w.heap.size, 2, none⟩ = some (.string ⟨x.name.toArray⟩) := cell_of_heap S2.out.hx 2 rfl
            have p3 : W2.frozen? ⟨w.heap.size, 2, none⟩ = false := free_of_heap S2.out.hx 2
            have hxl1 : w.heap.size + 1 < W2.heap.size := (Array.getElem?_eq_some_iff.1 S2.out.hnm).1
            have hxl2 : w.heap.size < W2.heap.size := by omega
            have S4 := Lib.hid ((S2.out.name0 ut).alloc (.cells #[.int .i64 uk, .string ⟨ut.toArray⟩, .int .i64 un, .int .i64 ul] 42)).drew
            go_wp2_with fail
            go_region
            all_goals
              clear en
              go_wp2_with fail
              go_roundw
              case rel => exact ⟨_, 0 + 1, pos + 1, _, _, S4, by omega, rfl, HGN, by omega, by rw [setName_n]; omega⟩
              case measure => rw [its_pos HS.out, its_pos S4.out]; omega
          · go_wp2_with fail
            go_at_call 52; refine (nextT_ok b 0 dv iv ⟨uk, ut, un, ul⟩ r2 _ S1.out.hP HK.out hr2 _ rfl).mono ?_; rintro e W2 ⟨rfl, N2, P2⟩
            have S2 := Lib.hid (S1.out.next N2 P2 HE2.out)
            clear N2 P2
            have S3 := Lib.hid (S2.out.alloc (.cells #[.int .i64 uk, .string ⟨ut.toArray⟩, .int .i64 un, .int .i64 ul] 42))
            unfold tokV
            have en : namesV (w.heap.size + 1) 1 = .slice (some ⟨w.heap.size + 1, 1, none⟩) 1 1 := rfl
            have p1 : W2.cell? ⟨w.heap.size + 1, 1, none⟩ = some (.pointer (some ⟨w.heap.size, 3, none⟩)) := cell_of_heap S2.out.hnm 1 rfl
            have p2 : W2.cell? ⟨w.heap.size, 3, none⟩ = some (.string ⟨x.other.toArray⟩) := cell_of_heap S2.out.hx 3 rfl
            have p3 : W2.frozen? ⟨w.heap.size, 3, none⟩ = false := free_of_heap S2.out.hx 3
            have hxl1 : w.heap.size + 1 < W2.heap.size := (Array.getElem?_eq_some_iff.1 S2.out.hnm).1
            have hxl2 : w.heap.size < W2.heap.size := by omega
            have S4 := Lib.hid ((S2.out.name1 ut).alloc (.cells #[.int .i64 uk, .string ⟨ut.toArray⟩, .int .i64 un, .int .i64 ul] 42)).drew
            go_wp2_with fail
            go_region
            all_goals
              clear en
              go_wp2_with fail
              go_roundw
              case rel => exact ⟨_, 1 + 1, pos + 1, _, _, S4, by omega, rfl, HGN, by omega, by rw [setName_n]; omega⟩
              case measure => rw [its_pos HS.out, its_pos S4.out]; omega
        · have HK := Lib.hid hk1
          have HGN : Hid (G = Dr.fields (Q.drop (pos + 1)) j x (u :: r2)) := Lib.hid (HGR.out.trans (fields_o0 hpq hc hk1))
          clear hk1 hc hcd
          go_wp2_with fail
          go_at_call 52; refine (nextT_no b 0 dv iv u r2 _ S1.out.hP HK.out _ rfl).mono ?_; rintro e W2 ⟨rfl, N2, P2⟩
          have S2 := Lib.hid (S1.out.next N2 P2 S1.out.hE)
          clear N2 P2
          have S4 := Lib.hid (S2.out.alloc (.cells #[.int .i64 u.kind, .string ⟨u.text.toArray⟩, .int .i64 u.n, .int .i64 u.line] 42))
          unfold tokV
          go_wp2_with fail
          go_roundw
          case rel => exact ⟨_, j, pos + 1, _, _, S4, by omega, rfl, HGN, by omega, by omega⟩
          case measure => rw [its_pos HS.out, its_pos S4.out]; omega
    · obtain rfl : pos = Q.length := by omega
      have hnp : ¬ Q.length < P.size := by rw [HPS.out]; omega
      have hnext : ∀ ty, (Instr.next (.pointer (some ⟨w.heap.size + 1 + 1 + 1, 0, none⟩)) true ty).run Tryz.prog wr = _ := fun ty => Lib.run_next_end_at wr (w.heap.size + 3) P Q.length ty HS.out.hit hnp
      have HGN : Hid (G = .ok (x, u :: r2)) := Lib.hid (by rw [HGR.out, List.drop_length]; rfl)
      clear HGR hjc
      obtain ⟨lv3, h03, hT3⟩ := HS.out.hP
      have y2 : wr.cell? ⟨b, 2, none⟩ = some (.slice ia l.length ica) := cell_of_heap h03 2 (by rw [← HIV.out]; rfl)
      have y3 : wr.frozen? ⟨b, 2, none⟩ = false := free_of_heap h03 2
      have hbl : b < wr.heap.size := (Array.getElem?_eq_some_iff.1 h03).1
      have x0 : wr.cell? ⟨w.heap.size, 0, none⟩ = some (.int .i64 x.kind) := cell_of_heap HS.out.hx 0 rfl
      have x1 : wr.cell? ⟨w.heap.size, 1, none⟩ = some (.int .i64 x.line) := cell_of_heap HS.out.hx 1 rfl
      have x2 : wr.cell? ⟨w.heap.size, 2, none⟩ = some (.string ⟨x.name.toArray⟩) := cell_of_heap HS.out.hx 2 rfl
      have x3 : wr.cell? ⟨w.heap.size, 3, none⟩ = some (.string ⟨x.other.toArray⟩) := cell_of_heap HS.out.hx 3 rfl
      obtain ⟨na, nca, hnve, hnl⟩ := own_slice HS.out.hN
      have x4 : wr.cell? ⟨w.heap.size, 4, none⟩ = some (.slice na x.n.length nca) := cell_of_heap HS.out.hx 4 (by rw [← hnve]; rfl)
      have how := HS.out.hB.row HOW.out (by omega)
      have hne : iv.ownBlock ≠ some b := fun e => by have := (World.ownsRow.lt how b e).1; omega
      rw [HIV.out] at hne how
      have HHO := Lib.hid how
      have H03 := Lib.hid h03
      have HT3 := Lib.hid hT3
      have HNV := Lib.hid hnve
      have hbase : b + 1 ≤ wr.heap.size := by omega
      clear h03 hT3 how hnve
      go_wp2_with fail
      go_region_law ((refine step_append_lies _ (by rfl) _ _ _ (by rfl) (b + 1) 34 i0 _ 5 72 Tryz.underlying23 hi0 hz0 hz1 hz2 rfl (by omega) (.slice ia l.length ica) l.length (itemsC l) (by rfl) ((World.ownsRow.alloc HHO.out _).drew) ⟨wr.heap.size, 0, none⟩ 1 1 [.int .i64 x.kind, .int .i64 x.line, .string ⟨x.name.toArray⟩, .string ⟨x.other.toArray⟩, .slice na x.n.length nca] (by rfl) (by rfl) (World.news_of_block (cs := #[.int .i64 x.kind, .int .i64 x.line, .string ⟨x.name.toArray⟩, .string ⟨x.other.toArray⟩, .slice na x.n.length nca]) (t := 34) (fr := (0, 0)) (heap1d wr _)) (by simp [Value.oneCell']) (by omega) (by unfold maxLen; omega) (by omega) (by simp; omega) (wr.heap.size + 1) (by simp) ?_; intro g' cap' w2 hown2 hgrow hat hlt2; have z2 : w2.cell? ⟨b, 2, none⟩ = some (.slice ia l.length ica) := (hgrow.cell_far ⟨b, 2, none⟩ (by simp; omega) (Ne.symm hne)).trans (cl1 y2 hbl _); have z3 : w2.frozen? ⟨b, 2, none⟩ = false := (hgrow.frozen_far ⟨b, 2, none⟩ (by simp; omega) (Ne.symm hne)).trans (fz1 y3 hbl _)))
      all_goals
        obtain ⟨e1, e2⟩ := item_end H03.out HT3.out HS.out.hB HDI.out.1 HL.out HOW.out HNS.out HS.out.hN hlt HIV.out HNV.out hown2 hgrow
        have HR1 := Lib.hid e1
        have HR2 := Lib.hid e2
        clear e1 e2 hown2 hgrow hat
        go_wp2_with fail
        go_ret
        exact ItPost.ok HGN.out HR1.out HES.out HR2.out
end Go.Proofs.YtnccndfffmaonaaGreatDoor
/- The map of the words of an item's line, in plain words. -/
namespace Go.Proofs.YtnccndfffmaonaaGreatDoor
set_option linter.unusedSimpArgs false
set_option linter.unusedVariables false
open Go.RowKit Go.Maps

/-- The map after k words. -/
def Dm : Nat → DataW Unit
  | 0 => .map []
  | k + 1 => (Dm k).put (.string (Dr.wordOf k)) (.lit (.int .i64 k))
theorem Dm_isMap : ∀ k, IsMap (Dm k)
  | 0 => isMap_empty
  | k + 1 => (Dm_isMap k).put _ _
theorem Dm_hit (k m : Nat) (hk : k < m) (h : ∀ j, k < j → j < m → Dr.wordOf j ≠ Dr.wordOf k) (z : DataW Unit) : has (Dm m) (.string (Dr.wordOf k)) = true ∧ (Dm m).atKey (.string (Dr.wordOf k)) z = .lit (.int .i64 k) := by
  induction m with
  | zero => omega
  | succ m ih =>
    by_cases e : k = m
    · subst e
      exact ⟨has_put_same (Dm_isMap k) (by simp [WideAt.IsKeyLit]) _, atKey_put_same (Dm_isMap k) (by simp [WideAt.IsKeyLit]) _ _⟩
    · have hne : (Lit.string (Dr.wordOf k)) ≠ .string (Dr.wordOf m) := fun e2 => h m (by omega) (by omega) (by injection e2 with e2; exact e2.symm)
      obtain ⟨h1, h2⟩ := ih (by omega) (fun j hj hm => h j hj (by omega))
      exact ⟨(has_put_other hne _).trans h1, (atKey_put_other hne _ _).trans h2⟩
theorem Dm_miss (t : List UInt8) (m : Nat) (h : ∀ j, j < m → Dr.wordOf j ≠ t) : has (Dm m) (.string t) = false := by
  induction m with
  | zero => rfl
  | succ m ih =>
    have hne : (Lit.string t) ≠ .string (Dr.wordOf m) := fun e2 => h m (by omega) (by injection e2 with e2; exact e2.symm)
    exact (has_put_other hne _).trans (ih (fun j hj => h j (by omega)))
theorem words_apart : ∀ k, k < 6 → ∀ j, j < 6 → k < j → Dr.wordOf j ≠ Dr.wordOf k := by decide
theorem kindOf_some {t : List UInt8} {k : Nat} (h : Dr.kindOf t = some k) : k < 6 ∧ Dr.wordOf k = t := by
  unfold Dr.kindOf at h
  have h1 := List.mem_of_find?_eq_some h
  have h2 := List.find?_some h
  refine ⟨?_, by simpa using h2⟩
  simp at h1; omega
theorem kindOf_none {t : List UInt8} (h : Dr.kindOf t = none) : ∀ j, j < 6 → Dr.wordOf j ≠ t := by
  unfold Dr.kindOf at h
  rw [List.find?_eq_none] at h
  intro j hj e
  exact h j (by simp; omega) (by simpa using e)
theorem Dm_some {t : List UInt8} {k : Nat} (h : Dr.kindOf t = some k) (z : DataW Unit) : has (Dm 6) (.string t) = true ∧ (Dm 6).atKey (.string t) z = .lit (.int .i64 k) := by
  obtain ⟨h1, rfl⟩ := kindOf_some h
  exact Dm_hit k 6 h1 (fun j hj hm => words_apart k h1 j hm hj) z
theorem Dm_none {t : List UInt8} (h : Dr.kindOf t = none) : has (Dm 6) (.string t) = false := Dm_miss t 6 (kindOf_none h)
theorem word_cell : ∀ k, k < 6 → formsC.toArray[k * 2]? = some (.string ⟨(Dr.wordOf k).toArray⟩) ∧ (Dr.wordOf k).length ≤ 6 := by
  intro k hk
  match k, hk with
  | 0, _ => exact ⟨rfl, by decide⟩
  | 1, _ => exact ⟨rfl, by decide⟩
  | 2, _ => exact ⟨rfl, by decide⟩
  | 3, _ => exact ⟨rfl, by decide⟩
  | 4, _ => exact ⟨rfl, by decide⟩
  | 5, _ => exact ⟨rfl, by decide⟩
end Go.Proofs.YtnccndfffmaonaaGreatDoor
