/- Parts Hz of this claim, laid one behind the other: walks and the plain laws behind them; each contract states its own conditions. -/
import Derived.Test.YtcdfmgobokjcnaaGreatYQ
import Derived.Test.YtcdfmgobokjcnaaGreatYE
/- Walks of package arena: Happen (of a fault that can happen). -/
namespace Go.Proofs.YtcdfmgobokjcnaaGreat
set_option linter.unusedSimpArgs false
set_option linter.unusedVariables false
open Go.RowKit Go.Sort
theorem ApB.symm {v u : Value} (h : ApB v u) : ApB u v := fun g hu hv => h g hv hu
theorem own_turn {w w' : World} {B n z : Nat} {e : TypeId} {u v v' : Value} {xs : List Value} (hu : w.ownsRow B e z u n xs) (ha : ApB u v) (t : Turn w w' v v') : w'.ownsRow B e z u n xs := by
  refine hu.kept t.gr ?_
  cases hb : u.ownBlock with
  | none => exact .inl rfl
  | some g => exact .inr (fun e => ha g hb e.symm)
theorem ap_turn {w w' : World} {B n z : Nat} {e : TypeId} {u v v' : Value} {xs : List Value} (hu : w.ownsRow B e z u n xs) (ha : ApB u v) (t : Turn w w' v v') : ApB u v' := fun g hg hv => by
  rcases t.nb g hv with h | h
  · exact ha g hg h
  · have := (hu.lt g hg).2; omega
theorem ap5 {v1 v2 v3 v4 v5 : Value} : [v1, v2, v3, v4, v5].Pairwise ApB ↔ (ApB v1 v2 ∧ ApB v1 v3 ∧ ApB v1 v4 ∧ ApB v1 v5) ∧ (ApB v2 v3 ∧ ApB v2 v4 ∧ ApB v2 v5) ∧ (ApB v3 v4 ∧ ApB v3 v5) ∧ ApB v4 v5 := by
  simp [List.pairwise_cons]
theorem StO.t2 {w w' : World} {B : Nat} {v1 v2 v3 v4 v5 v' : Value} {s : Bd.State} (h : StO w B v1 v2 v3 v4 v5 s) (t : Turn w w' v2 v') (l : List Bd.Robot) (ho : w'.ownsRow B 82 6 v' l.length (l.map robC).flatten) : StO w' B v1 v' v3 v4 v5 { s with robots := l } := by
  obtain ⟨o1, o2, o3, o4, o5, ap⟩ := h
  obtain ⟨⟨a, b, c, d⟩, ⟨e, f, g⟩, ⟨i, j⟩, k⟩ := ap5.1 ap
  exact ⟨own_turn o1 a t, ho, own_turn o3 e.symm t, own_turn o4 f.symm t, own_turn o5 g.symm t, ap5.2 ⟨⟨ap_turn o1 a t, b, c, d⟩, ⟨(ap_turn o3 e.symm t).symm, (ap_turn o4 f.symm t).symm, (ap_turn o5 g.symm t).symm⟩, ⟨i, j⟩, k⟩⟩
theorem StO.t3 {w w' : World} {B : Nat} {v1 v2 v3 v4 v5 v' : Value} {s : Bd.State} (h : StO w B v1 v2 v3 v4 v5 s) (t : Turn w w' v3 v') (l : List Int) (ho : w'.ownsRow B 3 1 v' l.length (ints l)) : StO w' B v1 v2 v' v4 v5 { s with people := l } := by
  obtain ⟨o1, o2, o3, o4, o5, ap⟩ := h
  obtain ⟨⟨a, b, c, d⟩, ⟨e, f, g⟩, ⟨i, j⟩, k⟩ := ap5.1 ap
  exact ⟨own_turn o1 b t, own_turn o2 e t, ho, own_turn o4 i.symm t, own_turn o5 j.symm t, ap5.2 ⟨⟨a, ap_turn o1 b t, c, d⟩, ⟨ap_turn o2 e t, f, g⟩, ⟨(ap_turn o4 i.symm t).symm, (ap_turn o5 j.symm t).symm⟩, k⟩⟩
theorem StO.t4 {w w' : World} {B : Nat} {v1 v2 v3 v4 v5 v' : Value} {s : Bd.State} (h : StO w B v1 v2 v3 v4 v5 s) (t : Turn w w' v4 v') (l : List Int) (ho : w'.ownsRow B 3 1 v' l.length (ints l)) : StO w' B v1 v2 v3 v' v5 { s with dead := l } := by
  obtain ⟨o1, o2, o3, o4, o5, ap⟩ := h
  obtain ⟨⟨a, b, c, d⟩, ⟨e, f, g⟩, ⟨i, j⟩, k⟩ := ap5.1 ap
  exact ⟨own_turn o1 c t, own_turn o2 f t, own_turn o3 i t, ho, own_turn o5 k.symm t, ap5.2 ⟨⟨a, b, ap_turn o1 c t, d⟩, ⟨e, ap_turn o2 f t, g⟩, ⟨ap_turn o3 i t, j⟩, (ap_turn o5 k.symm t).symm⟩⟩
theorem StO.t5 {w w' : World} {B : Nat} {v1 v2 v3 v4 v5 v' : Value} {s : Bd.State} (h : StO w B v1 v2 v3 v4 v5 s) (t : Turn w w' v5 v') (l : List (Int × Int)) (ho : w'.ownsRow B 134 2 v' l.length (l.map spanC).flatten) : StO w' B v1 v2 v3 v4 v' { s with stuck := l } := by
  obtain ⟨o1, o2, o3, o4, o5, ap⟩ := h
  obtain ⟨⟨a, b, c, d⟩, ⟨e, f, g⟩, ⟨i, j⟩, k⟩ := ap5.1 ap
  exact ⟨own_turn o1 d t, own_turn o2 g t, own_turn o3 j t, own_turn o4 k t, ho, ap5.2 ⟨⟨a, b, c, ap_turn o1 d t⟩, ⟨e, f, ap_turn o2 g t⟩, ⟨i, ap_turn o3 j t⟩, ap_turn o4 k t⟩⟩
theorem StO.below {w w' : World} {B : Nat} {v1 v2 v3 v4 v5 : Value} {s : Bd.State} (h : StO w B v1 v2 v3 v4 v5 s) (hb : Below w.heap.size w w') : StO w' B v1 v2 v3 v4 v5 s :=
  ⟨own_belowB h.o1 hb, own_belowB h.o2 hb, own_belowB h.o3 hb, own_belowB h.o4 hb, own_belowB h.o5 hb, h.ap⟩
theorem own_setT {w : World} {base N : Nat} {e t : TypeId} {sz n : Nat} {v : Value} {xs : List Value} {cs : Array Value} {fr : Nat × Nat} (h : w.ownsRow base e sz v n xs) (hN : w.heap[N]? = some (.cells cs t fr)) (hne : e ≠ t) (i : Nat) (x : Value) : (w.setCell ⟨N, i, none⟩ x).ownsRow base e sz v n xs := by
  refine own_set_other h (fun e => ?_) i x
  rcases h.2 with ⟨rfl, -⟩ | ⟨g, cap, cur, rfl, -, hg, -⟩
  · cases e
  · injection e with e
    dsimp only at e
    subst e
    rw [hN] at hg
    injection hg with hg
    injection hg with _ hg
    exact hne hg.symm
theorem StO.set {w : World} {B N : Nat} {v1 v2 v3 v4 v5 : Value} {s : Bd.State} {cs : Array Value} {fr : Nat × Nat} (h : StO w B v1 v2 v3 v4 v5 s) (hN : w.heap[N]? = some (.cells cs 34 fr)) (i : Nat) (x : Value) : StO (w.setCell ⟨N, i, none⟩ x) B v1 v2 v3 v4 v5 s :=
  ⟨own_setT h.o1 hN (by decide) i x, own_setT h.o2 hN (by decide) i x, own_setT h.o3 hN (by decide) i x, own_setT h.o4 hN (by decide) i x, own_setT h.o5 hN (by decide) i x, h.ap⟩
theorem rob_len (l : List Bd.Robot) : ∀ r ∈ l.map robC, r.length = 6 := fun r hr => by obtain ⟨c, -, rfl⟩ := List.mem_map.1 hr; rfl
theorem StO.stv {w : World} {B : Nat} {v1 v2 v3 v4 v5 : Value} {s : Bd.State} (h : StO w B v1 v2 v3 v4 v5 s) : StV w v1 v2 v3 v4 v5 s :=
  ⟨Sl.of_own h.o1 (own_max h.o1), Rw.of_own h.o2 (by simp) (rob_len _) (by decide), Sl.of_own h.o3 (own_max h.o3), Sl.of_own h.o4 (own_max h.o4), Rw.of_own h.o5 (by simp) (span_len _) (by decide)⟩
theorem rob_set (g : Bd.Robot → Bd.Robot) (j : Nat) (u : Bd.Robot → Value) (hg : ∀ r, robC (g r) = (robC r).set j (u r)) (hj : j < 6) : ∀ (l : List Bd.Robot) (i : Nat) (hi : i < l.length), ((Bd.upd g l i).map robC).flatten = (l.map robC).flatten.set (i * 6 + j) (u l[i])
  | [], i, hi => by simp at hi
  | x :: l, 0, _ => by
    simp only [Bd.upd, List.map_cons, List.flatten_cons, hg, List.getElem_cons_zero, Nat.zero_mul, Nat.zero_add]
    rw [List.set_append, if_pos (by simpa [robC] using hj)]
  | x :: l, i + 1, hi => by
    have ih := rob_set g j u hg hj l i (by simpa using hi)
    simp only [Bd.upd, List.map_cons, List.flatten_cons, List.getElem_cons_succ]
    rw [ih, List.set_append, if_neg (by simp [robC]; omega)]
    congr 2
    simp [robC]; omega
theorem below_setRow {n g : Nat} {w w2 : World} (cells : Array Value) (h : Below n w w2) (hg : n ≤ g) : Below n w (w2.setRow g cells) :=
  ⟨h.os, h.tape, h.output, by have := h.size; simpa [World.setRow] using this, fun k hk => (setRow_other w2 g k _ (by omega)).trans (h.block k hk)⟩
theorem insC_perm (c : Int) : ∀ l : List Int, (Bd.insC c l).Perm (c :: l)
  | [] => List.Perm.refl _
  | d :: l => by
    unfold Bd.insC
    split
    · exact List.Perm.refl _
    · exact ((insC_perm c l).cons d).trans (List.Perm.swap c d l)
theorem insC_asc (c : Int) : ∀ l : List Int, l.Pairwise (· ≤ ·) → (Bd.insC c l).Pairwise (· ≤ ·)
  | [], _ => by simp [Bd.insC]
  | d :: l, h => by
    rw [List.pairwise_cons] at h
    unfold Bd.insC
    split
    · rename_i hc
      refine List.pairwise_cons.2 ⟨fun x hx => ?_, List.pairwise_cons.2 h⟩
      rcases List.mem_cons.1 hx with rfl | hx
      · omega
      · have := h.1 x hx; omega
    · rename_i hc
      refine List.pairwise_cons.2 ⟨fun x hx => ?_, insC_asc c l h.2⟩
      rcases List.mem_cons.1 ((insC_perm c l).mem_iff.1 hx) with rfl | hx
      · omega
      · exact h.1 x hx
theorem insC_sorted {c : Int} {l m : List Int} (hl : l.Pairwise (· ≤ ·)) (hp : m.Perm (l ++ [c])) (hm : m.Pairwise (· ≤ ·)) : m = Bd.insC c l :=
  List.Perm.eq_of_pairwise (fun _ _ _ _ h1 h2 => Int.le_antisymm h1 h2) hm (insC_asc c l hl) (hp.trans (List.perm_append_comm.trans (insC_perm c l).symm))
/-- slices.Sort of a row of a call's own: what else there is stays. -/
theorem sortT_any (base : Nat) (v : Value) (l : List Int) (w : World) (ho : w.ownsRow base 3 1 v l.length (ints l)) (hlen : l.length < 4611686018427387904) (hbw : base ≤ w.heap.size) :
    Calls Tryz.prog 44 #[v] w fun e w' => e = .returned (.tuple #[]) ∧ ∃ m : List Int, m.Perm l ∧ m.Pairwise (· ≤ ·) ∧ w'.ownsRow base 3 1 v m.length (ints m) ∧ Turn w w' v v := by
  rcases ho.2 with ⟨rfl, h0⟩ | ⟨g, cap, cur, rfl, hbg, hg, hnc, hcm, hcs, htake⟩
  · have h1 : l = [] := List.eq_nil_of_length_eq_zero h0
    subst h1
    refine (Tryz.slices_Sort_int_none none 0 w).mono ?_
    rintro e w' ⟨rfl, rfl⟩
    exact ⟨rfl, [], by simp, List.Pairwise.nil, ho, Turn.refl _ _⟩
  · have hg2 : g < w.heap.size := heap_lt hg
    rw [Nat.mul_one] at htake
    have hH := Go.holds_of_blockI hg htake
    refine (Tryz.slices_Sort_int g 0 cap l w hH hg2 hlen).mono ?_
    rintro e w' ⟨rfl, n, os, rfl⟩
    obtain ⟨m, hm⟩ : ∃ m, l.mergeSort (fun x y => decide (x ≤ y)) = m := ⟨_, rfl⟩
    have hperm := List.mergeSort_perm l (fun x y => decide (x ≤ y))
    have hpair := List.pairwise_mergeSort (le := fun x y : Int => decide (x ≤ y)) (fun a b c h k => by simp at h k ⊢; omega) (fun a b => by simp; omega) l
    rw [hm] at hperm hpair ⊢
    have hl := hperm.length_eq
    have hown := Go.ownsRow_sortedI (w := w) (n := n) (os := os) (ss := l) (ts := m) hl hbg hg hnc hcm hcs
    have hgr := Go.grownBy_sortedI (w := w) (g := g) (n := n) (os := os) m.toArray
    refine ⟨rfl, m, hperm, hpair.imp (fun h => by simpa using h), ?_, ⟨hgr.os, hgr.tape, hgr.output, hgr.size, fun k hk hn => hgr.block k (by omega) hn⟩, fun g h => .inl h⟩
    rw [hl]; exact hown
theorem deadGo_asc {n : Int} : ∀ {l : List Int} {p : Option Int}, Bd.deadGo n p l = true → l.Pairwise (· ≤ ·) ∧ ∀ q, p = some q → ∀ c ∈ l, q < c
  | [], _, _ => ⟨List.Pairwise.nil, fun _ _ _ h => by cases h⟩
  | c :: l, p, h => by
    unfold Bd.deadGo at h
    simp only [Bool.and_eq_true, decide_eq_true_eq] at h
    obtain ⟨⟨h0, h1, h2⟩, h3⟩ := h
    obtain ⟨k1, k2⟩ := deadGo_asc h3
    refine ⟨List.pairwise_cons.2 ⟨fun x hx => Int.le_of_lt (k2 c rfl x hx), k1⟩, fun q hq x hx => ?_⟩
    subst hq
    simp only [decide_eq_true_eq] at h2
    rcases List.mem_cons.1 hx with rfl | hx
    · exact h2
    · have := k2 c rfl x hx; omega
/-- What Happen returns. -/
def HapPost (w : World) (s : Bd.State) (e : Ending) (w' : World) : Prop := ∃ v1 v2 v3 v4 v5, e = .returned (stV s v1 v2 v3 v4 v5) ∧ StO w' w.heap.size v1 v2 v3 v4 v5 s ∧ Below w.heap.size w w'
theorem StO.lower {w : World} {B B2 : Nat} {v1 v2 v3 v4 v5 : Value} {s : Bd.State} (h : StO w B v1 v2 v3 v4 v5 s) (hb : B2 ≤ B) : StO w B2 v1 v2 v3 v4 v5 s :=
  ⟨own_lower h.o1 hb, own_lower h.o2 hb, own_lower h.o3 hb, own_lower h.o4 hb, own_lower h.o5 hb, h.ap⟩
theorem own_form1 {w : World} {base n : Nat} {e : TypeId} {sz : Nat} {v : Value} {xs : List Value} (h : w.ownsRow base e sz v n xs) (hn : 0 < n) : ∃ g cap, v = .slice (some ⟨g, 0, none⟩) n cap ∧ base ≤ g ∧ g < w.heap.size := by
  rcases h.2 with ⟨h, h0⟩ | ⟨g, cap, cur, h1, h2, h3, -⟩
  · omega
  · exact ⟨g, cap, h1, h2, heap_lt h3⟩
theorem turn_cell {w w' : World} {B N n z : Nat} {e : TypeId} {v v' : Value} {xs : List Value} {cs : Array Value} {t : TypeId} (ho : w.ownsRow B e z v n xs) (hne : e ≠ t) (hN : w.heap[N]? = some (.cells cs t (0, 0))) (tn : Turn w w' v v') : w'.heap[N]? = some (.cells cs t (0, 0)) := by
  refine (tn.gr.block N (heap_lt hN) (fun h => ?_)).trans hN
  rcases ho.2 with ⟨rfl, -⟩ | ⟨g, cap, cur, rfl, -, hg, -⟩
  · cases h
  · injection h with h
    dsimp only at h
    subst h
    rw [hN] at hg
    injection hg with hg
    injection hg with _ hg
    exact hne hg.symm
theorem Turn.below {w w' : World} {B n z : Nat} {e : TypeId} {v v' : Value} {xs : List Value} (ho : w.ownsRow B e z v n xs) (hB : B ≤ w.heap.size) (t : Turn w w' v v') : Below B w w' :=
  ⟨t.gr.os, t.gr.tape, t.gr.output, t.gr.size, fun k hk => t.gr.block k (by omega) (fun e => by have := (ho.lt k e.symm).1; omega)⟩
theorem StO.setRow {w : World} {B g : Nat} {v1 v2 v3 v4 v5 : Value} {s : Bd.State} (cells : Array Value) (h : StO w B v1 v2 v3 v4 v5 s) (hg : g < B) : StO (w.setRow g cells) B v1 v2 v3 v4 v5 s := by
  have hgr : w.grownBy (w.setRow g cells) (some g) := ⟨rfl, rfl, rfl, by simp [World.setRow], fun k _ hn => setRow_other w g k _ (fun e => hn (by rw [e]))⟩
  have key : ∀ {e : TypeId} {z n : Nat} {v : Value} {xs : List Value}, w.ownsRow B e z v n xs → (w.setRow g cells).ownsRow B e z v n xs := fun {e z n v xs} ho => ho.kept hgr (.inr (fun e => by have := (ho.lt g e).1; omega))
  exact ⟨key h.o1, key h.o2, key h.o3, key h.o4, key h.o5, h.ap⟩
theorem own_setRow {w : World} {B g z n : Nat} {e : TypeId} {v : Value} {xs : List Value} (cells : Array Value) (ho : w.ownsRow B e z v n xs) (hg : g < B) : (w.setRow g cells).ownsRow B e z v n xs :=
  ho.kept (row := some g) ⟨rfl, rfl, rfl, by simp [World.setRow], fun k _ hn => setRow_other w g k _ (fun e => hn (by rw [e]))⟩ (.inr (fun e => by have := (ho.lt g e).1; omega))
theorem set_same {l : List Value} {u : Value} : (l ++ [u]).set l.length u = l ++ [u] := by
  rw [List.set_append, if_neg (by omega), Nat.sub_self]; rfl
theorem ints_setE : ∀ (l : List Int) (i : Nat) (c : Int), ints (l.set i c) = (ints l).set i (.int .i64 c)
  | [], _, _ => rfl
  | x :: l, 0, c => rfl
  | x :: l, i + 1, c => by
    have ih := ints_setE l i c
    unfold ints at ih ⊢
    rw [List.set_cons_succ, List.map_cons, ih]; rfl
theorem ints_len2 (l : List Int) : (ints l).length = l.length := by simp [ints]
theorem ints_snoc (l : List Int) (c : Int) : ints (l ++ [c]) = ints l ++ [.int .i64 c] := by simp [ints]
set_option maxRecDepth 100000 in
set_option maxHeartbeats 64000000 in
theorem Happen_any (f : Fl.Floor) (kv ov zv av hv bv : Value) (st : Bd.State) (sv rv pv dv ku : Value) (x : Fa.Flt) (w : World) (hf : FlV w kv ov f) (hfb : FB f) (hkl : f.kind.length ≤ 1000000) (h : StV w sv rv pv dv ku st) (hs : StS st)
    (l4 : st.dead.length ≤ 1000000) (l5 : st.stuck.length ≤ 1000000) (hd : st.dead.Pairwise (· ≤ ·)) (hp : Fa.possB f st x = true) :
    Calls Tryz.prog 18 #[siF f kv ov zv av hv bv, stV st sv rv pv dv ku, fltV x] w (HapPost w (Fa.hap st x)) := by
  obtain ⟨xk, xa, xn⟩ := x
  have HCL := Lib.hid (fun W (hW : Below w.heap.size w W) => Clone_any st sv rv pv dv ku W (h.keep hW) (by have := hs.ns; omega) (by have := hs.nr; omega) (by have := hs.np; omega) l4 l5)
  have HPO := Lib.hid (fun W (hW : Below w.heap.size w W) => Possible_any f kv ov zv av hv bv st sv rv pv dv ku ⟨xk, xa, xn⟩ W (hf.keep hW) hfb hkl (h.keep hW) hs)
  rw [hp, show possE true = 0 from rfl] at HPO
  have HP := Lib.hid hp
  have HD := Lib.hid hd
  have HL4 := Lib.hid l4
  have HL5 := Lib.hid l5
  have HL3 := Lib.hid hs.np
  unfold siF at HPO ⊢
  unfold stV at HCL HPO ⊢
  unfold fltV at HPO ⊢
  obtain ⟨tk, htk⟩ : ∃ t, st.tick = t := ⟨_, rfl⟩
  rw [htk] at HCL HPO ⊢
  have HTK := Lib.hid htk
  dsimp only at HPO ⊢
  obtain ⟨w4, hw4⟩ : ∃ W, W = (((w.alloc (.cells #[.int .i64 f.w, .int .i64 f.h, .int .i64 f.d, kv, ov, zv, av, hv, bv] 30)).alloc (.cells #[.int .i64 tk, sv, rv, pv, dv, ku] 34)).alloc (.cells #[.int .i64 xk, .int .i64 xa, .int .i64 xn] 38)).alloc (.cells #[.int .i64 0, .slice none 0 0, .slice none 0 0, .slice none 0 0, .slice none 0 0, .slice none 0 0] 34) := ⟨_, rfl⟩
  have HA := al4 w (.cells #[.int .i64 f.w, .int .i64 f.h, .int .i64 f.d, kv, ov, zv, av, hv, bv] 30) (.cells #[.int .i64 tk, sv, rv, pv, dv, ku] 34) (.cells #[.int .i64 xk, .int .i64 xa, .int .i64 xn] 38) (.cells #[.int .i64 0, .slice none 0 0, .slice none 0 0, .slice none 0 0, .slice none 0 0, .slice none 0 0] 34)
  rw [← hw4] at HA
  have IS := Lib.hid HA.1
  have IT := Lib.hid HA.2.1
  have IF := Lib.hid HA.2.2.1
  have IR := Lib.hid HA.2.2.2.1
  have B4 := Lib.hid HA.2.2.2.2.1
  have sz4 := HA.2.2.2.2.2
  have HW4 := Lib.hid hw4
  clear h hs l4 l5 hd hp hf hfb hkl hw4 HA htk
  go_enter Tryz.func18, Tryz.ntmps18
  go_upto_region 1 with fail
  rw [← HW4.out]
  have t0 : w4.cell? ⟨w.heap.size + 1, 0, none⟩ = some (.int .i64 tk) := cell_of_heap IT.out 0 rfl
  have t1 : w4.cell? ⟨w.heap.size + 1, 1, none⟩ = some (sv) := cell_of_heap IT.out 1 rfl
  have t2 : w4.cell? ⟨w.heap.size + 1, 2, none⟩ = some (rv) := cell_of_heap IT.out 2 rfl
  have t3 : w4.cell? ⟨w.heap.size + 1, 3, none⟩ = some (pv) := cell_of_heap IT.out 3 rfl
  have t4 : w4.cell? ⟨w.heap.size + 1, 4, none⟩ = some (dv) := cell_of_heap IT.out 4 rfl
  have t5 : w4.cell? ⟨w.heap.size + 1, 5, none⟩ = some (ku) := cell_of_heap IT.out 5 rfl
  go_wp2_with fail
  go_at_call 43; refine (HCL.out _ B4.out).mono ?_; rintro e w5 ⟨v1, v2, v3, v4, v5, rfl, hso, b5⟩
  have U5 := Lib.hid b5
  have s5 := b5.size
  obtain ⟨w6, hw6⟩ : ∃ W, W = (w5.alloc (.cells #[.int .i64 0, .slice none 0 0, .slice none 0 0, .slice none 0 0, .slice none 0 0, .slice none 0 0] 34)).setRow w5.heap.size #[.int .i64 tk, v1, v2, v3, v4, v5] := ⟨_, rfl⟩
  have IZ : Hid ((w5.alloc (.cells #[.int .i64 0, .slice none 0 0, .slice none 0 0, .slice none 0 0, .slice none 0 0, .slice none 0 0] 34)).heap[w5.heap.size]? = some (.cells #[.int .i64 0, .slice none 0 0, .slice none 0 0, .slice none 0 0, .slice none 0 0, .slice none 0 0] 34 (0, 0))) := Lib.hid (heap_alloc_new _ _)
  have IN : Hid (w6.heap[w5.heap.size]? = some (.cells #[.int .i64 tk, v1, v2, v3, v4, v5] 34 (0, 0))) := Lib.hid (by rw [hw6]; exact setRow_heap _ _ _ _ _ _ IZ.out)
  have B6 : Hid (Below w5.heap.size w5 w6) := Lib.hid (by rw [hw6]; exact below_setRow _ ((Below.refl _ w5).alloc (Nat.le_refl _) _) (Nat.le_refl _))
  have U6 := Lib.hid (U5.out.trans (B6.out.mono s5))
  have SO := Lib.hid (hso.below B6.out)
  have HW6 := Lib.hid hw6
  clear b5 hso hw6
  clear t0 t1 t2 t3 t4 t5
  have one1 : (#[Value.int .i64 tk, v1, v2, v3, v4, v5] : Array Value).all (·.oneCell') = true := by
    obtain ⟨g1, c1, rfl⟩ := own_form SO.out.o1
    obtain ⟨g2, c2, rfl⟩ := own_form SO.out.o2
    obtain ⟨g3, c3, rfl⟩ := own_form SO.out.o3
    obtain ⟨g4, c4, rfl⟩ := own_form SO.out.o4
    obtain ⟨g5, c5, rfl⟩ := own_form SO.out.o5
    simp [Value.oneCell']
  go_upto_region 2 with (refine wpList_store_row rfl 34 (.tmp 7) (.tmp 9) rfl w5.heap.size #[.int .i64 tk, v1, v2, v3, v4, v5] rfl rfl 34 _ IZ.out (by kernel_rfl) rfl one1 ?_)
  rw [← HW6.out]
  clear one1
  have x0 : w6.cell? ⟨w.heap.size, 0, none⟩ = some (.int .i64 f.w) := cell_of_heap (keep_heap IS.out U6.out) 0 rfl
  have x1 : w6.cell? ⟨w.heap.size, 1, none⟩ = some (.int .i64 f.h) := cell_of_heap (keep_heap IS.out U6.out) 1 rfl
  have x2 : w6.cell? ⟨w.heap.size, 2, none⟩ = some (.int .i64 f.d) := cell_of_heap (keep_heap IS.out U6.out) 2 rfl
  have x3 : w6.cell? ⟨w.heap.size, 3, none⟩ = some (kv) := cell_of_heap (keep_heap IS.out U6.out) 3 rfl
  have x4 : w6.cell? ⟨w.heap.size, 4, none⟩ = some (ov) := cell_of_heap (keep_heap IS.out U6.out) 4 rfl
  have x5 : w6.cell? ⟨w.heap.size, 5, none⟩ = some (zv) := cell_of_heap (keep_heap IS.out U6.out) 5 rfl
  have x6 : w6.cell? ⟨w.heap.size, 6, none⟩ = some (av) := cell_of_heap (keep_heap IS.out U6.out) 6 rfl
  have x7 : w6.cell? ⟨w.heap.size, 7, none⟩ = some (hv) := cell_of_heap (keep_heap IS.out U6.out) 7 rfl
  have x8 : w6.cell? ⟨w.heap.size, 8, none⟩ = some (bv) := cell_of_heap (keep_heap IS.out U6.out) 8 rfl
  have t0 : w6.cell? ⟨w.heap.size + 1, 0, none⟩ = some (.int .i64 tk) := cell_of_heap (keep_heap IT.out U6.out) 0 rfl
  have t1 : w6.cell? ⟨w.heap.size + 1, 1, none⟩ = some (sv) := cell_of_heap (keep_heap IT.out U6.out) 1 rfl
  have t2 : w6.cell? ⟨w.heap.size + 1, 2, none⟩ = some (rv) := cell_of_heap (keep_heap IT.out U6.out) 2 rfl
  have t3 : w6.cell? ⟨w.heap.size + 1, 3, none⟩ = some (pv) := cell_of_heap (keep_heap IT.out U6.out) 3 rfl
  have t4 : w6.cell? ⟨w.heap.size + 1, 4, none⟩ = some (dv) := cell_of_heap (keep_heap IT.out U6.out) 4 rfl
  have t5 : w6.cell? ⟨w.heap.size + 1, 5, none⟩ = some (ku) := cell_of_heap (keep_heap IT.out U6.out) 5 rfl
  have y0 : w6.cell? ⟨w.heap.size + 1 + 1, 0, none⟩ = some (.int .i64 xk) := cell_of_heap (keep_heap IF.out U6.out) 0 rfl
  have y1 : w6.cell? ⟨w.heap.size + 1 + 1, 1, none⟩ = some (.int .i64 xa) := cell_of_heap (keep_heap IF.out U6.out) 1 rfl
  have y2 : w6.cell? ⟨w.heap.size + 1 + 1, 2, none⟩ = some (.int .i64 xn) := cell_of_heap (keep_heap IF.out U6.out) 2 rfl
  go_wp2_with fail
  go_at_call 10; refine (HPO.out _ (B4.out.trans (U6.out.mono B4.out.size))).mono ?_; rintro e w7 ⟨rfl, b7⟩
  have U7 := Lib.hid (U6.out.trans (b7.mono U6.out.size))
  have I7 := Lib.hid (keep_heap IN.out b7)
  have S7 := Lib.hid (SO.out.below b7)
  have s7 : w5.heap.size < w7.heap.size := heap_lt I7.out
  have F7 := Lib.hid (keep_heap IF.out U7.out)
  have R7 := Lib.hid (keep_heap IR.out U7.out)
  have BW := Lib.hid (B4.out.trans (U7.out.mono B4.out.size))
  have BW5 : Hid (w.heap.size + 4 ≤ w5.heap.size) := Lib.hid (by omega)
  clear x0 x1 x2 x3 x4 x5 x6 x7 x8 t0 t1 t2 t3 t4 t5 y0 y1 y2
  clear b7 HCL HPO SO IN IZ HW6 B6 U6 U5
  have y0 : w7.cell? ⟨w.heap.size + 1 + 1, 0, none⟩ = some (.int .i64 xk) := cell_of_heap F7.out 0 rfl
  have y1 : w7.cell? ⟨w.heap.size + 1 + 1, 1, none⟩ = some (.int .i64 xa) := cell_of_heap F7.out 1 rfl
  have y2 : w7.cell? ⟨w.heap.size + 1 + 1, 2, none⟩ = some (.int .i64 xn) := cell_of_heap F7.out 2 rfl
  have hkk : xk = 0 ∨ xk = 1 ∨ xk = 2 ∨ xk = 3 ∨ xk = 4 ∨ xk = 5 := by
    have h1 := HP.out
    unfold Fa.possB at h1
    dsimp only at h1
    by_cases k0 : xk = 0
    · exact .inl k0
    by_cases k1 : xk = 1
    · exact .inr (.inl k1)
    by_cases k2 : xk = 2
    · exact .inr (.inr (.inl k2))
    by_cases k3 : xk = 3
    · exact .inr (.inr (.inr (.inl k3)))
    by_cases k4 : xk = 4
    · exact .inr (.inr (.inr (.inr (.inl k4))))
    by_cases k5 : xk = 5
    · exact .inr (.inr (.inr (.inr (.inr k5))))
    rw [if_neg k0, if_neg k1, if_neg k2, if_neg k3, if_neg k4, if_neg k5] at h1
    cases h1
  rcases hkk with rfl | rfl | rfl | rfl | rfl | rfl
  · have hh : Fa.hap st ⟨0, xa, xn⟩ = st := rfl
    go_upto_region 18 with fail
    have q0 : w7.cell? ⟨w5.heap.size, 0, none⟩ = some (.int .i64 tk) := cell_of_heap I7.out 0 rfl
    have q1 : w7.cell? ⟨w5.heap.size, 1, none⟩ = some (v1) := cell_of_heap I7.out 1 rfl
    have q2 : w7.cell? ⟨w5.heap.size, 2, none⟩ = some (v2) := cell_of_heap I7.out 2 rfl
    have q3 : w7.cell? ⟨w5.heap.size, 3, none⟩ = some (v3) := cell_of_heap I7.out 3 rfl
    have q4 : w7.cell? ⟨w5.heap.size, 4, none⟩ = some (v4) := cell_of_heap I7.out 4 rfl
    have q5 : w7.cell? ⟨w5.heap.size, 5, none⟩ = some (v5) := cell_of_heap I7.out 5 rfl
    have one9 : (#[.int .i64 tk, v1, v2, v3, v4, v5] : Array Value).all (·.oneCell') = true := by
      obtain ⟨g1, c1, h1⟩ := own_form S7.out.o1
      obtain ⟨g2, c2, h2⟩ := own_form S7.out.o2
      obtain ⟨g3, c3, h3⟩ := own_form S7.out.o3
      obtain ⟨g4, c4, h4⟩ := own_form S7.out.o4
      obtain ⟨g5, c5, h5⟩ := own_form S7.out.o5
      rw [h1, h2, h3, h4, h5]
      simp [Value.oneCell']
    have RR : Hid (w7.heap[w.heap.size + 1 + 1 + 1]? = some (.cells #[.int .i64 0, .slice none 0 0, .slice none 0 0, .slice none 0 0, .slice none 0 0, .slice none 0 0] 34 (0, 0))) := Lib.hid R7.out
    go_wp2_with (refine wpList_store_row rfl 34 (.tmp 6) (.tmp 80) rfl (w.heap.size + 1 + 1 + 1) #[.int .i64 tk, v1, v2, v3, v4, v5] rfl rfl 34 _ RR.out (by kernel_rfl) rfl one9 ?_)
    refine bodyPost_ret (v := .agg #[.int .i64 tk, v1, v2, v3, v4, v5]) (results_cell_row (p := 6) (ty := 34) (by kernel_rfl) _ _ (w.heap.size + 1 + 1 + 1) 34 #[.int .i64 tk, v1, v2, v3, v4, v5] (0, 0) _ rfl (setRow_heap _ _ _ _ _ _ RR.out) Tryz.underlying34 rfl (by kernel_rfl)) rfl ?_
    have hB9 : Below (w.heap.size + 1 + 1 + 1) w7 (w7.setRow (w.heap.size + 1 + 1 + 1) #[.int .i64 tk, v1, v2, v3, v4, v5]) := below_setRow _ (Below.refl _ w7) (Nat.le_refl _)
    have hS9 : StO (w7.setRow (w.heap.size + 1 + 1 + 1) #[.int .i64 tk, v1, v2, v3, v4, v5]) w4.heap.size v1 v2 v3 v4 v5 _ := StO.setRow _ S7.out (by omega)
    try rw [hh]
    exact ⟨v1, v2, v3, v4, v5, congrArg (fun t => Ending.returned (Value.agg #[.int .i64 t, v1, v2, v3, v4, v5])) HTK.out.symm, hS9.lower (by omega), (BW.out).trans (hB9.mono (by omega))⟩
  · have hl := HP.out
    unfold Fa.possB at hl
    dsimp only at hl
    rw [if_neg (by decide), if_pos rfl] at hl
    have hl2 := Fa.live_lt hl
    obtain ⟨i, rfl⟩ : ∃ i : Nat, xa = (i : Int) := ⟨xa.toNat, by omega⟩
    have hi : i < st.robots.length := by omega
    have hh : Fa.hap st ⟨1, (i : Int), xn⟩ = { st with robots := Bd.upd (fun r => { r with dead := true }) st.robots i } := rfl
    have HH := Lib.hid hh
    obtain ⟨g, cap, hv, hBg, hgl⟩ := own_form1 S7.out.o2 (by omega)
    subst hv
    have HS := Lib.hid (S7.out.o2.stored (i * 6 + 5) (.bool true))
    have hfz : w7.frozen? ⟨g, i * 6 + 5, none⟩ = false := S7.out.o2.frozenAt _
    have hc := (S7.out.o2.cellAt (i * 6 + 5) (by omega)).trans (get_flatten (st.robots.map robC) (rob_len _) i (by simpa using hi) 5 (by omega))
    rw [List.getElem_map] at hc
    simp only [robC, List.getElem?_cons_zero, List.getElem?_cons_succ] at hc
    have hsz : w4.heap.size ≤ w7.heap.size := by omega
    have i0 : (0 : Int) ≤ (i : Int) := by omega
    have i1 : (i : Int) < (st.robots.length : Int) := by omega
    obtain ⟨w8, hw8⟩ : ∃ W, W = w7.setCell ⟨g, i * 6 + 5, none⟩ (.bool true) := ⟨_, rfl⟩
    rw [← hw8] at HS
    have HW8 := Lib.hid hw8
    have TN : Hid (Turn w7 w8 (.slice (some ⟨g, 0, none⟩) st.robots.length cap) (.slice (some ⟨g, 0, none⟩) st.robots.length cap)) := Lib.hid ⟨HS.out.2, fun g h => .inl h⟩
    have S8 := Lib.hid (S7.out.t2 TN.out (Bd.upd (fun r => { r with dead := true }) st.robots i) (by rw [Bd.upd_len, rob_set _ 5 (fun _ => .bool true) (fun r => rfl) (by omega) _ i hi]; exact HS.out.1))
    have I8 := Lib.hid (turn_cell S7.out.o2 (by decide) I7.out TN.out)
    have BT := Lib.hid (TN.out.below S7.out.o2 hsz)
    have R8 := Lib.hid ((BT.out.block (w.heap.size + 1 + 1 + 1) (by omega)).trans R7.out)
    have BW8 := Lib.hid (BW.out.trans (BT.out.mono (by omega)))
    clear hl hl2 hh hw8
    have n0 : w7.cell? ⟨w5.heap.size, 0, none⟩ = some (.int .i64 tk) := cell_of_heap I7.out 0 rfl
    have n1 : w7.cell? ⟨w5.heap.size, 1, none⟩ = some (v1) := cell_of_heap I7.out 1 rfl
    have n2 : w7.cell? ⟨w5.heap.size, 2, none⟩ = some ((.slice (some ⟨g, 0, none⟩) st.robots.length cap)) := cell_of_heap I7.out 2 rfl
    have n3 : w7.cell? ⟨w5.heap.size, 3, none⟩ = some (v3) := cell_of_heap I7.out 3 rfl
    have n4 : w7.cell? ⟨w5.heap.size, 4, none⟩ = some (v4) := cell_of_heap I7.out 4 rfl
    have n5 : w7.cell? ⟨w5.heap.size, 5, none⟩ = some (v5) := cell_of_heap I7.out 5 rfl
    go_upto_region 18 with fail
    rw [← HW8.out]
    have hh := HH.out
    clear n0 n1 n2 n3 n4 n5
    have q0 : w8.cell? ⟨w5.heap.size, 0, none⟩ = some (.int .i64 tk) := cell_of_heap I8.out 0 rfl
    have q1 : w8.cell? ⟨w5.heap.size, 1, none⟩ = some (v1) := cell_of_heap I8.out 1 rfl
    have q2 : w8.cell? ⟨w5.heap.size, 2, none⟩ = some ((.slice (some ⟨g, 0, none⟩) st.robots.length cap)) := cell_of_heap I8.out 2 rfl
    have q3 : w8.cell? ⟨w5.heap.size, 3, none⟩ = some (v3) := cell_of_heap I8.out 3 rfl
    have q4 : w8.cell? ⟨w5.heap.size, 4, none⟩ = some (v4) := cell_of_heap I8.out 4 rfl
    have q5 : w8.cell? ⟨w5.heap.size, 5, none⟩ = some (v5) := cell_of_heap I8.out 5 rfl
    have one9 : (#[.int .i64 tk, v1, (.slice (some ⟨g, 0, none⟩) st.robots.length cap), v3, v4, v5] : Array Value).all (·.oneCell') = true := by
      obtain ⟨g1, c1, h1⟩ := own_form S8.out.o1
      obtain ⟨g2, c2, h2⟩ := own_form S8.out.o2
      obtain ⟨g3, c3, h3⟩ := own_form S8.out.o3
      obtain ⟨g4, c4, h4⟩ := own_form S8.out.o4
      obtain ⟨g5, c5, h5⟩ := own_form S8.out.o5
      rw [h1, h2, h3, h4, h5]
      simp [Value.oneCell']
    have RR : Hid (w8.heap[w.heap.size + 1 + 1 + 1]? = some (.cells #[.int .i64 0, .slice none 0 0, .slice none 0 0, .slice none 0 0, .slice none 0 0, .slice none 0 0] 34 (0, 0))) := Lib.hid R8.out
    go_wp2_with (refine wpList_store_row rfl 34 (.tmp 6) (.tmp 80) rfl (w.heap.size + 1 + 1 + 1) #[.int .i64 tk, v1, (.slice (some ⟨g, 0, none⟩) st.robots.length cap), v3, v4, v5] rfl rfl 34 _ RR.out (by kernel_rfl) rfl one9 ?_)
    refine bodyPost_ret (v := .agg #[.int .i64 tk, v1, (.slice (some ⟨g, 0, none⟩) st.robots.length cap), v3, v4, v5]) (results_cell_row (p := 6) (ty := 34) (by kernel_rfl) _ _ (w.heap.size + 1 + 1 + 1) 34 #[.int .i64 tk, v1, (.slice (some ⟨g, 0, none⟩) st.robots.length cap), v3, v4, v5] (0, 0) _ rfl (setRow_heap _ _ _ _ _ _ RR.out) Tryz.underlying34 rfl (by kernel_rfl)) rfl ?_
    have hB9 : Below (w.heap.size + 1 + 1 + 1) w8 (w8.setRow (w.heap.size + 1 + 1 + 1) #[.int .i64 tk, v1, (.slice (some ⟨g, 0, none⟩) st.robots.length cap), v3, v4, v5]) := below_setRow _ (Below.refl _ w8) (Nat.le_refl _)
    have hS9 : StO (w8.setRow (w.heap.size + 1 + 1 + 1) #[.int .i64 tk, v1, (.slice (some ⟨g, 0, none⟩) st.robots.length cap), v3, v4, v5]) w4.heap.size v1 (.slice (some ⟨g, 0, none⟩) st.robots.length cap) v3 v4 v5 _ := StO.setRow _ S8.out (by omega)
    try rw [hh]
    exact ⟨v1, (.slice (some ⟨g, 0, none⟩) st.robots.length cap), v3, v4, v5, congrArg (fun t => Ending.returned (Value.agg #[.int .i64 t, v1, (.slice (some ⟨g, 0, none⟩) st.robots.length cap), v3, v4, v5])) HTK.out.symm, hS9.lower (by omega), (BW8.out).trans (hB9.mono (by omega))⟩
  · have hh : Fa.hap st ⟨2, xa, xn⟩ = { st with dead := Bd.insC xa st.dead } := rfl
    have HH := Lib.hid hh
    obtain ⟨i0, hi, hz0, hz1, hz2⟩ := info_parts hkIInfo
    obtain ⟨av4, cap, hv⟩ := own_form S7.out.o4
    subst hv
    have hsz : w4.heap.size ≤ w7.heap.size := by omega
    have n0 : w7.cell? ⟨w5.heap.size, 0, none⟩ = some (.int .i64 tk) := cell_of_heap I7.out 0 rfl
    have n1 : w7.cell? ⟨w5.heap.size, 1, none⟩ = some (v1) := cell_of_heap I7.out 1 rfl
    have n2 : w7.cell? ⟨w5.heap.size, 2, none⟩ = some (v2) := cell_of_heap I7.out 2 rfl
    have n3 : w7.cell? ⟨w5.heap.size, 3, none⟩ = some (v3) := cell_of_heap I7.out 3 rfl
    have n4 : w7.cell? ⟨w5.heap.size, 4, none⟩ = some ((.slice av4 st.dead.length cap)) := cell_of_heap I7.out 4 rfl
    have n5 : w7.cell? ⟨w5.heap.size, 5, none⟩ = some (v5) := cell_of_heap I7.out 5 rfl
    clear hh
    go_wp2_with (at_builtin; refine wpList_append_own_at _ rfl _ _ 22 rfl w4.heap.size 3 i0 (.int .i64 0) 1 8 Tryz.underlying22 hi hz0 hz1 hz2 rfl (by decide) (.slice av4 st.dead.length cap) st.dead.length _ rfl (S7.out.o4.alloc _) ⟨w7.heap.size, 0, none⟩ 1 1 [.int .i64 xa] rfl rfl (Go.cell_one_new _ _ _) ?qc3 ?qc4 ?qc5 ?qc6 ?_)
    case qc3 => intro u hu; simp at hu; subst hu; rfl
    case qc4 => have := HL4.out; unfold maxLen; omega
    case qc5 => have := HL4.out; omega
    case qc6 => simp; omega
    intro v' w8 hown hgrow hnil hat
    (try rw [← sz4] at hown)
    obtain ⟨av', cap', hv'⟩ := own_form hown
    subst hv'
    have TN : Hid (Turn w7 w8 (.slice av4 st.dead.length cap) (.slice av' (st.dead.length + 1) cap')) := Lib.hid (Turn.at_below ((Below.refl _ w7).alloc (Nat.le_refl _) _) ⟨hgrow, fun g hg => by
      rcases hat with e | e
      · rw [e] at hg; exact .inl hg
      · rw [e] at hg; injection hg with hg; exact .inr (by simp at hg ⊢; omega)⟩)
    have HO := Lib.hid hown
    have I8 := Lib.hid (turn_cell S7.out.o4 (by decide) I7.out TN.out)
    have S8 := Lib.hid (S7.out.t4 TN.out (st.dead ++ [xa]) (by rw [List.length_append, ints_snoc]; exact hown))
    have BT := Lib.hid (TN.out.below S7.out.o4 hsz)
    have R8 := Lib.hid ((BT.out.block (w.heap.size + 1 + 1 + 1) (by omega)).trans R7.out)
    have hnf : w8.frozen? ⟨w5.heap.size, 4, none⟩ = false := free_of_heap I8.out 4
    have hn4 : w8.cell? ⟨w5.heap.size, 4, none⟩ = some (.slice av4 st.dead.length cap) := cell_of_heap I8.out 4 rfl
    obtain ⟨w9, hw9⟩ : ∃ W, W = w8.setCell ⟨w5.heap.size, 4, none⟩ (.slice av' (st.dead.length + 1) cap') := ⟨_, rfl⟩
    have I9 : Hid (w9.heap[w5.heap.size]? = some (.cells #[.int .i64 tk, v1, v2, v3, .slice av' (st.dead.length + 1) cap', v5] 34 (0, 0))) := Lib.hid (by rw [hw9]; exact set_heap I8.out 4 _)
    have S9 := Lib.hid (S8.out.set I8.out 4 (.slice av' (st.dead.length + 1) cap'))
    rw [← hw9] at S9
    have B9 : Hid (Below w4.heap.size w7 w9) := Lib.hid (by rw [hw9]; exact BT.out.setCell (by dsimp only; omega) _)
    have hs9 : w4.heap.size ≤ w9.heap.size := Nat.le_trans hsz B9.out.size
    have HW9 := Lib.hid hw9
    clear hown hgrow hnil hat hw9 n0 n1 n2 n3 n4 n5
    go_upto_region 9 with fail
    rw [← HW9.out]
    have HSO := Lib.hid (sortT_any w4.heap.size _ (st.dead ++ [xa]) w9 S9.out.o4 (by have := HL4.out; simp; omega) hs9)
    clear hnf hn4
    have n0 : w9.cell? ⟨w5.heap.size, 0, none⟩ = some (.int .i64 tk) := cell_of_heap I9.out 0 rfl
    have n1 : w9.cell? ⟨w5.heap.size, 1, none⟩ = some (v1) := cell_of_heap I9.out 1 rfl
    have n2 : w9.cell? ⟨w5.heap.size, 2, none⟩ = some (v2) := cell_of_heap I9.out 2 rfl
    have n3 : w9.cell? ⟨w5.heap.size, 3, none⟩ = some (v3) := cell_of_heap I9.out 3 rfl
    have n4 : w9.cell? ⟨w5.heap.size, 4, none⟩ = some ((.slice av' (st.dead.length + 1) cap')) := cell_of_heap I9.out 4 rfl
    have n5 : w9.cell? ⟨w5.heap.size, 5, none⟩ = some (v5) := cell_of_heap I9.out 5 rfl
    go_wp2_with fail
    go_at_call 44; refine HSO.out.mono ?_; rintro e wA ⟨rfl, m, hm1, hm2, hm3, ht⟩
    have hmm := insC_sorted HD.out hm1 hm2
    subst hmm
    have SA := Lib.hid (S9.out.t4 ht _ hm3)
    have IA := Lib.hid (turn_cell S9.out.o4 (by decide) I9.out ht)
    have BA := Lib.hid (B9.out.trans (ht.below S9.out.o4 hs9))
    have RA := Lib.hid ((BA.out.block (w.heap.size + 1 + 1 + 1) (by omega)).trans R7.out)
    have BWA := Lib.hid (BW.out.trans (BA.out.mono (by omega)))
    have hh := HH.out
    clear hm1 hm2 hm3 ht n0 n1 n2 n3 n4 n5
    go_upto_region 18 with fail
    have q0 : wA.cell? ⟨w5.heap.size, 0, none⟩ = some (.int .i64 tk) := cell_of_heap IA.out 0 rfl
    have q1 : wA.cell? ⟨w5.heap.size, 1, none⟩ = some (v1) := cell_of_heap IA.out 1 rfl
    have q2 : wA.cell? ⟨w5.heap.size, 2, none⟩ = some (v2) := cell_of_heap IA.out 2 rfl
    have q3 : wA.cell? ⟨w5.heap.size, 3, none⟩ = some (v3) := cell_of_heap IA.out 3 rfl
    have q4 : wA.cell? ⟨w5.heap.size, 4, none⟩ = some ((.slice av' (st.dead.length + 1) cap')) := cell_of_heap IA.out 4 rfl
    have q5 : wA.cell? ⟨w5.heap.size, 5, none⟩ = some (v5) := cell_of_heap IA.out 5 rfl
    have one9 : (#[.int .i64 tk, v1, v2, v3, (.slice av' (st.dead.length + 1) cap'), v5] : Array Value).all (·.oneCell') = true := by
      obtain ⟨g1, c1, h1⟩ := own_form SA.out.o1
      obtain ⟨g2, c2, h2⟩ := own_form SA.out.o2
      obtain ⟨g3, c3, h3⟩ := own_form SA.out.o3
      obtain ⟨g4, c4, h4⟩ := own_form SA.out.o4
      obtain ⟨g5, c5, h5⟩ := own_form SA.out.o5
      rw [h1, h2, h3, h4, h5]
      simp [Value.oneCell']
    have RR : Hid (wA.heap[w.heap.size + 1 + 1 + 1]? = some (.cells #[.int .i64 0, .slice none 0 0, .slice none 0 0, .slice none 0 0, .slice none 0 0, .slice none 0 0] 34 (0, 0))) := Lib.hid RA.out
    go_wp2_with (refine wpList_store_row rfl 34 (.tmp 6) (.tmp 80) rfl (w.heap.size + 1 + 1 + 1) #[.int .i64 tk, v1, v2, v3, (.slice av' (st.dead.length + 1) cap'), v5] rfl rfl 34 _ RR.out (by kernel_rfl) rfl one9 ?_)
    refine bodyPost_ret (v := .agg #[.int .i64 tk, v1, v2, v3, (.slice av' (st.dead.length + 1) cap'), v5]) (results_cell_row (p := 6) (ty := 34) (by kernel_rfl) _ _ (w.heap.size + 1 + 1 + 1) 34 #[.int .i64 tk, v1, v2, v3, (.slice av' (st.dead.length + 1) cap'), v5] (0, 0) _ rfl (setRow_heap _ _ _ _ _ _ RR.out) Tryz.underlying34 rfl (by kernel_rfl)) rfl ?_
    have hB9 : Below (w.heap.size + 1 + 1 + 1) wA (wA.setRow (w.heap.size + 1 + 1 + 1) #[.int .i64 tk, v1, v2, v3, (.slice av' (st.dead.length + 1) cap'), v5]) := below_setRow _ (Below.refl _ wA) (Nat.le_refl _)
    have hS9 : StO (wA.setRow (w.heap.size + 1 + 1 + 1) #[.int .i64 tk, v1, v2, v3, (.slice av' (st.dead.length + 1) cap'), v5]) w4.heap.size v1 v2 v3 (.slice av' (st.dead.length + 1) cap') v5 _ := StO.setRow _ SA.out (by omega)
    try rw [hh]
    exact ⟨v1, v2, v3, (.slice av' (st.dead.length + 1) cap'), v5, congrArg (fun t => Ending.returned (Value.agg #[.int .i64 t, v1, v2, v3, (.slice av' (st.dead.length + 1) cap'), v5])) HTK.out.symm, hS9.lower (by omega), (BWA.out).trans (hB9.mono (by omega))⟩
  · have hl := HP.out
    unfold Fa.possB at hl
    dsimp only at hl
    rw [if_neg (by decide), if_neg (by decide), if_neg (by decide), if_pos rfl, Bool.and_eq_true] at hl
    replace hl := hl.1
    have hl2 := Fa.live_lt hl
    obtain ⟨i, rfl⟩ : ∃ i : Nat, xa = (i : Int) := ⟨xa.toNat, by omega⟩
    have hi : i < st.robots.length := by omega
    have hh : Fa.hap st ⟨3, (i : Int), xn⟩ = { st with robots := Bd.upd (fun r => { r with mute := xn }) st.robots i } := rfl
    have HH := Lib.hid hh
    obtain ⟨g, cap, hv, hBg, hgl⟩ := own_form1 S7.out.o2 (by omega)
    subst hv
    have HS := Lib.hid (S7.out.o2.stored (i * 6 + 4) (.int .i64 xn))
    have hfz : w7.frozen? ⟨g, i * 6 + 4, none⟩ = false := S7.out.o2.frozenAt _
    have hc := (S7.out.o2.cellAt (i * 6 + 4) (by omega)).trans (get_flatten (st.robots.map robC) (rob_len _) i (by simpa using hi) 4 (by omega))
    rw [List.getElem_map] at hc
    simp only [robC, List.getElem?_cons_zero, List.getElem?_cons_succ] at hc
    have hsz : w4.heap.size ≤ w7.heap.size := by omega
    have i0 : (0 : Int) ≤ (i : Int) := by omega
    have i1 : (i : Int) < (st.robots.length : Int) := by omega
    obtain ⟨w8, hw8⟩ : ∃ W, W = w7.setCell ⟨g, i * 6 + 4, none⟩ (.int .i64 xn) := ⟨_, rfl⟩
    rw [← hw8] at HS
    have HW8 := Lib.hid hw8
    have TN : Hid (Turn w7 w8 (.slice (some ⟨g, 0, none⟩) st.robots.length cap) (.slice (some ⟨g, 0, none⟩) st.robots.length cap)) := Lib.hid ⟨HS.out.2, fun g h => .inl h⟩
    have S8 := Lib.hid (S7.out.t2 TN.out (Bd.upd (fun r => { r with mute := xn }) st.robots i) (by rw [Bd.upd_len, rob_set _ 4 (fun _ => .int .i64 xn) (fun r => rfl) (by omega) _ i hi]; exact HS.out.1))
    have I8 := Lib.hid (turn_cell S7.out.o2 (by decide) I7.out TN.out)
    have BT := Lib.hid (TN.out.below S7.out.o2 hsz)
    have R8 := Lib.hid ((BT.out.block (w.heap.size + 1 + 1 + 1) (by omega)).trans R7.out)
    have BW8 := Lib.hid (BW.out.trans (BT.out.mono (by omega)))
    clear hl hl2 hh hw8
    have n0 : w7.cell? ⟨w5.heap.size, 0, none⟩ = some (.int .i64 tk) := cell_of_heap I7.out 0 rfl
    have n1 : w7.cell? ⟨w5.heap.size, 1, none⟩ = some (v1) := cell_of_heap I7.out 1 rfl
    have n2 : w7.cell? ⟨w5.heap.size, 2, none⟩ = some ((.slice (some ⟨g, 0, none⟩) st.robots.length cap)) := cell_of_heap I7.out 2 rfl
    have n3 : w7.cell? ⟨w5.heap.size, 3, none⟩ = some (v3) := cell_of_heap I7.out 3 rfl
    have n4 : w7.cell? ⟨w5.heap.size, 4, none⟩ = some (v4) := cell_of_heap I7.out 4 rfl
    have n5 : w7.cell? ⟨w5.heap.size, 5, none⟩ = some (v5) := cell_of_heap I7.out 5 rfl
    go_upto_region 18 with fail
    rw [← HW8.out]
    have hh := HH.out
    clear n0 n1 n2 n3 n4 n5
    have q0 : w8.cell? ⟨w5.heap.size, 0, none⟩ = some (.int .i64 tk) := cell_of_heap I8.out 0 rfl
    have q1 : w8.cell? ⟨w5.heap.size, 1, none⟩ = some (v1) := cell_of_heap I8.out 1 rfl
    have q2 : w8.cell? ⟨w5.heap.size, 2, none⟩ = some ((.slice (some ⟨g, 0, none⟩) st.robots.length cap)) := cell_of_heap I8.out 2 rfl
    have q3 : w8.cell? ⟨w5.heap.size, 3, none⟩ = some (v3) := cell_of_heap I8.out 3 rfl
    have q4 : w8.cell? ⟨w5.heap.size, 4, none⟩ = some (v4) := cell_of_heap I8.out 4 rfl
    have q5 : w8.cell? ⟨w5.heap.size, 5, none⟩ = some (v5) := cell_of_heap I8.out 5 rfl
    have one9 : (#[.int .i64 tk, v1, (.slice (some ⟨g, 0, none⟩) st.robots.length cap), v3, v4, v5] : Array Value).all (·.oneCell') = true := by
      obtain ⟨g1, c1, h1⟩ := own_form S8.out.o1
      obtain ⟨g2, c2, h2⟩ := own_form S8.out.o2
      obtain ⟨g3, c3, h3⟩ := own_form S8.out.o3
      obtain ⟨g4, c4, h4⟩ := own_form S8.out.o4
      obtain ⟨g5, c5, h5⟩ := own_form S8.out.o5
      rw [h1, h2, h3, h4, h5]
      simp [Value.oneCell']
    have RR : Hid (w8.heap[w.heap.size + 1 + 1 + 1]? = some (.cells #[.int .i64 0, .slice none 0 0, .slice none 0 0, .slice none 0 0, .slice none 0 0, .slice none 0 0] 34 (0, 0))) := Lib.hid R8.out
    go_wp2_with (refine wpList_store_row rfl 34 (.tmp 6) (.tmp 80) rfl (w.heap.size + 1 + 1 + 1) #[.int .i64 tk, v1, (.slice (some ⟨g, 0, none⟩) st.robots.length cap), v3, v4, v5] rfl rfl 34 _ RR.out (by kernel_rfl) rfl one9 ?_)
    refine bodyPost_ret (v := .agg #[.int .i64 tk, v1, (.slice (some ⟨g, 0, none⟩) st.robots.length cap), v3, v4, v5]) (results_cell_row (p := 6) (ty := 34) (by kernel_rfl) _ _ (w.heap.size + 1 + 1 + 1) 34 #[.int .i64 tk, v1, (.slice (some ⟨g, 0, none⟩) st.robots.length cap), v3, v4, v5] (0, 0) _ rfl (setRow_heap _ _ _ _ _ _ RR.out) Tryz.underlying34 rfl (by kernel_rfl)) rfl ?_
    have hB9 : Below (w.heap.size + 1 + 1 + 1) w8 (w8.setRow (w.heap.size + 1 + 1 + 1) #[.int .i64 tk, v1, (.slice (some ⟨g, 0, none⟩) st.robots.length cap), v3, v4, v5]) := below_setRow _ (Below.refl _ w8) (Nat.le_refl _)
    have hS9 : StO (w8.setRow (w.heap.size + 1 + 1 + 1) #[.int .i64 tk, v1, (.slice (some ⟨g, 0, none⟩) st.robots.length cap), v3, v4, v5]) w4.heap.size v1 (.slice (some ⟨g, 0, none⟩) st.robots.length cap) v3 v4 v5 _ := StO.setRow _ S8.out (by omega)
    try rw [hh]
    exact ⟨v1, (.slice (some ⟨g, 0, none⟩) st.robots.length cap), v3, v4, v5, congrArg (fun t => Ending.returned (Value.agg #[.int .i64 t, v1, (.slice (some ⟨g, 0, none⟩) st.robots.length cap), v3, v4, v5])) HTK.out.symm, hS9.lower (by omega), (BW8.out).trans (hB9.mono (by omega))⟩
  · have hh : Fa.hap st ⟨4, xa, xn⟩ = { st with stuck := Bd.stickL xa xn st.stuck } := rfl
    have HH := Lib.hid hh
    have hsz : w4.heap.size ≤ w7.heap.size := by omega
    have HST := Lib.hid (stick_any st.stuck v5 w4.heap.size xa xn w7 S7.out.o5 HL5.out hsz)
    have n0 : w7.cell? ⟨w5.heap.size, 0, none⟩ = some (.int .i64 tk) := cell_of_heap I7.out 0 rfl
    have n1 : w7.cell? ⟨w5.heap.size, 1, none⟩ = some (v1) := cell_of_heap I7.out 1 rfl
    have n2 : w7.cell? ⟨w5.heap.size, 2, none⟩ = some (v2) := cell_of_heap I7.out 2 rfl
    have n3 : w7.cell? ⟨w5.heap.size, 3, none⟩ = some (v3) := cell_of_heap I7.out 3 rfl
    have n4 : w7.cell? ⟨w5.heap.size, 4, none⟩ = some (v4) := cell_of_heap I7.out 4 rfl
    have n5 : w7.cell? ⟨w5.heap.size, 5, none⟩ = some (v5) := cell_of_heap I7.out 5 rfl
    clear hh
    go_wp2_with fail
    go_at_call 45; refine HST.out.mono ?_; rintro e w8 ⟨v', rfl, ho, ht⟩
    have TN := Lib.hid ht
    have I8 := Lib.hid (turn_cell S7.out.o5 (by decide) I7.out ht)
    have S8 := Lib.hid (S7.out.t5 ht _ ho)
    have BT := Lib.hid (ht.below S7.out.o5 hsz)
    have hnf : w8.frozen? ⟨w5.heap.size, 5, none⟩ = false := free_of_heap I8.out 5
    have hn5 : w8.cell? ⟨w5.heap.size, 5, none⟩ = some v5 := cell_of_heap I8.out 5 rfl
    obtain ⟨w9, hw9⟩ : ∃ W, W = w8.setCell ⟨w5.heap.size, 5, none⟩ v' := ⟨_, rfl⟩
    have I9 : Hid (w9.heap[w5.heap.size]? = some (.cells #[.int .i64 tk, v1, v2, v3, v4, v'] 34 (0, 0))) := Lib.hid (by rw [hw9]; exact set_heap I8.out 5 v')
    have S9 := Lib.hid (S8.out.set I8.out 5 v')
    rw [← hw9] at S9
    have B9 : Hid (Below w4.heap.size w7 w9) := Lib.hid (by rw [hw9]; exact BT.out.setCell (by dsimp only; omega) _)
    have R9 := Lib.hid ((B9.out.block (w.heap.size + 1 + 1 + 1) (by omega)).trans R7.out)
    have BW9 := Lib.hid (BW.out.trans (B9.out.mono (by omega)))
    have HW9 := Lib.hid hw9
    obtain ⟨av', cap', hv'⟩ := own_form ho
    subst hv'
    clear ho ht hw9 n0 n1 n2 n3 n4 n5
    go_upto_region 18 with fail
    rw [← HW9.out]
    have hh := HH.out
    clear hnf hn5
    have q0 : w9.cell? ⟨w5.heap.size, 0, none⟩ = some (.int .i64 tk) := cell_of_heap I9.out 0 rfl
    have q1 : w9.cell? ⟨w5.heap.size, 1, none⟩ = some (v1) := cell_of_heap I9.out 1 rfl
    have q2 : w9.cell? ⟨w5.heap.size, 2, none⟩ = some (v2) := cell_of_heap I9.out 2 rfl
    have q3 : w9.cell? ⟨w5.heap.size, 3, none⟩ = some (v3) := cell_of_heap I9.out 3 rfl
    have q4 : w9.cell? ⟨w5.heap.size, 4, none⟩ = some (v4) := cell_of_heap I9.out 4 rfl
    have q5 : w9.cell? ⟨w5.heap.size, 5, none⟩ = some ((.slice av' (Bd.stickL xa xn st.stuck).length cap')) := cell_of_heap I9.out 5 rfl
    have one9 : (#[.int .i64 tk, v1, v2, v3, v4, (.slice av' (Bd.stickL xa xn st.stuck).length cap')] : Array Value).all (·.oneCell') = true := by
      obtain ⟨g1, c1, h1⟩ := own_form S9.out.o1
      obtain ⟨g2, c2, h2⟩ := own_form S9.out.o2
      obtain ⟨g3, c3, h3⟩ := own_form S9.out.o3
      obtain ⟨g4, c4, h4⟩ := own_form S9.out.o4
      obtain ⟨g5, c5, h5⟩ := own_form S9.out.o5
      rw [h1, h2, h3, h4, h5]
      simp [Value.oneCell']
    have RR : Hid (w9.heap[w.heap.size + 1 + 1 + 1]? = some (.cells #[.int .i64 0, .slice none 0 0, .slice none 0 0, .slice none 0 0, .slice none 0 0, .slice none 0 0] 34 (0, 0))) := Lib.hid R9.out
    go_wp2_with (refine wpList_store_row rfl 34 (.tmp 6) (.tmp 80) rfl (w.heap.size + 1 + 1 + 1) #[.int .i64 tk, v1, v2, v3, v4, (.slice av' (Bd.stickL xa xn st.stuck).length cap')] rfl rfl 34 _ RR.out (by kernel_rfl) rfl one9 ?_)
    refine bodyPost_ret (v := .agg #[.int .i64 tk, v1, v2, v3, v4, (.slice av' (Bd.stickL xa xn st.stuck).length cap')]) (results_cell_row (p := 6) (ty := 34) (by kernel_rfl) _ _ (w.heap.size + 1 + 1 + 1) 34 #[.int .i64 tk, v1, v2, v3, v4, (.slice av' (Bd.stickL xa xn st.stuck).length cap')] (0, 0) _ rfl (setRow_heap _ _ _ _ _ _ RR.out) Tryz.underlying34 rfl (by kernel_rfl)) rfl ?_
    have hB9 : Below (w.heap.size + 1 + 1 + 1) w9 (w9.setRow (w.heap.size + 1 + 1 + 1) #[.int .i64 tk, v1, v2, v3, v4, (.slice av' (Bd.stickL xa xn st.stuck).length cap')]) := below_setRow _ (Below.refl _ w9) (Nat.le_refl _)
    have hS9 : StO (w9.setRow (w.heap.size + 1 + 1 + 1) #[.int .i64 tk, v1, v2, v3, v4, (.slice av' (Bd.stickL xa xn st.stuck).length cap')]) w4.heap.size v1 v2 v3 v4 (.slice av' (Bd.stickL xa xn st.stuck).length cap') _ := StO.setRow _ S9.out (by omega)
    try rw [hh]
    exact ⟨v1, v2, v3, v4, (.slice av' (Bd.stickL xa xn st.stuck).length cap'), congrArg (fun t => Ending.returned (Value.agg #[.int .i64 t, v1, v2, v3, v4, (.slice av' (Bd.stickL xa xn st.stuck).length cap')])) HTK.out.symm, hS9.lower (by omega), (BW9.out).trans (hB9.mono (by omega))⟩
  · have hl := HP.out
    unfold Fa.possB at hl
    dsimp only at hl
    rw [if_neg (by decide), if_neg (by decide), if_neg (by decide), if_neg (by decide), if_neg (by decide), if_pos rfl] at hl
    unfold Fa.stepB at hl
    simp only [Bool.and_eq_true, Bool.or_eq_true, decide_eq_true_eq, Bool.not_eq_true'] at hl
    obtain ⟨-, -, hl⟩ := hl
    obtain ⟨i0, hi, hz0, hz1, hz2⟩ := info_parts hkIInfo
    have hsz : w4.heap.size ≤ w7.heap.size := by omega
    obtain ⟨NP, hNP⟩ : ∃ n, st.people.length = n := ⟨_, rfl⟩
    have O3 := Lib.hid S7.out.o3
    rw [hNP] at O3 hl
    have HNP := Lib.hid hNP
    by_cases hxa : xa = (NP : Int)
    · subst hxa
      have hh : Fa.hap st ⟨5, (NP : Int), xn⟩ = { st with people := st.people ++ [xn] } := by
        unfold Fa.hap
        dsimp only
        rw [if_neg (by decide), if_neg (by decide), if_neg (by decide), if_neg (by decide), if_pos rfl, if_pos (by rw [hNP])]
      have HH := Lib.hid hh
      obtain ⟨av3, cap, hv⟩ := own_form O3.out
      subst hv
      clear hh hl hNP
      have n0 : w7.cell? ⟨w5.heap.size, 0, none⟩ = some (.int .i64 tk) := cell_of_heap I7.out 0 rfl
      have n1 : w7.cell? ⟨w5.heap.size, 1, none⟩ = some (v1) := cell_of_heap I7.out 1 rfl
      have n2 : w7.cell? ⟨w5.heap.size, 2, none⟩ = some (v2) := cell_of_heap I7.out 2 rfl
      have n3 : w7.cell? ⟨w5.heap.size, 3, none⟩ = some ((.slice av3 NP cap)) := cell_of_heap I7.out 3 rfl
      have n4 : w7.cell? ⟨w5.heap.size, 4, none⟩ = some (v4) := cell_of_heap I7.out 4 rfl
      have n5 : w7.cell? ⟨w5.heap.size, 5, none⟩ = some (v5) := cell_of_heap I7.out 5 rfl
      go_wp2_with (at_builtin; refine wpList_append_own_at _ rfl _ _ 22 rfl w4.heap.size 3 i0 (.int .i64 0) 1 8 Tryz.underlying22 hi hz0 hz1 hz2 rfl (by decide) (.slice av3 NP cap) NP _ rfl (O3.out.alloc _) ⟨w7.heap.size, 0, none⟩ 1 1 [.int .i64 xn] rfl rfl (Go.cell_one_new _ _ _) ?qc3 ?qc4 ?qc5 ?qc6 ?_)
      case qc3 => intro u hu; simp at hu; subst hu; rfl
      case qc4 => have := HL3.out; have := HNP.out; unfold maxLen; omega
      case qc5 => have := HL3.out; have := HNP.out; omega
      case qc6 => simp; omega
      intro v' w8 hown hgrow hnil hat
      (try rw [← sz4] at hown)
      have TN : Hid (Turn w7 w8 (.slice av3 NP cap) v') := Lib.hid (Turn.at_below ((Below.refl _ w7).alloc (Nat.le_refl _) _) ⟨hgrow, fun g hg => by
        rcases hat with e | e
        · rw [e] at hg; exact .inl hg
        · rw [e] at hg; injection hg with hg; exact .inr (by simp at hg ⊢; omega)⟩)
      have I8 := Lib.hid (turn_cell O3.out (by decide) I7.out TN.out)
      have S8 := Lib.hid (S7.out.t3 TN.out (st.people ++ [xn]) (by rw [List.length_append, ints_snoc, HNP.out]; exact hown))
      have BT := Lib.hid (TN.out.below O3.out hsz)
      have hnf : w8.frozen? ⟨w5.heap.size, 3, none⟩ = false := free_of_heap I8.out 3
      have hn3 : w8.cell? ⟨w5.heap.size, 3, none⟩ = some (.slice av3 NP cap) := cell_of_heap I8.out 3 rfl
      obtain ⟨w9, hw9⟩ : ∃ W, W = w8.setCell ⟨w5.heap.size, 3, none⟩ v' := ⟨_, rfl⟩
      have I9 : Hid (w9.heap[w5.heap.size]? = some (.cells #[.int .i64 tk, v1, v2, v', v4, v5] 34 (0, 0))) := Lib.hid (by rw [hw9]; exact set_heap I8.out 3 v')
      have S9 := Lib.hid (S8.out.set I8.out 3 v')
      rw [← hw9] at S9
      have B9 : Hid (Below w4.heap.size w7 w9) := Lib.hid (by rw [hw9]; exact BT.out.setCell (by dsimp only; omega) _)
      have F9 := Lib.hid ((B9.out.block (w.heap.size + 1 + 1) (by omega)).trans F7.out)
      have hs9 : w4.heap.size ≤ w9.heap.size := Nat.le_trans hsz B9.out.size
      have HW9 := Lib.hid hw9
      have O9 : Hid (w9.ownsRow w4.heap.size 3 1 v' (NP + 1) (ints (st.people ++ [xn]))) := Lib.hid (by have := S9.out.o3; simpa [HNP.out] using this)
      obtain ⟨g, cap', hv', hBg, hgl⟩ := own_form1 O9.out (by omega)
      subst hv'
      clear hown hgrow hnil hat hw9 n0 n1 n2 n3 n4 n5 y0 y1 y2
      go_upto_region 17 with fail
      rw [← HW9.out]
      clear hnf hn3
      have HS := Lib.hid (O9.out.stored NP (.int .i64 xn))
      have hfz : w9.frozen? ⟨g, NP, none⟩ = false := O9.out.frozenAt _
      have hc : w9.cell? ⟨g, NP, none⟩ = some (.int .i64 xn) := (O9.out.cellAt NP (by omega)).trans (by rw [ints_snoc, List.getElem?_append_right (by rw [ints_len2, HNP.out]; exact Nat.le_refl _), ints_len2, HNP.out, Nat.sub_self]; rfl)
      obtain ⟨wA, hwA⟩ : ∃ W, W = w9.setCell ⟨g, NP, none⟩ (.int .i64 xn) := ⟨_, rfl⟩
      rw [← hwA] at HS
      have HWA := Lib.hid hwA
      have TA : Hid (Turn w9 wA (.slice (some ⟨g, 0, none⟩) (NP + 1) cap') (.slice (some ⟨g, 0, none⟩) (NP + 1) cap')) := Lib.hid ⟨HS.out.2, fun g h => .inl h⟩
      have SA := Lib.hid (S9.out.t3 TA.out (st.people ++ [xn]) (by
        have h1 := HS.out.1
        have e : (st.people ++ [xn]).length = NP + 1 := by simp [HNP.out]
        have e2 : (ints st.people ++ [Value.int .i64 xn]).set NP (Value.int .i64 xn) = ints st.people ++ [Value.int .i64 xn] := by rw [← HNP.out, ← ints_len2 st.people]; exact set_same
        rw [ints_snoc, e2] at h1
        rw [e, ints_snoc]; exact h1))
      have IA := Lib.hid (turn_cell O9.out (by decide) I9.out TA.out)
      have BA := Lib.hid (B9.out.trans (TA.out.below O9.out hs9))
      have RA := Lib.hid ((BA.out.block (w.heap.size + 1 + 1 + 1) (by omega)).trans R7.out)
      have BWA := Lib.hid (BW.out.trans (BA.out.mono (by omega)))
      have i0 : (0 : Int) ≤ (NP : Int) := by omega
      have i1 : (NP : Int) < ((NP + 1 : Nat) : Int) := by omega
      have i2 : (NP : Int) < (NP : Int) + 1 := by omega
      clear hwA
      have n0 : w9.cell? ⟨w5.heap.size, 0, none⟩ = some (.int .i64 tk) := cell_of_heap I9.out 0 rfl
      have n1 : w9.cell? ⟨w5.heap.size, 1, none⟩ = some (v1) := cell_of_heap I9.out 1 rfl
      have n2 : w9.cell? ⟨w5.heap.size, 2, none⟩ = some (v2) := cell_of_heap I9.out 2 rfl
      have n3 : w9.cell? ⟨w5.heap.size, 3, none⟩ = some ((.slice (some ⟨g, 0, none⟩) (NP + 1) cap')) := cell_of_heap I9.out 3 rfl
      have n4 : w9.cell? ⟨w5.heap.size, 4, none⟩ = some (v4) := cell_of_heap I9.out 4 rfl
      have n5 : w9.cell? ⟨w5.heap.size, 5, none⟩ = some (v5) := cell_of_heap I9.out 5 rfl
      have y0 : w9.cell? ⟨w.heap.size + 1 + 1, 0, none⟩ = some (.int .i64 5) := cell_of_heap F9.out 0 rfl
      have y1 : w9.cell? ⟨w.heap.size + 1 + 1, 1, none⟩ = some (.int .i64 (NP : Int)) := cell_of_heap F9.out 1 rfl
      have y2 : w9.cell? ⟨w.heap.size + 1 + 1, 2, none⟩ = some (.int .i64 xn) := cell_of_heap F9.out 2 rfl
      go_upto_region 18 with fail
      rw [← HWA.out]
      have hh := HH.out
      clear hc hfz n0 n1 n2 n3 n4 n5 y0 y1 y2
      have q0 : wA.cell? ⟨w5.heap.size, 0, none⟩ = some (.int .i64 tk) := cell_of_heap IA.out 0 rfl
      have q1 : wA.cell? ⟨w5.heap.size, 1, none⟩ = some (v1) := cell_of_heap IA.out 1 rfl
      have q2 : wA.cell? ⟨w5.heap.size, 2, none⟩ = some (v2) := cell_of_heap IA.out 2 rfl
      have q3 : wA.cell? ⟨w5.heap.size, 3, none⟩ = some ((.slice (some ⟨g, 0, none⟩) (NP + 1) cap')) := cell_of_heap IA.out 3 rfl
      have q4 : wA.cell? ⟨w5.heap.size, 4, none⟩ = some (v4) := cell_of_heap IA.out 4 rfl
      have q5 : wA.cell? ⟨w5.heap.size, 5, none⟩ = some (v5) := cell_of_heap IA.out 5 rfl
      have one9 : (#[.int .i64 tk, v1, v2, (.slice (some ⟨g, 0, none⟩) (NP + 1) cap'), v4, v5] : Array Value).all (·.oneCell') = true := by
        obtain ⟨g1, c1, h1⟩ := own_form SA.out.o1
        obtain ⟨g2, c2, h2⟩ := own_form SA.out.o2
        obtain ⟨g3, c3, h3⟩ := own_form SA.out.o3
        obtain ⟨g4, c4, h4⟩ := own_form SA.out.o4
        obtain ⟨g5, c5, h5⟩ := own_form SA.out.o5
        rw [h1, h2, h3, h4, h5]
        simp [Value.oneCell']
      have RR : Hid (wA.heap[w.heap.size + 1 + 1 + 1]? = some (.cells #[.int .i64 0, .slice none 0 0, .slice none 0 0, .slice none 0 0, .slice none 0 0, .slice none 0 0] 34 (0, 0))) := Lib.hid RA.out
      go_wp2_with (refine wpList_store_row rfl 34 (.tmp 6) (.tmp 80) rfl (w.heap.size + 1 + 1 + 1) #[.int .i64 tk, v1, v2, (.slice (some ⟨g, 0, none⟩) (NP + 1) cap'), v4, v5] rfl rfl 34 _ RR.out (by kernel_rfl) rfl one9 ?_)
      refine bodyPost_ret (v := .agg #[.int .i64 tk, v1, v2, (.slice (some ⟨g, 0, none⟩) (NP + 1) cap'), v4, v5]) (results_cell_row (p := 6) (ty := 34) (by kernel_rfl) _ _ (w.heap.size + 1 + 1 + 1) 34 #[.int .i64 tk, v1, v2, (.slice (some ⟨g, 0, none⟩) (NP + 1) cap'), v4, v5] (0, 0) _ rfl (setRow_heap _ _ _ _ _ _ RR.out) Tryz.underlying34 rfl (by kernel_rfl)) rfl ?_
      have hB9 : Below (w.heap.size + 1 + 1 + 1) wA (wA.setRow (w.heap.size + 1 + 1 + 1) #[.int .i64 tk, v1, v2, (.slice (some ⟨g, 0, none⟩) (NP + 1) cap'), v4, v5]) := below_setRow _ (Below.refl _ wA) (Nat.le_refl _)
      have hS9 : StO (wA.setRow (w.heap.size + 1 + 1 + 1) #[.int .i64 tk, v1, v2, (.slice (some ⟨g, 0, none⟩) (NP + 1) cap'), v4, v5]) w4.heap.size v1 v2 (.slice (some ⟨g, 0, none⟩) (NP + 1) cap') v4 v5 _ := StO.setRow _ SA.out (by omega)
      try rw [hh]
      exact ⟨v1, v2, (.slice (some ⟨g, 0, none⟩) (NP + 1) cap'), v4, v5, congrArg (fun t => Ending.returned (Value.agg #[.int .i64 t, v1, v2, (.slice (some ⟨g, 0, none⟩) (NP + 1) cap'), v4, v5])) HTK.out.symm, hS9.lower (by omega), (BWA.out).trans (hB9.mono (by omega))⟩
    · rw [if_neg hxa] at hl
      simp only [Bool.and_eq_true, decide_eq_true_eq] at hl
      have hl1 : 0 ≤ xa := hl.1
      have hl2 : xa < (NP : Int) := hl.2.1
      obtain ⟨i, rfl⟩ : ∃ i : Nat, xa = (i : Int) := ⟨xa.toNat, by omega⟩
      have hh : Fa.hap st ⟨5, (i : Int), xn⟩ = { st with people := st.people.set i xn } := by
        unfold Fa.hap
        dsimp only
        rw [if_neg (by decide), if_neg (by decide), if_neg (by decide), if_neg (by decide), if_pos rfl, if_neg (by rw [hNP]; exact hxa)]
        rfl
      have HH := Lib.hid hh
      obtain ⟨g, cap, hv, hBg, hgl⟩ := own_form1 O3.out (by omega)
      subst hv
      have hiN : i < NP := by omega
      have HS := Lib.hid (O3.out.stored i (.int .i64 xn))
      have hfz : w7.frozen? ⟨g, i, none⟩ = false := O3.out.frozenAt _
      obtain ⟨c9, hc⟩ : ∃ c9 : Int, w7.cell? ⟨g, i, none⟩ = some (.int .i64 c9) := ⟨_, (O3.out.cellAt i (by omega)).trans (show (ints st.people)[i]? = some (.int .i64 (st.people[i]'(by omega))) by simp [ints])⟩
      obtain ⟨w8, hw8⟩ : ∃ W, W = w7.setCell ⟨g, i, none⟩ (.int .i64 xn) := ⟨_, rfl⟩
      rw [← hw8] at HS
      have HW8 := Lib.hid hw8
      have TN : Hid (Turn w7 w8 (.slice (some ⟨g, 0, none⟩) NP cap) (.slice (some ⟨g, 0, none⟩) NP cap)) := Lib.hid ⟨HS.out.2, fun g h => .inl h⟩
      have S8 := Lib.hid (S7.out.t3 TN.out (st.people.set i xn) (by rw [List.length_set, ints_setE, HNP.out]; exact HS.out.1))
      have I8 := Lib.hid (turn_cell O3.out (by decide) I7.out TN.out)
      have BT := Lib.hid (TN.out.below O3.out hsz)
      have R8 := Lib.hid ((BT.out.block (w.heap.size + 1 + 1 + 1) (by omega)).trans R7.out)
      have BW8 := Lib.hid (BW.out.trans (BT.out.mono (by omega)))
      have i0 : (0 : Int) ≤ (i : Int) := by omega
      have i1 : (i : Int) < (NP : Int) := by omega
      have i2 : ((i : Int) == (NP : Int)) = false := by simp; omega
      clear hl hl1 hl2 hh hw8 hNP hxa
      have n0 : w7.cell? ⟨w5.heap.size, 0, none⟩ = some (.int .i64 tk) := cell_of_heap I7.out 0 rfl
      have n1 : w7.cell? ⟨w5.heap.size, 1, none⟩ = some (v1) := cell_of_heap I7.out 1 rfl
      have n2 : w7.cell? ⟨w5.heap.size, 2, none⟩ = some (v2) := cell_of_heap I7.out 2 rfl
      have n3 : w7.cell? ⟨w5.heap.size, 3, none⟩ = some ((.slice (some ⟨g, 0, none⟩) NP cap)) := cell_of_heap I7.out 3 rfl
      have n4 : w7.cell? ⟨w5.heap.size, 4, none⟩ = some (v4) := cell_of_heap I7.out 4 rfl
      have n5 : w7.cell? ⟨w5.heap.size, 5, none⟩ = some (v5) := cell_of_heap I7.out 5 rfl
      go_upto_region 18 with fail
      rw [← HW8.out]
      have hh := HH.out
      clear hc hfz n0 n1 n2 n3 n4 n5
      have q0 : w8.cell? ⟨w5.heap.size, 0, none⟩ = some (.int .i64 tk) := cell_of_heap I8.out 0 rfl
      have q1 : w8.cell? ⟨w5.heap.size, 1, none⟩ = some (v1) := cell_of_heap I8.out 1 rfl
      have q2 : w8.cell? ⟨w5.heap.size, 2, none⟩ = some (v2) := cell_of_heap I8.out 2 rfl
      have q3 : w8.cell? ⟨w5.heap.size, 3, none⟩ = some ((.slice (some ⟨g, 0, none⟩) NP cap)) := cell_of_heap I8.out 3 rfl
      have q4 : w8.cell? ⟨w5.heap.size, 4, none⟩ = some (v4) := cell_of_heap I8.out 4 rfl
      have q5 : w8.cell? ⟨w5.heap.size, 5, none⟩ = some (v5) := cell_of_heap I8.out 5 rfl
      have one9 : (#[.int .i64 tk, v1, v2, (.slice (some ⟨g, 0, none⟩) NP cap), v4, v5] : Array Value).all (·.oneCell') = true := by
        obtain ⟨g1, c1, h1⟩ := own_form S8.out.o1
        obtain ⟨g2, c2, h2⟩ := own_form S8.out.o2
        obtain ⟨g3, c3, h3⟩ := own_form S8.out.o3
        obtain ⟨g4, c4, h4⟩ := own_form S8.out.o4
        obtain ⟨g5, c5, h5⟩ := own_form S8.out.o5
        rw [h1, h2, h3, h4, h5]
        simp [Value.oneCell']
      have RR : Hid (w8.heap[w.heap.size + 1 + 1 + 1]? = some (.cells #[.int .i64 0, .slice none 0 0, .slice none 0 0, .slice none 0 0, .slice none 0 0, .slice none 0 0] 34 (0, 0))) := Lib.hid R8.out
      go_wp2_with (refine wpList_store_row rfl 34 (.tmp 6) (.tmp 80) rfl (w.heap.size + 1 + 1 + 1) #[.int .i64 tk, v1, v2, (.slice (some ⟨g, 0, none⟩) NP cap), v4, v5] rfl rfl 34 _ RR.out (by kernel_rfl) rfl one9 ?_)
      refine bodyPost_ret (v := .agg #[.int .i64 tk, v1, v2, (.slice (some ⟨g, 0, none⟩) NP cap), v4, v5]) (results_cell_row (p := 6) (ty := 34) (by kernel_rfl) _ _ (w.heap.size + 1 + 1 + 1) 34 #[.int .i64 tk, v1, v2, (.slice (some ⟨g, 0, none⟩) NP cap), v4, v5] (0, 0) _ rfl (setRow_heap _ _ _ _ _ _ RR.out) Tryz.underlying34 rfl (by kernel_rfl)) rfl ?_
      have hB9 : Below (w.heap.size + 1 + 1 + 1) w8 (w8.setRow (w.heap.size + 1 + 1 + 1) #[.int .i64 tk, v1, v2, (.slice (some ⟨g, 0, none⟩) NP cap), v4, v5]) := below_setRow _ (Below.refl _ w8) (Nat.le_refl _)
      have hS9 : StO (w8.setRow (w.heap.size + 1 + 1 + 1) #[.int .i64 tk, v1, v2, (.slice (some ⟨g, 0, none⟩) NP cap), v4, v5]) w4.heap.size v1 v2 (.slice (some ⟨g, 0, none⟩) NP cap) v4 v5 _ := StO.setRow _ S8.out (by omega)
      try rw [hh]
      exact ⟨v1, v2, (.slice (some ⟨g, 0, none⟩) NP cap), v4, v5, congrArg (fun t => Ending.returned (Value.agg #[.int .i64 t, v1, v2, (.slice (some ⟨g, 0, none⟩) NP cap), v4, v5])) HTK.out.symm, hS9.lower (by omega), (BW8.out).trans (hB9.mono (by omega))⟩
end Go.Proofs.YtcdfmgobokjcnaaGreat
