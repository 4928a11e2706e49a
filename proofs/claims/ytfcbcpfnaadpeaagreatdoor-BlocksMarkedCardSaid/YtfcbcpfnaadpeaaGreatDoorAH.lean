/- Parts AcM of this claim, laid one behind the other: walks and the plain laws behind them; each contract states its own conditions. -/
import Derived.Test.YtfcbcpfnaadpeaaGreatDoorAD
import Derived.Test.YtfcbcpfnaadpeaaGreatDoorAG
namespace Go.Proofs.YtfcbcpfnaadpeaaGreatDoor
set_option linter.unusedSimpArgs false
set_option linter.unusedVariables false
open Go.RowKit
namespace Bd
def upd {α : Type} (g : α → α) : List α → Nat → List α
 | [], _ => []
 | x :: l, 0 => g x :: l
 | x :: l, i + 1 => x :: upd g l i
theorem upd_len {α : Type} (g : α → α) : ∀ (l : List α) (i : Nat), (upd g l i).length = l.length
 | [], _ => rfl
 | _ :: _, 0 => rfl
 | _ :: l, i + 1 => by rw [upd, List.length_cons, upd_len g l i, List.length_cons]
end Bd
structure Turn (w w' : World) (v v' : Value) : Prop where
 gr : w.grownBy w' v.ownBlock
 nb : ∀ g, v'.ownBlock = some g → v.ownBlock = some g ∨ w.heap.size ≤ g
theorem span_len (l : List (Int × Int)) : ∀ r ∈ l.map spanC, r.length = 2 := fun r hr => by obtain ⟨c, -, rfl⟩ := List.mem_map.1 hr; rfl
theorem ApB.symm {v u : Value} (h : ApB v u) : ApB u v := fun g hu hv => h g hv hu
theorem own_turn {w w' : World} {B n z : Nat} {e : TypeId} {u v v' : Value} {xs : List Value} (hu : w.ownsRow B e z u n xs) (ha : ApB u v) (t : Turn w w' v v') : w'.ownsRow B e z u n xs := by
 refine hu.kept t.gr ?_
 cases hb : u.ownBlock with
 | none => exact .inl rfl
 | some g => exact .inr (fun e => ha g hb e.symm)
theorem ap_turn {w w' : World} {B n z : Nat} {e : TypeId} {u v v' : Value} {xs : List Value} (hu : w.ownsRow B e z u n xs) (ha : ApB u v) (t : Turn w w' v v') : ApB u v' := fun g hg hv => by
 rcases t.nb g hv with h | h
 · exact ha g hg h
 · have := (hu.lt g hg).2; omega
theorem ap5 {v1 v2 v3 v4 v5 : Value} : [v1, v2, v3, v4, v5].Pairwise ApB ↔ (ApB v1 v2 ∧ ApB v1 v3 ∧ ApB v1 v4 ∧ ApB v1 v5) ∧ (ApB v2 v3 ∧ ApB v2 v4 ∧ ApB v2 v5) ∧ (ApB v3 v4 ∧ ApB v3 v5) ∧ ApB v4 v5 := by
 simp [List.pairwise_cons]
theorem StO.t2 {w w' : World} {B : Nat} {v1 v2 v3 v4 v5 v' : Value} {s : Bd.State} (h : StO w B v1 v2 v3 v4 v5 s) (t : Turn w w' v2 v') (l : List Bd.Robot) (ho : w'.ownsRow B 105 6 v' l.length (l.map robC).flatten) : StO w' B v1 v' v3 v4 v5 { s with robots := l } := by
 obtain ⟨o1, o2, o3, o4, o5, ap⟩ := h
 obtain ⟨⟨a, b, c, d⟩, ⟨e, f, g⟩, ⟨i, j⟩, k⟩ := ap5.1 ap
 exact ⟨own_turn o1 a t, ho, own_turn o3 e.symm t, own_turn o4 f.symm t, own_turn o5 g.symm t, ap5.2 ⟨⟨ap_turn o1 a t, b, c, d⟩, ⟨(ap_turn o3 e.symm t).symm, (ap_turn o4 f.symm t).symm, (ap_turn o5 g.symm t).symm⟩, ⟨i, j⟩, k⟩⟩
theorem StO.below {w w' : World} {B : Nat} {v1 v2 v3 v4 v5 : Value} {s : Bd.State} (h : StO w B v1 v2 v3 v4 v5 s) (hb : Below w.heap.size w w') : StO w' B v1 v2 v3 v4 v5 s :=
 ⟨own_belowB h.o1 hb, own_belowB h.o2 hb, own_belowB h.o3 hb, own_belowB h.o4 hb, own_belowB h.o5 hb, h.ap⟩
theorem rob_len (l : List Bd.Robot) : ∀ r ∈ l.map robC, r.length = 6 := fun r hr => by obtain ⟨c, -, rfl⟩ := List.mem_map.1 hr; rfl
theorem StO.stv {w : World} {B : Nat} {v1 v2 v3 v4 v5 : Value} {s : Bd.State} (h : StO w B v1 v2 v3 v4 v5 s) : StV w v1 v2 v3 v4 v5 s :=
 ⟨Sl.of_own h.o1 (own_max h.o1), Rw.of_own h.o2 (by simp) (rob_len _) (by decide), Sl.of_own h.o3 (own_max h.o3), Sl.of_own h.o4 (own_max h.o4), Rw.of_own h.o5 (by simp) (span_len _) (by decide)⟩
theorem rob_set (g : Bd.Robot → Bd.Robot) (j : Nat) (u : Bd.Robot → Value) (hg : ∀ r, robC (g r) = (robC r).set j (u r)) (hj : j < 6) : ∀ (l : List Bd.Robot) (i : Nat) (hi : i < l.length), ((Bd.upd g l i).map robC).flatten = (l.map robC).flatten.set (i * 6 + j) (u l[i])
 | [], i, hi => by simp at hi
 | x :: l, 0, _ => by
  simp only [Bd.upd, List.map_cons, List.flatten_cons, hg, List.getElem_cons_zero, Nat.zero_mul, Nat.zero_add]
  rw [List.set_append, if_pos (by simpa [robC] using hj)]
 | x :: l, i + 1, hi => by
  have ih := rob_set g j u hg hj l i (by simpa using hi)
  simp only [Bd.upd, List.map_cons, List.flatten_cons, List.getElem_cons_succ]
  rw [ih, List.set_append, if_neg (by simp [robC]; omega)]
  congr 2
  simp [robC]; omega
theorem below_setRow {n g : Nat} {w w2 : World} (cells : Array Value) (h : Below n w w2) (hg : n ≤ g) : Below n w (w2.setRow g cells) :=
 ⟨h.os, h.tape, h.output, by have := h.size; simpa [World.setRow] using this, fun k hk => (setRow_other w2 g k _ (by omega)).trans (h.block k hk)⟩
theorem StO.lower {w : World} {B B2 : Nat} {v1 v2 v3 v4 v5 : Value} {s : Bd.State} (h : StO w B v1 v2 v3 v4 v5 s) (hb : B2 ≤ B) : StO w B2 v1 v2 v3 v4 v5 s :=
 ⟨own_lower h.o1 hb, own_lower h.o2 hb, own_lower h.o3 hb, own_lower h.o4 hb, own_lower h.o5 hb, h.ap⟩
theorem own_form1 {w : World} {base n : Nat} {e : TypeId} {sz : Nat} {v : Value} {xs : List Value} (h : w.ownsRow base e sz v n xs) (hn : 0 < n) : ∃ g cap, v = .slice (some ⟨g, 0, none⟩) n cap ∧ base ≤ g ∧ g < w.heap.size := by
 rcases h.2 with ⟨h, h0⟩ | ⟨g, cap, cur, h1, h2, h3, -⟩
 · omega
 · exact ⟨g, cap, h1, h2, heap_lt h3⟩
theorem turn_cell {w w' : World} {B N n z : Nat} {e : TypeId} {v v' : Value} {xs : List Value} {cs : Array Value} {t : TypeId} (ho : w.ownsRow B e z v n xs) (hne : e ≠ t) (hN : w.heap[N]? = some (.cells cs t (0, 0))) (tn : Turn w w' v v') : w'.heap[N]? = some (.cells cs t (0, 0)) := by
 refine (tn.gr.block N (heap_lt hN) (fun h => ?_)).trans hN
 rcases ho.2 with ⟨rfl, -⟩ | ⟨g, cap, cur, rfl, -, hg, -⟩
 · cases h
 · injection h with h
   dsimp only at h
   subst h
   rw [hN] at hg
   injection hg with hg
   injection hg with _ hg
   exact hne hg.symm
theorem Turn.below {w w' : World} {B n z : Nat} {e : TypeId} {v v' : Value} {xs : List Value} (ho : w.ownsRow B e z v n xs) (hB : B ≤ w.heap.size) (t : Turn w w' v v') : Below B w w' :=
 ⟨t.gr.os, t.gr.tape, t.gr.output, t.gr.size, fun k hk => t.gr.block k (by omega) (fun e => by have := (ho.lt k e.symm).1; omega)⟩
theorem StO.setRow {w : World} {B g : Nat} {v1 v2 v3 v4 v5 : Value} {s : Bd.State} (cells : Array Value) (h : StO w B v1 v2 v3 v4 v5 s) (hg : g < B) : StO (w.setRow g cells) B v1 v2 v3 v4 v5 s := by
 have hgr : w.grownBy (w.setRow g cells) (some g) := ⟨rfl, rfl, rfl, by simp [World.setRow], fun k _ hn => setRow_other w g k _ (fun e => hn (by rw [e]))⟩
 have key : ∀ {e : TypeId} {z n : Nat} {v : Value} {xs : List Value}, w.ownsRow B e z v n xs → (w.setRow g cells).ownsRow B e z v n xs := fun {e z n v xs} ho => ho.kept hgr (.inr (fun e => by have := (ho.lt g e).1; omega))
 exact ⟨key h.o1, key h.o2, key h.o3, key h.o4, key h.o5, h.ap⟩
theorem ints_setE : ∀ (l : List Int) (i : Nat) (c : Int), ints (l.set i c) = (ints l).set i (.int .i64 c)
 | [], _, _ => rfl
 | x :: l, 0, c => rfl
 | x :: l, i + 1, c => by
  have ih := ints_setE l i c
  unfold ints at ih ⊢
  rw [List.set_cons_succ, List.map_cons, ih]; rfl
theorem StO.t1 {w w' : World} {B : Nat} {v1 v2 v3 v4 v5 v' : Value} {s : Bd.State} (h : StO w B v1 v2 v3 v4 v5 s) (t : Turn w w' v1 v') (l : List Int) (ho : w'.ownsRow B 3 1 v' l.length (ints l)) : StO w' B v' v2 v3 v4 v5 { s with shelves := l } := by
 obtain ⟨o1, o2, o3, o4, o5, ap⟩ := h
 obtain ⟨⟨a, b, c, d⟩, ⟨e, f, g⟩, ⟨i, j⟩, k⟩ := ap5.1 ap
 exact ⟨ho, own_turn o2 a.symm t, own_turn o3 b.symm t, own_turn o4 c.symm t, own_turn o5 d.symm t, ap5.2 ⟨⟨(ap_turn o2 a.symm t).symm, (ap_turn o3 b.symm t).symm, (ap_turn o4 c.symm t).symm, (ap_turn o5 d.symm t).symm⟩, ⟨e, f, g⟩, ⟨i, j⟩, k⟩⟩
theorem upd_get (g : Bd.Robot → Bd.Robot) : ∀ (l : List Bd.Robot) (i : Nat) (r : Bd.Robot), l[i]? = some r → (Bd.upd g l i)[i]? = some (g r)
 | [], _, _, h => by simp at h
 | x :: l, 0, r, h => by simp at h; subst h; rfl
 | x :: l, i + 1, r, h => by simpa [Bd.upd] using upd_get g l i r (by simpa using h)
theorem upd_mem (g : Bd.Robot → Bd.Robot) : ∀ (l : List Bd.Robot) (i : Nat) (r : Bd.Robot), l[i]? = some r → ∀ q ∈ Bd.upd g l i, q ∈ l ∨ q = g r
 | [], _, _, h => by simp at h
 | x :: l, 0, r, h => by
  simp at h; subst h
  intro q hq
  rcases List.mem_cons.1 hq with h | h
  · exact .inr h
  · exact .inl (List.mem_cons_of_mem _ h)
 | x :: l, i + 1, r, h => by
  intro q hq
  rcases List.mem_cons.1 hq with h2 | h2
  · exact .inl (by rw [h2]; exact List.mem_cons_self ..)
  · rcases upd_mem g l i r (by simpa using h) q h2 with h3 | h3
    · exact .inl (List.mem_cons_of_mem _ h3)
    · exact .inr h3
theorem smc_cell {n : Nat} {c : Int} (hn : n ≤ 1000000) (h : 0 ≤ c ∧ c < (n : Int)) : SmC c := by unfold SmC; omega
theorem ActOk.robot {s : Si.Site} {st : Bd.State} (A : ActOk s st) (g : Bd.Robot → Bd.Robot) (i : Nat) (r : Bd.Robot) (hr : st.robots[i]? = some r) (h1 : RIn s.floor.kind.length st.shelves.length (g r)) (h2 : I64 (g r).charge) : ActOk s { st with robots := Bd.upd g st.robots i } := by
 refine ⟨A.ap, A.al, A.sf, A.fr, A.fb, A.kl, A.zs, ⟨fun q hq => ?_, A.ss.sh, A.ss.pe, by rw [Bd.upd_len]; exact A.ss.nr, A.ss.ns, A.ss.np⟩, A.tk, fun q hq => ?_, fun q hq => ?_, A.de, A.sk⟩
 · rcases upd_mem g _ i r hr q hq with h | h
   · exact A.ss.ro q h
   · rw [h]; exact smc_cell A.kl h1.1
 · rcases upd_mem g _ i r hr q hq with h | h
   · exact A.ro q h
   · rw [h]; exact h1
 · rcases upd_mem g _ i r hr q hq with h | h
   · exact A.rc q h
   · rw [h]; exact h2
theorem ActOk.shelf {s : Si.Site} {st : Bd.State} (A : ActOk s st) (i : Nat) (c : Int) (hc : SmC c) : ActOk s { st with shelves := st.shelves.set i c } := by
 refine ⟨A.ap, A.al, A.sf, A.fr, A.fb, A.kl, A.zs, ⟨A.ss.ro, fun q hq => ?_, A.ss.pe, A.ss.nr, by rw [List.length_set]; exact A.ss.ns, A.ss.np⟩, A.tk, fun q hq => ?_, A.rc, A.de, A.sk⟩
 · rcases List.mem_or_eq_of_mem_set hq with h | h
   · exact A.ss.sh q h
   · rw [h]; exact hc
 · rw [List.length_set]; exact A.ro q hq
theorem StO.rcell {w : World} {B g n cap : Nat} {v1 v3 v4 v5 : Value} {st : Bd.State} (S : StO w B v1 (.slice (some ⟨g, 0, none⟩) n cap) v3 v4 v5 st) (x : Nat) (r : Bd.Robot) (hr : st.robots[x]? = some r) :
 w.cell? ⟨g, x * 6, none⟩ = some (.int .i64 r.cell) ∧ w.cell? ⟨g, x * 6 + 1, none⟩ = some (.int .i64 r.load) ∧ w.cell? ⟨g, x * 6 + 2, none⟩ = some (.int .i64 r.charge) ∧ w.cell? ⟨g, x * 6 + 3, none⟩ = some (.int .i64 r.rest) ∧ w.cell? ⟨g, x * 6 + 4, none⟩ = some (.int .i64 r.mute) ∧ w.cell? ⟨g, x * 6 + 5, none⟩ = some (.bool r.dead) := by
 obtain ⟨hx, rfl⟩ := List.getElem?_eq_some_iff.1 hr
 obtain ⟨b, off, e, hb, h0, h1, h2, h3, h4, h5⟩ := RoV.cell (S.stv.ro) x hx
 injection e with e; injection e with e1 e2; subst e1 e2
 simp only [Nat.zero_add] at h0 h1 h2 h3 h4 h5
 exact ⟨h0, h1, h2, h3, h4, h5⟩
structure Put (s : Si.Site) (st st' : Bd.State) (x : Nat) (r' : Bd.Robot) (w w' : World) (B : Nat) : Prop where
 ok : ActOk s st'
 rob : st'.robots[x]? = some r'
 nr : st'.robots.length = st.robots.length
 ns : st'.shelves.length = st.shelves.length
 tk : st'.tick = st.tick
 bel : Below B w w'
 keep : ∀ (N : Nat) (cs : Array Value), w.heap[N]? = some (Obj.cells cs 58 (0, 0)) → w'.heap[N]? = some (Obj.cells cs 58 (0, 0))
theorem StO.put {s : Si.Site} {w : World} {B g n cap x j : Nat} {v1 v3 v4 v5 : Value} {st : Bd.State} {r : Bd.Robot} (S : StO w B v1 (.slice (some ⟨g, 0, none⟩) n cap) v3 v4 v5 st) (hB : B ≤ w.heap.size) (A : ActOk s st) (hr : st.robots[x]? = some r)
 (gf : Bd.Robot → Bd.Robot) (hj : j < 6) (u : Value) (hg : ∀ r, robC (gf r) = (robC r).set j u) (h1 : RIn s.floor.kind.length st.shelves.length (gf r)) (h2 : I64 (gf r).charge) :
 ∃ st', StO (w.setCell ⟨g, x * 6 + j, none⟩ u) B v1 (.slice (some ⟨g, 0, none⟩) n cap) v3 v4 v5 st' ∧ Put s st st' x (gf r) w (w.setCell ⟨g, x * 6 + j, none⟩ u) B ∧ w.frozen? ⟨g, x * 6 + j, none⟩ = false := by
 obtain ⟨hx, hx2⟩ := List.getElem?_eq_some_iff.1 hr
 have hn : n = st.robots.length := by
  obtain ⟨a, c, e⟩ := own_form S.o2
  injection e
 subst hn
 have HS := S.o2.stored (x * 6 + j) u
 have TN : Turn w (w.setCell ⟨g, x * 6 + j, none⟩ u) (.slice (some ⟨g, 0, none⟩) st.robots.length cap) (.slice (some ⟨g, 0, none⟩) st.robots.length cap) := ⟨HS.2, fun g h => .inl h⟩
 refine ⟨{ st with robots := Bd.upd gf st.robots x }, S.t2 TN _ ?_, ⟨A.robot gf x r hr h1 h2, upd_get gf _ x r hr, Bd.upd_len .., rfl, rfl, TN.below S.o2 hB, fun N cs hN => turn_cell S.o2 (by decide) hN TN⟩, S.o2.frozenAt _⟩
 rw [Bd.upd_len, rob_set gf j (fun _ => u) hg hj _ x hx]
 exact HS.1
theorem StO.shelf {s : Si.Site} {w : World} {B g n cap x i : Nat} {v2 v3 v4 v5 : Value} {st : Bd.State} {r : Bd.Robot} (S : StO w B (.slice (some ⟨g, 0, none⟩) n cap) v2 v3 v4 v5 st) (hB : B ≤ w.heap.size) (A : ActOk s st) (hr : st.robots[x]? = some r) (c : Int) (hc : SmC c) :
 ∃ st', StO (w.setCell ⟨g, i, none⟩ (.int .i64 c)) B (.slice (some ⟨g, 0, none⟩) n cap) v2 v3 v4 v5 st' ∧ Put s st st' x r w (w.setCell ⟨g, i, none⟩ (.int .i64 c)) B ∧ w.frozen? ⟨g, i, none⟩ = false := by
 have hn : n = st.shelves.length := by
  obtain ⟨a, c, e⟩ := own_form S.o1
  injection e
 subst hn
 have HS := S.o1.stored i (.int .i64 c)
 have TN : Turn w (w.setCell ⟨g, i, none⟩ (.int .i64 c)) (.slice (some ⟨g, 0, none⟩) st.shelves.length cap) (.slice (some ⟨g, 0, none⟩) st.shelves.length cap) := ⟨HS.2, fun g h => .inl h⟩
 refine ⟨{ st with shelves := st.shelves.set i c }, S.t1 TN _ ?_, ⟨A.shelf i c hc, hr, rfl, List.length_set .., rfl, TN.below S.o1 hB, fun N cs hN => turn_cell S.o1 (by decide) hN TN⟩, S.o1.frozenAt _⟩
 rw [List.length_set, ints_setE]
 exact HS.1
theorem StO.scell {w : World} {B g n cap : Nat} {v2 v3 v4 v5 : Value} {st : Bd.State} (S : StO w B (.slice (some ⟨g, 0, none⟩) n cap) v2 v3 v4 v5 st) (i : Nat) (hi : i < st.shelves.length) : ∃ c : Int, w.cell? ⟨g, i, none⟩ = some (.int .i64 c) := by
 obtain ⟨b, off, e, h⟩ := S.stv.sh.cell i hi
 injection e with e; injection e with e1 e2; subst e1 e2
 rw [Nat.zero_add] at h
 exact ⟨_, h⟩
def DoPost (s : Si.Site) (st : Bd.State) (w : World) (e : Ending) (w' : World) : Prop :=
 (∃ st' v1 v2 v3 v4 v5, e = .returned (stV st' v1 v2 v3 v4 v5) ∧ StO w' w.heap.size v1 v2 v3 v4 v5 st' ∧ ActOk s st' ∧ st'.robots.length = st.robots.length) ∧ Below w.heap.size w w'
end Go.Proofs.YtfcbcpfnaadpeaaGreatDoor
