/- Parts Um, Un of this claim, laid one behind the other: walks and the plain laws behind them; each contract states its own conditions. -/
import Derived.Test.YtfcbcpfnaadpeaaGreatDoorPO
import Derived.Test.YtfcbcpfnaadpeaaGreatDoorZA
import Derived.Deep.MidRow
/- What the walk of VerifyRefuses wants: appends of structs, a struct put into a slice, and what Check answers to a wrong certificate. -/
namespace Go.Proofs.YtfcbcpfnaadpeaaGreatDoor
set_option linter.unusedSimpArgs false
set_option linter.unusedVariables false
open Go.RowKit

theorem chk_refuse (s : Si.Site) (c : Ve.Cert) (sl : List Nat) (kv ov zv av sv rv tv cv ke se : Value) (P R p : Int) (w : World) (h : SiV w kv ov zv av sv rv s) (hr : Si.Right s) (hk : Si.Ok s) (hP : c.places = P) (hR : c.robots = R) (hc : CertV w tv cv ke se c) (hsl : Pt.Sips (Si.linked s) s.zones.length sl) (hp : Ve.part s sl c = p) (hne : p ≠ -1) :
    Calls Tryz.prog 13 #[siV s kv ov zv av sv rv, .agg #[.int .i64 P, tv, cv, ke, .int .i64 R, se]] w fun e w' => e = .returned (.tuple #[.int .i64 p, .int .i64 25]) ∧ Below w.heap.size w w' := by
  subst hP hR hp
  refine (Check_any s c sl kv ov zv av sv rv tv cv ke se w h hr hk hc hsl).mono ?_
  rintro e w' ⟨rfl, hb⟩
  refine ⟨?_, hb⟩
  unfold Ve.errOf
  rw [if_neg hne]
/-- Append onto a row of the call's own from a slice of structs. -/
theorem wpList_append_rw {P : Program} {w : World} {ops : Array Oper} {rest : List Oper} {o : Oper} {a : Act} {Q : Exit → Act → World → Prop} (hgd : o.guard = none) (s x : Operand) (t : TypeId)
    (ho : o.op = .call { callee := .builtin .append, args := #[s, x], argTypes := #[t, t] })
    (base : Nat) (e : TypeId) (k : Nat) (z : Value) (bytes : Nat) (ht : P.underlying t = some (.slice e)) (hinfo : (P.info? e).map (fun i => (i.zero, i.size, i.bytes)) = some (some z, k, bytes)) (hzs : z.cells.size = k) (hk : 0 < k)
    (v : Value) (n : Nat) (xs : List Value) (hs : a.eval s = v) (hown : w.ownsRow base e k v n xs)
    (u : Value) (rows : List (List Value)) (hx : a.eval x = u) (hr : Rw w u k rows) (h0 : 0 < rows.length) (hrk : ∀ r ∈ rows, r.length = k) (h1 : ∀ r ∈ rows, ∀ u ∈ r, u.oneCell' = true)
    (h63 : n + rows.length ≤ maxLen) (hbytes : (n + rows.length) * bytes ≤ 140737488355328) (hbase : base ≤ w.heap.size)
    (h : ∀ v' w', w'.ownsRow base e k v' (n + rows.length) (xs ++ rows.flatten) → w.grownBy w' v.ownBlock → wpList P ops Q rest (a.put o.dst v') w') : wpList P ops Q (o :: rest) a w := by
  obtain ⟨i, hi, hz, hsize, hby⟩ := info_parts hinfo
  obtain ⟨ad, cap, rfl, hm, hn, hc⟩ := hr
  obtain ⟨b, off, rfl, hlt, -⟩ := hc 0 h0
  have hfl : rows.flatten.length = rows.length * k := by
    rw [List.length_flatten]
    have : ∀ l : List (List Value), (∀ r ∈ l, r.length = k) → (l.map List.length).sum = l.length * k := by
      intro l
      induction l with
      | nil => intro _; simp
      | cons r l ih => intro h; rw [List.map_cons, List.sum_cons, ih (fun r hr => h r (List.mem_cons_of_mem _ hr)), h r (List.mem_cons_self ..), List.length_cons, Nat.add_mul]; omega
    exact this rows hrk
  refine wpList_append_own w hgd s x t ho base e i z k bytes ht hi hz hsize hby hzs hk v n xs hs hown ⟨b, off, none⟩ rows.length cap rows.flatten hx hfl ?_ ?_ h63 hbytes hbase (fun v' w' h2 h3 _ => h v' w' h2 h3)
  · intro j u hu
    have hjl := (List.getElem?_eq_some_iff.1 hu).1
    rw [hfl] at hjl
    have hq : j / k < rows.length := by rw [Nat.div_lt_iff_lt_mul hk]; exact hjl
    have hmk : j % k < k := Nat.mod_lt _ hk
    have hjk : j / k * k + j % k = j := by rw [Nat.mul_comm]; exact Nat.div_add_mod j k
    have e1 := get_flatten rows hrk (j / k) hq (j % k) hmk
    rw [hjk, hu] at e1
    obtain ⟨b2, off2, e2, -, h3⟩ := hc (j / k) hq
    injection e2 with e2; injection e2 with e2 e3; subst e2 e3
    have h4 := h3 (j % k) hmk
    rw [Addr.add_lit]
    rw [← e1] at h4
    rw [show off + j = off + j / k * k + j % k by omega]
    exact h4
  · intro u hu
    obtain ⟨r, hr, hu⟩ := List.mem_flatten.1 hu
    exact h1 r hr u hu
/-- Cells elsewhere stay: a slice of ints stays, where two cells that hold slices are written. -/
theorem Is.put2 {w W : World} {v : Value} {l : List Int} {p1 p2 : Addr} {x1 x2 : Value} (h : Is w v l) (hx1 : w.cell? p1 = some x1) (hx2 : w.cell? p2 = some x2) (hi1 : ∀ k, x1 ≠ .int .i64 k) (hi2 : ∀ k, x2 ≠ .int .i64 k) (hsame : ∀ p : Addr, p ≠ p1 → p ≠ p2 → p.block < w.heap.size → W.cell? p = w.cell? p) : Is W v l := by
  obtain ⟨a, cap, rfl, hm, hn, hc⟩ := h
  refine ⟨a, cap, rfl, hm, hn, fun i hi => ?_⟩
  obtain ⟨b, off, h1, h2⟩ := hc i hi
  refine ⟨b, off, h1, ?_⟩
  rw [hsame _ (fun e => ?_) (fun e => ?_) (cell_block_lt h2), h2]
  · rw [e, hx1] at h2
    injection h2 with h2
    exact hi1 (l[i]'(by rw [ints_len] at hi; exact hi)) (by rw [h2]; simp [ints])
  · rw [e, hx2] at h2
    injection h2 with h2
    exact hi2 (l[i]'(by rw [ints_len] at hi; exact hi)) (by rw [h2]; simp [ints])
theorem is_notint {w : World} {v : Value} {l : List Int} (h : Is w v l) : ∀ k, v ≠ .int .i64 k := by
  obtain ⟨a, cap, rfl, -⟩ := h
  intro k e; cases e
/-- A transition put into a slice of transitions. -/
theorem Tr.put {w W : World} {g n cap : Nat} {l : List (List Int × List Int)} (h : Tr w (.slice (some ⟨g, 0, none⟩) n cap) l) {i : Nat} (hi : i < l.length) {t : List Int × List Int} {u1 u2 : Value} (h1 : W.cell? ⟨g, i * 2, none⟩ = some u1) (h2 : W.cell? ⟨g, i * 2 + 1, none⟩ = some u2)
    (hsz : w.heap.size ≤ W.heap.size) (hsame : ∀ p : Addr, p ≠ ⟨g, i * 2, none⟩ → p ≠ ⟨g, i * 2 + 1, none⟩ → p.block < w.heap.size → W.cell? p = w.cell? p) (k1 : Is W u1 t.1) (k2 : Is W u2 t.2) : Tr W (.slice (some ⟨g, 0, none⟩) n cap) (l.set i t) := by
  obtain ⟨b0, o0, x1, x2, e0, -, hx1, hx2, hy1, hy2⟩ := h.cell i hi
  injection e0 with e0; injection e0 with e0 e1; subst e0 e1
  rw [Nat.zero_add] at hx1 hx2
  have hn1 := is_notint hy1
  have hn2 := is_notint hy2
  obtain ⟨q, hq, hr, hq2⟩ := h
  have hql : q.length = l.length := by rw [← hq]; simp
  refine ⟨q.set i (t, u1, u2), by rw [List.map_set, hq], ?_, ?_⟩
  · obtain ⟨a, c2, ea, hm, hn, hc⟩ := hr
    rw [List.length_map] at ea hm
    refine ⟨a, c2, by rw [List.length_map, List.length_set]; exact ea, by rw [List.length_map, List.length_set]; exact hm, hn, fun j hj => ?_⟩
    rw [List.length_map, List.length_set] at hj
    obtain ⟨b, off, e3, hlt, hcc⟩ := hc j (by rw [List.length_map]; exact hj)
    injection ea with ea1 ea2 ea3
    rw [e3] at ea1
    injection ea1 with ea1; injection ea1 with e4 e5; subst e4 e5
    refine ⟨_, _, e3, Nat.lt_of_lt_of_le hlt hsz, fun m hm2 => ?_⟩
    rw [List.getElem_map, List.getElem_set]
    have h9 := hcc m hm2
    rw [List.getElem_map] at h9
    by_cases e : i = j
    · subst e
      rw [if_pos rfl, Nat.zero_add]
      rcases (by omega : m = 0 ∨ m = 1) with rfl | rfl
      · exact h1
      · exact h2
    · rw [if_neg e, ← h9]
      refine hsame _ (fun e6 => ?_) (fun e6 => ?_) hlt
      · have : 0 + j * 2 + m = i * 2 := congrArg Addr.off e6
        omega
      · have : 0 + j * 2 + m = i * 2 + 1 := congrArg Addr.off e6
        omega
  · intro x hx
    rcases List.mem_or_eq_of_mem_set hx with h3 | h3
    · obtain ⟨k3, k4⟩ := hq2 x h3
      exact ⟨k3.put2 hx1 hx2 hn1 hn2 hsame, k4.put2 hx1 hx2 hn1 hn2 hsame⟩
    · subst h3; exact ⟨k1, k2⟩
/-- The first part of a slice. -/
theorem Sl.take {w : World} {a : Option Addr} {n c : Nat} {xs : List Value} (h : Sl w (.slice a n c) xs) (m : Nat) (hm : m ≤ n) : Sl w (.slice a m c) (xs.take m) := by
  obtain ⟨a2, c2, e, hx, hn, hc⟩ := h
  injection e with e1 e2 e3
  subst e1 e2 e3
  refine ⟨a, c, by rw [List.length_take, Nat.min_eq_left hm], by rw [List.length_take]; omega, hn, fun i hi => ?_⟩
  rw [List.length_take] at hi
  obtain ⟨b, off, h1, h2⟩ := hc i (by omega)
  exact ⟨b, off, h1, by rw [List.getElem_take]; exact h2⟩
theorem Is.take {w : World} {a : Option Addr} {n c : Nat} {l : List Int} (h : Is w (.slice a n c) l) (m : Nat) (hm : m ≤ n) : Is w (.slice a m c) (l.take m) := by
  have := Sl.take h m hm
  unfold ints at this
  rw [← List.map_take] at this
  exact this
theorem Ll.take {w : World} {a : Option Addr} {n c : Nat} {ll : List (List Int)} (h : Ll w (.slice a n c) ll) (m : Nat) (hm : m ≤ n) : Ll w (.slice a m c) (ll.take m) := by
  obtain ⟨q, h1, h2, h3⟩ := h
  refine ⟨q.take m, by rw [List.map_take, h1], ?_, fun x hx => h3 x (List.mem_of_mem_take hx)⟩
  have := Sl.take h2 m hm
  rw [← List.map_take] at this
  exact this
theorem Tr.take {w : World} {a : Option Addr} {n c : Nat} {l : List (List Int × List Int)} (h : Tr w (.slice a n c) l) (m : Nat) (hm : m ≤ n) : Tr w (.slice a m c) (l.take m) := by
  obtain ⟨q, h1, h2, h3⟩ := h
  refine ⟨q.take m, by rw [List.map_take, h1], ?_, fun x hx => h3 x (List.mem_of_mem_take hx)⟩
  have hl : m ≤ (q.map fun x : (List Int × List Int) × Value × Value => [x.2.1, x.2.2]).length := by
    obtain ⟨a2, c2, e, -⟩ := h2
    injection e with _ e2 _
    rw [← e2]; exact hm
  have := Rw.take h2 m hl
  rw [← List.map_take] at this
  exact this
/-- Rows read off a slice of transitions. -/
theorem Tr.rows {w : World} {v : Value} {l : List (List Int × List Int)} (h : Tr w v l) : ∃ us : List (Value × Value), us.length = l.length ∧ Rw w v 2 (us.map fun u => [u.1, u.2]) ∧ ∀ i (h1 : i < us.length) (h2 : i < l.length), Is w us[i].1 l[i].1 ∧ Is w us[i].2 l[i].2 := by
  obtain ⟨q, rfl, h2, h3⟩ := h
  refine ⟨q.map (·.2), by simp, by rw [List.map_map]; exact h2, fun i k1 k2 => ?_⟩
  simp only [List.getElem_map]
  exact h3 _ (List.getElem_mem _)
theorem tr_of {w : World} {v : Value} {l : List (List Int × List Int)} {us : List (Value × Value)} (hl : us.length = l.length) (h : Rw w v 2 (us.map fun u => [u.1, u.2])) (k : ∀ i (h1 : i < us.length) (h2 : i < l.length), Is w us[i].1 l[i].1 ∧ Is w us[i].2 l[i].2) : Tr w v l := by
  refine ⟨l.zip us, List.map_fst_zip (by omega), ?_, fun x hx => ?_⟩
  · have e : (l.zip us).map (fun x => [x.2.1, x.2.2]) = us.map fun u => [u.1, u.2] := by
      have : (l.zip us).map (·.2) = us := List.map_snd_zip (by omega)
      conv => rhs; rw [← this]
      rw [List.map_map]; rfl
    rw [e]; exact h
  · obtain ⟨i, hi, rfl⟩ := List.getElem_of_mem hx
    rw [List.length_zip] at hi
    rw [List.getElem_zip]
    exact k i (by omega) (by omega)
/-- A transition put into a slice of a call's own, behind what was made for it. -/
theorem put_fin {B : Nat} {w3 W6 Y : World} {N g n cap i : Nat} {o : Obj} {l : List (List Int × List Int)} {t : List Int × List Int} {u1 u2 : Value}
    (h36 : Below B w3 W6) (hT : Tr W6 (.slice (some ⟨g, 0, none⟩) n cap) l) (hi : i < l.length) (hN : W6.heap[N]? = some o) (hNg : N ≠ g) (hBg : B ≤ g) (hY : Below W6.heap.size W6 Y) (k1 : Is Y u1 t.1) (k2 : Is Y u2 t.2) :
    Below B w3 ((Y.setCell ⟨g, i * 2, none⟩ u1).setCell ⟨g, i * 2 + 1, none⟩ u2) ∧ ((Y.setCell ⟨g, i * 2, none⟩ u1).setCell ⟨g, i * 2 + 1, none⟩ u2).heap[N]? = some o ∧ Tr ((Y.setCell ⟨g, i * 2, none⟩ u1).setCell ⟨g, i * 2 + 1, none⟩ u2) (.slice (some ⟨g, 0, none⟩) n cap) (l.set i t) := by
  obtain ⟨b0, o0, x1, x2, e0, hlt, hx1, hx2, hy1, hy2⟩ := hT.cell i hi
  injection e0 with e0; injection e0 with e0 e1; subst e0 e1
  rw [Nat.zero_add] at hx1 hx2
  have y1 : Y.cell? ⟨g, i * 2, none⟩ = some x1 := (hY.cell (p := ⟨g, i * 2, none⟩) hlt).trans hx1
  have y2 : Y.cell? ⟨g, i * 2 + 1, none⟩ = some x2 := (hY.cell (p := ⟨g, i * 2 + 1, none⟩) hlt).trans hx2
  have n1 := is_notint hy1
  have n2 := is_notint hy2
  have ne : (⟨g, i * 2, none⟩ : Addr) ≠ ⟨g, i * 2 + 1, none⟩ := fun e => by
    have : i * 2 = i * 2 + 1 := congrArg Addr.off e
    omega
  have hsame : ∀ p : Addr, p ≠ ⟨g, i * 2, none⟩ → p ≠ ⟨g, i * 2 + 1, none⟩ → ((Y.setCell ⟨g, i * 2, none⟩ u1).setCell ⟨g, i * 2 + 1, none⟩ u2).cell? p = Y.cell? p := fun p h1 h2 => by
    rw [World.cell?_setCell_other _ _ _ _ (fun e => h2 e.symm), World.cell?_setCell_other _ _ _ _ (fun e => h1 e.symm)]
  refine ⟨((h36.trans (hY.mono (show B ≤ W6.heap.size by omega))).setCell (p := ⟨g, i * 2, none⟩) hBg _).setCell (p := ⟨g, i * 2 + 1, none⟩) hBg _, ?_, ?_⟩
  · exact ((heap_setCell_other _ ⟨g, i * 2 + 1, none⟩ N u2 (by show N ≠ g; exact hNg)).trans (heap_setCell_other _ ⟨g, i * 2, none⟩ N u1 (by show N ≠ g; exact hNg))).trans (keep_heap hN hY)
  · refine hT.put (u1 := u1) (u2 := u2) hi ?_ ?_ ?_ (fun p h1 h2 h3 => (hsame p h1 h2).trans (hY.cell h3)) ?_ ?_
    · rw [World.cell?_setCell_other _ _ _ _ ne.symm]
      exact World.cell?_setCell_same _ _ _ y1
    · refine World.cell?_setCell_same _ _ _ (u := x2) ?_
      rw [World.cell?_setCell_other _ _ _ _ ne]; exact y2
    · have := hY.size; simpa using this
    · exact k1.put2 y1 y2 n1 n2 (fun p h1 h2 _ => hsame p h1 h2)
    · exact k2.put2 y1 y2 n1 n2 (fun p h1 h2 _ => hsame p h1 h2)
theorem news_at {w : World} {b o : Nat} {u : Value} (h : w.cell? ⟨b, o, none⟩ = some u) : ∀ j x, [u][j]? = some x → w.cell? ((⟨b, o, none⟩ : Addr).add j) = some x := by
  intro j x hx
  have hj : j = 0 := by
    have := (List.getElem?_eq_some_iff.1 hx).1
    simp at this; exact this
  subst hj
  simp at hx
  subst hx
  rw [Addr.add_lit]; exact h
theorem own_pos {w : World} {base sz n : Nat} {e : TypeId} {v : Value} {xs : List Value} (h : w.ownsRow base e sz v n xs) (hn : 0 < n) : ∃ g cap cur, v = .slice (some ⟨g, 0, none⟩) n cap ∧ base ≤ g ∧ w.heap[g]? = some (.cells cur e (0, 0)) := by
  rcases h.2 with ⟨rfl, h0⟩ | ⟨g, cap, cur, rfl, hb, hh, -⟩
  · omega
  · exact ⟨g, cap, cur, rfl, hb, hh⟩
/-- One number of a slice put anew. -/
theorem Is.set1 {w : World} {g n cap : Nat} {l : List Int} {cs : Array Value} {t : TypeId} (h : Is w (.slice (some ⟨g, 0, none⟩) n cap) l) (hh : w.heap[g]? = some (.cells cs t (0, 0))) (i : Nat) (x : Int) : Is (w.setCell ⟨g, i, none⟩ (.int .i64 x)) (.slice (some ⟨g, 0, none⟩) n cap) (l.set i x) := by
  have hs := set_heap hh i (.int .i64 x)
  have hcell := fun j hj => Is.cell h j hj
  obtain ⟨a, c2, e, hm, hn, -⟩ := h
  injection e with e1 e2 e3
  subst e1 e2 e3
  refine ⟨some ⟨g, 0, none⟩, cap, by rw [ints_len, ints_len, List.length_set], by rw [ints_len, List.length_set]; rw [ints_len] at hm; exact hm, (fun h => by cases h), fun j hj => ⟨g, 0, rfl, ?_⟩⟩
  rw [ints_len, List.length_set] at hj
  obtain ⟨b, off, e4, hc⟩ := hcell j hj
  injection e4 with e4; injection e4 with e4 e5; subst e4 e5
  rw [Nat.zero_add] at hc ⊢
  have hcs : cs[j]? = some (.int .i64 l[j]) := by simpa [World.cell?, hh] using hc
  refine cell_of_heap hs j ?_
  rw [Array.getElem?_setIfInBounds]
  by_cases e6 : i = j
  · subst e6
    rw [if_pos rfl, if_pos (Array.getElem?_eq_some_iff.1 hcs).1]
    simp [ints]
  · rw [if_neg e6, hcs]
    simp [ints, List.getElem_set, e6]
theorem wrap_ne {x m : Int} (hx : -9223372036854775808 ≤ x ∧ x ≤ 9223372036854775807) (hm : -9223372036854775808 ≤ m ∧ m ≤ 9223372036854775807) (h : m ≠ 0) : IntKind.i64.wrap (x + m) ≠ x := by
  have : IntKind.i64.wrap (x + m) = if 9223372036854775808 ≤ (x + m) % 18446744073709551616 then (x + m) % 18446744073709551616 - 18446744073709551616 else (x + m) % 18446744073709551616 := by
    simp [IntKind.wrap, IntKind.bits, IntKind.signed]
  rw [this]
  split <;> omega
end Go.Proofs.YtfcbcpfnaadpeaaGreatDoor
/- The statement VerifyRefuses: the walk. -/
namespace Go.Proofs.YtfcbcpfnaadpeaaGreatDoor
set_option linter.unusedSimpArgs false
set_option linter.unusedVariables false
open Go.RowKit

theorem netT_lenN {s : Si.Site} (hz : s.zones.length ≤ 64) : (Si.netT s).length ≤ 1000000 := by
  have h1 := pairs_len s hz s.zones.length hz
  have h2 := congrArg List.length (pairs_net s)
  rw [List.length_map] at h2
  omega
theorem caps_small {s : Si.Site} (h : Si.Ok s) : ∀ x ∈ Si.capsL s, 0 ≤ x ∧ x ≤ 100000 := by
  intro x hx
  unfold Si.capsL at hx
  obtain ⟨a, -, rfl⟩ := List.mem_map.1 hx
  exact capOf_le h a
theorem keeps_small {s : Si.Site} (h : Si.Ok s) : ∀ x ∈ Ve.keepsL s, 0 ≤ x ∧ x ≤ 100000 := by
  intro x hx
  unfold Ve.keepsL at hx
  obtain ⟨z, hz, rfl⟩ := List.mem_map.1 hx
  exact h.zk z hz
set_option maxRecDepth 100000 in
set_option maxHeartbeats 32000000 in
theorem VerifyRefuses_any (s : Si.Site) (kv ov zv av sv rv : Value) (WH AT MO : Int) (w : World) (h : SiV w kv ov zv av sv rv s) (hE : Env w) (hmo : -9223372036854775808 ≤ MO ∧ MO ≤ 9223372036854775807) :
    Calls Tryz.prog 3 #[siV s kv ov zv av sv rv, .int .i64 WH, .int .i64 AT, .int .i64 MO] w fun e w' => e = .returned (.bool true) ∧ Below w.heap.size w w' := by
  obtain ⟨a1, c1, a2, c2, a3, c3, a4, c4, a5, c5, a6, c6, rfl, rfl, rfl, rfl, rfl, rfl, m1, m2, m3, m4, m5, m6⟩ := h.open
  have HE := Lib.hid hE
  have HMO := Lib.hid hmo
  have HSM := Lib.hid (fun W (hb : Below w.heap.size w W) => small20_any W (hE.below hb))
  have HFA := Lib.hid (fun W (hb : Below w.heap.size w W) => fair20_any s (.slice a1 s.floor.kind.length c1) (.slice a2 s.floor.out.length c2) (.slice a3 s.zones.length c3) (.slice a4 s.aparts.length c4) (.slice a5 s.shelves.length c5) (.slice a6 s.robots.length c6) W (h.keep hb))
  have HBU := Lib.hid (fun (hf : FairV s) W (hb : Below w.heap.size w W) => Build_any s (.slice a1 s.floor.kind.length c1) (.slice a2 s.floor.out.length c2) (.slice a3 s.zones.length c3) (.slice a4 s.aparts.length c4) (.slice a5 s.shelves.length c5) (.slice a6 s.robots.length c6) W (h.keep hb) hf.ok (by have := hf.zn; omega) (hE.below hb))
  have HCK := Lib.hid (fun (hf : FairV s) (c : Ve.Cert) (sl : List Nat) tv cv ke se P R p W (hb : Below w.heap.size w W) hP hR hc hsl hp hne => chk_refuse s c sl (.slice a1 s.floor.kind.length c1) (.slice a2 s.floor.out.length c2) (.slice a3 s.zones.length c3) (.slice a4 s.aparts.length c4) (.slice a5 s.shelves.length c5) (.slice a6 s.robots.length c6) tv cv ke se P R p W (h.keep hb) hf.right hf.ok hP hR hc hsl hp hne)
  obtain ⟨l1, e1⟩ : ∃ n, s.floor.kind.length = n := ⟨_, rfl⟩
  obtain ⟨l2, e2⟩ : ∃ n, s.floor.out.length = n := ⟨_, rfl⟩
  obtain ⟨l3, e3⟩ : ∃ n, s.zones.length = n := ⟨_, rfl⟩
  obtain ⟨l4, e4⟩ : ∃ n, s.aparts.length = n := ⟨_, rfl⟩
  obtain ⟨l5, e5⟩ : ∃ n, s.shelves.length = n := ⟨_, rfl⟩
  obtain ⟨l6, e6⟩ : ∃ n, s.robots.length = n := ⟨_, rfl⟩
  unfold siV at *
  rw [e1, e2, e3, e4, e5, e6] at HFA HBU HCK
  rw [e1, e2, e3, e4, e5, e6]
  have E3 := Lib.hid e3
  have E6 := Lib.hid e6
  clear h hE hmo e1 e2 e3 e4 e5 e6 m1 m2 m4 m5
  obtain ⟨W, hW⟩ : ∃ W, W = w.alloc (.cells #[.int .i64 s.floor.w, .int .i64 s.floor.h, .int .i64 s.floor.d, .slice a1 l1 c1, .slice a2 l2 c2, .slice a3 l3 c3, .slice a4 l4 c4, .slice a5 l5 c5, .slice a6 l6 c6] 30) := ⟨_, rfl⟩
  have BW : Hid (Below w.heap.size w W) := Lib.hid (by rw [hW]; exact (Below.refl _ _).alloc (Nat.le_refl _) _)
  have IW : Hid (W.heap[w.heap.size]? = some (.cells #[.int .i64 s.floor.w, .int .i64 s.floor.h, .int .i64 s.floor.d, .slice a1 l1 c1, .slice a2 l2 c2, .slice a3 l3 c3, .slice a4 l4 c4, .slice a5 l5 c5, .slice a6 l6 c6] 30 (0, 0))) := Lib.hid (by rw [hW]; exact heap_alloc_new _ _)
  have HW := Lib.hid hW
  clear hW
  go_enter Tryz.func3, Tryz.ntmps3
  go_upto_region 1 with fail
  rw [← HW.out]
  go_wp2_with fail
  go_at_call 10; refine (HSM.out W BW.out).mono ?_; rintro e w1 ⟨rfl, b1⟩
  have B1 := Lib.hid (BW.out.trans (b1.mono BW.out.size))
  have I1 := Lib.hid (keep_heap IW.out b1)
  clear b1
  have p0 : w1.cell? ⟨w.heap.size, 0, none⟩ = some (.int .i64 s.floor.w) := cell_of_heap I1.out 0 rfl
  have p1 : w1.cell? ⟨w.heap.size, 1, none⟩ = some (.int .i64 s.floor.h) := cell_of_heap I1.out 1 rfl
  have p2 : w1.cell? ⟨w.heap.size, 2, none⟩ = some (.int .i64 s.floor.d) := cell_of_heap I1.out 2 rfl
  have p3 : w1.cell? ⟨w.heap.size, 3, none⟩ = some (.slice a1 l1 c1) := cell_of_heap I1.out 3 rfl
  have p4 : w1.cell? ⟨w.heap.size, 4, none⟩ = some (.slice a2 l2 c2) := cell_of_heap I1.out 4 rfl
  have p5 : w1.cell? ⟨w.heap.size, 5, none⟩ = some (.slice a3 l3 c3) := cell_of_heap I1.out 5 rfl
  have p6 : w1.cell? ⟨w.heap.size, 6, none⟩ = some (.slice a4 l4 c4) := cell_of_heap I1.out 6 rfl
  have p7 : w1.cell? ⟨w.heap.size, 7, none⟩ = some (.slice a5 l5 c5) := cell_of_heap I1.out 7 rfl
  have p8 : w1.cell? ⟨w.heap.size, 8, none⟩ = some (.slice a6 l6 c6) := cell_of_heap I1.out 8 rfl
  go_wp2_with fail
  go_at_call 11; refine (HFA.out w1 B1.out).mono ?_; rintro e w2 ⟨⟨rb, rfl, hrb⟩, b2⟩
  have HRB := Lib.hid hrb
  have B2 := Lib.hid (B1.out.trans (b2.mono B1.out.size))
  have I2 := Lib.hid (keep_heap I1.out b2)
  clear b2 hrb
  clear p0 p1 p2 p3 p4 p5 p6 p7 p8
  cases rb with
  | false =>
    go_wp2_with fail
    go_ret
    exact ⟨rfl, B2.out⟩
  | true =>
    have HF := Lib.hid (HRB.out rfl)
    clear HRB
    by_cases hm0 : MO = 0
    · subst hm0
      go_wp2_with fail
      go_ret
      exact ⟨rfl, B2.out⟩
    have t1 : (MO == 0) = false := by simpa using hm0
    have HM0 := Lib.hid hm0
    by_cases ha0 : AT < 0
    · clear hm0
      go_wp2_with fail
      go_ret
      exact ⟨rfl, B2.out⟩
    obtain ⟨at', rfl⟩ : ∃ a : Nat, AT = (a : Int) := ⟨AT.toNat, by omega⟩
    clear hm0 ha0
    have ha0 : (0 : Int) ≤ (at' : Int) := by omega
    have p0 : w2.cell? ⟨w.heap.size, 0, none⟩ = some (.int .i64 s.floor.w) := cell_of_heap I2.out 0 rfl
    have p1 : w2.cell? ⟨w.heap.size, 1, none⟩ = some (.int .i64 s.floor.h) := cell_of_heap I2.out 1 rfl
    have p2 : w2.cell? ⟨w.heap.size, 2, none⟩ = some (.int .i64 s.floor.d) := cell_of_heap I2.out 2 rfl
    have p3 : w2.cell? ⟨w.heap.size, 3, none⟩ = some (.slice a1 l1 c1) := cell_of_heap I2.out 3 rfl
    have p4 : w2.cell? ⟨w.heap.size, 4, none⟩ = some (.slice a2 l2 c2) := cell_of_heap I2.out 4 rfl
    have p5 : w2.cell? ⟨w.heap.size, 5, none⟩ = some (.slice a3 l3 c3) := cell_of_heap I2.out 5 rfl
    have p6 : w2.cell? ⟨w.heap.size, 6, none⟩ = some (.slice a4 l4 c4) := cell_of_heap I2.out 6 rfl
    have p7 : w2.cell? ⟨w.heap.size, 7, none⟩ = some (.slice a5 l5 c5) := cell_of_heap I2.out 7 rfl
    have p8 : w2.cell? ⟨w.heap.size, 8, none⟩ = some (.slice a6 l6 c6) := cell_of_heap I2.out 8 rfl
    go_wp2_with fail
    go_at_call 12; refine (HBU.out HF.out w2 B2.out).mono ?_; intro e w3 hbp
    obtain ⟨b3, sl, hsl, hcase⟩ := build_cert (by have := HF.out.zn; omega) hbp
    have HSL := Lib.hid hsl
    have B3 := Lib.hid (B2.out.trans (b3.mono B2.out.size))
    have I3 := Lib.hid (keep_heap I2.out b3)
    clear b3 hbp hsl
    clear p0 p1 p2 p3 p4 p5 p6 p7 p8
    rcases hcase with ⟨-, rfl⟩ | ⟨hsafe, tv, cv, ke, sv, rfl, hcv, hcp⟩
    · unfold certZero
      go_wp2_with fail
      go_ret
      exact ⟨rfl, B3.out.alloc B3.out.size _⟩
    obtain ⟨ta, tc, rfl, htm⟩ := hcv.tr.form
    obtain ⟨ca, cc, rfl, hcm⟩ := hcv.ca.form
    obtain ⟨ka, kc, rfl, hkm⟩ := hcv.ke.form
    obtain ⟨sa, sc, rfl, hsm⟩ := hcv.si.form
    obtain ⟨hct, hcc, hcs⟩ := hcp
    have HCV := Lib.hid hcv
    have g1 : (Ve.right s sl).caps.length = l3 := by show (Si.capsL s).length = l3; rw [Si.capsL_len]; exact E3.out
    have g2 : (Ve.right s sl).keeps.length = l3 := by show (Ve.keepsL s).length = l3; rw [Ve.keepsL_len]; exact E3.out
    obtain ⟨TL, g3⟩ : ∃ n, (Ve.right s sl).trans.length = n := ⟨_, rfl⟩
    obtain ⟨SL, g4⟩ : ∃ n, (Ve.right s sl).sips.length = n := ⟨_, rfl⟩
    have g5 : (Ve.right s sl).places = (l3 : Int) := by show (s.zones.length : Int) = l3; rw [E3.out]
    have g6 : (Ve.right s sl).robots = (l6 : Int) := by show (s.robots.length : Int) = l6; rw [E6.out]
    have HTR := Lib.hid hcv.tr
    have HCA := Lib.hid hcv.ca
    have HKE := Lib.hid hcv.ke
    have HSI := Lib.hid hcv.si
    unfold certA
    rw [g1, g2, g3, g4, g5, g6]
    rw [g3] at HTR htm hct
    rw [g1] at HCA hcm hcc
    rw [g2] at HKE hkm
    rw [g4] at HSI hsm hcs
    have hz10 : l3 ≤ 10 := by have := HF.out.zn; rw [E3.out] at this; exact this
    have hr5 : l6 ≤ 100000 := by have := HF.out.ok.rn; rw [E6.out] at this; exact this
    have hct2 : TL ≤ tc := hct
    have hcc2 : l3 ≤ cc := hcc
    have hcs2 : SL ≤ sc := hcs
    have G3 : Hid ((Si.netT s).length = TL) := Lib.hid g3
    have G4 : Hid ((Ve.sipL sl).length = SL) := Lib.hid g4
    clear hcv hcc hct hcs g1 g2 g3 g4 g5 g6 HCV
    obtain ⟨W4, hW4⟩ : ∃ W, W = w3.alloc (.cells #[.int .i64 (l3 : Int), .slice ta TL tc, .slice ca l3 cc, .slice ka l3 kc, .int .i64 (l6 : Int), .slice sa SL sc] 38) := ⟨_, rfl⟩
    have BV4 : Hid (Below w3.heap.size w3 W4) := Lib.hid (by rw [hW4]; exact (Below.refl _ _).alloc (Nat.le_refl _) _)
    have IC4 : Hid (W4.heap[w3.heap.size]? = some (.cells #[.int .i64 (l3 : Int), .slice ta TL tc, .slice ca l3 cc, .slice ka l3 kc, .int .i64 (l6 : Int), .slice sa SL sc] 38 (0, 0))) := Lib.hid (by rw [hW4]; exact heap_alloc_new _ _)
    have HW4 := Lib.hid hW4
    have lW4 : w3.heap.size < W4.heap.size := heap_lt IC4.out
    have hb3 := B3.out.size
    clear hW4
    go_upto_region 5 with fail
    rw [← HW4.out]
    by_cases h0 : WH = 0
    · subst h0
      have q4 : W4.cell? ⟨w3.heap.size, 4, none⟩ = some (.int .i64 (l6 : Int)) := cell_of_heap IC4.out 4 rfl
      have f4 : W4.frozen? ⟨w3.heap.size, 4, none⟩ = false := free_of_heap IC4.out 4
      have HWN := Lib.hid (wrap_ne (x := (l6 : Int)) (m := MO) (by omega) HMO.out HM0.out)
      obtain ⟨R', hR'⟩ : ∃ x, IntKind.i64.wrap ((l6 : Int) + MO) = x := ⟨_, rfl⟩
      rw [hR'] at HWN
      obtain ⟨V, hV⟩ : ∃ V, V = W4.setCell ⟨w3.heap.size, 4, none⟩ (.int .i64 R') := ⟨_, rfl⟩
      have BV : Hid (Below w3.heap.size w3 V) := Lib.hid (by rw [hV]; exact BV4.out.setCell (Nat.le_refl _) _)
      have IC : Hid (V.heap[w3.heap.size]? = some (.cells #[.int .i64 (l3 : Int), .slice ta TL tc, .slice ca l3 cc, .slice ka l3 kc, .int .i64 R', .slice sa SL sc] 38 (0, 0))) := Lib.hid (by rw [hV]; exact set_heap IC4.out 4 _)
      have HC := Lib.hid (HCK.out HF.out { Ve.right s sl with robots := R' } sl (.slice ta TL tc) (.slice ca l3 cc) (.slice ka l3 kc) (.slice sa SL sc) (l3 : Int) R' 0 V (B3.out.trans (BV.out.mono B3.out.size)) (by show (s.zones.length : Int) = l3; rw [E3.out]) rfl ⟨HTR.out.keep BV.out, HCA.out.keep BV.out, HKE.out.keep BV.out, HSI.out.keep BV.out⟩ (by have := HSL.out; rw [E3.out] at this; exact this) (Ve.refuse_robots (by rw [E6.out]; exact HWN.out)) (by decide))
      have HV := Lib.hid hV
      clear hV
      go_upto_region 44 with fail
      rw [← HV.out]
      have q0 : V.cell? ⟨w3.heap.size, 0, none⟩ = some (.int .i64 (l3 : Int)) := cell_of_heap IC.out 0 rfl
      have q1 : V.cell? ⟨w3.heap.size, 1, none⟩ = some (.slice ta TL tc) := cell_of_heap IC.out 1 rfl
      have q2 : V.cell? ⟨w3.heap.size, 2, none⟩ = some (.slice ca l3 cc) := cell_of_heap IC.out 2 rfl
      have q3 : V.cell? ⟨w3.heap.size, 3, none⟩ = some (.slice ka l3 kc) := cell_of_heap IC.out 3 rfl
      have q4 : V.cell? ⟨w3.heap.size, 4, none⟩ = some (.int .i64 R') := cell_of_heap IC.out 4 rfl
      have q5 : V.cell? ⟨w3.heap.size, 5, none⟩ = some (.slice sa SL sc) := cell_of_heap IC.out 5 rfl
      have BT := Lib.hid (B3.out.trans (BV.out.mono B3.out.size))
      have IS := Lib.hid (keep_heap I3.out BV.out)
      have p0 : V.cell? ⟨w.heap.size, 0, none⟩ = some (.int .i64 s.floor.w) := cell_of_heap IS.out 0 rfl
      have p1 : V.cell? ⟨w.heap.size, 1, none⟩ = some (.int .i64 s.floor.h) := cell_of_heap IS.out 1 rfl
      have p2 : V.cell? ⟨w.heap.size, 2, none⟩ = some (.int .i64 s.floor.d) := cell_of_heap IS.out 2 rfl
      have p3 : V.cell? ⟨w.heap.size, 3, none⟩ = some (.slice a1 l1 c1) := cell_of_heap IS.out 3 rfl
      have p4 : V.cell? ⟨w.heap.size, 4, none⟩ = some (.slice a2 l2 c2) := cell_of_heap IS.out 4 rfl
      have p5 : V.cell? ⟨w.heap.size, 5, none⟩ = some (.slice a3 l3 c3) := cell_of_heap IS.out 5 rfl
      have p6 : V.cell? ⟨w.heap.size, 6, none⟩ = some (.slice a4 l4 c4) := cell_of_heap IS.out 6 rfl
      have p7 : V.cell? ⟨w.heap.size, 7, none⟩ = some (.slice a5 l5 c5) := cell_of_heap IS.out 7 rfl
      have p8 : V.cell? ⟨w.heap.size, 8, none⟩ = some (.slice a6 l6 c6) := cell_of_heap IS.out 8 rfl
      go_wp2_with fail
      go_at_call 13; refine HC.out.mono ?_; rintro e w9 ⟨rfl, b9⟩
      have BE := Lib.hid (BT.out.trans (b9.mono BT.out.size))
      clear b9
      go_wp2_with fail
      go_ret
      exact ⟨rfl, BE.out⟩
    have w0 : (WH == 0) = false := by simpa using h0
    by_cases h1 : WH = 1
    · subst h1
      have q0 : W4.cell? ⟨w3.heap.size, 0, none⟩ = some (.int .i64 (l3 : Int)) := cell_of_heap IC4.out 0 rfl
      have f0 : W4.frozen? ⟨w3.heap.size, 0, none⟩ = false := free_of_heap IC4.out 0
      have HWN := Lib.hid (wrap_ne (x := (l3 : Int)) (m := MO) (by omega) HMO.out HM0.out)
      obtain ⟨P', hR'⟩ : ∃ x, IntKind.i64.wrap ((l3 : Int) + MO) = x := ⟨_, rfl⟩
      rw [hR'] at HWN
      obtain ⟨V, hV⟩ : ∃ V, V = W4.setCell ⟨w3.heap.size, 0, none⟩ (.int .i64 P') := ⟨_, rfl⟩
      have BV : Hid (Below w3.heap.size w3 V) := Lib.hid (by rw [hV]; exact BV4.out.setCell (Nat.le_refl _) _)
      have IC : Hid (V.heap[w3.heap.size]? = some (.cells #[.int .i64 P', .slice ta TL tc, .slice ca l3 cc, .slice ka l3 kc, .int .i64 (l6 : Int), .slice sa SL sc] 38 (0, 0))) := Lib.hid (by rw [hV]; exact set_heap IC4.out 0 _)
      have HC := Lib.hid (HCK.out HF.out { Ve.right s sl with places := P' } sl (.slice ta TL tc) (.slice ca l3 cc) (.slice ka l3 kc) (.slice sa SL sc) P' (l6 : Int) 0 V (B3.out.trans (BV.out.mono B3.out.size)) rfl (by show (s.robots.length : Int) = l6; rw [E6.out]) ⟨HTR.out.keep BV.out, HCA.out.keep BV.out, HKE.out.keep BV.out, HSI.out.keep BV.out⟩ (by have := HSL.out; rw [E3.out] at this; exact this) (Ve.refuse_places (by rw [E3.out]; exact HWN.out)) (by decide))
      have HV := Lib.hid hV
      clear hV
      go_upto_region 44 with fail
      rw [← HV.out]
      have q0 : V.cell? ⟨w3.heap.size, 0, none⟩ = some (.int .i64 P') := cell_of_heap IC.out 0 rfl
      have q1 : V.cell? ⟨w3.heap.size, 1, none⟩ = some (.slice ta TL tc) := cell_of_heap IC.out 1 rfl
      have q2 : V.cell? ⟨w3.heap.size, 2, none⟩ = some (.slice ca l3 cc) := cell_of_heap IC.out 2 rfl
      have q3 : V.cell? ⟨w3.heap.size, 3, none⟩ = some (.slice ka l3 kc) := cell_of_heap IC.out 3 rfl
      have q4 : V.cell? ⟨w3.heap.size, 4, none⟩ = some (.int .i64 (l6 : Int)) := cell_of_heap IC.out 4 rfl
      have q5 : V.cell? ⟨w3.heap.size, 5, none⟩ = some (.slice sa SL sc) := cell_of_heap IC.out 5 rfl
      have BT := Lib.hid (B3.out.trans (BV.out.mono B3.out.size))
      have IS := Lib.hid (keep_heap I3.out BV.out)
      have p0 : V.cell? ⟨w.heap.size, 0, none⟩ = some (.int .i64 s.floor.w) := cell_of_heap IS.out 0 rfl
      have p1 : V.cell? ⟨w.heap.size, 1, none⟩ = some (.int .i64 s.floor.h) := cell_of_heap IS.out 1 rfl
      have p2 : V.cell? ⟨w.heap.size, 2, none⟩ = some (.int .i64 s.floor.d) := cell_of_heap IS.out 2 rfl
      have p3 : V.cell? ⟨w.heap.size, 3, none⟩ = some (.slice a1 l1 c1) := cell_of_heap IS.out 3 rfl
      have p4 : V.cell? ⟨w.heap.size, 4, none⟩ = some (.slice a2 l2 c2) := cell_of_heap IS.out 4 rfl
      have p5 : V.cell? ⟨w.heap.size, 5, none⟩ = some (.slice a3 l3 c3) := cell_of_heap IS.out 5 rfl
      have p6 : V.cell? ⟨w.heap.size, 6, none⟩ = some (.slice a4 l4 c4) := cell_of_heap IS.out 6 rfl
      have p7 : V.cell? ⟨w.heap.size, 7, none⟩ = some (.slice a5 l5 c5) := cell_of_heap IS.out 7 rfl
      have p8 : V.cell? ⟨w.heap.size, 8, none⟩ = some (.slice a6 l6 c6) := cell_of_heap IS.out 8 rfl
      go_wp2_with fail
      go_at_call 13; refine HC.out.mono ?_; rintro e w9 ⟨rfl, b9⟩
      have BE := Lib.hid (BT.out.trans (b9.mono BT.out.size))
      clear b9
      go_wp2_with fail
      go_ret
      exact ⟨rfl, BE.out⟩
    have w1 : (WH == 1) = false := by simpa using h1
    by_cases h2 : WH = 2
    · subst h2
      by_cases hal : at' < TL
      · have d1 : ((at' : Int) ≥ (TL : Int)) = False := by first | (simp; done) | (simp; omega)
        have d2 : decide ((at' : Int) ≥ (TL : Int)) = false := by first | (simp; done) | (simp; omega)
        have at1 : (at' : Int) < (TL : Int) := by omega
        have x1 : W4.cell? ⟨w3.heap.size, 1, none⟩ = some (.slice ta TL tc) := cell_of_heap IC4.out 1 rfl
        obtain ⟨us, hul, hur, hus⟩ := HTR.out.rows
        have hul2 : us.length = TL := hul.trans G3.out
        have HOM := Lib.hid (World.ownsRow_made (base := W4.heap.size) (e := 43) (size := 2) W4 #[] 0 (Nat.le_refl _) (by unfold maxLen; omega) rfl)
        have HSRC := Lib.hid ((hur.keep BV4.out).keep ((Below.refl _ _).alloc (Nat.le_refl _) (.cells #[] 43)))
        have HUS := Lib.hid hus
        have HUL := Lib.hid hul
        have HTL := Lib.hid (netT_lenN (s := s) (by have := HF.out.zn; omega))
        have hTL : TL ≤ 1000000 := by have := HTL.out; rw [G3.out] at this; exact this
        have HRK : Hid (∀ r ∈ us.map (fun u : Value × Value => [u.1, u.2]), r.length = 2) := Lib.hid (fun r hr => by obtain ⟨u, -, rfl⟩ := List.mem_map.1 hr; rfl)
        have HR1 : Hid (∀ r ∈ us.map (fun u : Value × Value => [u.1, u.2]), ∀ u ∈ r, u.oneCell' = true) := Lib.hid (fun r hr u hu => by
          obtain ⟨x, hx, rfl⟩ := List.mem_map.1 hr
          obtain ⟨i, hi, rfl⟩ := List.getElem_of_mem hx
          obtain ⟨k1, k2⟩ := HUS.out i hi (by rw [← HUL.out]; exact hi)
          obtain ⟨a1, b1, e1, -⟩ := k1.form
          obtain ⟨a2, b2, e2, -⟩ := k2.form
          simp only [List.mem_cons, List.not_mem_nil, or_false] at hu
          rcases hu with rfl | rfl
          · rw [e1]; rfl
          · rw [e2]; rfl)
        obtain ⟨rows, hrows⟩ : ∃ r, us.map (fun u : Value × Value => [u.1, u.2]) = r := ⟨_, rfl⟩
        rw [hrows] at HSRC HRK HR1
        have hrl : rows.length = TL := by rw [← hrows, List.length_map]; exact hul2
        have HRL := Lib.hid hrl
        have HROWS := Lib.hid hrows
        clear hur hus hul hul2 hrows hrl
        go_upto_region 19 with fail
        go_wp2_with (at_builtin; refine wpList_append_rw rfl (.tmp 75) (.tmp 78) 33 rfl W4.heap.size 43 2 (.agg #[.slice none 0 0, .slice none 0 0]) 48 Tryz.underlying33 Tryz.tranInfo rfl (by omega) (.slice (some ⟨W4.heap.size, 0, none⟩) 0 0) 0 [] rfl HOM.out (.slice ta TL tc) rows rfl HSRC.out ?c0 HRK.out HR1.out ?c2 ?c3 ?c4 ?_)
        case c0 => rw [HRL.out]; omega
        case c2 => rw [HRL.out]; unfold maxLen; omega
        case c3 => rw [HRL.out]; omega
        case c4 => simp
        intro v' w5 ho hg
        have ho2 : w5.ownsRow W4.heap.size 43 2 v' TL rows.flatten := by simpa [HRL.out] using ho
        obtain ⟨g, cap, cur, rfl, hgb, hgh⟩ := own_pos ho2 (by omega)
        have B45 : Hid (Below W4.heap.size W4 w5) := Lib.hid (((Below.refl _ W4).alloc (Nat.le_refl _) (.cells #[] 43)).trans (below_own HOM.out hg (Nat.le_refl _) (by simp)))
        have HO5 := Lib.hid ho2
        have IC5 := Lib.hid (keep_heap IC4.out B45.out)
        have y2 : w5.cell? ⟨w3.heap.size, 1, none⟩ = some (.slice ta TL tc) := cell_of_heap IC5.out 1 rfl
        have f2 : w5.frozen? ⟨w3.heap.size, 1, none⟩ = false := free_of_heap IC5.out 1
        obtain ⟨W6, hW6⟩ : ∃ W, W = w5.setCell ⟨w3.heap.size, 1, none⟩ (.slice (some ⟨g, 0, none⟩) TL cap) := ⟨_, rfl⟩
        have IC6 : Hid (W6.heap[w3.heap.size]? = some (.cells #[.int .i64 (l3 : Int), .slice (some ⟨g, 0, none⟩) TL cap, .slice ca l3 cc, .slice ka l3 kc, .int .i64 (l6 : Int), .slice sa SL sc] 38 (0, 0))) := Lib.hid (by rw [hW6]; exact set_heap IC5.out 1 _)
        have HO6 : Hid (W6.ownsRow W4.heap.size 43 2 (.slice (some ⟨g, 0, none⟩) TL cap) TL rows.flatten) := Lib.hid (by rw [hW6]; exact own_set HO5.out IC5.out (by decide) 1 _)
        have B36 : Hid (Below w3.heap.size w3 W6) := Lib.hid (by rw [hW6]; exact (BV4.out.trans (B45.out.mono BV4.out.size)).setCell (Nat.le_refl _) _)
        have HW6 := Lib.hid hW6
        clear hW6 ho ho2 hg hgh x1
        obtain ⟨g2, cap2, cur2, e2, hgb2, hgh2⟩ := own_pos HO6.out (by omega)
        injection e2 with e2 _ e3; injection e2 with e2; injection e2 with e2 _; subst e2 e3
        have HGH := Lib.hid hgh2
        have TR6 : Hid (Tr W6 (.slice (some ⟨g, 0, none⟩) TL cap) (Si.netT s)) := Lib.hid (tr_of HUL.out (by rw [HROWS.out]; exact Rw.of_own HO6.out HRL.out HRK.out (by omega)) (fun i h1 h2 => ⟨(HUS.out i h1 h2).1.keep B36.out, (HUS.out i h1 h2).2.keep B36.out⟩))
        have hal2 : at' < (Si.netT s).length := by rw [G3.out]; exact hal
        obtain ⟨b9, o9, u1, u2, e9, hb9, z1, z2, k1, k2⟩ := TR6.out.cell at' hal2
        injection e9 with e9; injection e9 with e9 e8; subst e9 e8
        rw [Nat.zero_add] at z1 z2
        obtain ⟨na, nb, htt, hnn⟩ := Ve.net_mem (List.getElem_mem hal2)
        have HNE : Hid ((Si.netT s).set at' ([(na : Int)], [MO]) ≠ Si.netT s) := Lib.hid (Ve.set_ne2 hal2 (fun e => by
          rw [htt] at e
          have h1 : [(na : Int)] = [(nb : Int)] := congrArg Prod.fst e
          injection h1 with h1 _
          omega))
        rw [htt] at k1 k2
        obtain ⟨xa, xc, rfl, -⟩ := k1.form
        obtain ⟨ya, yc, rfl, -⟩ := k2.form
        obtain ⟨b2, o2, e7, cz3⟩ := Is.cell k2 0 (by simp)
        subst e7
        have cz3 : W6.cell? ⟨b2, o2, none⟩ = some (.int .i64 (na : Int)) := cz3
        have lb2 : b2 < W6.heap.size := cell_block_lt cz3
        have z1 : W6.cell? ⟨g, at' * 2, none⟩ = some (.slice xa 1 xc) := z1
        have z2 : W6.cell? ⟨g, at' * 2 + 1, none⟩ = some (.slice (some ⟨b2, o2, none⟩) 1 yc) := z2
        have lg6 : g < W6.heap.size := heap_lt HGH.out
        have x6 : W6.cell? ⟨w3.heap.size, 1, none⟩ = some (.slice (some ⟨g, 0, none⟩) TL cap) := cell_of_heap IC6.out 1 rfl
        have lW6 : w3.heap.size < W6.heap.size := heap_lt IC6.out
        obtain ⟨i0, hi0, hz0, hz1, hz2⟩ := info_parts Tryz.intInfo
        have z3 : W6.drew.cell? ⟨g, at' * 2, none⟩ = some (.slice xa 1 xc) := z1
        have z4 : W6.drew.cell? ⟨g, at' * 2 + 1, none⟩ = some (.slice (some ⟨b2, o2, none⟩) 1 yc) := z2
        have x7 : W6.drew.cell? ⟨w3.heap.size, 1, none⟩ = some (.slice (some ⟨g, 0, none⟩) TL cap) := x6
        have f7 : W6.drew.frozen? ⟨g, at' * 2, none⟩ = false := free_of_heap (show W6.drew.heap[g]? = _ from HGH.out) _
        have f8 : W6.drew.frozen? ⟨g, at' * 2 + 1, none⟩ = false := free_of_heap (show W6.drew.heap[g]? = _ from HGH.out) _
        clear htt hgh2 hal k1 k2
        have HOW1 : Hid (((W6.alloc (.cells #[] 3)).drew).ownsRow W6.heap.size 3 1 (.slice (some ⟨W6.heap.size, 0, none⟩) 0 0) 0 []) := Lib.hid (World.ownsRow.drew (World.ownsRow_made (base := W6.heap.size) (e := 3) (size := 1) W6 #[] 0 (Nat.le_refl _) (by unfold maxLen; omega) rfl))
        have HBA1 : Hid (Below W6.heap.size W6 ((W6.alloc (.cells #[] 3)).drew)) := Lib.hid (((Below.refl _ W6).alloc (Nat.le_refl _) _).drew)
        have HOW2 : Hid ((((W6.alloc (.cells #[] 3)).alloc (.cells #[.int .i64 MO] 3)).drew).ownsRow W6.heap.size 3 1 (.slice (some ⟨W6.heap.size, 0, none⟩) 0 0) 0 []) := Lib.hid (World.ownsRow.drew (World.ownsRow.alloc (World.ownsRow_made (base := W6.heap.size) (e := 3) (size := 1) W6 #[] 0 (Nat.le_refl _) (by unfold maxLen; omega) rfl) _))
        have HBA2 : Hid (Below W6.heap.size W6 (((W6.alloc (.cells #[] 3)).alloc (.cells #[.int .i64 MO] 3)).drew)) := Lib.hid ((((Below.refl _ W6).alloc (Nat.le_refl _) _).alloc (by simp) _).drew)
        have HOW3 : Hid ((((W6.alloc (.cells #[.int .i64 MO] 3)).alloc (.cells #[] 3)).drew).ownsRow W6.heap.size 3 1 (.slice (some ⟨W6.heap.size + 1, 0, none⟩) 0 0) 0 []) := Lib.hid (by have h9 := World.ownsRow_made (base := W6.heap.size) (e := 3) (size := 1) (W6.alloc (.cells #[.int .i64 MO] 3)) #[] 0 (by simp) (by unfold maxLen; omega) rfl; rw [World.size_alloc] at h9; exact World.ownsRow.drew h9)
        have HBA3 : Hid (Below W6.heap.size W6 (((W6.alloc (.cells #[.int .i64 MO] 3)).alloc (.cells #[] 3)).drew)) := Lib.hid ((((Below.refl _ W6).alloc (Nat.le_refl _) _).alloc (by simp) _).drew)
        go_upto_region 20 with fail
        rw [← HW6.out]
        clear y2 f2
        go_cut [97] (fun v wx => Hid (Below w3.heap.size w3 wx) ∧ Hid (wx.heap[w3.heap.size]? = some (.cells #[.int .i64 (l3 : Int), .slice (some ⟨g, 0, none⟩) TL cap, .slice ca l3 cc, .slice ka l3 kc, .int .i64 (l6 : Int), .slice sa SL sc] 38 (0, 0))) ∧ Hid (Tr wx (.slice (some ⟨g, 0, none⟩) TL cap) ((Si.netT s).set at' ([(na : Int)], [MO]))))
        case first =>
          try clear HSM
          try clear HFA
          try clear HBU
          try clear HCK
          try clear HE
          try clear HMO
          try clear HM0
          try clear E3
          try clear E6
          try clear HF
          try clear B1
          try clear I1
          try clear B2
          try clear I2
          try clear HSL
          try clear HTR
          try clear HCA
          try clear HKE
          try clear HSI
          try clear G3
          try clear G4
          try clear HW4
          try clear IC4
          try clear HOM
          try clear HSRC
          try clear HUS
          try clear HUL
          try clear HTL
          try clear HRK
          try clear HR1
          try clear HRL
          try clear HROWS
          try clear HO5
          try clear IC5
          try clear HO6
          try clear HW6
          try clear B45
          try clear HNE
          try clear BW
          try clear IW
          try clear HW
          try clear I3
          try clear BV4
          try clear B3
          try clear hTL
          try clear hz10
          try clear hr5
          try clear hct2
          try clear hcc2
          try clear hcs2
          try clear hsafe
          try clear m3
          try clear m6
          try clear htm
          try clear hcm
          try clear hkm
          try clear hsm
          try clear h0
          try clear h1
          try clear w0
          try clear w1
          try clear t1
          try clear ha0x
          try clear hb9
          try clear hnn
          try clear d1
          try clear d2
          try clear hm0
          try clear hb3
          have hgN : g ≠ w3.heap.size := by omega
          have HBA4 : Hid (Below W6.heap.size W6 ((W6.alloc (.cells #[.int .i64 MO] 3)).drew)) := Lib.hid (((Below.refl _ W6).alloc (Nat.le_refl _) _).drew)
          refine wp_region_held_drew (S := fun W => W.cell? ⟨w3.heap.size, 1, none⟩ = some (.slice (some ⟨g, 0, none⟩) TL cap)) (by kernel_rfl) x7 (fun hHeld => ?_)
          refine wpAnyH_take (i := 0) (oi := _) (v := ?_) rfl (by kernel_rfl) (by kernel_rfl) (by kernel_rfl) (fun _ _ _ h => h) (Or.inl ⟨by rfl, ?_⟩) (by assumption) ?_
          rotate_left
          · intro w hSw; (try dsimp only at hSw); go_simp; all_goals (with_reducible rfl)
          try simp only [Act.put, List.getElem_toArray, List.getElem_cons_zero, List.getElem_cons_succ, List.setIfInBounds_toArray, List.set_cons_zero, List.set_cons_succ]
          refine wpAnyH_take (i := 1) (oi := _) (v := ?_) rfl (by kernel_rfl) (by kernel_rfl) (by kernel_rfl) (fun _ _ _ h => h) (Or.inl ⟨by rfl, ?_⟩) (by assumption) ?_
          rotate_left
          · intro w hSw; (try dsimp only at hSw); go_simp; all_goals (with_reducible rfl)
          try simp only [Act.put, List.getElem_toArray, List.getElem_cons_zero, List.getElem_cons_succ, List.setIfInBounds_toArray, List.set_cons_zero, List.set_cons_succ]
          refine wpAnyH_take (i := 2) (oi := _) (v := ?_) rfl (by kernel_rfl) (by kernel_rfl) (by kernel_rfl) (fun _ _ _ h => h) (Or.inl ⟨by rfl, ?_⟩) (by assumption) ?_
          rotate_left
          · intro w hSw; (try dsimp only at hSw); go_simp; all_goals (with_reducible rfl)
          try simp only [Act.put, List.getElem_toArray, List.getElem_cons_zero, List.getElem_cons_succ, List.setIfInBounds_toArray, List.set_cons_zero, List.set_cons_succ]
          refine wpAnyH_take (i := 3) (oi := _) (v := ?_) rfl (by kernel_rfl) (by kernel_rfl) (by kernel_rfl) (fun _ _ _ h => h) (Or.inl ⟨by rfl, ?_⟩) (by assumption) ?_
          rotate_left
          · intro w hSw; (try dsimp only at hSw); go_simp; all_goals (with_reducible rfl)
          try simp only [Act.put, List.getElem_toArray, List.getElem_cons_zero, List.getElem_cons_succ, List.setIfInBounds_toArray, List.set_cons_zero, List.set_cons_succ]
          refine wpAnyH_take (i := 5) (oi := _) (v := ?_) rfl (by kernel_rfl) (by kernel_rfl) (by kernel_rfl) (fun _ _ _ h => h) (Or.inl ⟨by rfl, ?_⟩) (by assumption) ?_
          rotate_left
          · intro w hSw; (try dsimp only at hSw); go_simp; all_goals (with_reducible rfl)
          try simp only [Act.put, List.getElem_toArray, List.getElem_cons_zero, List.getElem_cons_succ, List.setIfInBounds_toArray, List.set_cons_zero, List.set_cons_succ]
          refine wpAnyH_take (i := 6) (oi := _) (v := ?_) rfl (by kernel_rfl) (by kernel_rfl) (by kernel_rfl) (fun _ _ _ h => h) (Or.inl ⟨by rfl, ?_⟩) (by assumption) ?_
          rotate_left
          · intro w hSw; (try dsimp only at hSw); go_simp; all_goals (with_reducible rfl)
          try simp only [Act.put, List.getElem_toArray, List.getElem_cons_zero, List.getElem_cons_succ, List.setIfInBounds_toArray, List.set_cons_zero, List.set_cons_succ]
          refine wpAnyH_take (i := 7) (oi := _) (v := ?_) rfl (by kernel_rfl) (by kernel_rfl) (by kernel_rfl) (fun _ _ _ h => h) (Or.inl ⟨by rfl, ?_⟩) (by assumption) ?_
          rotate_left
          · intro w hSw; (try dsimp only at hSw); go_simp; all_goals (with_reducible rfl)
          try simp only [Act.put, List.getElem_toArray, List.getElem_cons_zero, List.getElem_cons_succ, List.setIfInBounds_toArray, List.set_cons_zero, List.set_cons_succ]
          refine wpAnyH_take (i := 8) (oi := _) (v := ?_) rfl (by kernel_rfl) (by kernel_rfl) (by kernel_rfl) (fun _ _ _ h => h) (Or.inl ⟨by rfl, ?_⟩) (by assumption) ?_
          rotate_left
          · intro w hSw; (try dsimp only at hSw); go_simp; all_goals (with_reducible rfl)
          try simp only [Act.put, List.getElem_toArray, List.getElem_cons_zero, List.getElem_cons_succ, List.setIfInBounds_toArray, List.set_cons_zero, List.set_cons_succ]
          refine wpAnyH_take (i := 9) (oi := _) (v := ?_) rfl (by kernel_rfl) (by kernel_rfl) (by kernel_rfl) (fun _ _ _ h => h) (Or.inl ⟨by rfl, ?_⟩) (by assumption) ?_
          rotate_left
          · intro w hSw; (try dsimp only at hSw); go_simp; all_goals (with_reducible rfl)
          try simp only [Act.put, List.getElem_toArray, List.getElem_cons_zero, List.getElem_cons_succ, List.setIfInBounds_toArray, List.set_cons_zero, List.set_cons_succ]
          refine wpAnyH_take (i := 10) (oi := _) (v := ?_) rfl (by kernel_rfl) (by kernel_rfl) (by kernel_rfl) (fun _ _ _ h => h) (Or.inl ⟨by rfl, ?_⟩) (by assumption) ?_
          rotate_left
          · intro w hSw; (try dsimp only at hSw); go_simp; all_goals (with_reducible rfl)
          try simp only [Act.put, List.getElem_toArray, List.getElem_cons_zero, List.getElem_cons_succ, List.setIfInBounds_toArray, List.set_cons_zero, List.set_cons_succ]
          refine wpAnyH_take (i := 13) (oi := _) (v := ?_) rfl (by kernel_rfl) (by kernel_rfl) (by kernel_rfl) (fun _ _ _ h => h) (Or.inl ⟨by rfl, ?_⟩) (by assumption) ?_
          rotate_left
          · intro w hSw; (try dsimp only at hSw); go_simp; all_goals (with_reducible rfl)
          try simp only [Act.put, List.getElem_toArray, List.getElem_cons_zero, List.getElem_cons_succ, List.setIfInBounds_toArray, List.set_cons_zero, List.set_cons_succ]
          refine wpAnyH_ready (rs := [4, 11, 14]) (by kernel_rfl) (by simp) ?_
          refine AllReadyH.cons (o := _) rfl (fun K hK => ?_) ?_
          · go_simp
            refine hK.out _ _ ?_ (fun hHeld => ?_)
            · exact (HBA1.out.cell (p := ⟨w3.heap.size, 1, none⟩) lW6).trans x6
            clear hK K
            try simp only [Act.put, List.getElem_toArray, List.getElem_cons_zero, List.getElem_cons_succ, List.setIfInBounds_toArray, List.set_cons_zero, List.set_cons_succ]
            refine wpAnyH_ready (rs := [11, 14]) (by kernel_rfl) (by simp) ?_
            refine AllReadyH.cons (o := _) rfl (fun K hK => ?_) ?_
            · go_simp
              refine hK.out _ _ ?_ (fun hHeld => ?_)
              · exact (HBA1.out.cell (p := ⟨w3.heap.size, 1, none⟩) lW6).trans x6
              clear hK K
              try simp only [Act.put, List.getElem_toArray, List.getElem_cons_zero, List.getElem_cons_succ, List.setIfInBounds_toArray, List.set_cons_zero, List.set_cons_succ]
              refine wpAnyH_ready (rs := [12, 14]) (by kernel_rfl) (by simp) ?_
              refine AllReadyH.cons (o := _) rfl (fun K hK => ?_) ?_
              ·
                refine step_append_lies _ (by rfl) (.tmp 86) (.tmp 93) 22 (by rfl) W6.heap.size 3 i0 (.int .i64 0) 1 8 Tryz.underlying22 hi0 hz0 hz1 hz2 rfl (by omega) (.slice (some ⟨W6.heap.size, 0, none⟩) 0 0) 0 [] (by rfl) HOW1.out ⟨b2, o2, none⟩ 1 yc [.int .i64 (na : Int)] (by rfl) (by rfl) (news_at ((HBA1.out.cell (p := ⟨b2, o2, none⟩) lb2).trans cz3)) (by simp [Value.oneCell']) (by omega) (by unfold maxLen; omega) (by omega) HBA1.out.size (W6.heap.size + 1) (by simp) ?_
                intro g' cap' w7 hown7 hgrow7 hat7 hlt7
                have BX : Below W6.heap.size W6 w7 := HBA1.out.trans (below_own HOW1.out hgrow7 (Nat.le_refl _) HBA1.out.size)
                have HK1 : Hid (Is w7 (.slice (some ⟨g', 0, none⟩) 1 cap') [(na : Int)]) := Lib.hid (Sl.of_own hown7 (own_max hown7))
                have s0 := (BX.cell (p := ⟨w3.heap.size, 1, none⟩) lW6).trans x6
                have s1 := (BX.cell (p := ⟨g, at' * 2, none⟩) lg6).trans z1
                have s2 := (BX.cell (p := ⟨g, at' * 2 + 1, none⟩) lg6).trans z2
                have s3 := free_of_heap (keep_heap HGH.out BX) (at' * 2)
                have s4 := free_of_heap (keep_heap HGH.out BX) (at' * 2 + 1)
                have lw7 := BX.size
                have lg7 : g < w7.heap.size := (by omega)
                have lN7 : w3.heap.size < w7.heap.size := (by omega)
                clear hown7 hgrow7 hat7 hlt7
                refine hK.out _ _ ?_ (fun hHeld => ?_)
                · exact s0
                clear hK K
                try simp only [Act.put, List.getElem_toArray, List.getElem_cons_zero, List.getElem_cons_succ, List.setIfInBounds_toArray, List.set_cons_zero, List.set_cons_succ]
                refine wpAnyH_ready (rs := [14]) (by kernel_rfl) (by simp) ?_
                refine AllReadyH.cons (o := _) rfl (fun K hK => ?_) ?_
                · go_simp
                  refine hK.out _ _ ?_ (fun hHeld => ?_)
                  · exact ((BX.alloc BX.size _).cell (p := ⟨w3.heap.size, 1, none⟩) lW6).trans x6
                  clear hK K
                  try simp only [Act.put, List.getElem_toArray, List.getElem_cons_zero, List.getElem_cons_succ, List.setIfInBounds_toArray, List.set_cons_zero, List.set_cons_succ]
                  refine wpAnyH_take (i := 15) (oi := _) (v := ?_) rfl (by kernel_rfl) (by kernel_rfl) (by kernel_rfl) (fun _ _ _ h => h) (Or.inl ⟨by rfl, ?_⟩) (by assumption) ?_
                  rotate_left
                  · intro w hSw; (try dsimp only at hSw); go_simp; all_goals (with_reducible rfl)
                  try simp only [Act.put, List.getElem_toArray, List.getElem_cons_zero, List.getElem_cons_succ, List.setIfInBounds_toArray, List.set_cons_zero, List.set_cons_succ]
                  refine wpAnyH_take (i := 16) (oi := _) (v := ?_) rfl (by kernel_rfl) (by kernel_rfl) (by kernel_rfl) (fun _ _ _ h => h) (Or.inl ⟨by rfl, ?_⟩) (by assumption) ?_
                  rotate_left
                  · intro w hSw; (try dsimp only at hSw); go_simp; all_goals (with_reducible rfl)
                  try simp only [Act.put, List.getElem_toArray, List.getElem_cons_zero, List.getElem_cons_succ, List.setIfInBounds_toArray, List.set_cons_zero, List.set_cons_succ]
                  refine wpAnyH_ready (rs := [17]) (by kernel_rfl) (by simp) ?_
                  refine AllReadyH.cons (o := _) rfl (fun K hK => ?_) ?_
                  · go_simp
                    refine hK.out _ _ ?_ (fun hHeld => ?_)
                    · rw [World.cell?_alloc_lt _ _ _ (by simpa using lN7), World.cell?_setCell_far _ _ _ _ hgN, World.cell?_setCell_far _ _ _ _ hgN]; exact s0
                    clear hK K
                    try simp only [Act.put, List.getElem_toArray, List.getElem_cons_zero, List.getElem_cons_succ, List.setIfInBounds_toArray, List.set_cons_zero, List.set_cons_succ]
                    refine wpAnyH_done (by kernel_rfl) ?_ _
                    go_wp2_with fail
                    go_meet
                    have h9 := put_fin (t := ([(na : Int)], [MO])) B36.out TR6.out hal2 IC6.out (by omega) (by omega) (BX.alloc BX.size _) (HK1.out.keep ((Below.refl _ _).alloc (Nat.le_refl _) _)) (one_is (heap_alloc_new _ _))
                    rw [World.setCell_alloc_past _ _ _ _ lg7, World.setCell_alloc_past _ _ _ _ (by simpa using lg7)] at h9
                    exact ⟨Lib.hid h9.1, Lib.hid h9.2.1, Lib.hid h9.2.2⟩
                  exact AllReadyH.nil
                exact AllReadyH.nil
              refine AllReadyH.cons (o := _) rfl (fun K hK => ?_) ?_
              · go_simp
                refine hK.out _ _ ?_ (fun hHeld => ?_)
                · exact (HBA2.out.cell (p := ⟨w3.heap.size, 1, none⟩) lW6).trans x6
                clear hK K
                try simp only [Act.put, List.getElem_toArray, List.getElem_cons_zero, List.getElem_cons_succ, List.setIfInBounds_toArray, List.set_cons_zero, List.set_cons_succ]
                refine wpAnyH_ready (rs := [12]) (by kernel_rfl) (by simp) ?_
                refine AllReadyH.cons (o := _) rfl (fun K hK => ?_) ?_
                ·
                  refine step_append_lies _ (by rfl) (.tmp 86) (.tmp 93) 22 (by rfl) W6.heap.size 3 i0 (.int .i64 0) 1 8 Tryz.underlying22 hi0 hz0 hz1 hz2 rfl (by omega) (.slice (some ⟨W6.heap.size, 0, none⟩) 0 0) 0 [] (by rfl) HOW2.out ⟨b2, o2, none⟩ 1 yc [.int .i64 (na : Int)] (by rfl) (by rfl) (news_at ((HBA2.out.cell (p := ⟨b2, o2, none⟩) lb2).trans cz3)) (by simp [Value.oneCell']) (by omega) (by unfold maxLen; omega) (by omega) HBA2.out.size (W6.heap.size + 2) (by simp) ?_
                  intro g' cap' w7 hown7 hgrow7 hat7 hlt7
                  have BX : Below W6.heap.size W6 w7 := HBA2.out.trans (below_own HOW2.out hgrow7 (Nat.le_refl _) HBA2.out.size)
                  have HK1 : Hid (Is w7 (.slice (some ⟨g', 0, none⟩) 1 cap') [(na : Int)]) := Lib.hid (Sl.of_own hown7 (own_max hown7))
                  have hC7 : w7.heap[W6.heap.size + 1]? = some (.cells #[.int .i64 MO] 3 (0, 0)) := (hgrow7.block (W6.heap.size + 1) (by simp) (by simp [Value.ownBlock])).trans (heap_two3 W6 _ _)
                  have s0 := (BX.cell (p := ⟨w3.heap.size, 1, none⟩) lW6).trans x6
                  have s1 := (BX.cell (p := ⟨g, at' * 2, none⟩) lg6).trans z1
                  have s2 := (BX.cell (p := ⟨g, at' * 2 + 1, none⟩) lg6).trans z2
                  have s3 := free_of_heap (keep_heap HGH.out BX) (at' * 2)
                  have s4 := free_of_heap (keep_heap HGH.out BX) (at' * 2 + 1)
                  have lw7 := BX.size
                  have lg7 : g < w7.heap.size := (by omega)
                  have lN7 : w3.heap.size < w7.heap.size := (by omega)
                  clear hown7 hgrow7 hat7 hlt7
                  refine hK.out _ _ ?_ (fun hHeld => ?_)
                  · exact s0
                  clear hK K
                  try simp only [Act.put, List.getElem_toArray, List.getElem_cons_zero, List.getElem_cons_succ, List.setIfInBounds_toArray, List.set_cons_zero, List.set_cons_succ]
                  refine wpAnyH_take (i := 15) (oi := _) (v := ?_) rfl (by kernel_rfl) (by kernel_rfl) (by kernel_rfl) (fun _ _ _ h => h) (Or.inl ⟨by rfl, ?_⟩) (by assumption) ?_
                  rotate_left
                  · intro w hSw; (try dsimp only at hSw); go_simp; all_goals (with_reducible rfl)
                  try simp only [Act.put, List.getElem_toArray, List.getElem_cons_zero, List.getElem_cons_succ, List.setIfInBounds_toArray, List.set_cons_zero, List.set_cons_succ]
                  refine wpAnyH_take (i := 16) (oi := _) (v := ?_) rfl (by kernel_rfl) (by kernel_rfl) (by kernel_rfl) (fun _ _ _ h => h) (Or.inl ⟨by rfl, ?_⟩) (by assumption) ?_
                  rotate_left
                  · intro w hSw; (try dsimp only at hSw); go_simp; all_goals (with_reducible rfl)
                  try simp only [Act.put, List.getElem_toArray, List.getElem_cons_zero, List.getElem_cons_succ, List.setIfInBounds_toArray, List.set_cons_zero, List.set_cons_succ]
                  refine wpAnyH_ready (rs := [17]) (by kernel_rfl) (by simp) ?_
                  refine AllReadyH.cons (o := _) rfl (fun K hK => ?_) ?_
                  · go_simp
                    refine hK.out _ _ ?_ (fun hHeld => ?_)
                    · rw [World.cell?_setCell_far _ _ _ _ hgN, World.cell?_setCell_far _ _ _ _ hgN]; exact s0
                    clear hK K
                    try simp only [Act.put, List.getElem_toArray, List.getElem_cons_zero, List.getElem_cons_succ, List.setIfInBounds_toArray, List.set_cons_zero, List.set_cons_succ]
                    refine wpAnyH_done (by kernel_rfl) ?_ _
                    go_wp2_with fail
                    go_meet
                    exact (fun h => ⟨Lib.hid h.1, Lib.hid h.2.1, Lib.hid h.2.2⟩) (put_fin (t := ([(na : Int)], [MO])) B36.out TR6.out hal2 IC6.out (by omega) (by omega) BX HK1.out (one_is hC7))
                  exact AllReadyH.nil
                exact AllReadyH.nil
              exact AllReadyH.nil
            refine AllReadyH.cons (o := _) rfl (fun K hK => ?_) ?_
            · go_simp
              refine hK.out _ _ ?_ (fun hHeld => ?_)
              · exact (HBA2.out.cell (p := ⟨w3.heap.size, 1, none⟩) lW6).trans x6
              clear hK K
              try simp only [Act.put, List.getElem_toArray, List.getElem_cons_zero, List.getElem_cons_succ, List.setIfInBounds_toArray, List.set_cons_zero, List.set_cons_succ]
              refine wpAnyH_ready (rs := [11]) (by kernel_rfl) (by simp) ?_
              refine AllReadyH.cons (o := _) rfl (fun K hK => ?_) ?_
              · go_simp
                refine hK.out _ _ ?_ (fun hHeld => ?_)
                · exact (HBA2.out.cell (p := ⟨w3.heap.size, 1, none⟩) lW6).trans x6
                clear hK K
                try simp only [Act.put, List.getElem_toArray, List.getElem_cons_zero, List.getElem_cons_succ, List.setIfInBounds_toArray, List.set_cons_zero, List.set_cons_succ]
                refine wpAnyH_ready (rs := [12]) (by kernel_rfl) (by simp) ?_
                refine AllReadyH.cons (o := _) rfl (fun K hK => ?_) ?_
                ·
                  refine step_append_lies _ (by rfl) (.tmp 86) (.tmp 93) 22 (by rfl) W6.heap.size 3 i0 (.int .i64 0) 1 8 Tryz.underlying22 hi0 hz0 hz1 hz2 rfl (by omega) (.slice (some ⟨W6.heap.size, 0, none⟩) 0 0) 0 [] (by rfl) HOW2.out ⟨b2, o2, none⟩ 1 yc [.int .i64 (na : Int)] (by rfl) (by rfl) (news_at ((HBA2.out.cell (p := ⟨b2, o2, none⟩) lb2).trans cz3)) (by simp [Value.oneCell']) (by omega) (by unfold maxLen; omega) (by omega) HBA2.out.size (W6.heap.size + 2) (by simp) ?_
                  intro g' cap' w7 hown7 hgrow7 hat7 hlt7
                  have BX : Below W6.heap.size W6 w7 := HBA2.out.trans (below_own HOW2.out hgrow7 (Nat.le_refl _) HBA2.out.size)
                  have HK1 : Hid (Is w7 (.slice (some ⟨g', 0, none⟩) 1 cap') [(na : Int)]) := Lib.hid (Sl.of_own hown7 (own_max hown7))
                  have hC7 : w7.heap[W6.heap.size + 1]? = some (.cells #[.int .i64 MO] 3 (0, 0)) := (hgrow7.block (W6.heap.size + 1) (by simp) (by simp [Value.ownBlock])).trans (heap_two3 W6 _ _)
                  have s0 := (BX.cell (p := ⟨w3.heap.size, 1, none⟩) lW6).trans x6
                  have s1 := (BX.cell (p := ⟨g, at' * 2, none⟩) lg6).trans z1
                  have s2 := (BX.cell (p := ⟨g, at' * 2 + 1, none⟩) lg6).trans z2
                  have s3 := free_of_heap (keep_heap HGH.out BX) (at' * 2)
                  have s4 := free_of_heap (keep_heap HGH.out BX) (at' * 2 + 1)
                  have lw7 := BX.size
                  have lg7 : g < w7.heap.size := (by omega)
                  have lN7 : w3.heap.size < w7.heap.size := (by omega)
                  clear hown7 hgrow7 hat7 hlt7
                  refine hK.out _ _ ?_ (fun hHeld => ?_)
                  · exact s0
                  clear hK K
                  try simp only [Act.put, List.getElem_toArray, List.getElem_cons_zero, List.getElem_cons_succ, List.setIfInBounds_toArray, List.set_cons_zero, List.set_cons_succ]
                  refine wpAnyH_take (i := 15) (oi := _) (v := ?_) rfl (by kernel_rfl) (by kernel_rfl) (by kernel_rfl) (fun _ _ _ h => h) (Or.inl ⟨by rfl, ?_⟩) (by assumption) ?_
                  rotate_left
                  · intro w hSw; (try dsimp only at hSw); go_simp; all_goals (with_reducible rfl)
                  try simp only [Act.put, List.getElem_toArray, List.getElem_cons_zero, List.getElem_cons_succ, List.setIfInBounds_toArray, List.set_cons_zero, List.set_cons_succ]
                  refine wpAnyH_take (i := 16) (oi := _) (v := ?_) rfl (by kernel_rfl) (by kernel_rfl) (by kernel_rfl) (fun _ _ _ h => h) (Or.inl ⟨by rfl, ?_⟩) (by assumption) ?_
                  rotate_left
                  · intro w hSw; (try dsimp only at hSw); go_simp; all_goals (with_reducible rfl)
                  try simp only [Act.put, List.getElem_toArray, List.getElem_cons_zero, List.getElem_cons_succ, List.setIfInBounds_toArray, List.set_cons_zero, List.set_cons_succ]
                  refine wpAnyH_ready (rs := [17]) (by kernel_rfl) (by simp) ?_
                  refine AllReadyH.cons (o := _) rfl (fun K hK => ?_) ?_
                  · go_simp
                    refine hK.out _ _ ?_ (fun hHeld => ?_)
                    · rw [World.cell?_setCell_far _ _ _ _ hgN, World.cell?_setCell_far _ _ _ _ hgN]; exact s0
                    clear hK K
                    try simp only [Act.put, List.getElem_toArray, List.getElem_cons_zero, List.getElem_cons_succ, List.setIfInBounds_toArray, List.set_cons_zero, List.set_cons_succ]
                    refine wpAnyH_done (by kernel_rfl) ?_ _
                    go_wp2_with fail
                    go_meet
                    exact (fun h => ⟨Lib.hid h.1, Lib.hid h.2.1, Lib.hid h.2.2⟩) (put_fin (t := ([(na : Int)], [MO])) B36.out TR6.out hal2 IC6.out (by omega) (by omega) BX HK1.out (one_is hC7))
                  exact AllReadyH.nil
                exact AllReadyH.nil
              exact AllReadyH.nil
            exact AllReadyH.nil
          refine AllReadyH.cons (o := _) rfl (fun K hK => ?_) ?_
          · go_simp
            refine hK.out _ _ ?_ (fun hHeld => ?_)
            · exact x7
            clear hK K
            try simp only [Act.put, List.getElem_toArray, List.getElem_cons_zero, List.getElem_cons_succ, List.setIfInBounds_toArray, List.set_cons_zero, List.set_cons_succ]
            refine wpAnyH_ready (rs := [4, 14]) (by kernel_rfl) (by simp) ?_
            refine AllReadyH.cons (o := _) rfl (fun K hK => ?_) ?_
            · go_simp
              refine hK.out _ _ ?_ (fun hHeld => ?_)
              · exact (HBA1.out.cell (p := ⟨w3.heap.size, 1, none⟩) lW6).trans x6
              clear hK K
              try simp only [Act.put, List.getElem_toArray, List.getElem_cons_zero, List.getElem_cons_succ, List.setIfInBounds_toArray, List.set_cons_zero, List.set_cons_succ]
              refine wpAnyH_ready (rs := [12, 14]) (by kernel_rfl) (by simp) ?_
              refine AllReadyH.cons (o := _) rfl (fun K hK => ?_) ?_
              ·
                refine step_append_lies _ (by rfl) (.tmp 86) (.tmp 93) 22 (by rfl) W6.heap.size 3 i0 (.int .i64 0) 1 8 Tryz.underlying22 hi0 hz0 hz1 hz2 rfl (by omega) (.slice (some ⟨W6.heap.size, 0, none⟩) 0 0) 0 [] (by rfl) HOW1.out ⟨b2, o2, none⟩ 1 yc [.int .i64 (na : Int)] (by rfl) (by rfl) (news_at ((HBA1.out.cell (p := ⟨b2, o2, none⟩) lb2).trans cz3)) (by simp [Value.oneCell']) (by omega) (by unfold maxLen; omega) (by omega) HBA1.out.size (W6.heap.size + 1) (by simp) ?_
                intro g' cap' w7 hown7 hgrow7 hat7 hlt7
                have BX : Below W6.heap.size W6 w7 := HBA1.out.trans (below_own HOW1.out hgrow7 (Nat.le_refl _) HBA1.out.size)
                have HK1 : Hid (Is w7 (.slice (some ⟨g', 0, none⟩) 1 cap') [(na : Int)]) := Lib.hid (Sl.of_own hown7 (own_max hown7))
                have s0 := (BX.cell (p := ⟨w3.heap.size, 1, none⟩) lW6).trans x6
                have s1 := (BX.cell (p := ⟨g, at' * 2, none⟩) lg6).trans z1
                have s2 := (BX.cell (p := ⟨g, at' * 2 + 1, none⟩) lg6).trans z2
                have s3 := free_of_heap (keep_heap HGH.out BX) (at' * 2)
                have s4 := free_of_heap (keep_heap HGH.out BX) (at' * 2 + 1)
                have lw7 := BX.size
                have lg7 : g < w7.heap.size := (by omega)
                have lN7 : w3.heap.size < w7.heap.size := (by omega)
                clear hown7 hgrow7 hat7 hlt7
                refine hK.out _ _ ?_ (fun hHeld => ?_)
                · exact s0
                clear hK K
                try simp only [Act.put, List.getElem_toArray, List.getElem_cons_zero, List.getElem_cons_succ, List.setIfInBounds_toArray, List.set_cons_zero, List.set_cons_succ]
                refine wpAnyH_ready (rs := [14]) (by kernel_rfl) (by simp) ?_
                refine AllReadyH.cons (o := _) rfl (fun K hK => ?_) ?_
                · go_simp
                  refine hK.out _ _ ?_ (fun hHeld => ?_)
                  · exact ((BX.alloc BX.size _).cell (p := ⟨w3.heap.size, 1, none⟩) lW6).trans x6
                  clear hK K
                  try simp only [Act.put, List.getElem_toArray, List.getElem_cons_zero, List.getElem_cons_succ, List.setIfInBounds_toArray, List.set_cons_zero, List.set_cons_succ]
                  refine wpAnyH_take (i := 15) (oi := _) (v := ?_) rfl (by kernel_rfl) (by kernel_rfl) (by kernel_rfl) (fun _ _ _ h => h) (Or.inl ⟨by rfl, ?_⟩) (by assumption) ?_
                  rotate_left
                  · intro w hSw; (try dsimp only at hSw); go_simp; all_goals (with_reducible rfl)
                  try simp only [Act.put, List.getElem_toArray, List.getElem_cons_zero, List.getElem_cons_succ, List.setIfInBounds_toArray, List.set_cons_zero, List.set_cons_succ]
                  refine wpAnyH_take (i := 16) (oi := _) (v := ?_) rfl (by kernel_rfl) (by kernel_rfl) (by kernel_rfl) (fun _ _ _ h => h) (Or.inl ⟨by rfl, ?_⟩) (by assumption) ?_
                  rotate_left
                  · intro w hSw; (try dsimp only at hSw); go_simp; all_goals (with_reducible rfl)
                  try simp only [Act.put, List.getElem_toArray, List.getElem_cons_zero, List.getElem_cons_succ, List.setIfInBounds_toArray, List.set_cons_zero, List.set_cons_succ]
                  refine wpAnyH_ready (rs := [17]) (by kernel_rfl) (by simp) ?_
                  refine AllReadyH.cons (o := _) rfl (fun K hK => ?_) ?_
                  · go_simp
                    refine hK.out _ _ ?_ (fun hHeld => ?_)
                    · rw [World.cell?_alloc_lt _ _ _ (by simpa using lN7), World.cell?_setCell_far _ _ _ _ hgN, World.cell?_setCell_far _ _ _ _ hgN]; exact s0
                    clear hK K
                    try simp only [Act.put, List.getElem_toArray, List.getElem_cons_zero, List.getElem_cons_succ, List.setIfInBounds_toArray, List.set_cons_zero, List.set_cons_succ]
                    refine wpAnyH_done (by kernel_rfl) ?_ _
                    go_wp2_with fail
                    go_meet
                    have h9 := put_fin (t := ([(na : Int)], [MO])) B36.out TR6.out hal2 IC6.out (by omega) (by omega) (BX.alloc BX.size _) (HK1.out.keep ((Below.refl _ _).alloc (Nat.le_refl _) _)) (one_is (heap_alloc_new _ _))
                    rw [World.setCell_alloc_past _ _ _ _ lg7, World.setCell_alloc_past _ _ _ _ (by simpa using lg7)] at h9
                    exact ⟨Lib.hid h9.1, Lib.hid h9.2.1, Lib.hid h9.2.2⟩
                  exact AllReadyH.nil
                exact AllReadyH.nil
              refine AllReadyH.cons (o := _) rfl (fun K hK => ?_) ?_
              · go_simp
                refine hK.out _ _ ?_ (fun hHeld => ?_)
                · exact (HBA2.out.cell (p := ⟨w3.heap.size, 1, none⟩) lW6).trans x6
                clear hK K
                try simp only [Act.put, List.getElem_toArray, List.getElem_cons_zero, List.getElem_cons_succ, List.setIfInBounds_toArray, List.set_cons_zero, List.set_cons_succ]
                refine wpAnyH_ready (rs := [12]) (by kernel_rfl) (by simp) ?_
                refine AllReadyH.cons (o := _) rfl (fun K hK => ?_) ?_
                ·
                  refine step_append_lies _ (by rfl) (.tmp 86) (.tmp 93) 22 (by rfl) W6.heap.size 3 i0 (.int .i64 0) 1 8 Tryz.underlying22 hi0 hz0 hz1 hz2 rfl (by omega) (.slice (some ⟨W6.heap.size, 0, none⟩) 0 0) 0 [] (by rfl) HOW2.out ⟨b2, o2, none⟩ 1 yc [.int .i64 (na : Int)] (by rfl) (by rfl) (news_at ((HBA2.out.cell (p := ⟨b2, o2, none⟩) lb2).trans cz3)) (by simp [Value.oneCell']) (by omega) (by unfold maxLen; omega) (by omega) HBA2.out.size (W6.heap.size + 2) (by simp) ?_
                  intro g' cap' w7 hown7 hgrow7 hat7 hlt7
                  have BX : Below W6.heap.size W6 w7 := HBA2.out.trans (below_own HOW2.out hgrow7 (Nat.le_refl _) HBA2.out.size)
                  have HK1 : Hid (Is w7 (.slice (some ⟨g', 0, none⟩) 1 cap') [(na : Int)]) := Lib.hid (Sl.of_own hown7 (own_max hown7))
                  have hC7 : w7.heap[W6.heap.size + 1]? = some (.cells #[.int .i64 MO] 3 (0, 0)) := (hgrow7.block (W6.heap.size + 1) (by simp) (by simp [Value.ownBlock])).trans (heap_two3 W6 _ _)
                  have s0 := (BX.cell (p := ⟨w3.heap.size, 1, none⟩) lW6).trans x6
                  have s1 := (BX.cell (p := ⟨g, at' * 2, none⟩) lg6).trans z1
                  have s2 := (BX.cell (p := ⟨g, at' * 2 + 1, none⟩) lg6).trans z2
                  have s3 := free_of_heap (keep_heap HGH.out BX) (at' * 2)
                  have s4 := free_of_heap (keep_heap HGH.out BX) (at' * 2 + 1)
                  have lw7 := BX.size
                  have lg7 : g < w7.heap.size := (by omega)
                  have lN7 : w3.heap.size < w7.heap.size := (by omega)
                  clear hown7 hgrow7 hat7 hlt7
                  refine hK.out _ _ ?_ (fun hHeld => ?_)
                  · exact s0
                  clear hK K
                  try simp only [Act.put, List.getElem_toArray, List.getElem_cons_zero, List.getElem_cons_succ, List.setIfInBounds_toArray, List.set_cons_zero, List.set_cons_succ]
                  refine wpAnyH_take (i := 15) (oi := _) (v := ?_) rfl (by kernel_rfl) (by kernel_rfl) (by kernel_rfl) (fun _ _ _ h => h) (Or.inl ⟨by rfl, ?_⟩) (by assumption) ?_
                  rotate_left
                  · intro w hSw; (try dsimp only at hSw); go_simp; all_goals (with_reducible rfl)
                  try simp only [Act.put, List.getElem_toArray, List.getElem_cons_zero, List.getElem_cons_succ, List.setIfInBounds_toArray, List.set_cons_zero, List.set_cons_succ]
                  refine wpAnyH_take (i := 16) (oi := _) (v := ?_) rfl (by kernel_rfl) (by kernel_rfl) (by kernel_rfl) (fun _ _ _ h => h) (Or.inl ⟨by rfl, ?_⟩) (by assumption) ?_
                  rotate_left
                  · intro w hSw; (try dsimp only at hSw); go_simp; all_goals (with_reducible rfl)
                  try simp only [Act.put, List.getElem_toArray, List.getElem_cons_zero, List.getElem_cons_succ, List.setIfInBounds_toArray, List.set_cons_zero, List.set_cons_succ]
                  refine wpAnyH_ready (rs := [17]) (by kernel_rfl) (by simp) ?_
                  refine AllReadyH.cons (o := _) rfl (fun K hK => ?_) ?_
                  · go_simp
                    refine hK.out _ _ ?_ (fun hHeld => ?_)
                    · rw [World.cell?_setCell_far _ _ _ _ hgN, World.cell?_setCell_far _ _ _ _ hgN]; exact s0
                    clear hK K
                    try simp only [Act.put, List.getElem_toArray, List.getElem_cons_zero, List.getElem_cons_succ, List.setIfInBounds_toArray, List.set_cons_zero, List.set_cons_succ]
                    refine wpAnyH_done (by kernel_rfl) ?_ _
                    go_wp2_with fail
                    go_meet
                    exact (fun h => ⟨Lib.hid h.1, Lib.hid h.2.1, Lib.hid h.2.2⟩) (put_fin (t := ([(na : Int)], [MO])) B36.out TR6.out hal2 IC6.out (by omega) (by omega) BX HK1.out (one_is hC7))
                  exact AllReadyH.nil
                exact AllReadyH.nil
              exact AllReadyH.nil
            refine AllReadyH.cons (o := _) rfl (fun K hK => ?_) ?_
            · go_simp
              refine hK.out _ _ ?_ (fun hHeld => ?_)
              · exact (HBA4.out.cell (p := ⟨w3.heap.size, 1, none⟩) lW6).trans x6
              clear hK K
              try simp only [Act.put, List.getElem_toArray, List.getElem_cons_zero, List.getElem_cons_succ, List.setIfInBounds_toArray, List.set_cons_zero, List.set_cons_succ]
              refine wpAnyH_ready (rs := [4]) (by kernel_rfl) (by simp) ?_
              refine AllReadyH.cons (o := _) rfl (fun K hK => ?_) ?_
              · go_simp
                refine hK.out _ _ ?_ (fun hHeld => ?_)
                · exact (HBA3.out.cell (p := ⟨w3.heap.size, 1, none⟩) lW6).trans x6
                clear hK K
                try simp only [Act.put, List.getElem_toArray, List.getElem_cons_zero, List.getElem_cons_succ, List.setIfInBounds_toArray, List.set_cons_zero, List.set_cons_succ]
                refine wpAnyH_ready (rs := [12]) (by kernel_rfl) (by simp) ?_
                refine AllReadyH.cons (o := _) rfl (fun K hK => ?_) ?_
                ·
                  refine step_append_lies _ (by rfl) (.tmp 86) (.tmp 93) 22 (by rfl) W6.heap.size 3 i0 (.int .i64 0) 1 8 Tryz.underlying22 hi0 hz0 hz1 hz2 rfl (by omega) (.slice (some ⟨W6.heap.size + 1, 0, none⟩) 0 0) 0 [] (by rfl) HOW3.out ⟨b2, o2, none⟩ 1 yc [.int .i64 (na : Int)] (by rfl) (by rfl) (news_at ((HBA3.out.cell (p := ⟨b2, o2, none⟩) lb2).trans cz3)) (by simp [Value.oneCell']) (by omega) (by unfold maxLen; omega) (by omega) HBA3.out.size (W6.heap.size + 2) (by simp) ?_
                  intro g' cap' w7 hown7 hgrow7 hat7 hlt7
                  have BX : Below W6.heap.size W6 w7 := HBA3.out.trans (below_own HOW3.out hgrow7 (Nat.le_refl _) HBA3.out.size)
                  have HK1 : Hid (Is w7 (.slice (some ⟨g', 0, none⟩) 1 cap') [(na : Int)]) := Lib.hid (Sl.of_own hown7 (own_max hown7))
                  have hC7 : w7.heap[W6.heap.size]? = some (.cells #[.int .i64 MO] 3 (0, 0)) := (hgrow7.block W6.heap.size (by simp; omega) (by simp [Value.ownBlock])).trans (heap_two0 W6 _ _)
                  have s0 := (BX.cell (p := ⟨w3.heap.size, 1, none⟩) lW6).trans x6
                  have s1 := (BX.cell (p := ⟨g, at' * 2, none⟩) lg6).trans z1
                  have s2 := (BX.cell (p := ⟨g, at' * 2 + 1, none⟩) lg6).trans z2
                  have s3 := free_of_heap (keep_heap HGH.out BX) (at' * 2)
                  have s4 := free_of_heap (keep_heap HGH.out BX) (at' * 2 + 1)
                  have lw7 := BX.size
                  have lg7 : g < w7.heap.size := (by omega)
                  have lN7 : w3.heap.size < w7.heap.size := (by omega)
                  clear hown7 hgrow7 hat7 hlt7
                  refine hK.out _ _ ?_ (fun hHeld => ?_)
                  · exact s0
                  clear hK K
                  try simp only [Act.put, List.getElem_toArray, List.getElem_cons_zero, List.getElem_cons_succ, List.setIfInBounds_toArray, List.set_cons_zero, List.set_cons_succ]
                  refine wpAnyH_take (i := 15) (oi := _) (v := ?_) rfl (by kernel_rfl) (by kernel_rfl) (by kernel_rfl) (fun _ _ _ h => h) (Or.inl ⟨by rfl, ?_⟩) (by assumption) ?_
                  rotate_left
                  · intro w hSw; (try dsimp only at hSw); go_simp; all_goals (with_reducible rfl)
                  try simp only [Act.put, List.getElem_toArray, List.getElem_cons_zero, List.getElem_cons_succ, List.setIfInBounds_toArray, List.set_cons_zero, List.set_cons_succ]
                  refine wpAnyH_take (i := 16) (oi := _) (v := ?_) rfl (by kernel_rfl) (by kernel_rfl) (by kernel_rfl) (fun _ _ _ h => h) (Or.inl ⟨by rfl, ?_⟩) (by assumption) ?_
                  rotate_left
                  · intro w hSw; (try dsimp only at hSw); go_simp; all_goals (with_reducible rfl)
                  try simp only [Act.put, List.getElem_toArray, List.getElem_cons_zero, List.getElem_cons_succ, List.setIfInBounds_toArray, List.set_cons_zero, List.set_cons_succ]
                  refine wpAnyH_ready (rs := [17]) (by kernel_rfl) (by simp) ?_
                  refine AllReadyH.cons (o := _) rfl (fun K hK => ?_) ?_
                  · go_simp
                    refine hK.out _ _ ?_ (fun hHeld => ?_)
                    · rw [World.cell?_setCell_far _ _ _ _ hgN, World.cell?_setCell_far _ _ _ _ hgN]; exact s0
                    clear hK K
                    try simp only [Act.put, List.getElem_toArray, List.getElem_cons_zero, List.getElem_cons_succ, List.setIfInBounds_toArray, List.set_cons_zero, List.set_cons_succ]
                    refine wpAnyH_done (by kernel_rfl) ?_ _
                    go_wp2_with fail
                    go_meet
                    exact (fun h => ⟨Lib.hid h.1, Lib.hid h.2.1, Lib.hid h.2.2⟩) (put_fin (t := ([(na : Int)], [MO])) B36.out TR6.out hal2 IC6.out (by omega) (by omega) BX HK1.out (one_is hC7))
                  exact AllReadyH.nil
                exact AllReadyH.nil
              exact AllReadyH.nil
            exact AllReadyH.nil
          refine AllReadyH.cons (o := _) rfl (fun K hK => ?_) ?_
          · go_simp
            refine hK.out _ _ ?_ (fun hHeld => ?_)
            · exact (HBA4.out.cell (p := ⟨w3.heap.size, 1, none⟩) lW6).trans x6
            clear hK K
            try simp only [Act.put, List.getElem_toArray, List.getElem_cons_zero, List.getElem_cons_succ, List.setIfInBounds_toArray, List.set_cons_zero, List.set_cons_succ]
            refine wpAnyH_ready (rs := [4, 11]) (by kernel_rfl) (by simp) ?_
            refine AllReadyH.cons (o := _) rfl (fun K hK => ?_) ?_
            · go_simp
              refine hK.out _ _ ?_ (fun hHeld => ?_)
              · exact (HBA3.out.cell (p := ⟨w3.heap.size, 1, none⟩) lW6).trans x6
              clear hK K
              try simp only [Act.put, List.getElem_toArray, List.getElem_cons_zero, List.getElem_cons_succ, List.setIfInBounds_toArray, List.set_cons_zero, List.set_cons_succ]
              refine wpAnyH_ready (rs := [11]) (by kernel_rfl) (by simp) ?_
              refine AllReadyH.cons (o := _) rfl (fun K hK => ?_) ?_
              · go_simp
                refine hK.out _ _ ?_ (fun hHeld => ?_)
                · exact (HBA3.out.cell (p := ⟨w3.heap.size, 1, none⟩) lW6).trans x6
                clear hK K
                try simp only [Act.put, List.getElem_toArray, List.getElem_cons_zero, List.getElem_cons_succ, List.setIfInBounds_toArray, List.set_cons_zero, List.set_cons_succ]
                refine wpAnyH_ready (rs := [12]) (by kernel_rfl) (by simp) ?_
                refine AllReadyH.cons (o := _) rfl (fun K hK => ?_) ?_
                ·
                  refine step_append_lies _ (by rfl) (.tmp 86) (.tmp 93) 22 (by rfl) W6.heap.size 3 i0 (.int .i64 0) 1 8 Tryz.underlying22 hi0 hz0 hz1 hz2 rfl (by omega) (.slice (some ⟨W6.heap.size + 1, 0, none⟩) 0 0) 0 [] (by rfl) HOW3.out ⟨b2, o2, none⟩ 1 yc [.int .i64 (na : Int)] (by rfl) (by rfl) (news_at ((HBA3.out.cell (p := ⟨b2, o2, none⟩) lb2).trans cz3)) (by simp [Value.oneCell']) (by omega) (by unfold maxLen; omega) (by omega) HBA3.out.size (W6.heap.size + 2) (by simp) ?_
                  intro g' cap' w7 hown7 hgrow7 hat7 hlt7
                  have BX : Below W6.heap.size W6 w7 := HBA3.out.trans (below_own HOW3.out hgrow7 (Nat.le_refl _) HBA3.out.size)
                  have HK1 : Hid (Is w7 (.slice (some ⟨g', 0, none⟩) 1 cap') [(na : Int)]) := Lib.hid (Sl.of_own hown7 (own_max hown7))
                  have hC7 : w7.heap[W6.heap.size]? = some (.cells #[.int .i64 MO] 3 (0, 0)) := (hgrow7.block W6.heap.size (by simp; omega) (by simp [Value.ownBlock])).trans (heap_two0 W6 _ _)
                  have s0 := (BX.cell (p := ⟨w3.heap.size, 1, none⟩) lW6).trans x6
                  have s1 := (BX.cell (p := ⟨g, at' * 2, none⟩) lg6).trans z1
                  have s2 := (BX.cell (p := ⟨g, at' * 2 + 1, none⟩) lg6).trans z2
                  have s3 := free_of_heap (keep_heap HGH.out BX) (at' * 2)
                  have s4 := free_of_heap (keep_heap HGH.out BX) (at' * 2 + 1)
                  have lw7 := BX.size
                  have lg7 : g < w7.heap.size := (by omega)
                  have lN7 : w3.heap.size < w7.heap.size := (by omega)
                  clear hown7 hgrow7 hat7 hlt7
                  refine hK.out _ _ ?_ (fun hHeld => ?_)
                  · exact s0
                  clear hK K
                  try simp only [Act.put, List.getElem_toArray, List.getElem_cons_zero, List.getElem_cons_succ, List.setIfInBounds_toArray, List.set_cons_zero, List.set_cons_succ]
                  refine wpAnyH_take (i := 15) (oi := _) (v := ?_) rfl (by kernel_rfl) (by kernel_rfl) (by kernel_rfl) (fun _ _ _ h => h) (Or.inl ⟨by rfl, ?_⟩) (by assumption) ?_
                  rotate_left
                  · intro w hSw; (try dsimp only at hSw); go_simp; all_goals (with_reducible rfl)
                  try simp only [Act.put, List.getElem_toArray, List.getElem_cons_zero, List.getElem_cons_succ, List.setIfInBounds_toArray, List.set_cons_zero, List.set_cons_succ]
                  refine wpAnyH_take (i := 16) (oi := _) (v := ?_) rfl (by kernel_rfl) (by kernel_rfl) (by kernel_rfl) (fun _ _ _ h => h) (Or.inl ⟨by rfl, ?_⟩) (by assumption) ?_
                  rotate_left
                  · intro w hSw; (try dsimp only at hSw); go_simp; all_goals (with_reducible rfl)
                  try simp only [Act.put, List.getElem_toArray, List.getElem_cons_zero, List.getElem_cons_succ, List.setIfInBounds_toArray, List.set_cons_zero, List.set_cons_succ]
                  refine wpAnyH_ready (rs := [17]) (by kernel_rfl) (by simp) ?_
                  refine AllReadyH.cons (o := _) rfl (fun K hK => ?_) ?_
                  · go_simp
                    refine hK.out _ _ ?_ (fun hHeld => ?_)
                    · rw [World.cell?_setCell_far _ _ _ _ hgN, World.cell?_setCell_far _ _ _ _ hgN]; exact s0
                    clear hK K
                    try simp only [Act.put, List.getElem_toArray, List.getElem_cons_zero, List.getElem_cons_succ, List.setIfInBounds_toArray, List.set_cons_zero, List.set_cons_succ]
                    refine wpAnyH_done (by kernel_rfl) ?_ _
                    go_wp2_with fail
                    go_meet
                    exact (fun h => ⟨Lib.hid h.1, Lib.hid h.2.1, Lib.hid h.2.2⟩) (put_fin (t := ([(na : Int)], [MO])) B36.out TR6.out hal2 IC6.out (by omega) (by omega) BX HK1.out (one_is hC7))
                  exact AllReadyH.nil
                exact AllReadyH.nil
              exact AllReadyH.nil
            refine AllReadyH.cons (o := _) rfl (fun K hK => ?_) ?_
            · go_simp
              refine hK.out _ _ ?_ (fun hHeld => ?_)
              · exact (HBA4.out.cell (p := ⟨w3.heap.size, 1, none⟩) lW6).trans x6
              clear hK K
              try simp only [Act.put, List.getElem_toArray, List.getElem_cons_zero, List.getElem_cons_succ, List.setIfInBounds_toArray, List.set_cons_zero, List.set_cons_succ]
              refine wpAnyH_ready (rs := [4]) (by kernel_rfl) (by simp) ?_
              refine AllReadyH.cons (o := _) rfl (fun K hK => ?_) ?_
              · go_simp
                refine hK.out _ _ ?_ (fun hHeld => ?_)
                · exact (HBA3.out.cell (p := ⟨w3.heap.size, 1, none⟩) lW6).trans x6
                clear hK K
                try simp only [Act.put, List.getElem_toArray, List.getElem_cons_zero, List.getElem_cons_succ, List.setIfInBounds_toArray, List.set_cons_zero, List.set_cons_succ]
                refine wpAnyH_ready (rs := [12]) (by kernel_rfl) (by simp) ?_
                refine AllReadyH.cons (o := _) rfl (fun K hK => ?_) ?_
                ·
                  refine step_append_lies _ (by rfl) (.tmp 86) (.tmp 93) 22 (by rfl) W6.heap.size 3 i0 (.int .i64 0) 1 8 Tryz.underlying22 hi0 hz0 hz1 hz2 rfl (by omega) (.slice (some ⟨W6.heap.size + 1, 0, none⟩) 0 0) 0 [] (by rfl) HOW3.out ⟨b2, o2, none⟩ 1 yc [.int .i64 (na : Int)] (by rfl) (by rfl) (news_at ((HBA3.out.cell (p := ⟨b2, o2, none⟩) lb2).trans cz3)) (by simp [Value.oneCell']) (by omega) (by unfold maxLen; omega) (by omega) HBA3.out.size (W6.heap.size + 2) (by simp) ?_
                  intro g' cap' w7 hown7 hgrow7 hat7 hlt7
                  have BX : Below W6.heap.size W6 w7 := HBA3.out.trans (below_own HOW3.out hgrow7 (Nat.le_refl _) HBA3.out.size)
                  have HK1 : Hid (Is w7 (.slice (some ⟨g', 0, none⟩) 1 cap') [(na : Int)]) := Lib.hid (Sl.of_own hown7 (own_max hown7))
                  have hC7 : w7.heap[W6.heap.size]? = some (.cells #[.int .i64 MO] 3 (0, 0)) := (hgrow7.block W6.heap.size (by simp; omega) (by simp [Value.ownBlock])).trans (heap_two0 W6 _ _)
                  have s0 := (BX.cell (p := ⟨w3.heap.size, 1, none⟩) lW6).trans x6
                  have s1 := (BX.cell (p := ⟨g, at' * 2, none⟩) lg6).trans z1
                  have s2 := (BX.cell (p := ⟨g, at' * 2 + 1, none⟩) lg6).trans z2
                  have s3 := free_of_heap (keep_heap HGH.out BX) (at' * 2)
                  have s4 := free_of_heap (keep_heap HGH.out BX) (at' * 2 + 1)
                  have lw7 := BX.size
                  have lg7 : g < w7.heap.size := (by omega)
                  have lN7 : w3.heap.size < w7.heap.size := (by omega)
                  clear hown7 hgrow7 hat7 hlt7
                  refine hK.out _ _ ?_ (fun hHeld => ?_)
                  · exact s0
                  clear hK K
                  try simp only [Act.put, List.getElem_toArray, List.getElem_cons_zero, List.getElem_cons_succ, List.setIfInBounds_toArray, List.set_cons_zero, List.set_cons_succ]
                  refine wpAnyH_take (i := 15) (oi := _) (v := ?_) rfl (by kernel_rfl) (by kernel_rfl) (by kernel_rfl) (fun _ _ _ h => h) (Or.inl ⟨by rfl, ?_⟩) (by assumption) ?_
                  rotate_left
                  · intro w hSw; (try dsimp only at hSw); go_simp; all_goals (with_reducible rfl)
                  try simp only [Act.put, List.getElem_toArray, List.getElem_cons_zero, List.getElem_cons_succ, List.setIfInBounds_toArray, List.set_cons_zero, List.set_cons_succ]
                  refine wpAnyH_take (i := 16) (oi := _) (v := ?_) rfl (by kernel_rfl) (by kernel_rfl) (by kernel_rfl) (fun _ _ _ h => h) (Or.inl ⟨by rfl, ?_⟩) (by assumption) ?_
                  rotate_left
                  · intro w hSw; (try dsimp only at hSw); go_simp; all_goals (with_reducible rfl)
                  try simp only [Act.put, List.getElem_toArray, List.getElem_cons_zero, List.getElem_cons_succ, List.setIfInBounds_toArray, List.set_cons_zero, List.set_cons_succ]
                  refine wpAnyH_ready (rs := [17]) (by kernel_rfl) (by simp) ?_
                  refine AllReadyH.cons (o := _) rfl (fun K hK => ?_) ?_
                  · go_simp
                    refine hK.out _ _ ?_ (fun hHeld => ?_)
                    · rw [World.cell?_setCell_far _ _ _ _ hgN, World.cell?_setCell_far _ _ _ _ hgN]; exact s0
                    clear hK K
                    try simp only [Act.put, List.getElem_toArray, List.getElem_cons_zero, List.getElem_cons_succ, List.setIfInBounds_toArray, List.set_cons_zero, List.set_cons_succ]
                    refine wpAnyH_done (by kernel_rfl) ?_ _
                    go_wp2_with fail
                    go_meet
                    exact (fun h => ⟨Lib.hid h.1, Lib.hid h.2.1, Lib.hid h.2.2⟩) (put_fin (t := ([(na : Int)], [MO])) B36.out TR6.out hal2 IC6.out (by omega) (by omega) BX HK1.out (one_is hC7))
                  exact AllReadyH.nil
                exact AllReadyH.nil
              exact AllReadyH.nil
            exact AllReadyH.nil
          exact AllReadyH.nil
        case rest =>
          obtain ⟨BV, IC, HTV⟩ := hcut
          obtain ⟨V, hV⟩ : ∃ x : World, x = wc := ⟨_, rfl⟩
          subst hV
          clear z1 z2 z3 z4 x6 x7 f7 f8 cz3
          have HC := Lib.hid (HCK.out HF.out { Ve.right s sl with trans := (Si.netT s).set at' ([(na : Int)], [MO]) } sl (.slice (some ⟨g, 0, none⟩) TL cap) (.slice ca l3 cc) (.slice ka l3 kc) (.slice sa SL sc) (l3 : Int) (l6 : Int) 1 V (B3.out.trans (BV.out.mono B3.out.size)) (by show (s.zones.length : Int) = l3; rw [E3.out]) (by show (s.robots.length : Int) = l6; rw [E6.out]) ⟨HTV.out, HCA.out.keep BV.out, HKE.out.keep BV.out, HSI.out.keep BV.out⟩ (by have := HSL.out; rw [E3.out] at this; exact this) (Ve.refuse_net HNE.out) (by decide))
          go_upto_region 44 with fail
          have q0 : V.cell? ⟨w3.heap.size, 0, none⟩ = some (.int .i64 (l3 : Int)) := cell_of_heap IC.out 0 rfl
          have q1 : V.cell? ⟨w3.heap.size, 1, none⟩ = some (.slice (some ⟨g, 0, none⟩) TL cap) := cell_of_heap IC.out 1 rfl
          have q2 : V.cell? ⟨w3.heap.size, 2, none⟩ = some (.slice ca l3 cc) := cell_of_heap IC.out 2 rfl
          have q3 : V.cell? ⟨w3.heap.size, 3, none⟩ = some (.slice ka l3 kc) := cell_of_heap IC.out 3 rfl
          have q4 : V.cell? ⟨w3.heap.size, 4, none⟩ = some (.int .i64 (l6 : Int)) := cell_of_heap IC.out 4 rfl
          have q5 : V.cell? ⟨w3.heap.size, 5, none⟩ = some (.slice sa SL sc) := cell_of_heap IC.out 5 rfl
          have BT := Lib.hid (B3.out.trans (BV.out.mono B3.out.size))
          have IS := Lib.hid (keep_heap I3.out BV.out)
          have p0 : V.cell? ⟨w.heap.size, 0, none⟩ = some (.int .i64 s.floor.w) := cell_of_heap IS.out 0 rfl
          have p1 : V.cell? ⟨w.heap.size, 1, none⟩ = some (.int .i64 s.floor.h) := cell_of_heap IS.out 1 rfl
          have p2 : V.cell? ⟨w.heap.size, 2, none⟩ = some (.int .i64 s.floor.d) := cell_of_heap IS.out 2 rfl
          have p3 : V.cell? ⟨w.heap.size, 3, none⟩ = some (.slice a1 l1 c1) := cell_of_heap IS.out 3 rfl
          have p4 : V.cell? ⟨w.heap.size, 4, none⟩ = some (.slice a2 l2 c2) := cell_of_heap IS.out 4 rfl
          have p5 : V.cell? ⟨w.heap.size, 5, none⟩ = some (.slice a3 l3 c3) := cell_of_heap IS.out 5 rfl
          have p6 : V.cell? ⟨w.heap.size, 6, none⟩ = some (.slice a4 l4 c4) := cell_of_heap IS.out 6 rfl
          have p7 : V.cell? ⟨w.heap.size, 7, none⟩ = some (.slice a5 l5 c5) := cell_of_heap IS.out 7 rfl
          have p8 : V.cell? ⟨w.heap.size, 8, none⟩ = some (.slice a6 l6 c6) := cell_of_heap IS.out 8 rfl
          go_wp2_with fail
          go_at_call 13; refine HC.out.mono ?_; rintro e w9 ⟨rfl, b9⟩
          have BE := Lib.hid (BT.out.trans (b9.mono BT.out.size))
          clear b9
          go_wp2_with fail
          go_ret
          exact ⟨rfl, BE.out⟩
      · have d1 : ((at' : Int) ≥ (TL : Int)) = True := by first | (simp; done) | (simp; omega)
        have d2 : decide ((at' : Int) ≥ (TL : Int)) = true := by first | (simp; done) | (simp; omega)
        have x1 : W4.cell? ⟨w3.heap.size, 1, none⟩ = some (.slice ta TL tc) := cell_of_heap IC4.out 1 rfl
        clear hal
        go_wp2_with fail
        go_ret
        exact ⟨rfl, B3.out.trans (BV4.out.mono B3.out.size)⟩
    have w2 : (WH == 2) = false := by simpa using h2
    by_cases h3 : WH = 3
    · subst h3
      have q1 : W4.cell? ⟨w3.heap.size, 1, none⟩ = some (.slice ta TL tc) := cell_of_heap IC4.out 1 rfl
      have f1 : W4.frozen? ⟨w3.heap.size, 1, none⟩ = false := free_of_heap IC4.out 1
      cases TL with
      | zero =>
        go_wp2_with fail
        go_ret
        exact ⟨rfl, B3.out.trans (BV4.out.mono B3.out.size)⟩
      | succ m =>
      have z1 : (((m + 1 : Nat) : Int) == 0) = false := by simp; omega
      have z2 : (((m + 1 : Nat) : Int) - 1) = (m : Int) := by omega
      have z3 : (0 : Int) ≤ (m : Int) := by omega
      have z4 : (m : Int) ≤ (tc : Int) := by omega
      obtain ⟨V, hV⟩ : ∃ V, V = W4.setCell ⟨w3.heap.size, 1, none⟩ (.slice ta m tc) := ⟨_, rfl⟩
      have BV : Hid (Below w3.heap.size w3 V) := Lib.hid (by rw [hV]; exact BV4.out.setCell (Nat.le_refl _) _)
      have IC : Hid (V.heap[w3.heap.size]? = some (.cells #[.int .i64 (l3 : Int), .slice ta m tc, .slice ca l3 cc, .slice ka l3 kc, .int .i64 (l6 : Int), .slice sa SL sc] 38 (0, 0))) := Lib.hid (by rw [hV]; exact set_heap IC4.out 1 _)
      have HC := Lib.hid (HCK.out HF.out { Ve.right s sl with trans := (Si.netT s).take m } sl (.slice ta m tc) (.slice ca l3 cc) (.slice ka l3 kc) (.slice sa SL sc) (l3 : Int) (l6 : Int) 1 V (B3.out.trans (BV.out.mono B3.out.size)) (by show (s.zones.length : Int) = l3; rw [E3.out]) (by show (s.robots.length : Int) = l6; rw [E6.out]) ⟨(HTR.out.keep BV.out).take m (by omega), HCA.out.keep BV.out, HKE.out.keep BV.out, HSI.out.keep BV.out⟩ (by have := HSL.out; rw [E3.out] at this; exact this) (Ve.refuse_net (by have := Ve.drop_ne (l := Si.netT s) (fun e => by have h9 := G3.out; rw [e] at h9; simp at h9); rw [G3.out] at this; exact this)) (by decide))
      have HV := Lib.hid hV
      clear hV
      go_upto_region 44 with fail
      rw [← HV.out]
      have q0 : V.cell? ⟨w3.heap.size, 0, none⟩ = some (.int .i64 (l3 : Int)) := cell_of_heap IC.out 0 rfl
      have q1 : V.cell? ⟨w3.heap.size, 1, none⟩ = some (.slice ta m tc) := cell_of_heap IC.out 1 rfl
      have q2 : V.cell? ⟨w3.heap.size, 2, none⟩ = some (.slice ca l3 cc) := cell_of_heap IC.out 2 rfl
      have q3 : V.cell? ⟨w3.heap.size, 3, none⟩ = some (.slice ka l3 kc) := cell_of_heap IC.out 3 rfl
      have q4 : V.cell? ⟨w3.heap.size, 4, none⟩ = some (.int .i64 (l6 : Int)) := cell_of_heap IC.out 4 rfl
      have q5 : V.cell? ⟨w3.heap.size, 5, none⟩ = some (.slice sa SL sc) := cell_of_heap IC.out 5 rfl
      have BT := Lib.hid (B3.out.trans (BV.out.mono B3.out.size))
      have IS := Lib.hid (keep_heap I3.out BV.out)
      have p0 : V.cell? ⟨w.heap.size, 0, none⟩ = some (.int .i64 s.floor.w) := cell_of_heap IS.out 0 rfl
      have p1 : V.cell? ⟨w.heap.size, 1, none⟩ = some (.int .i64 s.floor.h) := cell_of_heap IS.out 1 rfl
      have p2 : V.cell? ⟨w.heap.size, 2, none⟩ = some (.int .i64 s.floor.d) := cell_of_heap IS.out 2 rfl
      have p3 : V.cell? ⟨w.heap.size, 3, none⟩ = some (.slice a1 l1 c1) := cell_of_heap IS.out 3 rfl
      have p4 : V.cell? ⟨w.heap.size, 4, none⟩ = some (.slice a2 l2 c2) := cell_of_heap IS.out 4 rfl
      have p5 : V.cell? ⟨w.heap.size, 5, none⟩ = some (.slice a3 l3 c3) := cell_of_heap IS.out 5 rfl
      have p6 : V.cell? ⟨w.heap.size, 6, none⟩ = some (.slice a4 l4 c4) := cell_of_heap IS.out 6 rfl
      have p7 : V.cell? ⟨w.heap.size, 7, none⟩ = some (.slice a5 l5 c5) := cell_of_heap IS.out 7 rfl
      have p8 : V.cell? ⟨w.heap.size, 8, none⟩ = some (.slice a6 l6 c6) := cell_of_heap IS.out 8 rfl
      go_wp2_with fail
      go_at_call 13; refine HC.out.mono ?_; rintro e w9 ⟨rfl, b9⟩
      have BE := Lib.hid (BT.out.trans (b9.mono BT.out.size))
      clear b9
      go_wp2_with fail
      go_ret
      exact ⟨rfl, BE.out⟩
    have w3x : (WH == 3) = false := by simpa using h3
    by_cases h4 : WH = 4
    · subst h4
      by_cases hal : at' < l3
      · have d1 : ((at' : Int) ≥ (l3 : Int)) = False := by first | (simp; done) | (simp; omega)
        have d2 : decide ((at' : Int) ≥ (l3 : Int)) = false := by first | (simp; done) | (simp; omega)
        have at1 : (at' : Int) < (l3 : Int) := by omega
        have x2 : W4.cell? ⟨w3.heap.size, 2, none⟩ = some (.slice ca l3 cc) := cell_of_heap IC4.out 2 rfl
        have HOM := Lib.hid (World.ownsRow_made (base := W4.heap.size) (e := 3) (size := 1) W4 #[] 0 (Nat.le_refl _) (by unfold maxLen; omega) rfl)
        have HLN : Hid ((Si.capsL s).length = l3) := Lib.hid (by rw [Si.capsL_len]; exact E3.out)
        have HSRC := Lib.hid ((HCA.out.keep BV4.out).keep ((Below.refl _ _).alloc (Nat.le_refl _) (.cells #[] 3)))
        go_upto_region 30 with fail
        go_wp2_with (at_builtin; refine wpList_append_sl rfl (.tmp 126) (.tmp 128) 22 rfl W4.heap.size 3 (.int .i64 0) 8 Tryz.underlying22 Tryz.intInfo rfl (.slice (some ⟨W4.heap.size, 0, none⟩) 0 0) 0 [] rfl HOM.out (.slice ca l3 cc) (ints (Si.capsL s)) rfl HSRC.out ?c1 ?c2 ?c3 ?c4 ?_)
        case c1 => intro u hu; obtain ⟨x, -, rfl⟩ := List.mem_map.1 hu; rfl
        case c2 => rw [ints_len, HLN.out]; unfold maxLen; omega
        case c3 => rw [ints_len, HLN.out]; omega
        case c4 => simp
        intro v' w5 ho hg
        rw [ints_len, HLN.out] at ho
        obtain ⟨g, cap, cur, rfl, hgb, hgh⟩ := own_pos ho (by omega)
        have B45 : Hid (Below W4.heap.size W4 w5) := Lib.hid (((Below.refl _ W4).alloc (Nat.le_refl _) (.cells #[] 3)).trans (below_own HOM.out hg (Nat.le_refl _) (by simp)))
        have HO5 := Lib.hid ho
        have IC5 := Lib.hid (keep_heap IC4.out B45.out)
        have y2 : w5.cell? ⟨w3.heap.size, 2, none⟩ = some (.slice ca l3 cc) := cell_of_heap IC5.out 2 rfl
        have f2 : w5.frozen? ⟨w3.heap.size, 2, none⟩ = false := free_of_heap IC5.out 2
        obtain ⟨W6, hW6⟩ : ∃ W, W = w5.setCell ⟨w3.heap.size, 2, none⟩ (.slice (some ⟨g, 0, none⟩) l3 cap) := ⟨_, rfl⟩
        have IC6 : Hid (W6.heap[w3.heap.size]? = some (.cells #[.int .i64 (l3 : Int), .slice ta TL tc, .slice (some ⟨g, 0, none⟩) l3 cap, .slice ka l3 kc, .int .i64 (l6 : Int), .slice sa SL sc] 38 (0, 0))) := Lib.hid (by rw [hW6]; exact set_heap IC5.out 2 _)
        have HO6 : Hid (W6.ownsRow W4.heap.size 3 1 (.slice (some ⟨g, 0, none⟩) l3 cap) l3 (ints (Si.capsL s))) := Lib.hid (by rw [hW6]; exact own_set HO5.out IC5.out (by decide) 2 _)
        have B36 : Hid (Below w3.heap.size w3 W6) := Lib.hid (by rw [hW6]; exact (BV4.out.trans (B45.out.mono BV4.out.size)).setCell (Nat.le_refl _) _)
        have HW6 := Lib.hid hW6
        clear hW6 ho hg hgh x2
        obtain ⟨g2, cap2, cur2, e2, hgb2, hgh2⟩ := own_pos HO6.out (by omega)
        injection e2 with e2 _ e3; injection e2 with e2; injection e2 with e2 _; subst e2 e3
        have HGH := Lib.hid hgh2
        have HIS6 : Hid (Is W6 (.slice (some ⟨g, 0, none⟩) l3 cap) (Si.capsL s)) := Lib.hid (Sl.of_own HO6.out (own_max HO6.out))
        have hal2 : at' < (Si.capsL s).length := by rw [HLN.out]; exact hal
        obtain ⟨b9, o9, e9, c9⟩ := HIS6.out.cell at' hal2
        injection e9 with e9; injection e9 with e9 e8; subst e9 e8
        rw [Nat.zero_add] at c9
        have HXN := Lib.hid (fun (x : Int) (h : x ≠ (Si.capsL s)[at']) => Ve.set_ne (l := Si.capsL s) (i := at') (x := x) hal2 h)
        have hx64 : -9223372036854775808 ≤ (Si.capsL s)[at'] ∧ (Si.capsL s)[at'] ≤ 9223372036854775807 := by have := (caps_small HF.out.ok) _ (List.getElem_mem hal2); omega
        obtain ⟨X, hX⟩ : ∃ x, (Si.capsL s)[at'] = x := ⟨_, rfl⟩
        rw [hX] at c9 HXN hx64
        have HWN := Lib.hid (wrap_ne (x := X) (m := MO) hx64 HMO.out HM0.out)
        obtain ⟨R', hR'⟩ : ∃ x, IntKind.i64.wrap (X + MO) = x := ⟨_, rfl⟩
        rw [hR'] at HWN
        have f9 : W6.frozen? ⟨g, at', none⟩ = false := free_of_heap HGH.out at'
        have x6 : W6.cell? ⟨w3.heap.size, 2, none⟩ = some (.slice (some ⟨g, 0, none⟩) l3 cap) := cell_of_heap IC6.out 2 rfl
        have lW6 : w3.heap.size < W6.heap.size := heap_lt IC6.out
        obtain ⟨V, hV⟩ : ∃ V, V = (W6.setCell ⟨g, at', none⟩ (.int .i64 R')).drew := ⟨_, rfl⟩
        have BV : Hid (Below w3.heap.size w3 V) := Lib.hid (by rw [hV]; exact (B36.out.setCell (p := ⟨g, at', none⟩) (by show w3.heap.size ≤ g; omega) _).trans (below_drewN _ _ 1))
        have IC : Hid (V.heap[w3.heap.size]? = some (.cells #[.int .i64 (l3 : Int), .slice ta TL tc, .slice (some ⟨g, 0, none⟩) l3 cap, .slice ka l3 kc, .int .i64 (l6 : Int), .slice sa SL sc] 38 (0, 0))) := Lib.hid (by rw [hV]; exact (heap_setCell_other _ _ _ _ (by show w3.heap.size ≠ g; omega)).trans IC6.out)
        have HISV : Hid (Is V (.slice (some ⟨g, 0, none⟩) l3 cap) ((Si.capsL s).set at' R')) := Lib.hid (by rw [hV]; exact (Is.set1 HIS6.out HGH.out at' R').keep (below_drewN _ _ 1))
        have HC := Lib.hid (HCK.out HF.out { Ve.right s sl with caps := (Si.capsL s).set at' R' } sl (.slice ta TL tc) (.slice (some ⟨g, 0, none⟩) l3 cap) (.slice ka l3 kc) (.slice sa SL sc) (l3 : Int) (l6 : Int) 2 V (B3.out.trans (BV.out.mono B3.out.size)) (by show (s.zones.length : Int) = l3; rw [E3.out]) (by show (s.robots.length : Int) = l6; rw [E6.out]) ⟨HTR.out.keep BV.out, HISV.out, HKE.out.keep BV.out, HSI.out.keep BV.out⟩ (by have := HSL.out; rw [E3.out] at this; exact this) (Ve.refuse_caps (by rw [List.length_set, HLN.out, E3.out]) (HXN.out _ HWN.out)) (by decide))
        have HV := Lib.hid hV
        clear hV hX hx64 hgh2 hal
        go_upto_region 31 with fail
        rw [← HW6.out]
        clear y2 f2
        go_still_tail 11, (by kernel_rfl)
        change wpList _ _ _ _ _ W6.drew
        have c9 : W6.drew.cell? ⟨g, at', none⟩ = some (.int .i64 X) := c9
        have f9 : W6.drew.frozen? ⟨g, at', none⟩ = false := f9
        go_upto_region 44 with fail
        rw [← HV.out]
        have q0 : V.cell? ⟨w3.heap.size, 0, none⟩ = some (.int .i64 (l3 : Int)) := cell_of_heap IC.out 0 rfl
        have q1 : V.cell? ⟨w3.heap.size, 1, none⟩ = some (.slice ta TL tc) := cell_of_heap IC.out 1 rfl
        have q2 : V.cell? ⟨w3.heap.size, 2, none⟩ = some (.slice (some ⟨g, 0, none⟩) l3 cap) := cell_of_heap IC.out 2 rfl
        have q3 : V.cell? ⟨w3.heap.size, 3, none⟩ = some (.slice ka l3 kc) := cell_of_heap IC.out 3 rfl
        have q4 : V.cell? ⟨w3.heap.size, 4, none⟩ = some (.int .i64 (l6 : Int)) := cell_of_heap IC.out 4 rfl
        have q5 : V.cell? ⟨w3.heap.size, 5, none⟩ = some (.slice sa SL sc) := cell_of_heap IC.out 5 rfl
        have BT := Lib.hid (B3.out.trans (BV.out.mono B3.out.size))
        have IS := Lib.hid (keep_heap I3.out BV.out)
        have p0 : V.cell? ⟨w.heap.size, 0, none⟩ = some (.int .i64 s.floor.w) := cell_of_heap IS.out 0 rfl
        have p1 : V.cell? ⟨w.heap.size, 1, none⟩ = some (.int .i64 s.floor.h) := cell_of_heap IS.out 1 rfl
        have p2 : V.cell? ⟨w.heap.size, 2, none⟩ = some (.int .i64 s.floor.d) := cell_of_heap IS.out 2 rfl
        have p3 : V.cell? ⟨w.heap.size, 3, none⟩ = some (.slice a1 l1 c1) := cell_of_heap IS.out 3 rfl
        have p4 : V.cell? ⟨w.heap.size, 4, none⟩ = some (.slice a2 l2 c2) := cell_of_heap IS.out 4 rfl
        have p5 : V.cell? ⟨w.heap.size, 5, none⟩ = some (.slice a3 l3 c3) := cell_of_heap IS.out 5 rfl
        have p6 : V.cell? ⟨w.heap.size, 6, none⟩ = some (.slice a4 l4 c4) := cell_of_heap IS.out 6 rfl
        have p7 : V.cell? ⟨w.heap.size, 7, none⟩ = some (.slice a5 l5 c5) := cell_of_heap IS.out 7 rfl
        have p8 : V.cell? ⟨w.heap.size, 8, none⟩ = some (.slice a6 l6 c6) := cell_of_heap IS.out 8 rfl
        go_wp2_with fail
        go_at_call 13; refine HC.out.mono ?_; rintro e w9 ⟨rfl, b9⟩
        have BE := Lib.hid (BT.out.trans (b9.mono BT.out.size))
        clear b9
        go_wp2_with fail
        go_ret
        exact ⟨rfl, BE.out⟩
      · have d1 : ((at' : Int) ≥ (l3 : Int)) = True := by first | (simp; done) | (simp; omega)
        have d2 : decide ((at' : Int) ≥ (l3 : Int)) = true := by first | (simp; done) | (simp; omega)
        have x2 : W4.cell? ⟨w3.heap.size, 2, none⟩ = some (.slice ca l3 cc) := cell_of_heap IC4.out 2 rfl
        clear hal
        go_wp2_with fail
        go_ret
        exact ⟨rfl, B3.out.trans (BV4.out.mono B3.out.size)⟩
    have w4x : (WH == 4) = false := by simpa using h4
    by_cases h5 : WH = 5
    · subst h5
      by_cases hal : at' < l3
      · have d1 : ((at' : Int) ≥ (l3 : Int)) = False := by first | (simp; done) | (simp; omega)
        have d2 : decide ((at' : Int) ≥ (l3 : Int)) = false := by first | (simp; done) | (simp; omega)
        have at1 : (at' : Int) < (l3 : Int) := by omega
        have x2 : W4.cell? ⟨w3.heap.size, 3, none⟩ = some (.slice ka l3 kc) := cell_of_heap IC4.out 3 rfl
        have HOM := Lib.hid (World.ownsRow_made (base := W4.heap.size) (e := 3) (size := 1) W4 #[] 0 (Nat.le_refl _) (by unfold maxLen; omega) rfl)
        have HLN : Hid ((Ve.keepsL s).length = l3) := Lib.hid (by rw [Ve.keepsL_len]; exact E3.out)
        have HSRC := Lib.hid ((HKE.out.keep BV4.out).keep ((Below.refl _ _).alloc (Nat.le_refl _) (.cells #[] 3)))
        go_upto_region 36 with fail
        go_wp2_with (at_builtin; refine wpList_append_sl rfl (.tmp 150) (.tmp 152) 22 rfl W4.heap.size 3 (.int .i64 0) 8 Tryz.underlying22 Tryz.intInfo rfl (.slice (some ⟨W4.heap.size, 0, none⟩) 0 0) 0 [] rfl HOM.out (.slice ka l3 kc) (ints (Ve.keepsL s)) rfl HSRC.out ?c1 ?c2 ?c3 ?c4 ?_)
        case c1 => intro u hu; obtain ⟨x, -, rfl⟩ := List.mem_map.1 hu; rfl
        case c2 => rw [ints_len, HLN.out]; unfold maxLen; omega
        case c3 => rw [ints_len, HLN.out]; omega
        case c4 => simp
        intro v' w5 ho hg
        rw [ints_len, HLN.out] at ho
        obtain ⟨g, cap, cur, rfl, hgb, hgh⟩ := own_pos ho (by omega)
        have B45 : Hid (Below W4.heap.size W4 w5) := Lib.hid (((Below.refl _ W4).alloc (Nat.le_refl _) (.cells #[] 3)).trans (below_own HOM.out hg (Nat.le_refl _) (by simp)))
        have HO5 := Lib.hid ho
        have IC5 := Lib.hid (keep_heap IC4.out B45.out)
        have y2 : w5.cell? ⟨w3.heap.size, 3, none⟩ = some (.slice ka l3 kc) := cell_of_heap IC5.out 3 rfl
        have f2 : w5.frozen? ⟨w3.heap.size, 3, none⟩ = false := free_of_heap IC5.out 3
        obtain ⟨W6, hW6⟩ : ∃ W, W = w5.setCell ⟨w3.heap.size, 3, none⟩ (.slice (some ⟨g, 0, none⟩) l3 cap) := ⟨_, rfl⟩
        have IC6 : Hid (W6.heap[w3.heap.size]? = some (.cells #[.int .i64 (l3 : Int), .slice ta TL tc, .slice ca l3 cc, .slice (some ⟨g, 0, none⟩) l3 cap, .int .i64 (l6 : Int), .slice sa SL sc] 38 (0, 0))) := Lib.hid (by rw [hW6]; exact set_heap IC5.out 3 _)
        have HO6 : Hid (W6.ownsRow W4.heap.size 3 1 (.slice (some ⟨g, 0, none⟩) l3 cap) l3 (ints (Ve.keepsL s))) := Lib.hid (by rw [hW6]; exact own_set HO5.out IC5.out (by decide) 3 _)
        have B36 : Hid (Below w3.heap.size w3 W6) := Lib.hid (by rw [hW6]; exact (BV4.out.trans (B45.out.mono BV4.out.size)).setCell (Nat.le_refl _) _)
        have HW6 := Lib.hid hW6
        clear hW6 ho hg hgh x2
        obtain ⟨g2, cap2, cur2, e2, hgb2, hgh2⟩ := own_pos HO6.out (by omega)
        injection e2 with e2 _ e3; injection e2 with e2; injection e2 with e2 _; subst e2 e3
        have HGH := Lib.hid hgh2
        have HIS6 : Hid (Is W6 (.slice (some ⟨g, 0, none⟩) l3 cap) (Ve.keepsL s)) := Lib.hid (Sl.of_own HO6.out (own_max HO6.out))
        have hal2 : at' < (Ve.keepsL s).length := by rw [HLN.out]; exact hal
        obtain ⟨b9, o9, e9, c9⟩ := HIS6.out.cell at' hal2
        injection e9 with e9; injection e9 with e9 e8; subst e9 e8
        rw [Nat.zero_add] at c9
        have HXN := Lib.hid (fun (x : Int) (h : x ≠ (Ve.keepsL s)[at']) => Ve.set_ne (l := Ve.keepsL s) (i := at') (x := x) hal2 h)
        have hx64 : -9223372036854775808 ≤ (Ve.keepsL s)[at'] ∧ (Ve.keepsL s)[at'] ≤ 9223372036854775807 := by have := (keeps_small HF.out.ok) _ (List.getElem_mem hal2); omega
        obtain ⟨X, hX⟩ : ∃ x, (Ve.keepsL s)[at'] = x := ⟨_, rfl⟩
        rw [hX] at c9 HXN hx64
        have HWN := Lib.hid (wrap_ne (x := X) (m := MO) hx64 HMO.out HM0.out)
        obtain ⟨R', hR'⟩ : ∃ x, IntKind.i64.wrap (X + MO) = x := ⟨_, rfl⟩
        rw [hR'] at HWN
        have f9 : W6.frozen? ⟨g, at', none⟩ = false := free_of_heap HGH.out at'
        have x6 : W6.cell? ⟨w3.heap.size, 3, none⟩ = some (.slice (some ⟨g, 0, none⟩) l3 cap) := cell_of_heap IC6.out 3 rfl
        have lW6 : w3.heap.size < W6.heap.size := heap_lt IC6.out
        obtain ⟨V, hV⟩ : ∃ V, V = (W6.setCell ⟨g, at', none⟩ (.int .i64 R')).drew := ⟨_, rfl⟩
        have BV : Hid (Below w3.heap.size w3 V) := Lib.hid (by rw [hV]; exact (B36.out.setCell (p := ⟨g, at', none⟩) (by show w3.heap.size ≤ g; omega) _).trans (below_drewN _ _ 1))
        have IC : Hid (V.heap[w3.heap.size]? = some (.cells #[.int .i64 (l3 : Int), .slice ta TL tc, .slice ca l3 cc, .slice (some ⟨g, 0, none⟩) l3 cap, .int .i64 (l6 : Int), .slice sa SL sc] 38 (0, 0))) := Lib.hid (by rw [hV]; exact (heap_setCell_other _ _ _ _ (by show w3.heap.size ≠ g; omega)).trans IC6.out)
        have HISV : Hid (Is V (.slice (some ⟨g, 0, none⟩) l3 cap) ((Ve.keepsL s).set at' R')) := Lib.hid (by rw [hV]; exact (Is.set1 HIS6.out HGH.out at' R').keep (below_drewN _ _ 1))
        have HC := Lib.hid (HCK.out HF.out { Ve.right s sl with keeps := (Ve.keepsL s).set at' R' } sl (.slice ta TL tc) (.slice ca l3 cc) (.slice (some ⟨g, 0, none⟩) l3 cap) (.slice sa SL sc) (l3 : Int) (l6 : Int) 2 V (B3.out.trans (BV.out.mono B3.out.size)) (by show (s.zones.length : Int) = l3; rw [E3.out]) (by show (s.robots.length : Int) = l6; rw [E6.out]) ⟨HTR.out.keep BV.out, HCA.out.keep BV.out, HISV.out, HSI.out.keep BV.out⟩ (by have := HSL.out; rw [E3.out] at this; exact this) (Ve.refuse_keeps (by rw [List.length_set, HLN.out, E3.out]) (HXN.out _ HWN.out)) (by decide))
        have HV := Lib.hid hV
        clear hV hX hx64 hgh2 hal
        go_upto_region 37 with fail
        rw [← HW6.out]
        clear y2 f2
        go_still_tail 11, (by kernel_rfl)
        change wpList _ _ _ _ _ W6.drew
        have c9 : W6.drew.cell? ⟨g, at', none⟩ = some (.int .i64 X) := c9
        have f9 : W6.drew.frozen? ⟨g, at', none⟩ = false := f9
        go_upto_region 44 with fail
        rw [← HV.out]
        have q0 : V.cell? ⟨w3.heap.size, 0, none⟩ = some (.int .i64 (l3 : Int)) := cell_of_heap IC.out 0 rfl
        have q1 : V.cell? ⟨w3.heap.size, 1, none⟩ = some (.slice ta TL tc) := cell_of_heap IC.out 1 rfl
        have q2 : V.cell? ⟨w3.heap.size, 2, none⟩ = some (.slice ca l3 cc) := cell_of_heap IC.out 2 rfl
        have q3 : V.cell? ⟨w3.heap.size, 3, none⟩ = some (.slice (some ⟨g, 0, none⟩) l3 cap) := cell_of_heap IC.out 3 rfl
        have q4 : V.cell? ⟨w3.heap.size, 4, none⟩ = some (.int .i64 (l6 : Int)) := cell_of_heap IC.out 4 rfl
        have q5 : V.cell? ⟨w3.heap.size, 5, none⟩ = some (.slice sa SL sc) := cell_of_heap IC.out 5 rfl
        have BT := Lib.hid (B3.out.trans (BV.out.mono B3.out.size))
        have IS := Lib.hid (keep_heap I3.out BV.out)
        have p0 : V.cell? ⟨w.heap.size, 0, none⟩ = some (.int .i64 s.floor.w) := cell_of_heap IS.out 0 rfl
        have p1 : V.cell? ⟨w.heap.size, 1, none⟩ = some (.int .i64 s.floor.h) := cell_of_heap IS.out 1 rfl
        have p2 : V.cell? ⟨w.heap.size, 2, none⟩ = some (.int .i64 s.floor.d) := cell_of_heap IS.out 2 rfl
        have p3 : V.cell? ⟨w.heap.size, 3, none⟩ = some (.slice a1 l1 c1) := cell_of_heap IS.out 3 rfl
        have p4 : V.cell? ⟨w.heap.size, 4, none⟩ = some (.slice a2 l2 c2) := cell_of_heap IS.out 4 rfl
        have p5 : V.cell? ⟨w.heap.size, 5, none⟩ = some (.slice a3 l3 c3) := cell_of_heap IS.out 5 rfl
        have p6 : V.cell? ⟨w.heap.size, 6, none⟩ = some (.slice a4 l4 c4) := cell_of_heap IS.out 6 rfl
        have p7 : V.cell? ⟨w.heap.size, 7, none⟩ = some (.slice a5 l5 c5) := cell_of_heap IS.out 7 rfl
        have p8 : V.cell? ⟨w.heap.size, 8, none⟩ = some (.slice a6 l6 c6) := cell_of_heap IS.out 8 rfl
        go_wp2_with fail
        go_at_call 13; refine HC.out.mono ?_; rintro e w9 ⟨rfl, b9⟩
        have BE := Lib.hid (BT.out.trans (b9.mono BT.out.size))
        clear b9
        go_wp2_with fail
        go_ret
        exact ⟨rfl, BE.out⟩
      · have d1 : ((at' : Int) ≥ (l3 : Int)) = True := by first | (simp; done) | (simp; omega)
        have d2 : decide ((at' : Int) ≥ (l3 : Int)) = true := by first | (simp; done) | (simp; omega)
        have x2 : W4.cell? ⟨w3.heap.size, 3, none⟩ = some (.slice ka l3 kc) := cell_of_heap IC4.out 3 rfl
        clear hal
        go_wp2_with fail
        go_ret
        exact ⟨rfl, B3.out.trans (BV4.out.mono B3.out.size)⟩
    have w5 : (WH == 5) = false := by simpa using h5
    by_cases h6 : WH = 6
    · subst h6
      have q5 : W4.cell? ⟨w3.heap.size, 5, none⟩ = some (.slice sa SL sc) := cell_of_heap IC4.out 5 rfl
      have f5 : W4.frozen? ⟨w3.heap.size, 5, none⟩ = false := free_of_heap IC4.out 5
      cases SL with
      | zero =>
        go_wp2_with fail
        go_ret
        exact ⟨rfl, B3.out.trans (BV4.out.mono B3.out.size)⟩
      | succ m =>
      have z1 : (((m + 1 : Nat) : Int) == 0) = false := by simp; omega
      have z2 : (((m + 1 : Nat) : Int) - 1) = (m : Int) := by omega
      have z3 : (0 : Int) ≤ (m : Int) := by omega
      have z4 : (m : Int) ≤ (sc : Int) := by omega
      obtain ⟨V, hV⟩ : ∃ V, V = W4.setCell ⟨w3.heap.size, 5, none⟩ (.slice sa m sc) := ⟨_, rfl⟩
      have BV : Hid (Below w3.heap.size w3 V) := Lib.hid (by rw [hV]; exact BV4.out.setCell (Nat.le_refl _) _)
      have IC : Hid (V.heap[w3.heap.size]? = some (.cells #[.int .i64 (l3 : Int), .slice ta TL tc, .slice ca l3 cc, .slice ka l3 kc, .int .i64 (l6 : Int), .slice sa m sc] 38 (0, 0))) := Lib.hid (by rw [hV]; exact set_heap IC4.out 5 _)
      have HC := Lib.hid (HCK.out HF.out { Ve.right s sl with sips := (Ve.sipL sl).take m } sl (.slice ta TL tc) (.slice ca l3 cc) (.slice ka l3 kc) (.slice sa m sc) (l3 : Int) (l6 : Int) 3 V (B3.out.trans (BV.out.mono B3.out.size)) (by show (s.zones.length : Int) = l3; rw [E3.out]) (by show (s.robots.length : Int) = l6; rw [E6.out]) ⟨HTR.out.keep BV.out, HCA.out.keep BV.out, HKE.out.keep BV.out, (HSI.out.keep BV.out).take m (by omega)⟩ (by have := HSL.out; rw [E3.out] at this; exact this) (Ve.refuse_sips (by have := Ve.drop_ne (l := Ve.sipL sl) (fun e => by have h9 := G4.out; rw [e] at h9; simp at h9); rw [G4.out] at this; exact this)) (by decide))
      have HV := Lib.hid hV
      clear hV
      go_upto_region 44 with fail
      rw [← HV.out]
      have q0 : V.cell? ⟨w3.heap.size, 0, none⟩ = some (.int .i64 (l3 : Int)) := cell_of_heap IC.out 0 rfl
      have q1 : V.cell? ⟨w3.heap.size, 1, none⟩ = some (.slice ta TL tc) := cell_of_heap IC.out 1 rfl
      have q2 : V.cell? ⟨w3.heap.size, 2, none⟩ = some (.slice ca l3 cc) := cell_of_heap IC.out 2 rfl
      have q3 : V.cell? ⟨w3.heap.size, 3, none⟩ = some (.slice ka l3 kc) := cell_of_heap IC.out 3 rfl
      have q4 : V.cell? ⟨w3.heap.size, 4, none⟩ = some (.int .i64 (l6 : Int)) := cell_of_heap IC.out 4 rfl
      have q5 : V.cell? ⟨w3.heap.size, 5, none⟩ = some (.slice sa m sc) := cell_of_heap IC.out 5 rfl
      have BT := Lib.hid (B3.out.trans (BV.out.mono B3.out.size))
      have IS := Lib.hid (keep_heap I3.out BV.out)
      have p0 : V.cell? ⟨w.heap.size, 0, none⟩ = some (.int .i64 s.floor.w) := cell_of_heap IS.out 0 rfl
      have p1 : V.cell? ⟨w.heap.size, 1, none⟩ = some (.int .i64 s.floor.h) := cell_of_heap IS.out 1 rfl
      have p2 : V.cell? ⟨w.heap.size, 2, none⟩ = some (.int .i64 s.floor.d) := cell_of_heap IS.out 2 rfl
      have p3 : V.cell? ⟨w.heap.size, 3, none⟩ = some (.slice a1 l1 c1) := cell_of_heap IS.out 3 rfl
      have p4 : V.cell? ⟨w.heap.size, 4, none⟩ = some (.slice a2 l2 c2) := cell_of_heap IS.out 4 rfl
      have p5 : V.cell? ⟨w.heap.size, 5, none⟩ = some (.slice a3 l3 c3) := cell_of_heap IS.out 5 rfl
      have p6 : V.cell? ⟨w.heap.size, 6, none⟩ = some (.slice a4 l4 c4) := cell_of_heap IS.out 6 rfl
      have p7 : V.cell? ⟨w.heap.size, 7, none⟩ = some (.slice a5 l5 c5) := cell_of_heap IS.out 7 rfl
      have p8 : V.cell? ⟨w.heap.size, 8, none⟩ = some (.slice a6 l6 c6) := cell_of_heap IS.out 8 rfl
      go_wp2_with fail
      go_at_call 13; refine HC.out.mono ?_; rintro e w9 ⟨rfl, b9⟩
      have BE := Lib.hid (BT.out.trans (b9.mono BT.out.size))
      clear b9
      go_wp2_with fail
      go_ret
      exact ⟨rfl, BE.out⟩
    have w6 : (WH == 6) = false := by simpa using h6
    have q2 : W4.cell? ⟨w3.heap.size, 2, none⟩ = some (.slice ca l3 cc) := cell_of_heap IC4.out 2 rfl
    have f2 : W4.frozen? ⟨w3.heap.size, 2, none⟩ = false := free_of_heap IC4.out 2
    clear h0 h1 h2 h3 h4 h5 h6
    by_cases hl0 : l3 = 0
    · have z1 : ((l3 : Int) == 0) = true := by simp; omega
      clear hl0
      go_wp2_with fail
      go_ret
      exact ⟨rfl, B3.out.trans (BV4.out.mono B3.out.size)⟩
    · obtain ⟨m, hm⟩ : ∃ m, l3 = m + 1 := ⟨l3 - 1, by omega⟩
      have HM1 := Lib.hid hm
      have z1 : ((l3 : Int) == 0) = false := by simp; omega
      have z2 : ((l3 : Int) - 1) = (m : Int) := by omega
      have z4 : (m : Int) ≤ (cc : Int) := by omega
      have hml : m ≤ l3 := by omega
      clear hl0 hm
      have z3 : (0 : Int) ≤ (m : Int) := by omega
      obtain ⟨V, hV⟩ : ∃ V, V = W4.setCell ⟨w3.heap.size, 2, none⟩ (.slice ca m cc) := ⟨_, rfl⟩
      have BV : Hid (Below w3.heap.size w3 V) := Lib.hid (by rw [hV]; exact BV4.out.setCell (Nat.le_refl _) _)
      have IC : Hid (V.heap[w3.heap.size]? = some (.cells #[.int .i64 (l3 : Int), .slice ta TL tc, .slice ca m cc, .slice ka l3 kc, .int .i64 (l6 : Int), .slice sa SL sc] 38 (0, 0))) := Lib.hid (by rw [hV]; exact set_heap IC4.out 2 _)
      have HC := Lib.hid (HCK.out HF.out { Ve.right s sl with caps := (Si.capsL s).take m } sl (.slice ta TL tc) (.slice ca m cc) (.slice ka l3 kc) (.slice sa SL sc) (l3 : Int) (l6 : Int) 0 V (B3.out.trans (BV.out.mono B3.out.size)) (by show (s.zones.length : Int) = (l3 : Int); rw [E3.out]) (by show (s.robots.length : Int) = l6; rw [E6.out]) ⟨HTR.out.keep BV.out, (HCA.out.keep BV.out).take m hml, HKE.out.keep BV.out, HSI.out.keep BV.out⟩ (by have := HSL.out; rw [E3.out] at this; exact this) (Ve.refuse_capsLen (by rw [List.length_take, Si.capsL_len, E3.out]; have := HM1.out; omega)) (by decide))
      have HV := Lib.hid hV
      clear hV
      go_upto_region 44 with fail
      rw [← HV.out]
      have q0 : V.cell? ⟨w3.heap.size, 0, none⟩ = some (.int .i64 (l3 : Int)) := cell_of_heap IC.out 0 rfl
      have q1 : V.cell? ⟨w3.heap.size, 1, none⟩ = some (.slice ta TL tc) := cell_of_heap IC.out 1 rfl
      have q2 : V.cell? ⟨w3.heap.size, 2, none⟩ = some (.slice ca m cc) := cell_of_heap IC.out 2 rfl
      have q3 : V.cell? ⟨w3.heap.size, 3, none⟩ = some (.slice ka l3 kc) := cell_of_heap IC.out 3 rfl
      have q4 : V.cell? ⟨w3.heap.size, 4, none⟩ = some (.int .i64 (l6 : Int)) := cell_of_heap IC.out 4 rfl
      have q5 : V.cell? ⟨w3.heap.size, 5, none⟩ = some (.slice sa SL sc) := cell_of_heap IC.out 5 rfl
      have BT := Lib.hid (B3.out.trans (BV.out.mono B3.out.size))
      have IS := Lib.hid (keep_heap I3.out BV.out)
      have p0 : V.cell? ⟨w.heap.size, 0, none⟩ = some (.int .i64 s.floor.w) := cell_of_heap IS.out 0 rfl
      have p1 : V.cell? ⟨w.heap.size, 1, none⟩ = some (.int .i64 s.floor.h) := cell_of_heap IS.out 1 rfl
      have p2 : V.cell? ⟨w.heap.size, 2, none⟩ = some (.int .i64 s.floor.d) := cell_of_heap IS.out 2 rfl
      have p3 : V.cell? ⟨w.heap.size, 3, none⟩ = some (.slice a1 l1 c1) := cell_of_heap IS.out 3 rfl
      have p4 : V.cell? ⟨w.heap.size, 4, none⟩ = some (.slice a2 l2 c2) := cell_of_heap IS.out 4 rfl
      have p5 : V.cell? ⟨w.heap.size, 5, none⟩ = some (.slice a3 l3 c3) := cell_of_heap IS.out 5 rfl
      have p6 : V.cell? ⟨w.heap.size, 6, none⟩ = some (.slice a4 l4 c4) := cell_of_heap IS.out 6 rfl
      have p7 : V.cell? ⟨w.heap.size, 7, none⟩ = some (.slice a5 l5 c5) := cell_of_heap IS.out 7 rfl
      have p8 : V.cell? ⟨w.heap.size, 8, none⟩ = some (.slice a6 l6 c6) := cell_of_heap IS.out 8 rfl
      go_wp2_with fail
      go_at_call 13; refine HC.out.mono ?_; rintro e w9 ⟨rfl, b9⟩
      have BE := Lib.hid (BT.out.trans (b9.mono BT.out.size))
      clear b9
      go_wp2_with fail
      go_ret
      exact ⟨rfl, BE.out⟩
end Go.Proofs.YtfcbcpfnaadpeaaGreatDoor
