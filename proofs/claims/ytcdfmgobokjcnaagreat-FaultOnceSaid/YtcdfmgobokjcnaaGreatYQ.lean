/- Parts Hv, Hx, Hy of this claim, laid one behind the other: walks and the plain laws behind them; each contract states its own conditions. -/
import Derived.Test.YtcdfmgobokjcnaaGreatYN
import Derived.Test.YtcdfmgobokjcnaaGreatYP
import Derived.Test.YtcdfmgobokjcnaaGreatYO
import Derived.Maps.AppendAt
/- A row put in among rows of k cells. -/
namespace Go.Proofs.YtcdfmgobokjcnaaGreat
theorem flat_takeK {k : Nat} {rows : List (List Value)} (hr : ∀ r ∈ rows, r.length = k) {i : Nat} (hi : i ≤ rows.length) : rows.flatten.take (i * k) = (rows.take i).flatten ∧ rows.flatten.drop (i * k) = (rows.drop i).flatten := by
  have hl : (rows.take i).flatten.length = i * k := by
    rw [flat_len _ (fun r h => hr r (List.mem_of_mem_take h)), List.length_take, Nat.min_eq_left hi]
  have e : rows.flatten = (rows.take i).flatten ++ (rows.drop i).flatten := by rw [← List.flatten_append, List.take_append_drop]
  rw [e]
  exact ⟨List.take_left' hl, List.drop_left' hl⟩
theorem flat_insK {k : Nat} {rows : List (List Value)} (hr : ∀ r ∈ rows, r.length = k) {i : Nat} (hi : i ≤ rows.length) (x : List Value) :
    (rows.take i ++ x :: rows.drop i).flatten = rows.flatten.take (i * k) ++ (x ++ rows.flatten.drop (i * k)) := by
  obtain ⟨h1, h2⟩ := flat_takeK hr hi
  rw [h1, h2, List.flatten_append, List.flatten_cons]
end Go.Proofs.YtcdfmgobokjcnaaGreat
/- slices.Insert at stuck lifts of a call's own: an own row of the list with the element put in. -/
namespace Go.Proofs.YtcdfmgobokjcnaaGreat
set_option linter.unusedSimpArgs false
set_option linter.unusedVariables false
open Go.RowKit
theorem list_put {α : Type} (l r : List α) (o : Nat) (v : α) (h : o + (r.length + 1) ≤ l.length) :
    (l.set o v).take (o + 1) ++ r ++ (l.set o v).drop (o + 1 + r.length) = l.take o ++ (v :: r) ++ l.drop (o + (v :: r).length) := by
  have e1 : (l.set o v).take (o + 1) = l.take o ++ [v] := by
    rw [List.take_succ_eq_append_getElem (by rw [List.length_set]; omega), List.getElem_set_self]
    rw [List.take_set, List.set_eq_of_length_le (by rw [List.length_take]; omega)]
  have e2 : (l.set o v).drop (o + 1 + r.length) = l.drop (o + (v :: r).length) := by
    rw [List.drop_set, if_pos (by omega), List.length_cons]
    congr 1; omega
  rw [e1, e2]; simp
theorem setCells_heap {g : Nat} {T : TypeId} : ∀ (vs : List Value) (o : Nat) (w : World) (cur : Array Value), w.heap[g]? = some (.cells cur T (0, 0)) → o + vs.length ≤ cur.size →
    ∃ cur', (w.setCells g o vs).heap[g]? = some (.cells cur' T (0, 0)) ∧ cur'.size = cur.size ∧ cur'.toList = cur.toList.take o ++ vs ++ cur.toList.drop (o + vs.length)
  | [], o, w, cur, h, _ => ⟨cur, h, rfl, by simp⟩
  | v :: r, o, w, cur, h, hl => by
    rw [List.length_cons] at hl
    obtain ⟨c2, h1, h2, h3⟩ := setCells_heap r (o + 1) _ _ (set_heap h o v) (by rw [Array.size_setIfInBounds]; omega)
    refine ⟨c2, h1, by rw [h2, Array.size_setIfInBounds], ?_⟩
    rw [h3, Array.toList_setIfInBounds]
    exact list_put _ _ _ _ (by rw [Array.length_toList]; omega)
theorem grown_setCells {w0 : World} {row : Option Nat} {g : Nat} (hr : row = some g ∨ w0.heap.size ≤ g) : ∀ (vs : List Value) (o : Nat) (w : World), w0.grownBy w row → w0.grownBy (w.setCells g o vs) row
  | [], _, _, h => h
  | v :: r, o, w, h => grown_setCells hr r (o + 1) _ ⟨h.os, h.tape, h.output, by have := h.size; simpa [World.setCell] using this, fun k hk hn =>
      (heap_setCell_other w ⟨g, o, none⟩ k v (by intro e; have e : k = g := e; subst e; rcases hr with rfl | h; exact hn rfl; omega)).trans (h.block k hk hn)⟩
theorem ins_list {α : Type} (cur xs ts vs : List α) (i n : Nat) (hx : xs = cur.take (n * 2)) (hl : (n + 1) * 2 ≤ cur.length) (hi : i ≤ n) (hv : vs.length = 2)
    (ht : ts = xs.take (i * 2) ++ (vs ++ xs.drop (i * 2))) (c1 c2 : List α) (h1 : c1 = cur.take ((i + 1) * 2) ++ xs.drop (i * 2) ++ cur.drop ((i + 1) * 2 + (xs.drop (i * 2)).length)) (h2 : c2 = c1.take (i * 2) ++ vs ++ c1.drop (i * 2 + vs.length)) :
    c2.take ((n + 1) * 2) = ts := by
  have hxl : xs.length = n * 2 := by rw [hx, List.length_take]; omega
  have hdl : (xs.drop (i * 2)).length = (n - i) * 2 := by rw [List.length_drop, hxl]; omega
  have a1 : c1.take (i * 2) = xs.take (i * 2) := by
    rw [h1, List.append_assoc, List.take_append_of_le_length (by rw [List.length_take]; omega), List.take_take, hx, List.take_take]
    congr 1; omega
  have a2 : c1.drop (i * 2 + vs.length) = xs.drop (i * 2) ++ cur.drop ((i + 1) * 2 + (xs.drop (i * 2)).length) := by
    rw [h1, List.append_assoc]
    exact List.drop_left' (by rw [List.length_take, hv]; omega)
  rw [h2, a1, a2, ht, List.append_assoc, ← List.append_assoc vs, ← List.append_assoc]
  refine List.take_left' ?_
  simp only [List.length_append, List.length_take, hv, hdl, hxl]
  omega
theorem ins_list2 {α : Type} (cur xs ts vs : List α) (i n : Nat) (hxl : xs.length = n * 2) (hx : cur.take (i * 2) = xs.take (i * 2)) (hl : (n + 1) * 2 ≤ cur.length) (hi : i ≤ n) (hv : vs.length = 2)
    (ht : ts = xs.take (i * 2) ++ (vs ++ xs.drop (i * 2))) (c1 c2 : List α) (h1 : c1 = cur.take (i * 2) ++ vs ++ cur.drop (i * 2 + vs.length)) (h2 : c2 = c1.take ((i + 1) * 2) ++ xs.drop (i * 2) ++ c1.drop ((i + 1) * 2 + (xs.drop (i * 2)).length)) :
    c2.take ((n + 1) * 2) = ts := by
  have hdl : (xs.drop (i * 2)).length = (n - i) * 2 := by rw [List.length_drop, hxl]; omega
  have a1 : c1.take ((i + 1) * 2) = xs.take (i * 2) ++ vs := by
    rw [h1, ← hx]
    exact List.take_left' (by rw [List.length_append, List.length_take, hv]; omega)
  rw [h2, a1, ht, List.append_assoc (xs.take _), ← List.append_assoc]
  refine (congrArg _ (by rw [List.append_assoc (List.take _ xs)])).trans (List.take_left' ?_)
  simp only [List.length_append, List.length_take, hv, hdl, hxl]
  omega
/-- A slice of a call's own is turned into another one: what else there is stays. -/
structure Turn (w w' : World) (v v' : Value) : Prop where
  gr : w.grownBy w' v.ownBlock
  nb : ∀ g, v'.ownBlock = some g → v.ownBlock = some g ∨ w.heap.size ≤ g
theorem Turn.trans {w w1 w2 : World} {v v1 v2 : Value} (h1 : Turn w w1 v v1) (h2 : Turn w1 w2 v1 v2) : Turn w w2 v v2 := by
  refine ⟨⟨h2.gr.os.trans h1.gr.os, h2.gr.tape.trans h1.gr.tape, h2.gr.output.trans h1.gr.output, Nat.le_trans h1.gr.size h2.gr.size, fun k hk hn => ?_⟩, fun g hg => ?_⟩
  · refine (h2.gr.block k (Nat.lt_of_lt_of_le hk h1.gr.size) (fun e => ?_)).trans (h1.gr.block k hk hn)
    rcases h1.nb k e.symm with h | h
    · exact hn h.symm
    · omega
  · rcases h2.nb g hg with h | h
    · exact h1.nb g h
    · exact .inr (Nat.le_trans h1.gr.size h)
theorem Turn.of_below {w w' : World} (v : Value) (h : Below w.heap.size w w') : Turn w w' v v :=
  ⟨⟨h.os, h.tape, h.output, h.size, fun k hk _ => h.block k hk⟩, fun g hg => .inl hg⟩
theorem Turn.refl (w : World) (v : Value) : Turn w w v v := Turn.of_below v (Below.refl _ w)
theorem spanC_one {l : List (Int × Int)} : ∀ u ∈ (l.map spanC).flatten, u.oneCell' = true := fun u hu => by
  obtain ⟨r, hr, hu⟩ := List.mem_flatten.1 hu
  obtain ⟨c, -, rfl⟩ := List.mem_map.1 hr
  simp [spanC] at hu
  rcases hu with rfl | rfl <;> rfl
set_option maxRecDepth 100000 in
theorem insS_any (l : List (Int × Int)) (kv : Value) (B i vb vc : Nat) (c n : Int) (T : TypeId) (w : World) (ho : w.ownsRow B 134 2 kv l.length (l.map spanC).flatten) (hi : i < l.length) (hl : l.length ≤ 1000000)
    (hv : w.heap[vb]? = some (.cells #[.int .i64 c, .int .i64 n] T (0, 0))) (hne : kv.ownBlock ≠ some vb) :
    Calls Tryz.prog 89 #[kv, .int .i64 i, .slice (some ⟨vb, 0, none⟩) 1 vc] w fun e w' =>
      ∃ v', e = .returned v' ∧ w'.ownsRow B 134 2 v' (l.take i ++ (c, n) :: l.drop i).length ((l.take i ++ (c, n) :: l.drop i).map spanC).flatten ∧ Turn w w' kv v' := by
  obtain ⟨hxl, ⟨-, h0⟩ | ⟨g, cap, cur, rfl, hB, hg, hnc, hcm, hcs, htk⟩⟩ := ho
  · omega
  have hgs : g < w.heap.size := heap_lt hg
  have hr : ∀ r ∈ l.map spanC, r.length = 2 := fun r hr => by obtain ⟨c, -, rfl⟩ := List.mem_map.1 hr; rfl
  have ht := flat_insK hr (i := i) (by rw [List.length_map]; omega) (spanC (c, n))
  have hll : (l.take i ++ (c, n) :: l.drop i).length = l.length + 1 := by simp; omega
  have htl : ((l.take i ++ (c, n) :: l.drop i).map spanC).flatten.length = (l.length + 1) * 2 := by
    rw [flat_len (k := 2) _ (fun r hr => by obtain ⟨c, -, rfl⟩ := List.mem_map.1 hr; rfl), List.length_map, hll]
  rw [hll]
  have htt : ((l.take i ++ (c, n) :: l.drop i).map spanC).flatten = (l.map spanC).flatten.take (i * 2) ++ (spanC (c, n) ++ (l.map spanC).flatten.drop (i * 2)) := by
    rw [List.map_append, List.map_cons, List.map_take, List.map_drop]; exact ht
  obtain ⟨ts, hts⟩ : ∃ ts, ((l.take i ++ (c, n) :: l.drop i).map spanC).flatten = ts := ⟨_, rfl⟩
  rw [hts] at htt htl ⊢
  have hone := spanC_one (l := l)
  obtain ⟨xs, hxs⟩ : ∃ xs, (l.map spanC).flatten = xs := ⟨_, rfl⟩
  rw [hxs] at htt hone htk hxl
  clear ht hts hxs hr hll
  have hcell : ∀ j v, xs[j]? = some v → w.cell? ⟨g, 0 + j, none⟩ = some v := fun j v hj => by
    rw [Nat.zero_add, cell_of_row w g j cur _ (0, 0) hg]
    rw [← htk, List.getElem?_take] at hj
    split at hj
    · simpa using hj
    · cases hj
  have hvs : ∀ j v, (spanC (c, n))[j]? = some v → w.cell? ⟨vb, 0 + j, none⟩ = some v := fun j v hj => by
    rw [Nat.zero_add, cell_of_row w vb j _ T (0, 0) hv]
    simpa [spanC] using hj
  have hone2 : ∀ u ∈ spanC (c, n), u.oneCell' = true := fun u hu => by
    simp [spanC] at hu
    rcases hu with rfl | rfl <;> rfl
  by_cases hroom : l.length + 1 ≤ cap
  · have hsz : (l.length + 1) * 2 ≤ cur.size := by rw [hcs]; omega
    refine (insS_shift g 0 l.length cap i vb 0 vc xs (spanC (c, n)) w hi hroom (by unfold maxLen at hcm; omega) (fun e => hne (by rw [e]; rfl)) hxl rfl hcell (fun j hj => by
        rw [Nat.zero_add, cell_of_row w g j cur _ (0, 0) hg, Array.getElem?_eq_getElem (by omega)]; rfl) (fun j hj => by rw [Nat.zero_add]; exact frozen_of_row w g j cur _ hg) hvs hone hone2 T 134 2 cur.size
        (by simp [World.shape?, hv]) (by simp [World.shape?, hg]) (by omega) (frozen_of_row w vb 0 _ _ hv) (frozen_of_row w vb 2 _ _ hv)).mono ?_
    rintro e w' ⟨rfl, rfl⟩
    have hdl : (xs.drop (i * 2)).length = (l.length - i) * 2 := by rw [List.length_drop, hxl]; omega
    obtain ⟨c1, g1, s1, t1⟩ := setCells_heap (xs.drop (i * 2)) (0 + (i + 1) * 2) w.drew cur hg (by rw [hdl]; omega)
    obtain ⟨c2, g2, s2, t2⟩ := setCells_heap (spanC (c, n)) (0 + i * 2) _ c1 g1 (by rw [s1]; show _ + 2 ≤ _; omega)
    rw [Nat.zero_add] at t1 t2
    refine ⟨_, rfl, ⟨htl, .inr ⟨g, cap, c2, rfl, hB, g2, hroom, hcm, by rw [s2, s1, hcs], ?_⟩⟩, ⟨?_, fun k hk => .inl hk⟩⟩
    · exact ins_list cur.toList xs ts (spanC (c, n)) i l.length htk.symm (by rw [Array.length_toList]; exact hsz) (by omega) rfl htt c1.toList c2.toList t1 t2
    · exact grown_setCells (.inl rfl) _ _ _ (grown_setCells (.inl rfl) _ _ _ ⟨rfl, rfl, rfl, Nat.le_refl _, fun _ _ _ => rfl⟩)
  · refine (insS_grow g 0 l.length cap i vb 0 vc xs (spanC (c, n)) w hi hnc (by omega) hl hxl rfl hcell hvs hone hone2).mono ?_
    rintro e w' ⟨G, ROW, hGn, hGm, hRs, hRt, rfl, rfl⟩
    have hdl : (xs.drop (i * 2)).length = (l.length - i) * 2 := by rw [List.length_drop, hxl]; omega
    have hsz : (l.length + 1) * 2 ≤ ROW.size := by rw [hRs]; omega
    have g0 : (w.drew.alloc (.cells ROW 134)).heap[w.heap.size]? = some (.cells ROW 134 (0, 0)) := heap_alloc_new w.drew _
    obtain ⟨c1, g1, s1, t1⟩ := setCells_heap (spanC (c, n)) (i * 2) _ ROW g0 (by show _ + 2 ≤ _; omega)
    obtain ⟨c2, g2, s2, t2⟩ := setCells_heap (xs.drop (i * 2)) ((i + 1) * 2) ((w.drew.alloc (.cells ROW 134)).setCells w.heap.size (i * 2) (spanC (c, n))).drew c1 g1 (by rw [s1, hdl]; omega)
    refine ⟨_, rfl, ⟨htl, .inr ⟨w.heap.size, G, c2, rfl, by omega, g2, hGn, hGm, by rw [s2, s1, hRs], ?_⟩⟩, ⟨?_, fun k hk => .inr (by injection hk with hk; dsimp only at hk; omega)⟩⟩
    · exact ins_list2 ROW.toList xs ts (spanC (c, n)) i l.length hxl hRt (by rw [Array.length_toList]; exact hsz) (by omega) rfl htt c1.toList c2.toList t1 t2
    · refine grown_setCells (.inr (Nat.le_refl _)) _ _ _ ?_
      have h0 := World.grownBy_alloc w.drew (.cells ROW 134) (some g)
      have h1 := grown_setCells (w0 := w) (row := some g) (g := w.heap.size) (.inr (Nat.le_refl _)) (spanC (c, n)) (i * 2) (w.drew.alloc (.cells ROW 134)) ⟨h0.os, h0.tape, h0.output, h0.size, h0.block⟩
      exact ⟨h1.os, h1.tape, h1.output, h1.size, h1.block⟩
end Go.Proofs.YtcdfmgobokjcnaaGreat
/- Walks of package arena: stick. -/
namespace Go.Proofs.YtcdfmgobokjcnaaGreat
set_option linter.unusedSimpArgs false
set_option linter.unusedVariables false
open Go.RowKit
theorem span_len (l : List (Int × Int)) : ∀ r ∈ l.map spanC, r.length = 2 := fun r hr => by obtain ⟨c, -, rfl⟩ := List.mem_map.1 hr; rfl
theorem span_snoc (l : List (Int × Int)) (c n : Int) : ((l ++ [(c, n)]).map spanC).flatten = (l.map spanC).flatten ++ [.int .i64 c, .int .i64 n] := by
  rw [List.map_append, List.flatten_append]; rfl
theorem span_set : ∀ (l : List (Int × Int)) (k : Nat) (hk : k < l.length) (c m : Int), l[k].1 = c → ((l.set k (c, m)).map spanC).flatten = (l.map spanC).flatten.set (k * 2 + 1) (.int .i64 m)
  | [], k, hk, _, _, _ => by simp at hk
  | x :: l, 0, _, c, m, h => by
    simp only [List.getElem_cons_zero] at h
    simp [spanC, h]
  | x :: l, k + 1, hk, c, m, h => by
    have ih := span_set l k (by simpa using hk) c m (by simpa using h)
    rw [List.set_cons_succ, List.map_cons, List.flatten_cons, ih, List.map_cons, List.flatten_cons]
    have e : (k + 1) * 2 + 1 = (k * 2 + 1) + 1 + 1 := by omega
    rw [e]; rfl
theorem Turn.at_below {w w1 w2 : World} {v v2 : Value} (hb : Below w.heap.size w w1) (h : Turn w1 w2 v v2) : Turn w w2 v v2 := (Turn.of_below v hb).trans h
set_option maxRecDepth 100000 in
set_option maxHeartbeats 16000000 in
theorem stick_any (l : List (Int × Int)) (kv : Value) (B : Nat) (c n : Int) (w : World) (ho : w.ownsRow B 134 2 kv l.length (l.map spanC).flatten) (hl : l.length ≤ 1000000) (hB : B ≤ w.heap.size) :
    Calls Tryz.prog 45 #[kv, .int .i64 c, .int .i64 n] w fun e w' => ∃ v', e = .returned v' ∧ w'.ownsRow B 134 2 v' (Bd.stickL c n l).length ((Bd.stickL c n l).map spanC).flatten ∧ Turn w w' kv v' := by
  obtain ⟨i0, hi, hz0, hz1, hz2⟩ := info_parts hkSInfo
  obtain ⟨w1, hw1⟩ : ∃ W, W = w.alloc (.cells #[.int .i64 c] 3) := ⟨_, rfl⟩
  have HA := al1 w (.cells #[.int .i64 c] 3)
  rw [← hw1] at HA
  have I1 := Lib.hid HA.1
  have B1 := Lib.hid HA.2.1
  have hB1 : B ≤ w1.heap.size := by have := HA.2.2; omega
  have O1 := Lib.hid (own_belowB ho HA.2.1)
  have HW1 := Lib.hid hw1
  have HIX := Lib.hid (indexS_any kv l w.heap.size 0 c w1 (Rw.of_own O1.out (by simp) (span_len l) (by decide)) (cell_of_heap I1.out 0 rfl))
  obtain ⟨a, cap, rfl⟩ := own_form ho
  obtain ⟨N, hN⟩ : ∃ N, l.length = N := ⟨_, rfl⟩
  rw [hN] at O1 HIX hl ⊢
  have HN := Lib.hid hN
  have HL := Lib.hid hl
  clear hw1 HA ho hN
  go_enter Tryz.func45, Tryz.ntmps45
  go_upto_region 1 with fail
  rw [← HW1.out]
  go_wp2_with fail
  go_at_call 87; refine HIX.out.mono ?_; rintro e w2 ⟨⟨r, rfl, hpl⟩, b2⟩
  have B2 := Lib.hid (B1.out.trans (b2.mono B1.out.size))
  have hB2 : B ≤ w2.heap.size := by have := b2.size; omega
  have O2 := Lib.hid (own_belowB O1.out b2)
  have x0 : w2.cell? ⟨w.heap.size, 0, none⟩ = some (.int .i64 c) := cell_of_heap (keep_heap I1.out b2) 0 rfl
  clear b2 HIX
  rcases hpl with ⟨rfl, hall⟩ | ⟨k, hk, rfl, hlt, hge⟩
  · have HE := Lib.hid (Bd.stickL_end (c := c) (n := n) hall)
    clear hall
    go_wp2_with (at_builtin; refine wpList_append_own_at _ rfl _ _ 32 rfl B 134 i0 (.agg #[.int .i64 0, .int .i64 0]) 2 16 Tryz.underlying32 hi hz0 hz1 hz2 rfl (by decide) (.slice a N cap) N _ rfl (O2.out.alloc _) ⟨w2.heap.size, 0, none⟩ 1 1 [.int .i64 c, .int .i64 n] rfl rfl ?qc2 ?qc3 ?qc4 ?qc5 ?qc6 ?_)
    case qc2 =>
      intro j u hj
      rw [Addr.add_lit]
      match j, hj with
      | 0, hj => simpa using hj
      | 1, hj => simpa using hj
    case qc3 => intro u hu; simp at hu; rcases hu with rfl | rfl <;> rfl
    case qc4 => have := HL.out; unfold maxLen; omega
    case qc5 => have := HL.out; omega
    case qc6 => simp; omega
    intro v' w3 hown hgrow hnil hat
    go_wp2_with fail
    go_ret
    refine ⟨v', rfl, ?_, ?_⟩
    · rw [HE.out, span_snoc, List.length_append, HN.out]; exact hown
    · refine Turn.at_below (B2.out.trans (((Below.refl _ w2).alloc (Nat.le_refl _) _).mono B2.out.size)) ⟨hgrow, fun g hg => ?_⟩
      rcases hat with e | e
      · rw [e] at hg; exact .inl hg
      · rw [e] at hg; injection hg with hg; exact .inr (by simp at hg ⊢; omega)
  · have hkN : k < N := by rw [← HN.out]; exact hk
    have HE := Lib.hid (Bd.stickL_at (c := c) (n := n) hk hlt hge)
    obtain ⟨g, cap2, cur, hv, hBg, hg⟩ : ∃ g cap2 cur, (Value.slice a N cap) = .slice (some ⟨g, 0, none⟩) N cap2 ∧ B ≤ g ∧ w2.heap[g]? = some (.cells cur 134 (0, 0)) := by
      rcases O2.out.2 with ⟨h, h0⟩ | ⟨g, cap2, cur, h1, h2, h3, -⟩
      · omega
      · exact ⟨g, cap2, cur, h1, h2, h3⟩
    injection hv with hv _ hv2
    subst hv hv2
    have hgl : g < w2.heap.size := heap_lt hg
    have hcx : ∀ j, j < N * 2 → w2.cell? ⟨g, j, none⟩ = (l.map spanC).flatten[j]? := fun j hj => O2.out.cellAt j hj
    have hf0 := get_flatten (l.map spanC) (span_len l) k (by simpa using hk) 0 (by omega)
    have hf1 := get_flatten (l.map spanC) (span_len l) k (by simpa using hk) 1 (by omega)
    rw [List.getElem_map] at hf0 hf1
    have c0 := (hcx (k * 2 + 0) (by omega)).trans hf0
    have c1 := (hcx (k * 2 + 1) (by omega)).trans hf1
    simp only [spanC, List.getElem?_cons_zero, List.getElem?_cons_succ, Nat.add_zero] at c0 c1
    have HSE : Hid (∀ m, l[k].1 = c → ((l.set k (c, m)).map spanC).flatten = (l.map spanC).flatten.set (k * 2 + 1) (.int .i64 m)) := Lib.hid (fun m h => span_set l k hk c m h)
    obtain ⟨X1, hX1⟩ : ∃ X, l[k].1 = X := ⟨_, rfl⟩
    obtain ⟨X2, hX2⟩ : ∃ X, l[k].2 = X := ⟨_, rfl⟩
    rw [hX1, hX2] at HE
    rw [hX1] at c0 HSE
    rw [hX2] at c1
    have k0 : (0 : Int) ≤ (k : Int) := by omega
    have k1 : (k : Int) < (N : Int) := by omega
    have k2 : ¬ (k : Int) < 0 := by omega
    have HKL := Lib.hid hk
    clear hX1 hX2 hf0 hf1 hcx hlt hge hk hg
    by_cases he : X1 = c
    · have HM := HE.out
      rw [if_pos he] at HM
      have HM2 := Lib.hid HM
      have HS2 := Lib.hid (HSE.out (max X2 n) he)
      have he1 : (X1 == c) = true := by simpa using he
      clear he
      clear HM HE HSE
      go_wp2_with fail
      go_quiet (fail)
      go_upto_region 5 with fail
      generalize hwq : w2.drewN _ = wq
      have bq : Below w2.heap.size w2 wq := by rw [← hwq]; exact below_drewN _ _ _
      have cq : wq.cell? ⟨g, k * 2 + 1, none⟩ = some (.int .i64 X2) := by rw [← hwq]; exact c1
      have BQ := Lib.hid (B2.out.trans (bq.mono B2.out.size))
      have OQ := Lib.hid (own_belowB O2.out bq)
      have HST := Lib.hid (OQ.out.stored (k * 2 + 1) (.int .i64 (max X2 n)))
      have hfz : wq.frozen? ⟨g, k * 2 + 1, none⟩ = false := OQ.out.frozenAt _
      have hgq : g < wq.heap.size := Nat.lt_of_lt_of_le hgl bq.size
      clear c0 c1 hwq bq x0
      rcases Int.lt_trichotomy X2 n with h | h | h
      · have hm : max X2 n = n := by omega
        rw [hm] at HM2 HS2 HST
        go_wp2_with fail
        go_ret
        refine ⟨_, rfl, ?_, ?_⟩
        · rw [HM2.out, HS2.out, List.length_set, HN.out]; exact HST.out.1
        · exact Turn.at_below BQ.out ⟨HST.out.2, fun g h => .inl h⟩
      · subst h
        have hm : max X2 X2 = X2 := by omega
        rw [hm] at HM2 HS2 HST
        go_wp2_with fail
        go_ret
        refine ⟨_, rfl, ?_, ?_⟩
        · rw [HM2.out, HS2.out, List.length_set, HN.out]; exact HST.out.1
        · exact Turn.at_below BQ.out ⟨HST.out.2, fun g h => .inl h⟩
      · have hm : max X2 n = X2 := by omega
        rw [hm] at HM2 HS2 HST
        go_wp2_with fail
        go_ret
        refine ⟨_, rfl, ?_, ?_⟩
        · rw [HM2.out, HS2.out, List.length_set, HN.out]; exact HST.out.1
        · exact Turn.at_below BQ.out ⟨HST.out.2, fun g h => .inl h⟩
    · have HM := HE.out
      rw [if_neg he] at HM
      have HM2 := Lib.hid HM
      clear HM HE HSE
      have he2 : (X1 == c) = false := by simpa using he
      clear he
      go_wp2_with fail
      go_quiet (fail)
      go_upto_region 7 with fail
      generalize hwq : w2.drewN _ = wq
      have bq : Below w2.heap.size w2 wq := by rw [← hwq]; exact below_drewN _ _ _
      have xq : wq.cell? ⟨w.heap.size, 0, none⟩ = some (.int .i64 c) := by rw [← hwq]; exact x0
      have BQ := Lib.hid (B2.out.trans (bq.mono B2.out.size))
      have OQ := Lib.hid (own_belowB O2.out bq)
      have hgq : g < wq.heap.size := Nat.lt_of_lt_of_le hgl bq.size
      obtain ⟨w3, hw3⟩ : ∃ W, W = wq.alloc (.cells #[.int .i64 c, .int .i64 n] 134) := ⟨_, rfl⟩
      have ga := al1 wq (.cells #[.int .i64 c, .int .i64 n] 134)
      rw [← hw3] at ga
      have BB := Lib.hid ga.2.1
      have HIN := Lib.hid (insS_any l (.slice (some ⟨g, 0, none⟩) N cap) B k wq.heap.size 1 c n 134 w3 (by rw [HN.out]; exact own_belowB OQ.out ga.2.1) HKL.out (by rw [HN.out]; exact HL.out) ga.1 (fun e => by injection e with e; dsimp only at e; omega))
      have HW3 := Lib.hid hw3
      clear hw3 ga hwq bq c0 c1 x0
      go_wp2_with fail
      rw [← HW3.out]
      go_at_call 89; refine HIN.out.mono ?_; rintro e w4 ⟨v', rfl, ho4, ht4⟩
      go_wp2_with fail
      go_ret
      refine ⟨v', rfl, by rw [HM2.out]; exact ho4, ?_⟩
      exact Turn.at_below BQ.out (Turn.at_below BB.out ht4)
end Go.Proofs.YtcdfmgobokjcnaaGreat
