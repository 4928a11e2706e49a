/- Parts AcK, AcL of this claim, laid one behind the other: walks and the plain laws behind them; each contract states its own conditions. -/
import Derived.Sort.OwnSortedInts
import Derived.Test.YtfcbcpfnaadpeaaGreatDoorMP
import Derived.Test.YtfcbcpfnaadpeaaGreatDoorTA
import Derived.Test.YtfcbcpfnaadpeaaGreatDoorAB
import Derived.Test.YtfcbcpfnaadpeaaGreatDoorAC
import Derived.Test.YtfcbcpfnaadpeaaGreatDoorAP
namespace Go.Proofs.YtfcbcpfnaadpeaaGreatDoor
set_option maxRecDepth 100000
set_option maxHeartbeats 64000000
set_option linter.unusedSimpArgs false
set_option linter.unusedVariables false
open Go.RowKit
def RwC (w : World) (v : Value) (k : Nat) (rows : List (List Value)) : Prop :=
 ∃ a cap, v = .slice a rows.length cap ∧ (a = none → rows = []) ∧ ∀ i, (h : i < rows.length) → ∃ b off, a = some ⟨b, off, none⟩ ∧ ∀ j, j < k → w.cell? ⟨b, off + i * k + j, none⟩ = rows[i][j]?
theorem Rw.rwc {w : World} {v : Value} {k : Nat} {rows : List (List Value)} (h : Rw w v k rows) : RwC w v k rows := by
 obtain ⟨a, cap, rfl, hm, hn, hc⟩ := h
 refine ⟨a, cap, rfl, fun e => ?_, fun i hi => ?_⟩
 · cases rows with
   | nil => rfl
   | cons x t => obtain ⟨b, off, h1, -⟩ := hc 0 (by simp); rw [e] at h1; cases h1
 · obtain ⟨b, off, h1, -, h3⟩ := hc i hi
   exact ⟨b, off, h1, h3⟩
def intC (c : Int) : List Value := [.int .i64 c]
theorem ints_flat : ∀ (l : List Int), ints l = (l.map intC).flatten
 | [] => rfl
 | c :: t => by rw [List.map_cons, List.flatten_cons, ← ints_flat t]; rfl
theorem Is.rwc {w : World} {v : Value} {l : List Int} (h : Is w v l) : RwC w v 1 (l.map intC) := by
 obtain ⟨a, cap, rfl, hm⟩ := h.form
 refine ⟨a, cap, by simp, fun e => ?_, fun i hi => ?_⟩
 · cases l with
   | nil => rfl
   | cons x t => obtain ⟨b, off, h1, -⟩ := h.cell 0 (by simp); rw [e] at h1; cases h1
 · obtain ⟨b, off, h1, h3⟩ := h.cell i (by simpa using hi)
   refine ⟨b, off, h1, fun j hj => ?_⟩
   obtain rfl : j = 0 := by omega
   rw [Nat.mul_one, Nat.add_zero, h3, List.getElem_map]; rfl
theorem flat_len {k : Nat} : ∀ (rows : List (List Value)), (∀ r ∈ rows, r.length = k) → rows.flatten.length = rows.length * k
 | [], _ => by simp
 | r :: t, h => by rw [List.flatten_cons, List.length_append, h r (List.mem_cons_self ..), flat_len t (fun x hx => h x (List.mem_cons_of_mem _ hx)), List.length_cons, Nat.add_mul]; omega
theorem rwc_cells {w : World} {a : Addr} {n cap k : Nat} {rows : List (List Value)} (h : RwC w (.slice (some a) n cap) k rows) (hk : 0 < k) (hr : ∀ r ∈ rows, r.length = k) (j : Nat) (u : Value) (hu : rows.flatten[j]? = some u) : w.cell? (a.add j) = some u := by
 obtain ⟨a2, cap2, e, -, hc⟩ := h
 injection e with e1 e2 e3
 subst e1
 have hj := (List.getElem?_eq_some_iff.1 hu).1
 rw [flat_len rows hr] at hj
 have hi2 : j / k < rows.length := (Nat.div_lt_iff_lt_mul hk).2 hj
 obtain ⟨b, off, h2, h3⟩ := hc (j / k) hi2
 injection h2 with h2
 subst h2
 have h4 := h3 (j % k) (Nat.mod_lt _ hk)
 have hf := get_flatten rows hr (j / k) hi2 (j % k) (Nat.mod_lt _ hk)
 have e0 : j / k * k + j % k = j := by rw [Nat.mul_comm]; exact Nat.div_add_mod j k
 rw [e0, hu] at hf
 have e2 : ((⟨b, off, none⟩ : Addr).add j) = ⟨b, off + j, none⟩ := by unfold Addr.add; split <;> simp_all
 rw [e2, show off + j = off + j / k * k + j % k by omega, h4, hf]
theorem hkIInfo : (Tryz.prog.info? 3).map (fun i => (i.zero, i.size, i.bytes)) = some (some (.int .i64 0), 1, 8) := by kernel_rfl
theorem cloneI_rows (v : Value) (rows : List (List Value)) (w : World) (h : RwC w v 1 rows) (hr : ∀ r ∈ rows, r.length = 1) (hone : ∀ u ∈ rows.flatten, u.oneCell' = true) (hm : rows.length ≤ 1000000) :
 Calls Tryz.prog 79 #[v] w fun e w' => ∃ v', e = .returned v' ∧ w'.ownsRow w.heap.size 3 1 v' rows.length rows.flatten ∧ Below w.heap.size w w' := by
 obtain ⟨i0, hi, hz0, hz1, hz2⟩ := info_parts hkIInfo
 have q22 : ∀ (w : World) (a : Option Addr) (n c n' c' : Nat), (binOp .eql 22 (.slice a n c) (.slice none n' c')).run Tryz.prog w = .ok (.bool a.isNone) w := fun w a n c n' c' => Lib.run_eql_slice_nil w _ _ a n c n' c' Tryz.underlying22
 have HR := hid h
 obtain ⟨a, cap, rfl, hn, -⟩ := h
 cases a with
 | none =>
  obtain rfl := hn rfl
  clear HR hr hone hm hn
  go_enter Tryz.func79, Tryz.ntmps79
  go_wp2
  go_ret
  exact ⟨_, rfl, World.ownsRow_nil .., Below.refl _ _⟩
 | some a =>
  have HC := hid (fun j u hu => rwc_cells HR.out (by decide) hr j u hu)
  have HL := hid (flat_len rows hr)
  have HONE := hid hone
  clear HR hr hn hone
  obtain ⟨n, en⟩ : ∃ n, rows.length = n := ⟨_, rfl⟩
  rw [en] at hm HL ⊢
  obtain ⟨fl, efl⟩ : ∃ fl, rows.flatten = fl := ⟨_, rfl⟩
  rw [efl] at HC HL HONE ⊢
  go_enter Tryz.func79, Tryz.ntmps79
  go_wp2_with (at_builtin; refine wpList_append_own _ rfl _ _ 22 rfl w.heap.size 3 i0 (.int .i64 0) 1 8 Tryz.underlying22 hi hz0 hz1 hz2 rfl (by decide) _ _ _ rfl (World.ownsRow_made w #[] 0 (Nat.le_refl _) (Nat.zero_le _) rfl) a n cap fl rfl ?qc1 ?qc2 ?qc3 ?qc4 ?qc5 ?qc6 ?_)
  case qc1 => exact HL.out
  case qc2 => exact fun j u hj => Lib.cell?_alloc_some _ (HC.out j u hj)
  case qc3 => exact HONE.out
  case qc4 => unfold maxLen; omega
  case qc5 => omega
  case qc6 => simp
  intro v' w1 hown hgrow hnil
  go_wp2
  go_ret
  refine ⟨v', rfl, by simpa using hown, ?_⟩
  exact ((Below.refl _ w).alloc (Nat.le_refl _) _).grown hgrow (by simp) (by intro k hk; simp [Value.ownBlock] at hk; omega)
theorem hkRInfo : (Tryz.prog.info? 105).map (fun i => (i.zero, i.size, i.bytes)) = some (some (.agg #[.int .i64 0, .int .i64 0, .int .i64 0, .int .i64 0, .int .i64 0, .bool false]), 6, 48) := by kernel_rfl
theorem cloneR_rows (v : Value) (rows : List (List Value)) (w : World) (h : RwC w v 6 rows) (hr : ∀ r ∈ rows, r.length = 6) (hone : ∀ u ∈ rows.flatten, u.oneCell' = true) (hm : rows.length ≤ 1000000) :
 Calls Tryz.prog 183 #[v] w fun e w' => ∃ v', e = .returned v' ∧ w'.ownsRow w.heap.size 105 6 v' rows.length rows.flatten ∧ Below w.heap.size w w' := by
 obtain ⟨i0, hi, hz0, hz1, hz2⟩ := info_parts hkRInfo
 have q22 : ∀ (w : World) (a : Option Addr) (n c n' c' : Nat), (binOp .eql 55 (.slice a n c) (.slice none n' c')).run Tryz.prog w = .ok (.bool a.isNone) w := fun w a n c n' c' => Lib.run_eql_slice_nil w _ _ a n c n' c' Tryz.underlying55
 have HR := hid h
 obtain ⟨a, cap, rfl, hn, -⟩ := h
 cases a with
 | none =>
  obtain rfl := hn rfl
  clear HR hr hone hm hn
  go_enter Tryz.func183, Tryz.ntmps183
  go_wp2
  go_ret
  exact ⟨_, rfl, World.ownsRow_nil .., Below.refl _ _⟩
 | some a =>
  have HC := hid (fun j u hu => rwc_cells HR.out (by decide) hr j u hu)
  have HL := hid (flat_len rows hr)
  have HONE := hid hone
  clear HR hr hn hone
  obtain ⟨n, en⟩ : ∃ n, rows.length = n := ⟨_, rfl⟩
  rw [en] at hm HL ⊢
  obtain ⟨fl, efl⟩ : ∃ fl, rows.flatten = fl := ⟨_, rfl⟩
  rw [efl] at HC HL HONE ⊢
  go_enter Tryz.func183, Tryz.ntmps183
  go_wp2_with (at_builtin; refine wpList_append_own _ rfl _ _ 55 rfl w.heap.size 105 i0 (.agg #[.int .i64 0, .int .i64 0, .int .i64 0, .int .i64 0, .int .i64 0, .bool false]) 6 48 Tryz.underlying55 hi hz0 hz1 hz2 rfl (by decide) _ _ _ rfl (World.ownsRow_made w #[] 0 (Nat.le_refl _) (Nat.zero_le _) rfl) a n cap fl rfl ?qc1 ?qc2 ?qc3 ?qc4 ?qc5 ?qc6 ?_)
  case qc1 => exact HL.out
  case qc2 => exact fun j u hj => Lib.cell?_alloc_some _ (HC.out j u hj)
  case qc3 => exact HONE.out
  case qc4 => unfold maxLen; omega
  case qc5 => omega
  case qc6 => simp
  intro v' w1 hown hgrow hnil
  go_wp2
  go_ret
  refine ⟨v', rfl, by simpa using hown, ?_⟩
  exact ((Below.refl _ w).alloc (Nat.le_refl _) _).grown hgrow (by simp) (by intro k hk; simp [Value.ownBlock] at hk; omega)
theorem hkSInfo : (Tryz.prog.info? 115).map (fun i => (i.zero, i.size, i.bytes)) = some (some (.agg #[.int .i64 0, .int .i64 0]), 2, 16) := by kernel_rfl
theorem cloneS_rows (v : Value) (rows : List (List Value)) (w : World) (h : RwC w v 2 rows) (hr : ∀ r ∈ rows, r.length = 2) (hone : ∀ u ∈ rows.flatten, u.oneCell' = true) (hm : rows.length ≤ 1000000) :
 Calls Tryz.prog 184 #[v] w fun e w' => ∃ v', e = .returned v' ∧ w'.ownsRow w.heap.size 115 2 v' rows.length rows.flatten ∧ Below w.heap.size w w' := by
 obtain ⟨i0, hi, hz0, hz1, hz2⟩ := info_parts hkSInfo
 have q22 : ∀ (w : World) (a : Option Addr) (n c n' c' : Nat), (binOp .eql 56 (.slice a n c) (.slice none n' c')).run Tryz.prog w = .ok (.bool a.isNone) w := fun w a n c n' c' => Lib.run_eql_slice_nil w _ _ a n c n' c' Tryz.underlying56
 have HR := hid h
 obtain ⟨a, cap, rfl, hn, -⟩ := h
 cases a with
 | none =>
  obtain rfl := hn rfl
  clear HR hr hone hm hn
  go_enter Tryz.func184, Tryz.ntmps184
  go_wp2
  go_ret
  exact ⟨_, rfl, World.ownsRow_nil .., Below.refl _ _⟩
 | some a =>
  have HC := hid (fun j u hu => rwc_cells HR.out (by decide) hr j u hu)
  have HL := hid (flat_len rows hr)
  have HONE := hid hone
  clear HR hr hn hone
  obtain ⟨n, en⟩ : ∃ n, rows.length = n := ⟨_, rfl⟩
  rw [en] at hm HL ⊢
  obtain ⟨fl, efl⟩ : ∃ fl, rows.flatten = fl := ⟨_, rfl⟩
  rw [efl] at HC HL HONE ⊢
  go_enter Tryz.func184, Tryz.ntmps184
  go_wp2_with (at_builtin; refine wpList_append_own _ rfl _ _ 56 rfl w.heap.size 115 i0 (.agg #[.int .i64 0, .int .i64 0]) 2 16 Tryz.underlying56 hi hz0 hz1 hz2 rfl (by decide) _ _ _ rfl (World.ownsRow_made w #[] 0 (Nat.le_refl _) (Nat.zero_le _) rfl) a n cap fl rfl ?qc1 ?qc2 ?qc3 ?qc4 ?qc5 ?qc6 ?_)
  case qc1 => exact HL.out
  case qc2 => exact fun j u hj => Lib.cell?_alloc_some _ (HC.out j u hj)
  case qc3 => exact HONE.out
  case qc4 => unfold maxLen; omega
  case qc5 => omega
  case qc6 => simp
  intro v' w1 hown hgrow hnil
  go_wp2
  go_ret
  refine ⟨v', rfl, by simpa using hown, ?_⟩
  exact ((Below.refl _ w).alloc (Nat.le_refl _) _).grown hgrow (by simp) (by intro k hk; simp [Value.ownBlock] at hk; omega)
theorem own_set_other {w : World} {base g : Nat} {e : TypeId} {sz n : Nat} {v : Value} {xs : List Value} (h : w.ownsRow base e sz v n xs) (hN : v.ownBlock ≠ some g) (i : Nat) (x : Value) : (w.setCell ⟨g, i, none⟩ x).ownsRow base e sz v n xs := by
 refine ⟨h.1, ?_⟩
 rcases h.2 with h | ⟨g2, cap, cur, rfl, h1, h2, h3⟩
 · exact .inl h
 · exact .inr ⟨g2, cap, cur, rfl, h1, (Below.heap_setCell _ _ _ _ (by dsimp only; intro e; exact hN (by rw [e]; rfl))).trans h2, h3⟩
def ApB (v u : Value) : Prop := ∀ g, v.ownBlock = some g → u.ownBlock ≠ some g
theorem ap_new {w w' : World} {b1 : Nat} {e1 e2 : TypeId} {z1 z2 n1 n2 : Nat} {v u : Value} {xs ys : List Value} (h1 : w.ownsRow b1 e1 z1 v n1 xs) (h2 : w'.ownsRow w.heap.size e2 z2 u n2 ys) : ApB v u := by
 intro g hg hu
 rcases h1.2 with ⟨rfl, -⟩ | ⟨g1, cap, cur, rfl, hb, hh, -⟩
 · cases hg
 · rcases h2.2 with ⟨rfl, -⟩ | ⟨g2, cap2, cur2, rfl, hb2, -⟩
   · cases hu
   · have := heap_lt hh
     simp only [Value.ownBlock, Option.some.injEq] at hg hu
     omega
structure StO (w : World) (B : Nat) (sv rv pv dv kv : Value) (s : Bd.State) : Prop where
 o1 : w.ownsRow B 3 1 sv s.shelves.length (ints s.shelves)
 o2 : w.ownsRow B 105 6 rv s.robots.length (s.robots.map robC).flatten
 o3 : w.ownsRow B 3 1 pv s.people.length (ints s.people)
 o4 : w.ownsRow B 3 1 dv s.dead.length (ints s.dead)
 o5 : w.ownsRow B 115 2 kv s.stuck.length (s.stuck.map spanC).flatten
 ap : [sv, rv, pv, dv, kv].Pairwise ApB
theorem own_lower {w : World} {base b2 : Nat} {e : TypeId} {sz n : Nat} {v : Value} {xs : List Value} (h : w.ownsRow base e sz v n xs) (hb : b2 ≤ base) : w.ownsRow b2 e sz v n xs := by
 rcases h.2 with ⟨rfl, h0⟩ | ⟨g, cap, cur, rfl, hbg, hr⟩
 · exact ⟨h.1, .inl ⟨rfl, h0⟩⟩
 · exact ⟨h.1, .inr ⟨g, cap, cur, rfl, Nat.le_trans hb hbg, hr⟩⟩
theorem own_form {w : World} {base : Nat} {e : TypeId} {sz n : Nat} {v : Value} {xs : List Value} (h : w.ownsRow base e sz v n xs) : ∃ a cap, v = .slice a n cap := by
 rcases h.2 with ⟨rfl, rfl⟩ | ⟨g1, cap, cur, rfl, -⟩
 · exact ⟨none, 0, rfl⟩
 · exact ⟨some ⟨g1, 0, none⟩, cap, rfl⟩
theorem there6 {w : World} {g : Nat} {T : TypeId} (h : w.heap[g]? = some (.cells #[.int .i64 0, .slice none 0 0, .slice none 0 0, .slice none 0 0, .slice none 0 0, .slice none 0 0] T (0, 0))) : w.there g 0 6 := fun j hj => by
 refine ⟨?_, free_of_heap h _⟩
 rw [Nat.zero_add]
 match j, hj with
 | 0, _ => rw [cell_of_heap h 0 rfl]; rfl
 | 1, _ => rw [cell_of_heap h 1 rfl]; rfl
 | 2, _ => rw [cell_of_heap h 2 rfl]; rfl
 | 3, _ => rw [cell_of_heap h 3 rfl]; rfl
 | 4, _ => rw [cell_of_heap h 4 rfl]; rfl
 | 5, _ => rw [cell_of_heap h 5 rfl]; rfl
theorem st_sets {w : World} {g : Nat} {T : TypeId} (x0 x1 x2 x3 x4 x5 : Value) (h : w.heap[g]? = some (.cells #[.int .i64 0, .slice none 0 0, .slice none 0 0, .slice none 0 0, .slice none 0 0, .slice none 0 0] T (0, 0))) :
 (w.setCells g 0 [x0, x1, x2, x3, x4, x5]).heap[g]? = some (.cells #[x0, x1, x2, x3, x4, x5] T (0, 0)) :=
 set_heap (set_heap (set_heap (set_heap (set_heap (set_heap h 0 x0) 1 x1) 2 x2) 3 x3) 4 x4) 5 x5
theorem st_below {n : Nat} {w w2 : World} {g : Nat} (x0 x1 x2 x3 x4 x5 : Value) (h : Below n w w2) (hg : n ≤ g) : Below n w (w2.setCells g 0 [x0, x1, x2, x3, x4, x5]) :=
 (((((h.setCell hg _).setCell hg _).setCell hg _).setCell hg _).setCell hg _).setCell hg _
theorem own_far {w : World} {base g : Nat} {e : TypeId} {sz n : Nat} {v : Value} {xs : List Value} (h : w.ownsRow base e sz v n xs) (hg : g < base) (vs : List Value) : ∀ o, (w.setCells g o vs).ownsRow base e sz v n xs := by
 have hN : v.ownBlock ≠ some g := by
  rcases h.2 with ⟨rfl, -⟩ | ⟨g1, cap, cur, rfl, hb, hh, -⟩
  · intro h; cases h
  · intro h
    simp only [Value.ownBlock, Option.some.injEq] at h
    omega
 induction vs generalizing w with
 | nil => intro o; exact h
 | cons x t ih => intro o; exact ih (own_set_other h hN o x) (o + 1)
theorem cell_far {w : World} {g : Nat} (p : Addr) (hp : p.block < g) (vs : List Value) : ∀ o, (w.setCells g o vs).cell? p = w.cell? p := by
 induction vs generalizing w with
 | nil => intro o; rfl
 | cons x t ih => intro o; exact (ih (w := w.setCell ⟨g, o, none⟩ x) (o + 1)).trans (World.cell?_setCell_far _ _ _ _ (by dsimp only; omega))
theorem Clone_any (s : Bd.State) (sv rv pv dv kv : Value) (w : World) (h : StV w sv rv pv dv kv s) (l1 : s.shelves.length ≤ 1000000) (l2 : s.robots.length ≤ 1000000) (l3 : s.people.length ≤ 1000000) (l4 : s.dead.length ≤ 1000000) (l5 : s.stuck.length ≤ 1000000) :
 Calls Tryz.prog 102 #[stV s sv rv pv dv kv] w fun e w' => ∃ v1 v2 v3 v4 v5, e = .returned (stV s v1 v2 v3 v4 v5) ∧ StO w' w.heap.size v1 v2 v3 v4 v5 s ∧ Below w.heap.size w w' := by
 have HS := hid h
 obtain ⟨a1, c1, a2, c2, a3, c3, a4, c4, a5, c5, rfl, rfl, rfl, rfl, rfl, m1, m2, m3, m4, m5⟩ := h.open
 have HI : Hid (∀ (v : Value) (l : List Int) (w : World), Is w v l → l.length ≤ 1000000 → Calls Tryz.prog 79 #[v] w fun e w' => ∃ v', e = .returned v' ∧ w'.ownsRow w.heap.size 3 1 v' l.length (ints l) ∧ Below w.heap.size w w') := hid (fun v l w hI hl => by
  have := cloneI_rows v (l.map intC) w hI.rwc (fun r hr => by obtain ⟨c, -, rfl⟩ := List.mem_map.1 hr; rfl) (fun u hu => by rw [← ints_flat] at hu; obtain ⟨c, -, rfl⟩ := List.mem_map.1 hu; rfl) (by simpa using hl)
  rw [← ints_flat, List.length_map] at this
  exact this)
 have HRo : Hid (∀ (v : Value) (w : World), RoV w v s.robots → Calls Tryz.prog 183 #[v] w fun e w' => ∃ v', e = .returned v' ∧ w'.ownsRow w.heap.size 105 6 v' s.robots.length (s.robots.map robC).flatten ∧ Below w.heap.size w w') := hid (fun v w hI => by
  have := cloneR_rows v (s.robots.map robC) w (Rw.rwc hI) (fun r hr => by obtain ⟨c, -, rfl⟩ := List.mem_map.1 hr; rfl) (fun u hu => by
   obtain ⟨r, hr, hu⟩ := List.mem_flatten.1 hu
   obtain ⟨c, -, rfl⟩ := List.mem_map.1 hr
   simp [robC] at hu
   rcases hu with rfl | rfl | rfl | rfl | rfl | rfl <;> rfl) (by simpa using l2)
  rw [List.length_map] at this
  exact this)
 have HSt : Hid (∀ (v : Value) (w : World), Rw w v 2 (s.stuck.map spanC) → Calls Tryz.prog 184 #[v] w fun e w' => ∃ v', e = .returned v' ∧ w'.ownsRow w.heap.size 115 2 v' s.stuck.length (s.stuck.map spanC).flatten ∧ Below w.heap.size w w') := hid (fun v w hI => by
  have := cloneS_rows v (s.stuck.map spanC) w (Rw.rwc hI) (fun r hr => by obtain ⟨c, -, rfl⟩ := List.mem_map.1 hr; rfl) (fun u hu => by
   obtain ⟨r, hr, hu⟩ := List.mem_flatten.1 hu
   obtain ⟨c, -, rfl⟩ := List.mem_map.1 hr
   simp [spanC] at hu
   rcases hu with rfl | rfl <;> rfl) (by simpa using l5)
  rw [List.length_map] at this
  exact this)
 obtain ⟨n1, e1⟩ : ∃ n, s.shelves.length = n := ⟨_, rfl⟩
 obtain ⟨n2, e2⟩ : ∃ n, s.robots.length = n := ⟨_, rfl⟩
 obtain ⟨n3, e3⟩ : ∃ n, s.people.length = n := ⟨_, rfl⟩
 obtain ⟨n4, e4⟩ : ∃ n, s.dead.length = n := ⟨_, rfl⟩
 obtain ⟨n5, e5⟩ : ∃ n, s.stuck.length = n := ⟨_, rfl⟩
 have L1 := hid l1
 have L3 := hid l3
 have L4 := hid l4
 rw [e1, e2, e3, e4, e5] at HS
 unfold stV
 rw [e1, e2, e3, e4, e5]
 clear h m1 m2 m3 m4 m5 l1 l2 l3 l4 l5 e1 e2 e3 e4 e5
 obtain ⟨w2, hw2⟩ : ∃ W, W = (w.alloc (.cells #[.int .i64 s.tick, .slice a1 n1 c1, .slice a2 n2 c2, .slice a3 n3 c3, .slice a4 n4 c4, .slice a5 n5 c5] 58)).alloc (.cells #[.int .i64 0, .slice none 0 0, .slice none 0 0, .slice none 0 0, .slice none 0 0, .slice none 0 0] 58) := ⟨_, rfl⟩
 have HA := al2 w (.cells #[.int .i64 s.tick, .slice a1 n1 c1, .slice a2 n2 c2, .slice a3 n3 c3, .slice a4 n4 c4, .slice a5 n5 c5] 58) (.cells #[.int .i64 0, .slice none 0 0, .slice none 0 0, .slice none 0 0, .slice none 0 0, .slice none 0 0] 58)
 rw [← hw2] at HA
 have IT := hid HA.1
 have OT := hid HA.2.1
 have B2 := hid HA.2.2.1
 have sz2 := HA.2.2.2
 have HW2 := hid hw2
 have t0 : w2.cell? ⟨w.heap.size, 0, none⟩ = some (.int .i64 s.tick) := cell_of_heap IT.out 0 rfl
 have t1 : w2.cell? ⟨w.heap.size, 1, none⟩ = some (.slice a1 n1 c1) := cell_of_heap IT.out 1 rfl
 have t2 : w2.cell? ⟨w.heap.size, 2, none⟩ = some (.slice a2 n2 c2) := cell_of_heap IT.out 2 rfl
 have t3 : w2.cell? ⟨w.heap.size, 3, none⟩ = some (.slice a3 n3 c3) := cell_of_heap IT.out 3 rfl
 have t4 : w2.cell? ⟨w.heap.size, 4, none⟩ = some (.slice a4 n4 c4) := cell_of_heap IT.out 4 rfl
 have t5 : w2.cell? ⟨w.heap.size, 5, none⟩ = some (.slice a5 n5 c5) := cell_of_heap IT.out 5 rfl
 have lt : w.heap.size < w2.heap.size := heap_lt IT.out
 have HS2 := hid (HS.out.keep B2.out)
 have HS3 : Hid (∀ W, Below w2.heap.size w2 W → StV W (.slice a1 n1 c1) (.slice a2 n2 c2) (.slice a3 n3 c3) (.slice a4 n4 c4) (.slice a5 n5 c5) s) := hid (fun W hb => HS2.out.keep hb)
 clear HA hw2
 go_enter Tryz.func102, Tryz.ntmps102
 go_upto_region 1 with fail
 rw [← HW2.out]
 refine wp_region_held_drew (S := fun W' => W'.cell? ⟨w.heap.size, 0, none⟩ = some (.int .i64 s.tick) ∧ W'.cell? ⟨w.heap.size, 1, none⟩ = some (.slice a1 n1 c1) ∧ W'.cell? ⟨w.heap.size, 2, none⟩ = some (.slice a2 n2 c2) ∧ W'.cell? ⟨w.heap.size, 3, none⟩ = some (.slice a3 n3 c3) ∧ W'.cell? ⟨w.heap.size, 4, none⟩ = some (.slice a4 n4 c4) ∧ W'.cell? ⟨w.heap.size, 5, none⟩ = some (.slice a5 n5 c5)) (by kernel_rfl) ⟨t0, t1, t2, t3, t4, t5⟩ (fun hHeld => ?_)
 obtain ⟨wd, hwd⟩ : ∃ W, W = w2.drew := ⟨_, rfl⟩
 rw [← hwd] at hHeld ⊢
 have BD : Hid (Below w2.heap.size w2 wd) := hid (by subst hwd; exact ⟨rfl, rfl, rfl, Nat.le_refl _, fun _ _ => rfl⟩)
 clear hwd
 refine tk 0 ?_
 try simp only [Act.put, zA, zB, zC, zD, zE, zF]
 refine tk 1 ?_
 try simp only [Act.put, zA, zB, zC, zD, zE, zF]
 refine tk 2 ?_
 try simp only [Act.put, zA, zB, zC, zD, zE, zF]
 refine tk 3 ?_
 try simp only [Act.put, zA, zB, zC, zD, zE, zF]
 refine tk 5 ?_
 try simp only [Act.put, zA, zB, zC, zD, zE, zF]
 refine tk 6 ?_
 try simp only [Act.put, zA, zB, zC, zD, zE, zF]
 refine tk 8 ?_
 try simp only [Act.put, zA, zB, zC, zD, zE, zF]
 refine tk 9 ?_
 try simp only [Act.put, zA, zB, zC, zD, zE, zF]
 refine tk 11 ?_
 try simp only [Act.put, zA, zB, zC, zD, zE, zF]
 refine tk 12 ?_
 try simp only [Act.put, zA, zB, zC, zD, zE, zF]
 refine tk 14 ?_
 try simp only [Act.put, zA, zB, zC, zD, zE, zF]
 refine tk 15 ?_
 try simp only [Act.put, zA, zB, zC, zD, zE, zF]
 refine wpAnyH_ready (rs := [4]) (by kernel_rfl) (by simp) ?_
 refine AllReadyH.cons (o := _) rfl (fun K hK => ?_) AllReadyH.nil
 go_simp
 go_at_call 79; with_reducible refine (HI.out _ _ _ (HS3.out _ BD.out).sh L1.out).mono ?_; rintro e wc1 ⟨v1, rfl, ho1, b1⟩
 have BC1 := hid (BD.out.trans (b1.mono BD.out.size))
 have HB1 := hid b1
 have HO1 := hid ho1
 obtain ⟨p1, d1, rfl⟩ := own_form ho1
 clear b1 ho1
 go_wp2_with fail
 refine hK.out _ _ ?_ (fun hHeld => ?_)
 · exact ⟨(BC1.out.cell (p := ⟨w.heap.size, 0, none⟩) lt).trans t0, (BC1.out.cell (p := ⟨w.heap.size, 1, none⟩) lt).trans t1, (BC1.out.cell (p := ⟨w.heap.size, 2, none⟩) lt).trans t2, (BC1.out.cell (p := ⟨w.heap.size, 3, none⟩) lt).trans t3, (BC1.out.cell (p := ⟨w.heap.size, 4, none⟩) lt).trans t4, (BC1.out.cell (p := ⟨w.heap.size, 5, none⟩) lt).trans t5⟩
 clear hK K
 try simp only [Act.put, zA, zB, zC, zD, zE, zF]
 refine wpAnyH_ready (rs := [7]) (by kernel_rfl) (by simp) ?_
 refine AllReadyH.cons (o := _) rfl (fun K hK => ?_) AllReadyH.nil
 go_simp
 go_at_call 183; with_reducible refine (HRo.out _ _ (HS3.out _ BC1.out).ro).mono ?_; rintro e wc2 ⟨v2, rfl, ho2, b2⟩
 have BC2 := hid (BC1.out.trans (b2.mono BC1.out.size))
 have HB2 := hid b2
 have HO2 := hid ho2
 obtain ⟨p2, d2, rfl⟩ := own_form ho2
 clear b2 ho2
 go_wp2_with fail
 refine hK.out _ _ ?_ (fun hHeld => ?_)
 · exact ⟨(BC2.out.cell (p := ⟨w.heap.size, 0, none⟩) lt).trans t0, (BC2.out.cell (p := ⟨w.heap.size, 1, none⟩) lt).trans t1, (BC2.out.cell (p := ⟨w.heap.size, 2, none⟩) lt).trans t2, (BC2.out.cell (p := ⟨w.heap.size, 3, none⟩) lt).trans t3, (BC2.out.cell (p := ⟨w.heap.size, 4, none⟩) lt).trans t4, (BC2.out.cell (p := ⟨w.heap.size, 5, none⟩) lt).trans t5⟩
 clear hK K
 try simp only [Act.put, zA, zB, zC, zD, zE, zF]
 refine wpAnyH_ready (rs := [10]) (by kernel_rfl) (by simp) ?_
 refine AllReadyH.cons (o := _) rfl (fun K hK => ?_) AllReadyH.nil
 go_simp
 go_at_call 79; with_reducible refine (HI.out _ _ _ (HS3.out _ BC2.out).pe L3.out).mono ?_; rintro e wc3 ⟨v3, rfl, ho3, b3⟩
 have BC3 := hid (BC2.out.trans (b3.mono BC2.out.size))
 have HB3 := hid b3
 have HO3 := hid ho3
 obtain ⟨p3, d3, rfl⟩ := own_form ho3
 clear b3 ho3
 go_wp2_with fail
 refine hK.out _ _ ?_ (fun hHeld => ?_)
 · exact ⟨(BC3.out.cell (p := ⟨w.heap.size, 0, none⟩) lt).trans t0, (BC3.out.cell (p := ⟨w.heap.size, 1, none⟩) lt).trans t1, (BC3.out.cell (p := ⟨w.heap.size, 2, none⟩) lt).trans t2, (BC3.out.cell (p := ⟨w.heap.size, 3, none⟩) lt).trans t3, (BC3.out.cell (p := ⟨w.heap.size, 4, none⟩) lt).trans t4, (BC3.out.cell (p := ⟨w.heap.size, 5, none⟩) lt).trans t5⟩
 clear hK K
 try simp only [Act.put, zA, zB, zC, zD, zE, zF]
 refine wpAnyH_ready (rs := [13]) (by kernel_rfl) (by simp) ?_
 refine AllReadyH.cons (o := _) rfl (fun K hK => ?_) AllReadyH.nil
 go_simp
 go_at_call 79; with_reducible refine (HI.out _ _ _ (HS3.out _ BC3.out).de L4.out).mono ?_; rintro e wc4 ⟨v4, rfl, ho4, b4⟩
 have BC4 := hid (BC3.out.trans (b4.mono BC3.out.size))
 have HB4 := hid b4
 have HO4 := hid ho4
 obtain ⟨p4, d4, rfl⟩ := own_form ho4
 clear b4 ho4
 go_wp2_with fail
 refine hK.out _ _ ?_ (fun hHeld => ?_)
 · exact ⟨(BC4.out.cell (p := ⟨w.heap.size, 0, none⟩) lt).trans t0, (BC4.out.cell (p := ⟨w.heap.size, 1, none⟩) lt).trans t1, (BC4.out.cell (p := ⟨w.heap.size, 2, none⟩) lt).trans t2, (BC4.out.cell (p := ⟨w.heap.size, 3, none⟩) lt).trans t3, (BC4.out.cell (p := ⟨w.heap.size, 4, none⟩) lt).trans t4, (BC4.out.cell (p := ⟨w.heap.size, 5, none⟩) lt).trans t5⟩
 clear hK K
 try simp only [Act.put, zA, zB, zC, zD, zE, zF]
 refine wpAnyH_ready (rs := [16]) (by kernel_rfl) (by simp) ?_
 refine AllReadyH.cons (o := _) rfl (fun K hK => ?_) AllReadyH.nil
 go_simp
 go_at_call 184; with_reducible refine (HSt.out _ _ (HS3.out _ BC4.out).sk).mono ?_; rintro e wc5 ⟨v5, rfl, ho5, b5⟩
 have BC5 := hid (BC4.out.trans (b5.mono BC4.out.size))
 have HB5 := hid b5
 have HO5 := hid ho5
 obtain ⟨p5, d5, rfl⟩ := own_form ho5
 clear b5 ho5
 go_wp2_with fail
 refine hK.out _ _ ?_ (fun hHeld => ?_)
 · exact ⟨(BC5.out.cell (p := ⟨w.heap.size, 0, none⟩) lt).trans t0, (BC5.out.cell (p := ⟨w.heap.size, 1, none⟩) lt).trans t1, (BC5.out.cell (p := ⟨w.heap.size, 2, none⟩) lt).trans t2, (BC5.out.cell (p := ⟨w.heap.size, 3, none⟩) lt).trans t3, (BC5.out.cell (p := ⟨w.heap.size, 4, none⟩) lt).trans t4, (BC5.out.cell (p := ⟨w.heap.size, 5, none⟩) lt).trans t5⟩
 clear hK K
 try simp only [Act.put, zA, zB, zC, zD, zE, zF]
 refine tk 17 ?_
 try simp only [Act.put, zA, zB, zC, zD, zE, zF]
 have OT9 : Hid (wc5.heap[w.heap.size + 1]? = some (.cells #[.int .i64 0, .slice none 0 0, .slice none 0 0, .slice none 0 0, .slice none 0 0, .slice none 0 0] 58 (0, 0))) := hid ((BC5.out.block _ (by omega)).trans OT.out)
 have FAR : Hid (∀ (j : Nat) (v : Value), w2.cell? ⟨w.heap.size, j, none⟩ = some v → (wc5.setCells (w.heap.size + 1) 0 [.int .i64 s.tick, .slice p1 s.shelves.length d1, .slice p2 s.robots.length d2, .slice p3 s.people.length d3, .slice p4 s.dead.length d4, .slice p5 s.stuck.length d5]).cell? ⟨w.heap.size, j, none⟩ = some v) := hid (fun j v h => (cell_far (w := wc5) (g := w.heap.size + 1) ⟨w.heap.size, j, none⟩ (Nat.lt_succ_self _) _ 0).trans ((BC5.out.cell (p := ⟨w.heap.size, j, none⟩) lt).trans h))
 refine wpAnyH_ready (rs := [18]) (by kernel_rfl) (by simp) ?_
 refine AllReadyH.cons (o := _) rfl (fun K hK => ?_) AllReadyH.nil
 rw [if_pos (by rfl)]
 refine wp_store_mid 58 _ _ (by rfl) (w.heap.size + 1) 0 #[.int .i64 s.tick, .slice p1 s.shelves.length d1, .slice p2 s.robots.length d2, .slice p3 s.people.length d3, .slice p4 s.dead.length d4, .slice p5 s.stuck.length d5] (by rfl) (by rfl) (there6 OT9.out) (by kernel_rfl) (by simp [Value.oneCell']) ?_
 refine hK.out _ _ ?_ (fun hHeld => ?_)
 · exact ⟨FAR.out 0 _ t0, FAR.out 1 _ t1, FAR.out 2 _ t2, FAR.out 3 _ t3, FAR.out 4 _ t4, FAR.out 5 _ t5⟩
 clear hK K
 try simp only [Act.put, zA, zB, zC, zD, zE, zF]
 have OT8 := hid (st_sets (.int .i64 s.tick) (.slice p1 s.shelves.length d1) (.slice p2 s.robots.length d2) (.slice p3 s.people.length d3) (.slice p4 s.dead.length d4) (.slice p5 s.stuck.length d5) OT9.out)
 have B9 := hid (st_below (n := w.heap.size + 1) (.int .i64 s.tick) (.slice p1 s.shelves.length d1) (.slice p2 s.robots.length d2) (.slice p3 s.people.length d3) (.slice p4 s.dead.length d4) (.slice p5 s.stuck.length d5) (Below.refl _ wc5) (Nat.le_refl _))
 have F9 : Hid (∀ (b : Nat) (e : TypeId) (z n : Nat) (v : Value) (xs : List Value), w.heap.size + 1 < b → wc5.ownsRow b e z v n xs → (wc5.setCells (w.heap.size + 1) 0 [.int .i64 s.tick, .slice p1 s.shelves.length d1, .slice p2 s.robots.length d2, .slice p3 s.people.length d3, .slice p4 s.dead.length d4, .slice p5 s.stuck.length d5]).ownsRow b e z v n xs) := hid (fun b e z n v xs hb h => own_far h hb _ _)
 obtain ⟨w9, hw9⟩ : ∃ W, W = wc5.setCells (w.heap.size + 1) 0 [.int .i64 s.tick, .slice p1 s.shelves.length d1, .slice p2 s.robots.length d2, .slice p3 s.people.length d3, .slice p4 s.dead.length d4, .slice p5 s.stuck.length d5] := ⟨_, rfl⟩
 have HW9 := hid hw9
 rw [← hw9] at OT8 B9 F9
 clear hw9
 have x1 := cell_of_heap OT8.out 0 rfl
 have x2 := cell_of_heap OT8.out 1 rfl
 have x3 := cell_of_heap OT8.out 2 rfl
 have x4 := cell_of_heap OT8.out 3 rfl
 have x5 := cell_of_heap OT8.out 4 rfl
 have x6 := cell_of_heap OT8.out 5 rfl
 have e9 : wc5.setCells (w.heap.size + 1) 0 (#[.int .i64 s.tick, .slice p1 s.shelves.length d1, .slice p2 s.robots.length d2, .slice p3 s.people.length d3, .slice p4 s.dead.length d4, .slice p5 s.stuck.length d5] : Array Value).toList = w9 := HW9.out.symm
 rw [e9]
 refine wpAnyH_done (by kernel_rfl) ?_ _
 go_wp2_with fail
 have R11 := HO1.out
 have R12 := own_belowB R11 HB2.out
 have R13 := own_belowB R12 HB3.out
 have R14 := own_belowB R13 HB4.out
 have R15 := own_belowB R14 HB5.out
 have R22 := HO2.out
 have R23 := own_belowB R22 HB3.out
 have R24 := own_belowB R23 HB4.out
 have R25 := own_belowB R24 HB5.out
 have R33 := HO3.out
 have R34 := own_belowB R33 HB4.out
 have R35 := own_belowB R34 HB5.out
 have R44 := HO4.out
 have R45 := own_belowB R44 HB5.out
 have R55 := HO5.out
 have q0 := BD.out.size
 have q1 := HB1.out.size
 have q2 := HB2.out.size
 have q3 := HB3.out.size
 have q4 := HB4.out.size
 have q5 := HB5.out.size
 refine bodyPost_ret (v := .agg #[.int .i64 s.tick, .slice p1 s.shelves.length d1, .slice p2 s.robots.length d2, .slice p3 s.people.length d3, .slice p4 s.dead.length d4, .slice p5 s.stuck.length d5]) (results_cell_row (p := 2) (ty := 58) (by kernel_rfl) _ _ (w.heap.size + 1) 58 #[.int .i64 s.tick, .slice p1 s.shelves.length d1, .slice p2 s.robots.length d2, .slice p3 s.people.length d3, .slice p4 s.dead.length d4, .slice p5 s.stuck.length d5] (0, 0) _ rfl OT8.out Tryz.underlying58 rfl (by kernel_rfl)) rfl ?_
 refine ⟨_, _, _, _, _, rfl, ⟨own_lower (F9.out _ _ _ _ _ _ (by omega) R15) (by omega), own_lower (F9.out _ _ _ _ _ _ (by omega) R25) (by omega), own_lower (F9.out _ _ _ _ _ _ (by omega) R35) (by omega), own_lower (F9.out _ _ _ _ _ _ (by omega) R45) (by omega), own_lower (F9.out _ _ _ _ _ _ (by omega) R55) (by omega), ?_⟩, ?_⟩
 · refine List.Pairwise.cons ?_ (List.Pairwise.cons ?_ (List.Pairwise.cons ?_ (List.Pairwise.cons ?_ (List.pairwise_singleton _ _))))
   · intro u hu; simp only [List.mem_cons, List.mem_nil_iff, or_false, List.not_mem_nil] at hu; rcases hu with rfl | rfl | rfl | rfl
     · exact ap_new R11 HO2.out
     · exact ap_new R12 HO3.out
     · exact ap_new R13 HO4.out
     · exact ap_new R14 HO5.out
   · intro u hu; simp only [List.mem_cons, List.mem_nil_iff, or_false, List.not_mem_nil] at hu; rcases hu with rfl | rfl | rfl
     · exact ap_new R22 HO3.out
     · exact ap_new R23 HO4.out
     · exact ap_new R24 HO5.out
   · intro u hu; simp only [List.mem_cons, List.mem_nil_iff, or_false, List.not_mem_nil] at hu; rcases hu with rfl | rfl
     · exact ap_new R33 HO4.out
     · exact ap_new R34 HO5.out
   · intro u hu; simp only [List.mem_cons, List.mem_nil_iff, or_false, List.not_mem_nil] at hu; rcases hu with rfl
     · exact ap_new R44 HO5.out
 · exact B2.out.trans ((BC5.out.mono (by omega)).trans (B9.out.mono (by omega)))
end Go.Proofs.YtfcbcpfnaadpeaaGreatDoor
