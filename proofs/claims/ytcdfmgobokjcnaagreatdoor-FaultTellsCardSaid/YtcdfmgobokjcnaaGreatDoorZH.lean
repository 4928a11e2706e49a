/- Parts Ga, Gb, Gf of this claim, laid one behind the other: walks and the plain laws behind them; each contract states its own conditions. -/
import Derived.Test.YtcdfmgobokjcnaaGreatDoorZG
/- Walks: slices.Compare, the comparison of faults; sorting faults. -/
namespace Go.Proofs.YtcdfmgobokjcnaaGreatDoor
set_option linter.unusedSimpArgs false
set_option linter.unusedVariables false
open Go.RowKit Go.Sort

/-- How slices.Compare compares. -/
def cmpL : List Int → List Int → Int
  | [], [] => 0
  | [], _ :: _ => -1
  | _ :: _, [] => 1
  | x :: l, y :: m => if Lib.compareInt x y = 0 then cmpL l m else Lib.compareInt x y
set_option maxRecDepth 100000 in
set_option maxHeartbeats 8000000 in
theorem compareL_any (v1 v2 : Value) (l m : List Int) (w : World) (h1 : Is w v1 l) (h2 : Is w v2 m) :
    Calls Tryz.prog 56 #[v1, v2] w fun e w' => e = .returned (.int .i64 (cmpL l m)) ∧ w' = w := by
  obtain ⟨a1, c1, rfl, hm1⟩ := h1.form
  obtain ⟨a2, c2, rfl, hm2⟩ := h2.form
  have HCM := Lib.hid (fun x y W => Tryz.cmp_Compare_int x y W)
  have H1 := Lib.hid h1
  have H2 := Lib.hid h2
  obtain ⟨R, hR⟩ : ∃ R, cmpL l m = R := ⟨_, rfl⟩
  have HR0 : Hid (cmpL (l.drop 0) (m.drop 0) = R) := Lib.hid hR
  rw [hR]
  obtain ⟨n1, e1⟩ : ∃ n, l.length = n := ⟨_, rfl⟩
  obtain ⟨n2, e2⟩ : ∃ n, m.length = n := ⟨_, rfl⟩
  rw [e1] at hm1 H1 ⊢
  rw [e2] at hm2 H2 ⊢
  have E1 := Lib.hid e1
  have E2 := Lib.hid e2
  clear h1 h2 hR e1 e2
  go_enter Tryz.func56, Tryz.ntmps56
  go_wp2_with fail
  go_loopw [11] (fun iv wr => ∃ k : Nat, k ≤ n1 ∧ k ≤ n2 ∧ iv = .int .i64 k ∧ Hid (cmpL (l.drop k) (m.drop k) = R) ∧ wr = w) (fun iv _ => n1 - (intOf iv).toNat)
  case atStart => exact ⟨0, by omega, by omega, rfl, HR0, rfl⟩
  case round =>
    obtain ⟨k, hk1, hk2, rfl, HK, rfl⟩ := hrel
    have k0 : (0 : Int) ≤ (k : Int) := by omega
    by_cases g1 : k < n1
    · have hl : k < l.length := by rw [E1.out]; exact g1
      obtain ⟨b1, o1, rfl, r1⟩ := H1.out.cell k hl
      have d1 := List.drop_eq_getElem_cons hl
      obtain ⟨X, hX⟩ : ∃ X, l[k] = X := ⟨_, rfl⟩
      rw [hX] at r1 d1
      have D1 := Lib.hid d1
      have k1 : (k : Int) < (n1 : Int) := by omega
      clear hX d1 hl
      by_cases g2 : k < n2
      · have hl2 : k < m.length := by rw [E2.out]; exact g2
        obtain ⟨b2, o2, rfl, r2⟩ := H2.out.cell k hl2
        have d2 := List.drop_eq_getElem_cons hl2
        obtain ⟨Y, hY⟩ : ∃ X, m[k] = X := ⟨_, rfl⟩
        rw [hY] at r2 d2
        have HK2 : Hid ((if Lib.compareInt X Y = 0 then cmpL (l.drop (k + 1)) (m.drop (k + 1)) else Lib.compareInt X Y) = R) := Lib.hid (by rw [← HK.out, D1.out, d2, cmpL])
        have k2 : (k : Int) < (n2 : Int) := by omega
        have HC := Lib.hid (HCM.out X Y wr)
        obtain ⟨Z, hZ⟩ : ∃ Z, Lib.compareInt X Y = Z := ⟨_, rfl⟩
        rw [hZ] at HK2 HC
        clear hY d2 hl2 D1 HK hZ
        by_cases hz : Z = 0
        · have ez : (Z != 0) = false := by simp [hz]
          have HK3 : Hid (cmpL (l.drop (k + 1)) (m.drop (k + 1)) = R) := Lib.hid (by have := HK2.out; rwa [if_pos hz] at this)
          clear hz HK2
          go_wp2_with fail
          go_at_call 98; refine HC.out.mono ?_; rintro e w6 ⟨rfl, rfl⟩
          go_wp2_with fail
          go_roundw
          case rel => exact ⟨k + 1, by omega, by omega, by go_num, HK3, by first | rfl | trivial⟩
          case measure => simp [intOf]; omega
        · have ez : (Z != 0) = true := by simp [hz]
          have HK3 : Hid (Z = R) := Lib.hid (by have := HK2.out; rwa [if_neg hz] at this)
          clear hz HK2
          go_wp2_with fail
          go_at_call 98; refine HC.out.mono ?_; rintro e w6 ⟨rfl, rfl⟩
          go_wp2_with fail
          go_ret
          exact ⟨by rw [HK3.out]; rfl, by first | rfl | trivial⟩
      · have HK3 : Hid (1 = R) := Lib.hid (by rw [← HK.out, D1.out, show m.drop k = [] from List.drop_eq_nil_of_le (by rw [E2.out]; omega)]; rfl)
        go_wp2_with fail
        go_ret
        exact ⟨by rw [← HK3.out]; rfl, by first | rfl | trivial⟩
    · by_cases g2 : k < n2
      · have hl2 : k < m.length := by rw [E2.out]; exact g2
        have HK3 : Hid (-1 = R) := Lib.hid (by rw [← HK.out, show l.drop k = [] from List.drop_eq_nil_of_le (by rw [E1.out]; omega), List.drop_eq_getElem_cons hl2]; rfl)
        clear hl2
        go_wp2_with fail
        go_ret
        exact ⟨by rw [← HK3.out]; rfl, by first | rfl | trivial⟩
      · have HK3 : Hid (0 = R) := Lib.hid (by rw [← HK.out, show l.drop k = [] from List.drop_eq_nil_of_le (by rw [E1.out]; omega), show m.drop k = [] from List.drop_eq_nil_of_le (by rw [E2.out]; omega)]; rfl)
        go_wp2_with fail
        go_ret
        exact ⟨by rw [← HK3.out]; rfl, by first | rfl | trivial⟩
theorem is_new3 {W : World} {N : Nat} {a b c : Int} {t : TypeId} (h : W.heap[N]? = some (.cells #[.int .i64 a, .int .i64 b, .int .i64 c] t (0, 0))) : Is W (.slice (some ⟨N, 0, none⟩) 3 3) [a, b, c] := by
  refine ⟨some ⟨N, 0, none⟩, 3, rfl, by simp [ints, maxLen], (fun h => by cases h), fun i hi => ⟨N, 0, rfl, ?_⟩⟩
  have : i = 0 ∨ i = 1 ∨ i = 2 := by simp [ints] at hi; omega
  rcases this with rfl | rfl | rfl
  · exact cell_of_heap h 0 rfl
  · exact cell_of_heap h 1 rfl
  · exact cell_of_heap h 2 rfl
/-- How two faults compare. -/
def cmpF (x y : Fa.Flt) : Int := cmpL [x.kind, x.a, x.n] [y.kind, y.a, y.n]
instance : Inhabited Fa.Flt := ⟨⟨0, 0, 0⟩⟩
set_option maxRecDepth 100000 in
set_option maxHeartbeats 8000000 in
theorem cmpF_any (x y : Fa.Flt) (W : World) : Calls Tryz.prog 55 #[fltV x, fltV y] W fun e w' => e = .returned (.int .i64 (cmpF x y)) ∧ ∃ q os', w' = grow (W.drewN q) os' := by
  have HA := Lib.hid (al4 W (.cells #[.int .i64 x.kind, .int .i64 x.a, .int .i64 x.n] 38) (.cells #[.int .i64 y.kind, .int .i64 y.a, .int .i64 y.n] 38) (.cells #[.int .i64 x.kind, .int .i64 x.a, .int .i64 x.n] 3) (.cells #[.int .i64 y.kind, .int .i64 y.a, .int .i64 y.n] 3))
  have HCo := Lib.hid (fun v1 v2 W h1 h2 => compareL_any v1 v2 [x.kind, x.a, x.n] [y.kind, y.a, y.n] W h1 h2)
  unfold fltV cmpF
  obtain ⟨C, hC⟩ : ∃ C, cmpL [x.kind, x.a, x.n] [y.kind, y.a, y.n] = C := ⟨_, rfl⟩
  rw [hC] at HCo ⊢
  clear hC
  go_enter Tryz.func55, Tryz.ntmps55
  go_wp2_with fail
  go_at_call 56; refine (HCo.out _ _ _ (is_new3 HA.out.2.2.1) (is_new3 HA.out.2.2.2.1)).mono ?_; rintro e w6 ⟨rfl, rfl⟩
  go_wp2_with fail
  go_ret
  exact ⟨rfl, 0, _, by rw [alloc_eq_grow, alloc_eq_grow, alloc_eq_grow, alloc_eq_grow, grow_grow, grow_grow, grow_grow]; rfl⟩
theorem ltOf_cmpF (x y : Fa.Flt) : ltOf cmpF x y = Fa.ltB x y := by
  unfold ltOf cmpF Fa.ltB cmpL cmpL cmpL cmpL Lib.compareInt
  by_cases h1 : x.kind < y.kind
  · simp [h1]
  · by_cases h2 : y.kind < x.kind
    · have h3 : x.kind ≠ y.kind := by omega
      simp [h1, h2, h3]
    · have h3 : x.kind = y.kind := by omega
      by_cases h4 : x.a < y.a
      · simp [h3, h4]
      · by_cases h5 : y.a < x.a
        · have h6 : x.a ≠ y.a := by omega
          simp [h3, h4, h5, h6]
        · have h6 : x.a = y.a := by omega
          by_cases h7 : x.n < y.n
          · simp [h3, h6, h7]
          · by_cases h8 : y.n < x.n
            · simp [h3, h6, h7, h8]
            · simp [h3, h6, h7, h8]
theorem cmpF_swo : SWO (ltOf cmpF) where
  irrefl x := by
    rw [ltOf_cmpF]
    cases h : Fa.ltB x x with
    | false => rfl
    | true => exact absurd (Fa.ltB_iff.1 h) (Fa.lt_irrefl x)
  trans x y z h1 h2 := by
    rw [ltOf_cmpF] at *
    exact Fa.ltB_iff.2 (Fa.lt_trans (Fa.ltB_iff.1 h1) (Fa.ltB_iff.1 h2))
  ntrans x y z h1 h2 := by
    rw [ltOf_cmpF] at *
    cases h : Fa.ltB x z with
    | false => rfl
    | true =>
      have h3 := Fa.ltB_iff.1 h
      have g1 : ¬ Fa.lt x y := fun e => by rw [Fa.ltB_iff.2 e] at h1; cases h1
      have g2 : ¬ Fa.lt y z := fun e => by rw [Fa.ltB_iff.2 e] at h2; cases h2
      exfalso
      by_cases g3 : Fa.lt y x
      · exact g2 (Fa.lt_trans g3 h3)
      · have := Fa.lt_total g1 g3
        subst this
        exact g2 h3
theorem cmpF_tot (x y : Fa.Flt) (h : ltOf cmpF x y = false) (k : ltOf cmpF y x = false) : x = y := by
  rw [ltOf_cmpF] at h k
  exact Fa.lt_total (fun e => by rw [Fa.ltB_iff.2 e] at h; cases h) (fun e => by rw [Fa.ltB_iff.2 e] at k; cases k)
end Go.Proofs.YtcdfmgobokjcnaaGreatDoor
/- Walks: slices.IndexFunc and slices.DeleteFunc over faults. -/
namespace Go.Proofs.YtcdfmgobokjcnaaGreatDoor
set_option linter.unusedSimpArgs false
set_option linter.unusedVariables false
open Go.RowKit Go.Sort

/-! ### rows of faults -/
def flts (l : List Fa.Flt) : List Value := l.flatMap fltC
theorem flts_len (l : List Fa.Flt) : (flts l).length = l.length * 3 := by
  unfold flts
  induction l with
  | nil => rfl
  | cons x l ih => simp only [List.flatMap_cons, List.length_append, List.length_cons, ih, fltC_len]; omega
theorem flts_app (l m : List Fa.Flt) : flts (l ++ m) = flts l ++ flts m := by simp [flts]
theorem flts_eq (l : List Fa.Flt) : flts l = (l.map fltC).flatten := by simp [flts, List.flatMap]
theorem flts_one (l : List Fa.Flt) : ∀ u ∈ flts l, u.oneCell' = true := by
  intro u hu
  obtain ⟨x, -, hx⟩ := List.mem_flatMap.1 hu
  simp [fltC] at hx
  rcases hx with rfl | rfl | rfl <;> rfl
theorem flts_take : ∀ (l : List Fa.Flt) (k : Nat), (flts l).take (k * 3) = flts (l.take k)
  | [], k => by simp [flts]
  | x :: l, 0 => by simp [flts]
  | x :: l, k + 1 => by
    show ([Value.int .i64 x.kind, .int .i64 x.a, .int .i64 x.n] ++ flts l).take ((k + 1) * 3) = _
    rw [show (k + 1) * 3 = k * 3 + 1 + 1 + 1 by omega]
    simp only [List.cons_append, List.nil_append, List.take_succ_cons]
    rw [flts_take l k]; rfl
theorem flts_set : ∀ (l : List Fa.Flt) (i : Nat) (x : Fa.Flt), i < l.length → (((flts l).set (i * 3) (.int .i64 x.kind)).set (i * 3 + 1) (.int .i64 x.a)).set (i * 3 + 2) (.int .i64 x.n) = flts (l.set i x)
  | [], i, x, h => by simp at h
  | y :: l, 0, x, _ => by simp [flts, fltC]
  | y :: l, i + 1, x, h => by
    have ih := flts_set l i x (by simpa using h)
    show ((([Value.int .i64 y.kind, .int .i64 y.a, .int .i64 y.n] ++ flts l).set ((i + 1) * 3) _).set ((i + 1) * 3 + 1) _).set ((i + 1) * 3 + 2) _ = _
    rw [show (i + 1) * 3 + 2 = (i * 3 + 2) + 1 + 1 + 1 by omega, show (i + 1) * 3 + 1 = (i * 3 + 1) + 1 + 1 + 1 by omega, show (i + 1) * 3 = i * 3 + 1 + 1 + 1 by omega]
    simp only [List.cons_append, List.nil_append, List.set_cons_succ]
    rw [ih]; rfl
/-- A row of faults of a call's own. -/
def FtO (w : World) (base : Nat) (v : Value) (l : List Fa.Flt) : Prop := w.ownsRow base 38 3 v l.length (flts l)
theorem FtO.ftv {w : World} {base : Nat} {v : Value} {l : List Fa.Flt} (h : FtO w base v l) : FtV w v l :=
  Rw.of_own (rows := l.map fltC) (by rw [← flts_eq]; exact h) (by simp) (fun r hr => by obtain ⟨x, -, rfl⟩ := List.mem_map.1 hr; rfl) (by omega)
theorem FtO.keep {w W : World} {base : Nat} {v : Value} {l : List Fa.Flt} (h : FtO w base v l) (hb : Below w.heap.size w W) : FtO W base v l := by
  rcases h.2 with ⟨rfl, h0⟩ | ⟨g, cap, cur, rfl, hbg, hg, hr⟩
  · exact ⟨h.1, .inl ⟨rfl, h0⟩⟩
  · exact ⟨h.1, .inr ⟨g, cap, cur, rfl, hbg, keep_heap hg hb, hr⟩⟩
/-- The block of a row that is not empty. -/
theorem FtO.blk {w : World} {base : Nat} {v : Value} {l : List Fa.Flt} (h : FtO w base v l) (h0 : 0 < l.length) : ∃ g cap cur, v = .slice (some ⟨g, 0, none⟩) l.length cap ∧ base ≤ g ∧ w.heap[g]? = some (.cells cur 38 (0, 0)) ∧ l.length ≤ cap ∧ cap ≤ maxLen ∧ cur.size = cap * 3 ∧ cur.toList.take (l.length * 3) = flts l := by
  rcases h.2 with ⟨rfl, h1⟩ | ⟨g, cap, cur, rfl, hbg, hg, hnc, hcm, hcs, ht⟩
  · omega
  · exact ⟨g, cap, cur, rfl, hbg, hg, hnc, hcm, hcs, ht⟩
/-- Three cells stored one after the other. -/
theorem FtO.set {w : World} {base g cap : Nat} {l : List Fa.Flt} (h : FtO w base (.slice (some ⟨g, 0, none⟩) l.length cap) l) (i : Nat) (hi : i < l.length) (x : Fa.Flt) :
    FtO (((w.setCell ⟨g, i * 3, none⟩ (.int .i64 x.kind)).setCell ⟨g, i * 3 + 1, none⟩ (.int .i64 x.a)).setCell ⟨g, i * 3 + 2, none⟩ (.int .i64 x.n)) base (.slice (some ⟨g, 0, none⟩) l.length cap) (l.set i x) := by
  obtain ⟨g2, c2, cur, e, hbg, hg, hnc, hcm, hcs, ht⟩ := h.blk (by omega)
  injection e with e1 e2 e3
  injection e1 with e1
  injection e1 with e1 e4
  subst e1 e3
  have k1 := set_heap hg (i * 3) (.int .i64 x.kind)
  have k2 := set_heap k1 (i * 3 + 1) (.int .i64 x.a)
  have k3 := set_heap k2 (i * 3 + 2) (.int .i64 x.n)
  refine ⟨by rw [flts_len], .inr ⟨g, cap, _, by rw [List.length_set], hbg, k3, by rw [List.length_set]; exact hnc, hcm, by simpa using hcs, ?_⟩⟩
  rw [List.length_set]
  simp only [Array.toList_setIfInBounds]
  rw [List.take_set, List.take_set, List.take_set, ht]
  exact flts_set l i x hi
theorem setCells_row {g : Nat} {t : TypeId} : ∀ (vs : List Value) (o : Nat) (w : World) (cur : Array Value), w.heap[g]? = some (.cells cur t (0, 0)) →
    ∃ cur' : Array Value, (w.setCells g o vs).heap[g]? = some (.cells cur' t (0, 0)) ∧ cur'.size = cur.size ∧ (cur'.toList.take o = cur.toList.take o) ∧ ∀ B, B ≤ g → Below B w (w.setCells g o vs)
  | [], o, w, cur, h => ⟨cur, h, rfl, rfl, fun B _ => ⟨rfl, rfl, rfl, Nat.le_refl _, fun _ _ => rfl⟩⟩
  | v :: r, o, w, cur, h => by
    obtain ⟨cur', h1, h2, h3, h4⟩ := setCells_row r (o + 1) (w.setCell ⟨g, o, none⟩ v) _ (set_heap h o v)
    refine ⟨cur', h1, by simpa using h2, ?_, fun B hB => ?_⟩
    · have := congrArg (List.take o) h3
      rw [List.take_take, List.take_take, Nat.min_eq_left (by omega)] at this
      rw [this]
      simp only [Array.toList_setIfInBounds]
      rw [List.take_set_of_le (by omega)]
    · exact ((Below.refl B w).setCell (by dsimp only; omega) v).trans (h4 B hB)
theorem zeroFault (w : World) : (zeroValue 38).run Tryz.prog w = .ok (.agg #[.int .i64 0, .int .i64 0, .int .i64 0]) w := by kernel_rfl
theorem run_clear3 (w : World) (ty : TypeId) (g o n c : Nat) (hn : 0 < n) (cur : Array Value) (hg : w.heap[g]? = some (.cells cur 38 (0, 0))) (ho : o + n * 3 ≤ cur.size) :
    (Builtin.clear_ #[39] ty #[.slice (some ⟨g, o, none⟩) n c]).run Tryz.prog w = .ok (.tuple #[]) (w.setCells g o (List.replicate (n * 3) (.int .i64 0))) := by
  have hzc : (Builtin.zeroCells #[.int .i64 0, .int .i64 0, .int .i64 0] n).toList = List.replicate (n * 3) (.int .i64 0) := by
    simp [Builtin.zeroCells]
    apply List.ext_getElem
    · simp
    · intro i h1 h2
      simp
      have : i % 3 = 0 ∨ i % 3 = 1 ∨ i % 3 = 2 := by omega
      rcases this with e | e | e <;> simp [e]
  have hst := run_storeCells_cells (P := Tryz.prog) g o (List.replicate (n * 3) (.int .i64 0)) 0 w (fun j hj => by
    simp only [List.length_replicate] at hj
    simp only [World.cell?, hg, Nat.add_zero, Option.isSome_none, Bool.false_eq_true, if_false]
    rw [Array.getElem?_eq_getElem (by omega)]; rfl) (fun j hj => free_of_heap hg _) (by intro v hv'; rw [List.eq_of_mem_replicate hv']; rfl)
  simp only [Nat.add_zero] at hst
  obtain ⟨m, rfl⟩ : ∃ m, n = m + 1 := ⟨n - 1, by omega⟩
  simp [Builtin.clear_, run_underlying Tryz.underlying39, zeroFault, Value.cells, hzc, hst]
end Go.Proofs.YtcdfmgobokjcnaaGreatDoor
/- Walks: slices.Collect, Sorted, Compact; fault.delays. -/
namespace Go.Proofs.YtcdfmgobokjcnaaGreatDoor
set_option linter.unusedSimpArgs false
set_option linter.unusedVariables false
open Go.RowKit Go.Sort

theorem compactUpTo_spec (zs : List Int) (hs : zs.Pairwise (· ≤ ·)) : ∀ m, m ≤ zs.length → (Lib.compactUpTo zs.toArray m).Pairwise (· < ·) ∧ ∀ c, c ∈ Lib.compactUpTo zs.toArray m ↔ c ∈ zs.take m
  | 0, _ => by simp [Lib.compactUpTo]
  | m + 1, hm => by
    obtain ⟨h1, h2⟩ := compactUpTo_spec zs hs m (by omega)
    have hml : m < zs.length := by omega
    have e1 : zs.toArray[m]! = zs[m] := by rw [getElem!_pos zs.toArray m (by simpa using hml)]; simp
    have htk := List.take_succ_eq_append_getElem hml
    rw [Lib.compactUpTo_succ, htk]
    by_cases h0 : m = 0
    · subst h0
      have hk : Lib.keeps zs.toArray 0 = true := Lib.keeps_lt_one _ 0 (by omega)
      rw [if_pos hk, e1]
      refine ⟨by simp [Lib.compactUpTo], fun c => by simp [Lib.compactUpTo]⟩
    · have hm1 : m - 1 < zs.length := by omega
      have e2 : zs.toArray[m - 1]! = zs[m - 1] := by rw [getElem!_pos zs.toArray (m - 1) (by simpa using hm1)]; simp
      have hle : ∀ c ∈ zs.take m, c ≤ zs[m - 1] := by
        intro c hc
        obtain ⟨j, hj, rfl⟩ := List.getElem_of_mem hc
        rw [List.length_take] at hj
        rw [List.getElem_take]
        by_cases e : j = m - 1
        · subst e; exact Int.le_refl _
        · exact List.pairwise_iff_getElem.1 hs j (m - 1) (by omega) hm1 (by omega)
      have hlx : zs[m - 1] ≤ zs[m] := List.pairwise_iff_getElem.1 hs (m - 1) m hm1 hml (by omega)
      by_cases hx : zs[m] = zs[m - 1]
      · have hk : Lib.keeps zs.toArray m = false := Lib.keeps_neg (by omega) (by rw [e1, e2, hx])
        rw [if_neg (by rw [hk]; simp), List.append_nil]
        refine ⟨h1, fun c => ?_⟩
        rw [h2, List.mem_append, List.mem_singleton]
        constructor
        · exact .inl
        · rintro (h | h)
          · exact h
          · subst h
            rw [hx]
            rw [List.mem_take_iff_getElem]
            exact ⟨m - 1, by omega, rfl⟩
      · have hk : Lib.keeps zs.toArray m = true := Lib.keeps_pos (by rw [e1, e2]; exact hx)
        rw [if_pos hk, e1]
        refine ⟨?_, fun c => by rw [List.mem_append, List.mem_append, h2]⟩
        rw [List.pairwise_append]
        refine ⟨h1, by simp, fun a ha b hb => ?_⟩
        rw [List.mem_singleton] at hb
        subst hb
        have := hle a ((h2 a).1 ha)
        omega
theorem compact_spec (zs : List Int) (hs : zs.Pairwise (· ≤ ·)) : (Lib.compact zs).Pairwise (· < ·) ∧ ∀ c, c ∈ Lib.compact zs ↔ c ∈ zs := by
  have := compactUpTo_spec zs hs zs.length (Nat.le_refl _)
  rwa [List.take_length] at this
theorem compact_le (zs : List Int) : (Lib.compact zs).length ≤ zs.length := by
  have : ∀ m, (Lib.compactUpTo zs.toArray m).length ≤ m := by
    intro m
    induction m with
    | zero => simp [Lib.compactUpTo]
    | succ m ih =>
      rw [Lib.compactUpTo_succ, List.length_append]
      split <;> simp <;> omega
  exact this _
/-- The places: ascending, each once. -/
structure Places (cells ps : List Int) : Prop where
  asc : ps.Pairwise (· < ·)
  mem : ∀ c, c ∈ ps ↔ c ∈ cells
  len : ps.length ≤ cells.length
theorem Places.nodup {cells ps : List Int} (h : Places cells ps) : ps.Nodup := h.asc.imp (fun h => by omega)
/-- What grew but in rows of faults. -/
def NoF (w w' : World) : Prop := w.heap.size ≤ w'.heap.size ∧ ∀ (k : Nat) (cs : Array Value) (t : TypeId) (fr : Nat × Nat), w.heap[k]? = some (.cells cs t fr) → t ≠ 38 → w'.heap[k]? = some (.cells cs t fr)
theorem NoF.refl (w : World) : NoF w w := ⟨Nat.le_refl _, fun _ _ _ _ h _ => h⟩
theorem NoF.trans {w w' w'' : World} (h : NoF w w') (h2 : NoF w' w'') : NoF w w'' := ⟨Nat.le_trans h.1 h2.1, fun k cs t fr hk ht => h2.2 k cs t fr (h.2 k cs t fr hk ht) ht⟩
theorem NoF.below {w w' : World} (h : Below w.heap.size w w') : NoF w w' := ⟨h.size, fun _ _ _ _ hk _ => keep_heap hk h⟩
theorem NoF.ft {w w' : World} {base : Nat} {v : Value} {l : List Fa.Flt} (ho : FtO w base v l) (hg : w.grownBy w' v.ownBlock) : NoF w w' :=
  ⟨hg.size, fun _ _ _ _ hk ht => (GT.of_own ho hg).heap hk (fun e => ht e.symm)⟩
/-- A slice of numbers in a block of numbers. -/
def IsT (w : World) (v : Value) (l : List Int) : Prop := Is w v l ∧ ∀ g off n cap, v = .slice (some ⟨g, off, none⟩) n cap → ∃ cs fr, w.heap[g]? = some (.cells cs 3 fr)
theorem IsT.nof {w w' : World} {v : Value} {l : List Int} (h : IsT w v l) (hn : NoF w w') : IsT w' v l := by
  obtain ⟨⟨a, cap, rfl, hm, hx, hc⟩, ht⟩ := h
  refine ⟨⟨a, cap, rfl, hm, hx, fun i hi => ?_⟩, fun g off n cap e => ?_⟩
  · obtain ⟨b, off, e1, e2⟩ := hc i hi
    subst e1
    obtain ⟨cs, fr, h1⟩ := ht b off _ _ rfl
    have h2 := hn.2 _ _ _ _ h1 (by decide)
    refine ⟨b, off, rfl, ?_⟩
    rw [← e2]
    simp [World.cell?, h1, h2]
  · obtain ⟨cs, fr, h1⟩ := ht g off n cap e
    exact ⟨cs, fr, hn.2 _ _ _ _ h1 (by decide)⟩
/-- A new slice that holds the places. -/
def PlPost (B : Nat) (cells : List Int) (w : World) (e : Ending) (w' : World) : Prop := ∃ v ps, e = .returned v ∧ Places cells ps ∧ IsT w' v ps ∧ Below B w w'
theorem compactI_any (B : Nat) (v : Value) (cells zs : List Int) (w : World) (hs : zs.Pairwise (· ≤ ·)) (hm : ∀ c, c ∈ zs ↔ c ∈ cells) (hl : zs.length ≤ cells.length) (ho : w.ownsRow B 3 1 v zs.length (ints zs)) :
    Calls Tryz.prog 48 #[v] w (PlPost B cells w) := by
  obtain ⟨c1, c2⟩ := compact_spec zs hs
  have c3 := compact_le zs
  have hP : Places cells (Lib.compact zs) := ⟨c1, fun c => (c2 c).trans (hm c), by omega⟩
  have hmax := own_max ho
  rcases ho.2 with ⟨rfl, h0⟩ | ⟨g, cap, cur, rfl, hbg, hg, hnc, hcm, hcs, htake⟩
  · have h1 : zs = [] := List.eq_nil_of_length_eq_zero h0
    subst h1
    refine (Tryz.slices_Compact_int_empty none 0 w).mono ?_
    rintro e w' ⟨rfl, rfl⟩
    exact ⟨_, _, rfl, hP, ⟨Sl.nil _, fun g off n cap e => by cases e⟩, Below.refl _ _⟩
  · rw [Nat.mul_one] at htake
    have hH := Go.holds_of_blockI hg htake
    refine (Tryz.slices_Compact_int g 0 cap zs w hH (by unfold maxLen at hmax; omega) hnc).mono ?_
    rintro e w' ⟨rfl, q, rfl⟩
    have hsz : (Lib.compact zs ++ List.replicate (zs.length - (Lib.compact zs).length) 0).toArray.size = zs.toArray.size := by simp; omega
    have hH2 := holds_putRow (Value.int .i64) (Sort.ahead w q) g 0 zs.toArray _ (holds_ahead _ _ _ _ _ _ hH) hsz
    refine ⟨_, _, rfl, hP, ⟨?_, ?_⟩, ?_⟩
    · refine ⟨some ⟨g, 0, none⟩, cap, by rw [ints_len], by rw [ints_len]; omega, (fun h => by cases h), fun i hi => ⟨g, 0, rfl, ?_⟩⟩
      rw [ints_len] at hi
      have hi2 : i < (Lib.compact zs ++ List.replicate (zs.length - (Lib.compact zs).length) 0).toArray.size := by simp; omega
      rw [(hH2 i hi2).1, getElem!_pos _ i hi2]
      simp [ints, List.getElem_append_left hi]
    · intro g2 off n cap2 e
      injection e with e
      injection e with e
      injection e with e
      subst e
      exact ⟨_, (0, 0), by simp [putRow, mapBlock, Sort.ahead, Array.getElem?_modify, hg, onCells]; rfl⟩
    · refine ⟨rfl, rfl, rfl, by simp [putRow, mapBlock, Sort.ahead], fun k hk => ?_⟩
      unfold putRow mapBlock
      dsimp only
      rw [Array.getElem?_modify, if_neg (by omega)]
      rfl
set_option maxHeartbeats 1000000 in
theorem collect_any (v : Value) (l : List Int) (bA : Nat) (w : World) (hA : Box w bA 22 v) (hv : Is w v l) (hlen : l.length ≤ 1000000) :
    Calls Tryz.prog 89 #[.func (.func 91) #[] #[.pointer (some ⟨bA, 0, none⟩)]] w (RwPost l w) := by
  have HA := Lib.hid (appendSeq_any v l bA w hA hv hlen)
  unfold RwPost at HA ⊢
  clear hA hv hlen
  go_enter Tryz.func89, Tryz.ntmps89
  go_wp2_with fail
  go_at_call 123; refine HA.out.mono ?_; rintro e w2 ⟨v2, rfl, h2, b2⟩
  obtain ⟨a2, c2, rfl, -⟩ := own_slice h2
  have H2 := Lib.hid h2
  have B2 := Lib.hid b2
  clear h2 b2
  go_wp2_with fail
  go_ret
  exact ⟨_, rfl, H2.out, B2.out⟩
/-- A new row that holds the numbers of a list, ascending. -/
def SoPost (l : List Int) (w : World) (e : Ending) (w' : World) : Prop := ∃ v m, e = .returned v ∧ m.Perm l ∧ m.Pairwise (· ≤ ·) ∧ w'.ownsRow w.heap.size 3 1 v m.length (ints m) ∧ Below w.heap.size w w'
set_option maxHeartbeats 1000000 in
theorem sorted_any (v : Value) (l : List Int) (bA : Nat) (w : World) (hA : Box w bA 22 v) (hv : Is w v l) (hlen : l.length ≤ 1000000) :
    Calls Tryz.prog 49 #[.func (.func 91) #[] #[.pointer (some ⟨bA, 0, none⟩)]] w (SoPost l w) := by
  have HA := Lib.hid (collect_any v l bA w hA hv hlen)
  unfold RwPost at HA
  unfold SoPost
  clear hA hv
  go_enter Tryz.func49, Tryz.ntmps49
  go_wp2_with fail
  go_at_call 89; refine HA.out.mono ?_; rintro e w2 ⟨v2, rfl, h2, b2⟩
  have HS := Lib.hid (sortI_any w.heap.size v2 l w2 h2 (by omega) b2.size)
  obtain ⟨a2, c2, rfl, -⟩ := own_slice h2
  have B2 := Lib.hid b2
  clear h2 b2
  unfold SortedPost at HS
  go_wp2_with fail
  go_at_call 90; refine HS.out.mono ?_; rintro e w3 ⟨rfl, m, hm1, hm2, hm3, hm4, b3⟩
  have B3 := Lib.hid (B2.out.trans b3)
  have M1 := Lib.hid hm1
  have M2 := Lib.hid hm2
  have M4 := Lib.hid hm4
  clear hm1 hm2 hm3 hm4 b3
  go_wp2_with fail
  go_ret
  exact ⟨_, m, rfl, M1.out, M2.out, M4.out, B3.out⟩
end Go.Proofs.YtcdfmgobokjcnaaGreatDoor
