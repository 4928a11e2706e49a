/- Parts Gd of this claim, laid one behind the other: walks and the plain laws behind them; each contract states its own conditions. -/
import Derived.Test.YtcdfmgobokjcnaaGreatDoorZW
import Derived.Test.YtcdfmgobokjcnaaGreatDoorYB
import Derived.Test.YtcdfmgobokjcnaaGreatDoorYE
/- Walks: sorting faults; the predicate of List. -/
namespace Go.Proofs.YtcdfmgobokjcnaaGreatDoor
set_option linter.unusedSimpArgs false
set_option linter.unusedVariables false
open Go.RowKit Go.Sort

theorem sortK_heap (w : World) (blk off n : Nat) (d : Array Fa.Flt) (os : Array Obj) (k : Nat) (hk : k < w.heap.size) (hne : k ≠ blk) : (sortWorldK fltC 3 w blk off n d os).heap[k]? = w.heap[k]? := by
  unfold sortWorldK
  rw [heap_grow_old _ _ (by unfold putRowK; simpa using hk)]
  unfold putRowK putRow mapBlock
  dsimp only
  rw [Array.getElem?_modify, if_neg (fun h => hne h.symm)]
  rfl
theorem sortK_size (w : World) (blk off n : Nat) (d : Array Fa.Flt) (os : Array Obj) : w.heap.size ≤ (sortWorldK fltC 3 w blk off n d os).heap.size := by
  unfold sortWorldK putRowK
  simp
/-- What sorting faults leaves. -/
def SrtPost (B : Nat) (v : Value) (l : List Fa.Flt) (w : World) (e : Ending) (w' : World) : Prop :=
  e = .returned (.tuple #[]) ∧ ∃ m : List Fa.Flt, m.Perm l ∧ (m.Pairwise fun x y => Fa.ltB y x = false) ∧ FtV w' v m ∧ Below B w w'
theorem sortF_any (B : Nat) (v : Value) (l : List Fa.Flt) (w : World) (ho : FtO w B v l) (hlen : l.length < 4611686018427387904) (hB : B ≤ w.heap.size) :
    Calls Tryz.prog 54 #[v, .func (.func 55) #[] #[]] w (SrtPost B v l w) := by
  by_cases h0 : l.length = 0
  · obtain rfl := List.eq_nil_of_length_eq_zero h0
    obtain ⟨a, cap, rfl, hm⟩ := own_slice ho
    refine (Tryz.slices_SortFunc_none (α := Fa.Flt) a cap _ w).mono ?_
    rintro e w' ⟨rfl, rfl⟩
    exact ⟨rfl, [], by simp, List.Pairwise.nil, ho.ftv, Below.refl _ _⟩
  · obtain ⟨g, cap, cur, rfl, hbg, hg, hnc, hcm, hcs, ht⟩ := ho.blk (by omega)
    have hg2 : g < w.heap.size := heap_lt hg
    have hH : HoldsK fltC 3 w g 0 l.toArray := by
      intro t ht2
      rw [size_flatK] at ht2
      refine ⟨?_, free_of_heap hg _⟩
      have hi : t / 3 < l.length := by simp at ht2; omega
      have hf := get_flatten (l.map fltC) (k := 3) (fun r hr => by obtain ⟨x, -, rfl⟩ := List.mem_map.1 hr; rfl) (t / 3) (by simpa using hi) (t % 3) (by omega)
      rw [← flts_eq, show t / 3 * 3 + t % 3 = t by omega, List.getElem_map] at hf
      have hj : t % 3 < (fltC l[t / 3]).length := by rw [fltC_len]; omega
      rw [List.getElem?_eq_getElem hj] at hf
      have hc := ho.cells (g := g) rfl t _ hf
      rw [Addr.add_lit] at hc
      rw [hc]
      congr 1
      rw [get_flatK _ _ _ _ ht2, getElem!_pos l.toArray (t / 3) (by simpa using hi), getElem!_pos _ _ (by simpa [fltC] using hj)]
      simp
    refine (Tryz.slices_SortFunc_total 3 Tryz.isAgg38 Tryz.sizeOf38 fltC fltC_len (fun x v hv => by simp [fltC] at hv; rcases hv with rfl | rfl | rfl <;> rfl) cmpF cmpF_swo 55 #[] g 0 cap l.toArray w (fun _ _ => by kernel_rfl) (fun m os dk hs x y => cmpF_any x y _) hH hg2 (by simpa using hlen) cmpF_tot).mono ?_
    rintro e w' ⟨rfl, n, os, rfl⟩
    obtain ⟨m, hm⟩ : ∃ m, l.mergeSort (fun x y => !(ltOf cmpF) y x) = m := ⟨_, rfl⟩
    have hperm := List.mergeSort_perm l (fun x y => !(ltOf cmpF) y x)
    have hp := List.pairwise_mergeSort (le := fun x y => !(ltOf cmpF) y x) (fun a b c h k => by
      simp at h k ⊢
      exact cmpF_swo.ntrans c b a k h) (fun a b => by
      cases h : ltOf cmpF b a
      · simp
      · cases k : ltOf cmpF a b
        · simp
        · have := cmpF_swo.trans _ _ _ h k
          rw [cmpF_swo.irrefl] at this; cases this) l
    rw [show l.toArray.toList = l by simp, hm]
    rw [hm] at hperm hp
    have hl := hperm.length_eq
    have hH2 := SWK.holds (W := sortWorldK fltC 3 w g 0 n m.toArray os) ⟨n, os, rfl⟩ hg2 hH (by simp [hl])
    refine ⟨rfl, m, hperm, hp.imp (fun h => by rw [ltOf_cmpF] at h; simpa using h), ?_, ?_⟩
    · refine ⟨some ⟨g, 0, none⟩, cap, by simp [hl], by simp; omega, by simp, fun i hi => ⟨g, 0, rfl, Nat.lt_of_lt_of_le hg2 (sortK_size ..), fun j hj => ?_⟩⟩
      have hi2 : i < m.length := by simpa using hi
      rw [(hH2.cell (i := i) (c := j) (by simpa using hi2) hj).1, getElem!_pos m.toArray i (by simpa using hi2), getElem!_pos _ _ (by rw [fltC_len]; exact hj)]
      simp only [List.getElem_map]
      rw [List.getElem?_eq_getElem (by rw [fltC_len]; exact hj)]
      simp
    · exact ⟨rfl, rfl, rfl, sortK_size .., fun k hk => sortK_heap w g 0 n _ os k (by omega) (by omega)⟩
/-! ### the predicate of List -/
/-- What List's function value has captured, in a world behind w. -/
structure CapW (w : World) (N : Nat) (f : Fl.Floor) (kv ov zv av hv bv : Value) (s : Bd.State) (sv rv pv dv ku : Value) (b : Fa.Bud) (cv : Value) (W : World) : Prop where
  below : Below w.heap.size w W
  lt : N + 4 ≤ W.heap.size
  site : W.heap[N]? = some (.cells #[.int .i64 f.w, .int .i64 f.h, .int .i64 f.d, kv, ov, zv, av, hv, bv] 30 (0, 0))
  st : W.heap[N + 1]? = some (.cells #[.int .i64 s.tick, sv, rv, pv, dv, ku] 34 (0, 0))
  bud : BudAt W (N + 1 + 1) b 36
  cl : W.heap[N + 1 + 1 + 1]? = some (.cells #[cv] 22 (0, 0))
theorem CapW.keep {w : World} {N : Nat} {f : Fl.Floor} {kv ov zv av hv bv : Value} {s : Bd.State} {sv rv pv dv ku : Value} {b : Fa.Bud} {cv : Value} {W W' : World} (h : CapW w N f kv ov zv av hv bv s sv rv pv dv ku b cv W) (hb : Below (N + 4) W W') (hN : w.heap.size ≤ N + 4) : CapW w N f kv ov zv av hv bv s sv rv pv dv ku b cv W' :=
  ⟨h.below.trans (hb.mono hN), Nat.le_trans h.lt hb.size, (hb.block _ (by omega)).trans h.site, (hb.block _ (by omega)).trans h.st, (hb.block _ (by omega)).trans h.bud, (hb.block _ (by omega)).trans h.cl⟩
set_option maxRecDepth 100000 in
set_option maxHeartbeats 16000000 in
theorem predF_call (f : Fl.Floor) (kv ov zv av hv bv : Value) (s : Bd.State) (sv rv pv dv ku : Value) (b : Fa.Bud) (cv : Value) (cells : List Int) (w : World) (N : Nat) (hf : FlV w kv ov f) (hfb : FB f) (hkl : f.kind.length ≤ 1000000) (h : StV w sv rv pv dv ku s) (hs : StS s) (hb : BudN b) (hc : Is w cv cells)
    (W : World) (x : Fa.Flt) (hW : CapW w N f kv ov zv av hv bv s sv rv pv dv ku b cv W) :
    Calls Tryz.prog 52 #[fltV x, .pointer (some ⟨N + 1 + 1, 0, none⟩), .pointer (some ⟨N + 1, 0, none⟩), .pointer (some ⟨N + 1 + 1 + 1, 0, none⟩), .pointer (some ⟨N, 0, none⟩)] W fun e w' => e = .returned (.bool (!Fa.okB f s b cells x)) ∧ Below W.heap.size W w' := by
  have HAL := Lib.hid (fun V => Allows_any b x V hb)
  have HCO := Lib.hid (fun V (hV : Below w.heap.size w V) => Concerns_any s sv rv pv dv ku cv x cells V (h.keep hV) (hc.keep hV))
  have HPO := Lib.hid (fun V (hV : Below w.heap.size w V) => Possible_any f kv ov zv av hv bv s sv rv pv dv ku x V (hf.keep hV) hfb hkl (h.keep hV) hs)
  have HOK : Hid (Fa.okB f s b cells x = (Fa.allowsB b x && (Fa.concB s x cells && Fa.possB f s x))) := Lib.hid rfl
  obtain ⟨R, hR⟩ : ∃ R, Fa.okB f s b cells x = R := ⟨_, rfl⟩
  obtain ⟨A, hA⟩ : ∃ R, Fa.allowsB b x = R := ⟨_, rfl⟩
  obtain ⟨D, hD⟩ : ∃ R, Fa.concB s x cells = R := ⟨_, rfl⟩
  obtain ⟨P, hP⟩ : ∃ R, Fa.possB f s x = R := ⟨_, rfl⟩
  rw [hR, hA, hD, hP] at HOK
  rw [hA] at HAL
  rw [hD] at HCO
  rw [hP] at HPO
  rw [hR]
  have HWc := Lib.hid hW
  have HA1 := Lib.hid (al1 W (.cells #[.int .i64 x.kind, .int .i64 x.a, .int .i64 x.n] 38))
  have C1 := Lib.hid (keep_heap hW.site HA1.out.2.1)
  have C2 := Lib.hid (keep_heap hW.st HA1.out.2.1)
  have C3 := Lib.hid (hW.bud.keep HA1.out.2.1)
  have C4 := Lib.hid (keep_heap hW.cl HA1.out.2.1)
  have B1 := Lib.hid HA1.out.2.1
  have BW := Lib.hid hW.below
  have IX := Lib.hid HA1.out.1
  have hlt := hW.lt
  have hlt1 := HA1.out.2.2
  unfold fltV at HAL HCO HPO ⊢
  unfold budA at HAL
  unfold stV siF at *
  clear hf hfb hkl h hs hb hc hR hA hD hP hW HA1
  obtain ⟨W1, hW1⟩ : ∃ V, V = W.alloc (.cells #[.int .i64 x.kind, .int .i64 x.a, .int .i64 x.n] 38) := ⟨_, rfl⟩
  rw [← hW1] at C1 C2 C3 C4 B1 IX hlt1
  have HW1 := Lib.hid hW1
  clear hW1
  obtain ⟨p0, p1, p2, p3, p4, p5, p6⟩ := C3.out.cells
  have x0 := cell_of_heap IX.out 0 (v := .int .i64 x.kind) rfl
  have x1 := cell_of_heap IX.out 1 (v := .int .i64 x.a) rfl
  have x2 := cell_of_heap IX.out 2 (v := .int .i64 x.n) rfl
  have BW1 := Lib.hid (BW.out.trans (B1.out.mono BW.out.size))
  go_enter Tryz.func52, Tryz.ntmps52
  go_upto_region 1 with fail
  rw [← HW1.out]
  go_wp2_with fail
  go_at_call 17; refine (HAL.out _).mono ?_; rintro e w2 ⟨rfl, b2⟩
  have B2 := Lib.hid (B1.out.trans (b2.mono B1.out.size))
  cases A with
  | false =>
    clear b2 p0 p1 p2 p3 p4 p5 p6 x0 x1 x2
    go_wp2_with fail
    go_ret
    exact ⟨by rw [HOK.out]; rfl, B2.out⟩
  | true =>
    have HOK2 : Hid (R = (D && P)) := Lib.hid (by rw [HOK.out]; rfl)
    have E1 := Lib.hid (keep_heap C1.out b2)
    have E2 := Lib.hid (keep_heap C2.out b2)
    have E4 := Lib.hid (keep_heap C4.out b2)
    have EX := Lib.hid (keep_heap IX.out b2)
    have BW2 := Lib.hid (BW1.out.trans (b2.mono BW1.out.size))
    clear b2 p0 p1 p2 p3 p4 p5 p6 x0 x1 x2 HOK C1 C2 C3 C4 IX
    have x0 := cell_of_heap EX.out 0 (v := .int .i64 x.kind) rfl
    have x1 := cell_of_heap EX.out 1 (v := .int .i64 x.a) rfl
    have x2 := cell_of_heap EX.out 2 (v := .int .i64 x.n) rfl
    have t0 := cell_of_heap E2.out 0 (v := .int .i64 s.tick) rfl
    have t1 := cell_of_heap E2.out 1 (v := sv) rfl
    have t2 := cell_of_heap E2.out 2 (v := rv) rfl
    have t3 := cell_of_heap E2.out 3 (v := pv) rfl
    have t4 := cell_of_heap E2.out 4 (v := dv) rfl
    have t5 := cell_of_heap E2.out 5 (v := ku) rfl
    have c0 := cell_of_heap E4.out 0 (v := cv) rfl
    go_wp2_with fail
    go_at_call 9; refine (HCO.out _ BW2.out).mono ?_; rintro e w3 ⟨rfl, b3⟩
    have B3 := Lib.hid (B2.out.trans (b3.mono B2.out.size))
    cases D with
    | false =>
      clear b3 x0 x1 x2 t0 t1 t2 t3 t4 t5 c0
      go_wp2_with fail
      go_ret
      exact ⟨by rw [HOK2.out]; rfl, B3.out⟩
    | true =>
      have HOK3 : Hid (R = P) := Lib.hid (by rw [HOK2.out]; rfl)
      have F1 := Lib.hid (keep_heap E1.out b3)
      have F2 := Lib.hid (keep_heap E2.out b3)
      have FX := Lib.hid (keep_heap EX.out b3)
      have BW3 := Lib.hid (BW2.out.trans (b3.mono BW2.out.size))
      clear b3 x0 x1 x2 t0 t1 t2 t3 t4 t5 c0 HOK2 E1 E2 E4 EX
      have x0 := cell_of_heap FX.out 0 (v := .int .i64 x.kind) rfl
      have x1 := cell_of_heap FX.out 1 (v := .int .i64 x.a) rfl
      have x2 := cell_of_heap FX.out 2 (v := .int .i64 x.n) rfl
      have t0 := cell_of_heap F2.out 0 (v := .int .i64 s.tick) rfl
      have t1 := cell_of_heap F2.out 1 (v := sv) rfl
      have t2 := cell_of_heap F2.out 2 (v := rv) rfl
      have t3 := cell_of_heap F2.out 3 (v := pv) rfl
      have t4 := cell_of_heap F2.out 4 (v := dv) rfl
      have t5 := cell_of_heap F2.out 5 (v := ku) rfl
      have s0 := cell_of_heap F1.out 0 (v := .int .i64 f.w) rfl
      have s1 := cell_of_heap F1.out 1 (v := .int .i64 f.h) rfl
      have s2 := cell_of_heap F1.out 2 (v := .int .i64 f.d) rfl
      have s3 := cell_of_heap F1.out 3 (v := kv) rfl
      have s4 := cell_of_heap F1.out 4 (v := ov) rfl
      have s5 := cell_of_heap F1.out 5 (v := zv) rfl
      have s6 := cell_of_heap F1.out 6 (v := av) rfl
      have s7 := cell_of_heap F1.out 7 (v := hv) rfl
      have s8 := cell_of_heap F1.out 8 (v := bv) rfl
      go_wp2_with fail
      go_at_call 53; refine (HPO.out _ BW3.out).mono ?_; rintro e w4 ⟨rfl, b4⟩
      have B4 := Lib.hid (B3.out.trans (b4.mono B3.out.size))
      clear b4 x0 x1 x2 t0 t1 t2 t3 t4 t5 s0 s1 s2 s3 s4 s5 s6 s7 s8
      cases P with
      | true =>
        rw [possE_t]
        go_wp2_with fail
        go_ret
        exact ⟨by rw [HOK3.out]; rfl, B4.out⟩
      | false =>
        rw [possE_f]
        go_wp2_with fail
        go_ret
        exact ⟨by rw [HOK3.out]; rfl, B4.out⟩
theorem predF (f : Fl.Floor) (kv ov zv av hv bv : Value) (s : Bd.State) (sv rv pv dv ku : Value) (b : Fa.Bud) (cv : Value) (cells : List Int) (w : World) (N : Nat) (hf : FlV w kv ov f) (hfb : FB f) (hkl : f.kind.length ≤ 1000000) (h : StV w sv rv pv dv ku s) (hs : StS s) (hb : BudN b) (hc : Is w cv cells) (hN : w.heap.size ≤ N + 4) :
    PredF (CapW w N f kv ov zv av hv bv s sv rv pv dv ku b cv) (N + 4) (N + 1 + 1) (N + 1) (N + 1 + 1 + 1) N fun x => !Fa.okB f s b cells x :=
  ⟨fun W W' hW hB => hW.keep hB hN, fun W x hW => predF_call f kv ov zv av hv bv s sv rv pv dv ku b cv cells w N hf hfb hkl h hs hb hc W x hW⟩
end Go.Proofs.YtcdfmgobokjcnaaGreatDoor
