/- Parts Gg, Gh of this claim, laid one behind the other: walks and the plain laws behind them; each contract states its own conditions. -/
import Derived.Test.YtcdfmgobokjcnaaGreatDoorYF
/- Walks: append to rows of faults; fault.delays. -/
namespace Go.Proofs.YtcdfmgobokjcnaaGreatDoor
set_option linter.unusedSimpArgs false
set_option linter.unusedVariables false
open Go.RowKit Go.Sort

theorem fltInfo : (Tryz.prog.info? 38).map (fun i => (i.zero, i.size, i.bytes)) = some (some (.agg #[.int .i64 0, .int .i64 0, .int .i64 0]), 3, 24) := by kernel_rfl
set_option maxRecDepth 100000 in
theorem wpList_app_ft {w : World} {ops : Array Oper} {rest : List Oper} {o : Oper} {a : Act} {Q : Exit → Act → World → Prop} (hgd : o.guard = none) (s x : Operand)
    (ho : o.op = .call { callee := .builtin .append, args := #[s, x], argTypes := #[39, 39] })
    (base : Nat) (v : Value) (l : List Fa.Flt) (hs : a.eval s = v) (hown : FtO w base v l)
    (u : Value) (news : List Fa.Flt) (hx : a.eval x = u) (hr : FtV w u news)
    (h63 : l.length + news.length ≤ 1000000000) (hbase : base ≤ w.heap.size)
    (h : ∀ v' w', FtO w' base v' (l ++ news) → w.grownBy w' v.ownBlock → wpList Tryz.prog ops Q rest (a.put o.dst v') w') : wpList Tryz.prog ops Q (o :: rest) a w := by
  obtain ⟨i, hi, hz, hsize, hby⟩ := info_parts fltInfo
  obtain ⟨ad, cap, rfl, hm, hn, hc⟩ := hr
  rw [List.length_map] at hx hm
  cases ad with
  | none =>
    obtain rfl := hn rfl
    have h0 : news.length = 0 := by
      rcases Nat.eq_zero_or_pos news.length with h | h
      · exact h
      · obtain ⟨_, _, h', _⟩ := hc 0 (by simpa using h); cases h'
    obtain rfl : news = [] := List.eq_nil_of_length_eq_zero h0
    exact wpList_append_own_none hgd s x 39 ho base 38 i 3 Tryz.underlying39 hi v l.length (flts l) hs hown hx (h v w (by simpa using hown) (World.grownBy.refl w _))
  | some ad =>
    have hb : ∃ b off, ad = ⟨b, off, none⟩ ∨ news.length = 0 := by
      rcases Nat.eq_zero_or_pos news.length with h | h
      · exact ⟨0, 0, .inr h⟩
      · obtain ⟨b, off, h', _⟩ := hc 0 (by simpa using h)
        injection h' with h'
        exact ⟨b, off, .inl h'⟩
    refine wpList_append_own w hgd s x 39 ho base 38 i _ 3 24 Tryz.underlying39 hi hz hsize hby (by rfl) (by omega) v l.length (flts l) hs hown ad news.length cap (flts news) hx (by rw [flts_len]) (fun j u hu => ?_) (flts_one news) (by unfold maxLen; omega) (by omega) hbase (fun v' w' h2 h3 _ => h v' w' (by unfold FtO; rw [List.length_append, flts_app]; exact h2) h3)
    have hj := (List.getElem?_eq_some_iff.1 hu).1
    rw [flts_len] at hj
    have hi2 : j / 3 < news.length := by omega
    obtain ⟨b, off, h2, -, h3⟩ := hc (j / 3) (by simpa using hi2)
    injection h2 with h2
    subst h2
    have h4 := h3 (j % 3) (by omega)
    have hf := get_flatten (news.map fltC) (k := 3) (fun r hr => by obtain ⟨x, -, rfl⟩ := List.mem_map.1 hr; rfl) (j / 3) (by simpa using hi2) (j % 3) (by omega)
    rw [← flts_eq, show j / 3 * 3 + j % 3 = j by omega, hu] at hf
    have e2 : ((⟨b, off, none⟩ : Addr).add j) = ⟨b, off + j, none⟩ := by unfold Addr.add; split <;> simp_all
    rw [e2, show off + j = off + j / 3 * 3 + j % 3 by omega, h4, hf]
theorem ftv_one {w : World} {g : Nat} {x : Fa.Flt} {t : TypeId} (h : w.heap[g]? = some (.cells #[.int .i64 x.kind, .int .i64 x.a, .int .i64 x.n] t (0, 0))) : FtV w (.slice (some ⟨g, 0, none⟩) 1 1) [x] := by
  refine ⟨some ⟨g, 0, none⟩, 1, rfl, by simp [maxLen], (fun h => by cases h), fun i hi => ⟨g, 0, rfl, heap_lt h, fun j hj => ?_⟩⟩
  have : i = 0 := by simp at hi; omega
  subst this
  have : j = 0 ∨ j = 1 ∨ j = 2 := by omega
  rcases this with rfl | rfl | rfl
  · exact cell_of_heap h 0 rfl
  · exact cell_of_heap h 1 rfl
  · exact cell_of_heap h 2 rfl
theorem FtO.nil (w : World) (base : Nat) : FtO w base (.slice none 0 0) [] := ⟨rfl, .inl ⟨rfl, rfl⟩⟩
theorem below_ft {B : Nat} {w w' : World} {base : Nat} {v : Value} {l : List Fa.Flt} (ho : FtO w base v l) (hg : w.grownBy w' v.ownBlock) (hB : B ≤ base) (hw : B ≤ w.heap.size) : Below B w w' := below_own ho hg hB hw
theorem delaysL_len (k a most : Int) : (Fa.delaysL k a most).length = most.toNat := by simp [Fa.delaysL]
theorem delays_step (k a : Int) (n : Nat) : Fa.delaysL k a ((n : Int) + 1) = Fa.delaysL k a n ++ [⟨k, a, (n : Int) + 1⟩] := by
  unfold Fa.delaysL
  rw [show ((n : Int) + 1).toNat = n + 1 by omega, Int.toNat_natCast, List.range_succ, List.map_append]; rfl
/-- A new row of faults is handed back. -/
def FoPost (l : List Fa.Flt) (w : World) (e : Ending) (w' : World) : Prop := ∃ v, e = .returned v ∧ FtO w' w.heap.size v l ∧ Below w.heap.size w w'
set_option maxRecDepth 100000 in
set_option maxHeartbeats 8000000 in
theorem delays_any (k a most : Int) (w : World) (hm : most ≤ 1000000) :
    Calls Tryz.prog 47 #[.int .i64 k, .int .i64 a, .int .i64 most] w (FoPost (Fa.delaysL k a most) w) := by
  unfold FoPost
  go_enter Tryz.func47, Tryz.ntmps47
  go_wp2_with fail
  go_loopw [7, 10] (fun s7 iv wr => ∃ (i : Nat) (v : Value), v = s7 ∧ iv = .int .i64 i ∧ (i : Int) ≤ (most.toNat : Int) ∧ Hid (FtO wr w.heap.size v (Fa.delaysL k a i)) ∧ Hid (Below w.heap.size w wr)) (fun _ iv _ => most.toNat - (intOf iv).toNat)
  case atStart => exact ⟨0, .slice none 0 0, rfl, rfl, by omega, Lib.hid (FtO.nil w _), Lib.hid (Below.refl _ _)⟩
  case round =>
    obtain ⟨i, v, rfl, rfl, hi, HO, HB⟩ := hrel
    by_cases hlt : (i : Int) < most
    · have hst := Lib.hid (delays_step k a i)
      have hln : Hid ((Fa.delaysL k a i).length ≤ 1000000) := Lib.hid (by rw [delaysL_len]; omega)
      have B1 := Lib.hid (HB.out.alloc HB.out.size (.cells #[.int .i64 k, .int .i64 a, .int .i64 ((i : Int) + 1)] 38))
      have HN := Lib.hid (ftv_one (x := ⟨k, a, (i : Int) + 1⟩) (heap_alloc_new wr (.cells #[.int .i64 k, .int .i64 a, .int .i64 ((i : Int) + 1)] 38)))
      have HO1 := Lib.hid (HO.out.keep ((Below.refl _ wr).alloc (Nat.le_refl _) (.cells #[.int .i64 k, .int .i64 a, .int .i64 ((i : Int) + 1)] 38)))
      have hbs := B1.out.size
      go_wp2_with (at_builtin; refine wpList_app_ft rfl (.tmp 13) (.tmp 19) rfl w.heap.size v _ rfl HO1.out _ [⟨k, a, (i : Int) + 1⟩] rfl HN.out ?d1 hbs ?_)
      case d1 => have := hln.out; simp; omega
      intro v3 w3 ho3 hg3
      have HO3 : Hid (FtO w3 w.heap.size v3 (Fa.delaysL k a ((i : Int) + 1))) := Lib.hid (by rw [hst.out]; exact ho3)
      have B3 := Lib.hid (B1.out.trans (below_ft HO1.out hg3 (Nat.le_refl _) hbs))
      clear ho3 hg3 hbs
      go_wp2_with fail
      go_roundw
      case rel => exact ⟨i + 1, v3, rfl, by go_num, by omega, Lib.hid (by have := HO3.out; rwa [show ((i : Int) + 1) = ((i + 1 : Nat) : Int) by omega] at this), B3⟩
      case measure => simp [intOf]; omega
    · have he : Hid (Fa.delaysL k a i = Fa.delaysL k a most) := Lib.hid (by unfold Fa.delaysL; rw [show (i : Int).toNat = most.toNat by omega])
      go_wp2_with fail
      go_ret
      exact ⟨_, rfl, by rw [← he.out]; exact HO.out, HB.out⟩
end Go.Proofs.YtcdfmgobokjcnaaGreatDoor
/- Walks: fault.List. -/
namespace Go.Proofs.YtcdfmgobokjcnaaGreatDoor
set_option linter.unusedSimpArgs false
set_option linter.unusedVariables false
open Go.RowKit Go.Sort

theorem fto_one {w : World} {B g : Nat} {x : Fa.Flt} (hB : B ≤ g) (h : w.heap[g]? = some (.cells #[.int .i64 x.kind, .int .i64 x.a, .int .i64 x.n] 38 (0, 0))) : FtO w B (.slice (some ⟨g, 0, none⟩) 1 1) [x] :=
  ⟨rfl, .inr ⟨g, 1, _, rfl, hB, h, Nat.le_refl _, by unfold maxLen; omega, rfl, rfl⟩⟩
theorem robotsC_step (b : Fa.Bud) (i : Nat) : Fa.none3 :: Fa.robotsC b (i + 1) = ((Fa.none3 :: Fa.robotsC b i) ++ [⟨1, (i : Int), 0⟩]) ++ Fa.delaysL 3 (i : Int) b.muteMost := by
  unfold Fa.robotsC
  rw [List.range_succ, List.flatMap_append]
  simp [Fa.robotC]
theorem flat_lenF {α : Type} (f : α → List Fa.Flt) (n : Nat) (h : ∀ x, (f x).length ≤ n) : ∀ l : List α, (l.flatMap f).length ≤ l.length * n
  | [] => by simp
  | x :: l => by
    have := flat_lenF f n h l
    have := h x
    simp only [List.flatMap_cons, List.length_append, List.length_cons, Nat.add_mul]
    omega
theorem robotsC_le {b : Fa.Bud} (h : b.muteMost ≤ 1000) (i : Nat) : (Fa.robotsC b i).length ≤ i * 1001 := by
  have := flat_lenF (Fa.robotC b) 1001 (fun x => by unfold Fa.robotC; rw [List.length_cons, delaysL_len]; omega) (List.range i)
  rwa [List.length_range] at this
def stepP (c : Int) (p : Nat) : List Fa.Flt := (List.range p).map fun (q : Nat) => ⟨5, (q : Int), c⟩
theorem stepP_step (c : Int) (p : Nat) : stepP c (p + 1) = stepP c p ++ [⟨5, (p : Int), c⟩] := by
  unfold stepP; rw [List.range_succ, List.map_append]; rfl
theorem stepP_all (c : Int) (np : Nat) : stepP c (np + 1) = Fa.stepC np c := rfl
theorem stepP_len (c : Int) (p : Nat) : (stepP c p).length = p := by simp [stepP]
theorem cellsC_le {b : Fa.Bud} (h : b.liftMost ≤ 1000) {np : Nat} (hn : np ≤ 1000) (ps : List Int) : (ps.flatMap (Fa.cellC b np)).length ≤ ps.length * 2002 :=
  flat_lenF (Fa.cellC b np) 2002 (fun x => by unfold Fa.cellC; rw [List.length_cons, List.length_append, delaysL_len, ← stepP_all, stepP_len]; omega) ps
theorem cellsC_step (b : Fa.Bud) (np : Nat) (ps : List Int) (j : Nat) (hj : j < ps.length) (H : List Fa.Flt) :
    H ++ (ps.take (j + 1)).flatMap (Fa.cellC b np) = (((H ++ (ps.take j).flatMap (Fa.cellC b np)) ++ [⟨2, ps[j], 0⟩]) ++ Fa.delaysL 4 ps[j] b.liftMost) ++ stepP ps[j] (np + 1) := by
  rw [List.take_succ_eq_append_getElem hj, List.flatMap_append, stepP_all]
  simp [Fa.cellC]
/-- What List hands back. -/
def LstPost (f : Fl.Floor) (s : Bd.State) (b : Fa.Bud) (cells : List Int) (w : World) (e : Ending) (w' : World) : Prop := ∃ v l, e = .returned v ∧ FtV w' v l ∧ Fa.Listed f s b cells l ∧ Below w.heap.size w w'
set_option maxRecDepth 100000 in
set_option maxHeartbeats 16000000 in
theorem List_any (f : Fl.Floor) (kv ov zv av hv bv : Value) (s : Bd.State) (sv rv pv dv ku : Value) (b : Fa.Bud) (cv : Value) (cells : List Int) (w : World) (hf : FlV w kv ov f) (hfb : FB f) (hkl : f.kind.length ≤ 1000000) (h : StV w sv rv pv dv ku s) (hs : StS s) (hb : BudN b) (hc : Is w cv cells)
    (hmm : b.muteMost ≤ 1000) (hlm : b.liftMost ≤ 1000) (hcl : cells.length ≤ 1000) :
    Calls Tryz.prog 26 #[siF f kv ov zv av hv bv, stV s sv rv pv dv ku, .agg (budA b), cv] w (LstPost f s b cells w) := by
  have HPF := Lib.hid (predF f kv ov zv av hv bv s sv rv pv dv ku b cv cells w w.heap.size hf hfb hkl h hs hb hc (by omega))
  have HC := Lib.hid hc
  have n1 := hs.nr
  have n3 := hs.np
  obtain ⟨a1, c1, a2, c2, a3, c3, a4, c4, a5, c5, rfl, rfl, rfl, rfl, rfl, m1, m2, m3, m4, m5⟩ := h.open
  obtain ⟨ca, cc, rfl, hcm⟩ := hc.form
  have HLR := Lib.hid (fun i => robotsC_le (b := b) hmm i)
  have HLC := Lib.hid (fun np ps hn => cellsC_le (b := b) hlm (np := np) hn ps)
  obtain ⟨l2, e2⟩ : ∃ n, s.robots.length = n := ⟨_, rfl⟩
  obtain ⟨l3, e3⟩ : ∃ n, s.people.length = n := ⟨_, rfl⟩
  obtain ⟨CN, eC⟩ : ∃ n, cells.length = n := ⟨_, rfl⟩
  unfold LstPost
  unfold siF stV
  rw [e2, e3, eC] at HPF
  rw [eC] at HC hcl hcm
  rw [e2] at n1
  rw [e3] at n3
  rw [e2, e3, eC]
  obtain ⟨C, hC⟩ : ∃ C, C = CapW w w.heap.size f kv ov zv av hv bv s (.slice a1 s.shelves.length c1) (.slice a2 l2 c2) (.slice a3 l3 c3) (.slice a4 s.dead.length c4) (.slice a5 s.stuck.length c5) b (.slice ca CN cc) := ⟨_, rfl⟩
  obtain ⟨M1, hM1⟩ : ∃ x, b.muteMost = x := ⟨_, rfl⟩
  obtain ⟨M2, hM2⟩ : ∃ x, b.liftMost = x := ⟨_, rfl⟩
  have HM1B : Hid (M1 ≤ 1000) := Lib.hid (by omega)
  have HM2B : Hid (M2 ≤ 1000) := Lib.hid (by omega)
  have HD1 := Lib.hid (fun (i : Int) W => delays_any 3 i M1 W (by omega))
  have HD2 := Lib.hid (fun (i : Int) W => delays_any 4 i M2 W (by omega))
  have HRS := Lib.hid (fun i => robotsC_step b i)
  have HCS := Lib.hid (fun ps j hj H => cellsC_step b l3 ps j hj H)
  rw [hM1] at HRS
  rw [hM2] at HCS
  have HCAP : Hid (∀ W, C W → CapW w w.heap.size f kv ov zv av hv bv s (.slice a1 s.shelves.length c1) (.slice a2 l2 c2) (.slice a3 l3 c3) (.slice a4 s.dead.length c4) (.slice a5 s.stuck.length c5) b (.slice ca CN cc) W) := Lib.hid (fun W h => by rw [hC] at h; exact h)
  rw [← hC] at HPF
  have HBM : Hid (∀ W, C W → W.cell? ⟨w.heap.size + 1 + 1, 3, none⟩ = some (.int .i64 M1) ∧ W.cell? ⟨w.heap.size + 1 + 1, 5, none⟩ = some (.int .i64 M2)) := Lib.hid (fun W h => by
    have h2 := (HCAP.out W h).bud.cells
    rw [hM1, hM2] at h2
    exact ⟨h2.2.2.2.1, h2.2.2.2.2.2.1⟩)
  have hE2 := Lib.hid e2
  have hE3 := Lib.hid e3
  obtain ⟨w4, hw4⟩ : ∃ W, W = (((w.alloc (.cells #[.int .i64 f.w, .int .i64 f.h, .int .i64 f.d, kv, ov, zv, av, hv, bv] 30)).alloc (.cells #[.int .i64 s.tick, .slice a1 s.shelves.length c1, .slice a2 l2 c2, .slice a3 l3 c3, .slice a4 s.dead.length c4, .slice a5 s.stuck.length c5] 34)).alloc (.cells (budA b) 36)).alloc (.cells #[.slice ca CN cc] 22) := ⟨_, rfl⟩
  have HA4 := al4 w (.cells #[.int .i64 f.w, .int .i64 f.h, .int .i64 f.d, kv, ov, zv, av, hv, bv] 30) (.cells #[.int .i64 s.tick, .slice a1 s.shelves.length c1, .slice a2 l2 c2, .slice a3 l3 c3, .slice a4 s.dead.length c4, .slice a5 s.stuck.length c5] 34) (.cells (budA b) 36) (.cells #[.slice ca CN cc] 22)
  rw [← hw4] at HA4
  have HC4 : Hid (C w4) := Lib.hid (by rw [hC]; exact ⟨HA4.2.2.2.2.1, by omega, HA4.1, HA4.2.1, HA4.2.2.1, HA4.2.2.2.1⟩)
  have hz4 : w4.heap.size = w.heap.size + 4 := HA4.2.2.2.2.2
  have B4 := Lib.hid HA4.2.2.2.2.1
  have HZ4 := Lib.hid hz4
  have HW4 : Hid (w4 = (((w.alloc (.cells #[.int .i64 f.w, .int .i64 f.h, .int .i64 f.d, kv, ov, zv, av, hv, bv] 30)).alloc (.cells #[.int .i64 s.tick, .slice a1 s.shelves.length c1, .slice a2 l2 c2, .slice a3 l3 c3, .slice a4 s.dead.length c4, .slice a5 s.stuck.length c5] 34)).alloc (.cells #[.int .i64 b.stops, .int .i64 b.cells, .int .i64 b.mutes, .int .i64 b.muteMost, .int .i64 b.lifts, .int .i64 b.liftMost, .int .i64 b.steps] 36)).alloc (.cells #[.slice ca CN cc] 22)) := Lib.hid hw4
  have t2 := cell_of_heap (keep_heap HA4.2.1 (al1 w4 (.cells #[.int .i64 0, .int .i64 0, .int .i64 0] 38)).2.1) 2 (v := .slice a2 l2 c2) rfl
  have HO5 := Lib.hid (fto_one (B := w.heap.size + 4) (x := Fa.none3) (Nat.le_of_eq hz4.symm) (heap_alloc_new w4 (.cells #[.int .i64 0, .int .i64 0, .int .i64 0] 38)))
  have HC5 := Lib.hid (HPF.out.keep _ _ HC4.out ((Below.refl _ w4).alloc (Nat.le_of_eq hz4.symm) (.cells #[.int .i64 0, .int .i64 0, .int .i64 0] 38)))
  clear hf hfb hkl h hs hb hc hmm hlm e2 e3 eC hM1 hM2 hw4 HA4 hC hz4 m1 m4 m5
  unfold budA
  go_enter Tryz.func26, Tryz.ntmps26
  go_upto_region 1 with fail
  rw [← HW4.out]
  go_wp2_with fail
  go_loopw [9, 20] (fun s9 iv wr => ∃ (i : Nat) (v : Value), v = s9 ∧ iv = .int .i64 i ∧ i ≤ l2 ∧ Hid (FtO wr (w.heap.size + 4) v (Fa.none3 :: Fa.robotsC b i)) ∧ Hid (C wr)) (fun _ iv _ => l2 - (intOf iv).toNat)
  case atStart => exact ⟨0, _, rfl, rfl, by omega, Lib.hid HO5.out, HC5⟩
  case round =>
    clear t2
    obtain ⟨i, v, rfl, rfl, hi, HO, HCr⟩ := hrel
    by_cases hil : i < l2
    · have hi1 : (i : Int) < (l2 : Int) := by omega
      have hi0 : (0 : Int) ≤ (i : Int) := by omega
      have hst := Lib.hid (HRS.out i)
      have hln : Hid ((Fa.none3 :: Fa.robotsC b i).length ≤ 1001001) := Lib.hid (by have := HLR.out i; rw [List.length_cons]; omega)
      obtain ⟨PL, hPL⟩ : ∃ PL, Fa.none3 :: Fa.robotsC b i = PL := ⟨_, rfl⟩
      rw [hPL] at HO hst hln
      have hsr := (HCAP.out _ HCr.out).lt
      have hB1 : Below (w.heap.size + 4) wr (wr.alloc (.cells #[.int .i64 1, .int .i64 (i : Int), .int .i64 0] 38)) := (Below.refl _ wr).alloc hsr _
      have B1 := Lib.hid hB1
      have HN := Lib.hid (ftv_one (x := ⟨1, (i : Int), 0⟩) (heap_alloc_new wr (.cells #[.int .i64 1, .int .i64 (i : Int), .int .i64 0] 38)))
      have HO1 := Lib.hid (HO.out.keep ((Below.refl _ wr).alloc (Nat.le_refl _) (.cells #[.int .i64 1, .int .i64 (i : Int), .int .i64 0] 38)))
      have hbs : w.heap.size + 4 ≤ (wr.alloc (.cells #[.int .i64 1, .int .i64 (i : Int), .int .i64 0] 38)).heap.size := Nat.le_trans hsr hB1.size
      clear hPL hB1
      go_wp2_with (at_builtin; refine wpList_app_ft rfl (.tmp 23) (.tmp 26) rfl (w.heap.size + 4) v PL rfl HO1.out _ [⟨1, (i : Int), 0⟩] rfl HN.out ?d1 hbs ?_)
      case d1 => have := hln.out; simp; omega
      intro v3 w3 ho3 hg3
      have HO3 := Lib.hid ho3
      have B3 := Lib.hid (B1.out.trans (below_ft HO1.out hg3 (Nat.le_refl _) hbs))
      have HC3 := Lib.hid (HPF.out.keep _ _ HCr.out B3.out)
      have hsr3 := (HCAP.out _ HC3.out).lt
      obtain ⟨b3, b5⟩ := HBM.out _ HC3.out
      have hll : Hid ((PL ++ [(⟨1, (i : Int), 0⟩ : Fa.Flt)]).length ≤ 1001002) := Lib.hid (by have := hln.out; rw [List.length_append]; simp; omega)
      obtain ⟨P2, hP2⟩ : ∃ P, PL ++ [(⟨1, (i : Int), 0⟩ : Fa.Flt)] = P := ⟨_, rfl⟩
      rw [hP2] at HO3 hst hll
      clear ho3 hg3 hbs HO1 HN B1 hP2 b5
      have HDi := Lib.hid (HD1.out (i : Int) w3)
      unfold FoPost at HDi
      go_wp2_with fail
      go_at_call 47; refine HDi.out.mono ?_; rintro e w5 ⟨v5, rfl, ho5, b5⟩
      have HF5 := Lib.hid ho5.ftv
      have HO6 := Lib.hid (HO3.out.keep b5)
      have B5 := Lib.hid (B3.out.trans (b5.mono hsr3))
      have hbs5 : w.heap.size + 4 ≤ w5.heap.size := Nat.le_trans hsr3 b5.size
      clear ho5 b5 b3
      go_wp2_with (at_builtin; refine wpList_app_ft rfl (.tmp 28) (.tmp 32) rfl (w.heap.size + 4) v3 P2 rfl HO6.out v5 (Fa.delaysL 3 (i : Int) M1) rfl HF5.out ?d2 hbs5 ?_)
      case d2 => have := hll.out; have := HM1B.out; rw [delaysL_len]; omega
      intro v7 w7 ho7 hg7
      have HO7 : Hid (FtO w7 (w.heap.size + 4) v7 (Fa.none3 :: Fa.robotsC b (i + 1))) := Lib.hid (by rw [hst.out]; exact ho7)
      have HC7 := Lib.hid (HPF.out.keep _ _ HCr.out (B5.out.trans (below_ft HO6.out hg7 (Nat.le_refl _) hbs5)))
      clear ho7 hg7 hbs5
      go_wp2_with fail
      go_roundw
      case rel => exact ⟨i + 1, v7, rfl, by go_num, by omega, HO7, HC7⟩
      case measure => simp [intOf]; omega
    · have hie : i = l2 := by omega
      have HO9 : Hid (FtO wr (w.heap.size + 4) v (Fa.none3 :: Fa.robotsC b l2)) := Lib.hid (by rw [← hie]; exact HO.out)
      have hln : Hid ((Fa.none3 :: Fa.robotsC b l2).length ≤ 1001001) := Lib.hid (by have := HLR.out l2; rw [List.length_cons]; omega)
      obtain ⟨H0, hH0⟩ : ∃ PL, Fa.none3 :: Fa.robotsC b l2 = PL := ⟨_, rfl⟩
      rw [hH0] at HO9 hln
      have HH0 := Lib.hid hH0
      have hcap := HCAP.out _ HCr.out
      have q3 := cell_of_heap hcap.cl 0 (v := .slice ca CN cc) rfl
      have hsr := hcap.lt
      have HBr := Lib.hid hcap.below
      clear hie HO hH0 hcap
      have HVal := Lib.hid (fun W => Values_any ca CN cc W)
      have HAB := Lib.hid (al1 wr (.cells #[.slice ca CN cc] 22))
      have HCb : Hid (Is (wr.alloc (.cells #[.slice ca CN cc] 22)) (.slice ca CN cc) cells) := Lib.hid (HC.out.keep (HBr.out.trans (HAB.out.2.1.mono HBr.out.size)))
      have HSO := Lib.hid (sorted_any (.slice ca CN cc) cells wr.heap.size _ HAB.out.1 HCb.out (by have := HC.out.len; omega))
      unfold SoPost at HSO
      have HZb := HAB.out.2.2
      go_wp2_with fail
      go_at_call 50; refine (HVal.out wr).mono ?_; rintro e wv ⟨rfl, rfl⟩
      go_wp2_with fail
      go_at_call 49; refine HSO.out.mono ?_; rintro e ws ⟨vs, ms, rfl, hm1, hm2, hm3, hbs⟩
      have HCP := Lib.hid (compactI_any _ vs cells ms ws hm2 (fun c => hm1.mem_iff) (Nat.le_of_eq hm1.length_eq) hm3)
      have BS := Lib.hid (HAB.out.2.1.trans (hbs.mono HAB.out.2.1.size))
      have HBS : Hid ((wr.alloc (.cells #[.slice ca CN cc] 22)).heap.size ≤ ws.heap.size) := Lib.hid hbs.size
      obtain ⟨sa, sc, rfl, -⟩ := own_slice hm3
      unfold PlPost at HCP
      clear hm1 hm2 hm3 hbs HSO HCb
      go_wp2_with fail
      go_at_call 48; refine HCP.out.mono ?_; rintro e wp ⟨vp, ps, rfl, hpl, hip, bp⟩
      have HPL := Lib.hid hpl
      have BP : Hid (Below (w.heap.size + 4) wr wp) := Lib.hid ((BS.out.mono hsr).trans (bp.mono (by have := HAB.out.2.2; omega)))
      have HBp : Hid (Below wr.heap.size wr wp) := Lib.hid (BS.out.trans (bp.mono (by have := HAB.out.2.2; omega)))
      have HCp := Lib.hid (HPF.out.keep _ _ HCr.out BP.out)
      have HOp := Lib.hid (HO9.out.keep HBp.out)
      have HIp := Lib.hid hip
      obtain ⟨pa, pc, rfl, hpm⟩ := hip.1.form
      obtain ⟨np, hnp⟩ : ∃ n, ps.length = n := ⟨_, rfl⟩
      have hpn : np ≤ 1000 := by have := hpl.len; have := HC.out.len; omega
      rw [hnp] at HIp hpm ⊢
      have HNP := Lib.hid hnp
      clear hpl hip bp q3 hnp HCP HZb HAB HBr HBS BS
      go_wp2_with fail
      go_loopw [9, 41] (fun s9 iv wq => ∃ (j : Nat) (v : Value), v = s9 ∧ iv = .int .i64 j ∧ j ≤ np ∧ Hid (FtO wq (w.heap.size + 4) v (H0 ++ (ps.take j).flatMap (Fa.cellC b l3))) ∧ Hid (C wq) ∧ Hid (NoF wp wq)) (fun _ iv _ => np - (intOf iv).toNat)
      case atStart => exact ⟨0, v, rfl, rfl, by omega, Lib.hid (by simpa using HOp.out), HCp, Lib.hid (NoF.refl _)⟩
      case round =>
        obtain ⟨j, v, rfl, rfl, hj, HO, HCr, HBl⟩ := hrel
        by_cases hjn : j < np
        · have hjl : j < ps.length := by rw [HNP.out]; exact hjn
          obtain ⟨pb, po, rfl, r0⟩ := (HIp.out.nof HBl.out).1.cell j hjl
          have hst := Lib.hid (HCS.out ps j hjl H0)
          have hln : Hid ((H0 ++ (ps.take j).flatMap (Fa.cellC b l3)).length ≤ 3100000) := Lib.hid (by
            have h1 := HLC.out l3 (ps.take j) (by omega)
            have h2 := hln.out
            rw [List.length_take] at h1
            rw [List.length_append]
            have : min j ps.length ≤ 1000 := by omega
            omega)
          obtain ⟨X, hX⟩ : ∃ X, ps[j] = X := ⟨_, rfl⟩
          rw [hX] at r0 hst
          obtain ⟨PL, hPL⟩ : ∃ PL, H0 ++ (ps.take j).flatMap (Fa.cellC b l3) = PL := ⟨_, rfl⟩
          rw [hPL] at HO hst hln
          have hsr := (HCAP.out _ HCr.out).lt
          have j1 : (j : Int) < (np : Int) := by omega
          have j0 : (0 : Int) ≤ (j : Int) := by omega
          have hB1 : Below (w.heap.size + 4) wr (wr.alloc (.cells #[.int .i64 2, .int .i64 X, .int .i64 0] 38)) := (Below.refl _ wr).alloc hsr _
          have B1 := Lib.hid hB1
          have N1 : Hid (NoF wr (wr.alloc (.cells #[.int .i64 2, .int .i64 X, .int .i64 0] 38))) := Lib.hid (NoF.below (al1 _ _).2.1)
          have HN := Lib.hid (ftv_one (x := ⟨2, X, 0⟩) (heap_alloc_new wr (.cells #[.int .i64 2, .int .i64 X, .int .i64 0] 38)))
          have HO1 := Lib.hid (HO.out.keep (al1 wr (.cells #[.int .i64 2, .int .i64 X, .int .i64 0] 38)).2.1)
          have hbs : w.heap.size + 4 ≤ (wr.alloc (.cells #[.int .i64 2, .int .i64 X, .int .i64 0] 38)).heap.size := Nat.le_trans hsr hB1.size
          clear hPL hX hB1 hjl
          go_wp2_with (at_builtin; refine wpList_app_ft rfl (.tmp 45) (.tmp 48) rfl (w.heap.size + 4) v PL rfl HO1.out _ [⟨2, X, 0⟩] rfl HN.out ?d3 hbs ?_)
          case d3 => have := hln.out; simp; omega
          intro v3 w3 ho3 hg3
          have HO3 := Lib.hid ho3
          have B3 := Lib.hid (B1.out.trans (below_ft HO1.out hg3 (Nat.le_refl _) hbs))
          have N3 := Lib.hid (N1.out.trans (NoF.ft HO1.out hg3))
          have HC3 := Lib.hid (HPF.out.keep _ _ HCr.out B3.out)
          have hsr3 := (HCAP.out _ HC3.out).lt
          obtain ⟨b3, b5⟩ := HBM.out _ HC3.out
          have hll : Hid ((PL ++ [(⟨2, X, 0⟩ : Fa.Flt)]).length ≤ 3100001) := Lib.hid (by have := hln.out; rw [List.length_append]; simp; omega)
          obtain ⟨P2, hP2⟩ : ∃ P, PL ++ [(⟨2, X, 0⟩ : Fa.Flt)] = P := ⟨_, rfl⟩
          rw [hP2] at HO3 hst hll
          clear ho3 hg3 hbs HO1 HN B1 hP2 b3 r0 N1
          have HDi := Lib.hid (HD2.out X w3)
          unfold FoPost at HDi
          go_wp2_with fail
          go_at_call 47; refine HDi.out.mono ?_; rintro e w5 ⟨v5, rfl, ho5, b6⟩
          have HF5 := Lib.hid ho5.ftv
          have HO6 := Lib.hid (HO3.out.keep b6)
          have B5 := Lib.hid (B3.out.trans (b6.mono hsr3))
          have N5 := Lib.hid (N3.out.trans (NoF.below b6))
          have hbs5 : w.heap.size + 4 ≤ w5.heap.size := Nat.le_trans hsr3 b6.size
          clear ho5 b6 b5
          go_wp2_with (at_builtin; refine wpList_app_ft rfl (.tmp 50) (.tmp 54) rfl (w.heap.size + 4) v3 P2 rfl HO6.out v5 (Fa.delaysL 4 X M2) rfl HF5.out ?d4 hbs5 ?_)
          case d4 => have := hll.out; have := HM2B.out; rw [delaysL_len]; omega
          intro v7 w7 ho7 hg7
          have HO7 := Lib.hid ho7
          have B7 := Lib.hid (B5.out.trans (below_ft HO6.out hg7 (Nat.le_refl _) hbs5))
          have N7 := Lib.hid (N5.out.trans (NoF.ft HO6.out hg7))
          have HC7 := Lib.hid (HPF.out.keep _ _ HCr.out B7.out)
          have hl3 : Hid ((P2 ++ Fa.delaysL 4 X M2).length ≤ 3101001) := Lib.hid (by have := hll.out; have := HM2B.out; rw [List.length_append, delaysL_len]; omega)
          obtain ⟨P3, hP3⟩ : ∃ P, P2 ++ Fa.delaysL 4 X M2 = P := ⟨_, rfl⟩
          rw [hP3] at HO7 hst hl3
          have y3 := cell_of_heap (HCAP.out _ HC7.out).st 3 (v := .slice a3 l3 c3) rfl
          clear ho7 hg7 hbs5 hP3 HDi
          go_wp2_with fail
          go_loopw [9, 60] (fun s9 iv wq => ∃ (p : Nat) (v : Value), v = s9 ∧ iv = .int .i64 p ∧ p ≤ l3 + 1 ∧ Hid (FtO wq (w.heap.size + 4) v (P3 ++ stepP X p)) ∧ Hid (C wq) ∧ Hid (NoF wp wq)) (fun _ iv _ => l3 + 1 - (intOf iv).toNat)
          case atStart => exact ⟨0, v7, rfl, rfl, by omega, Lib.hid (by have := HO7.out; simpa [stepP] using this), HC7, Lib.hid (HBl.out.trans N7.out)⟩
          case round =>
            clear y3
            obtain ⟨p, v, rfl, rfl, hp, HOq, HCq, HNq⟩ := hrel
            by_cases hpl : p < l3 + 1
            · have p1 : (p : Int) < (l3 : Int) + 1 := by omega
              have p0 : (0 : Int) ≤ (p : Int) := by omega
              have hsq := (HCAP.out _ HCq.out).lt
              have hlq : Hid ((P3 ++ stepP X p).length ≤ 3102100) := Lib.hid (by have := hl3.out; rw [List.length_append, stepP_len]; omega)
              have hsp : Hid (P3 ++ stepP X (p + 1) = (P3 ++ stepP X p) ++ [⟨5, (p : Int), X⟩]) := Lib.hid (by rw [stepP_step, List.append_assoc])
              obtain ⟨P4, hP4⟩ : ∃ P, P3 ++ stepP X p = P := ⟨_, rfl⟩
              rw [hP4] at HOq hlq hsp
              have hB1 : Below (w.heap.size + 4) wr (wr.alloc (.cells #[.int .i64 5, .int .i64 (p : Int), .int .i64 X] 38)) := (Below.refl _ wr).alloc hsq _
              have B1 := Lib.hid hB1
              have N1 : Hid (NoF wr (wr.alloc (.cells #[.int .i64 5, .int .i64 (p : Int), .int .i64 X] 38))) := Lib.hid (NoF.below (al1 _ _).2.1)
              have HN := Lib.hid (ftv_one (x := ⟨5, (p : Int), X⟩) (heap_alloc_new wr (.cells #[.int .i64 5, .int .i64 (p : Int), .int .i64 X] 38)))
              have HO1 := Lib.hid (HOq.out.keep (al1 wr (.cells #[.int .i64 5, .int .i64 (p : Int), .int .i64 X] 38)).2.1)
              have hbs : w.heap.size + 4 ≤ (wr.alloc (.cells #[.int .i64 5, .int .i64 (p : Int), .int .i64 X] 38)).heap.size := Nat.le_trans hsq hB1.size
              clear hP4 hB1
              go_wp2_with (at_builtin; refine wpList_app_ft rfl (.tmp 63) (.tmp 67) rfl (w.heap.size + 4) v P4 rfl HO1.out _ [⟨5, (p : Int), X⟩] rfl HN.out ?d5 hbs ?_)
              case d5 => have := hlq.out; simp; omega
              intro v9 w9 ho9 hg9
              have HO9 : Hid (FtO w9 (w.heap.size + 4) v9 (P3 ++ stepP X (p + 1))) := Lib.hid (by rw [hsp.out]; exact ho9)
              have HC9 := Lib.hid (HPF.out.keep _ _ HCq.out (B1.out.trans (below_ft HO1.out hg9 (Nat.le_refl _) hbs)))
              have N9 := Lib.hid (HNq.out.trans (N1.out.trans (NoF.ft HO1.out hg9)))
              clear ho9 hg9 hbs
              go_wp2_with fail
              go_roundw
              case rel => exact ⟨p + 1, v9, rfl, by go_num, by omega, HO9, HC9, N9⟩
              case measure => simp [intOf]; omega
            · have hpe : p = l3 + 1 := by omega
              have HOe : Hid (FtO wr (w.heap.size + 4) v (H0 ++ (ps.take (j + 1)).flatMap (Fa.cellC b l3))) := Lib.hid (by rw [hst.out, ← hpe]; exact HOq.out)
              clear hpe
              go_wp2_with fail
              go_roundw
              case rel => exact ⟨j + 1, v, rfl, by go_num, by omega, HOe, HCq, HNq⟩
              case measure => simp [intOf]; omega
        · have hje : j = np := by omega
          have HAllE : Hid (H0 ++ ps.flatMap (Fa.cellC b l3) = Fa.allC b s.robots.length s.people.length ps) := Lib.hid (by rw [← HH0.out, hE2.out, hE3.out]; rfl)
          have HOA : Hid (FtO wr (w.heap.size + 4) v (Fa.allC b s.robots.length s.people.length ps)) := Lib.hid (by
            have := HO.out
            rw [List.take_of_length_le (by rw [HNP.out]; omega), HAllE.out] at this
            exact this)
          have hsr := (HCAP.out _ HCr.out).lt
          have HDE := Lib.hid (deleteF_any _ _ _ _ _ _ _ HPF.out v _ wr HOA.out HCr.out hsr)
          have HLL : Hid ((Fa.allC b s.robots.length s.people.length ps).length ≤ 3200000) := Lib.hid (by
            rw [← HAllE.out, List.length_append]
            have h1 := HLC.out l3 ps (by omega)
            have h2 := hln.out
            have h3 := HNP.out
            omega)
          have BRr := Lib.hid (HCAP.out _ HCr.out).below
          unfold DelPost at HDE
          clear hje HO
          go_wp2_with fail
          go_at_call 51; refine HDE.out.mono ?_; rintro e w5 ⟨v5, rfl, ho5, b5, hs5⟩
          have HFE : Hid (((Fa.allC b s.robots.length s.people.length ps).filter fun x => !!Fa.okB f s b cells x) = (Fa.allC b s.robots.length s.people.length ps).filter (Fa.okB f s b cells)) := Lib.hid (by congr 1; funext x; simp)
          rw [HFE.out] at ho5
          have HO5 := Lib.hid ho5
          have B5 := Lib.hid (BRr.out.trans (b5.mono (by omega)))
          have hs5b : w.heap.size + 4 ≤ w5.heap.size := Nat.le_trans hsr hs5
          have HSO := Lib.hid (sortF_any _ v5 _ w5 ho5 (by have := HLL.out; have := List.length_filter_le (Fa.okB f s b cells) (Fa.allC b s.robots.length s.people.length ps); omega) hs5b)
          obtain ⟨fa, fc, rfl, -⟩ := own_slice ho5
          unfold SrtPost at HSO
          clear ho5 b5 HFE
          go_wp2_with fail
          go_at_call 54; refine HSO.out.mono ?_; rintro e w6 ⟨rfl, m, hm1, hm2, hm3, b6⟩
          have HL := Lib.hid (Fa.listed_of HPL.out.nodup HPL.out.mem hm1 hm2)
          have HM3 := Lib.hid hm3
          have B6 := Lib.hid (B5.out.trans (b6.mono (by omega)))
          clear hm1 hm2 hm3 b6
          go_wp2_with fail
          go_ret
          exact ⟨_, m, rfl, HM3.out, HL.out, B6.out⟩
end Go.Proofs.YtcdfmgobokjcnaaGreatDoor
