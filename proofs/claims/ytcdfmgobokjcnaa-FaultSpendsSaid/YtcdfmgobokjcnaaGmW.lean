/- The walk of FaultSpends. -/
import Derived.Test.YtcdfmgobokjcnaaGk
import Derived.Test.YtcdfmgobokjcnaaGl
import Derived.Test.YtcdfmgobokjcnaaFe
import Derived.Deep.MidRow
namespace Go.Proofs.Ytcdfmgobokjcnaa
set_option linter.unusedSimpArgs false
set_option linter.unusedVariables false
open Go.RowKit Go.Sort

set_option maxRecDepth 100000 in
theorem step_app_ft {w : World} {ops : Array Oper} {o : Oper} {a : Act} {K : Act → World → Prop} {Q : Exit → Act → World → Prop} {E : Prop} (hgd : o.guard = none) (s x : Operand)
    (ho : o.op = .call { callee := .builtin .append, args := #[s, x], argTypes := #[24, 24] })
    (base : Nat) (v : Value) (l : List Fa.Flt) (hs : a.eval s = v) (hown : FtO w base v l)
    (u : Value) (news : List Fa.Flt) (hx : a.eval x = u) (hr : FtV w u news)
    (h63 : l.length + news.length ≤ 1000000000) (hbase : base ≤ w.heap.size)
    (h : ∀ v' w', FtO w' base v' (l ++ news) → w.grownBy w' v.ownBlock → K (a.put o.dst v') w') :
    if Region.wanted o (yielded ops a.tmps) = true then Oper.wp Try.prog o a w K Q else E := by
  have hw : Region.wanted o (yielded ops a.tmps) = true := by simp [Region.wanted, hgd]
  rw [if_pos hw]
  obtain ⟨i, hi, hz, hsize, hby⟩ := info_parts fltInfo
  obtain ⟨ad, cap, rfl, hm, hn, hc⟩ := hr
  rw [List.length_map] at hx hm
  cases ad with
  | none =>
    obtain rfl := hn rfl
    have h0 : news.length = 0 := by
      rcases Nat.eq_zero_or_pos news.length with h | h
      · exact h
      · obtain ⟨_, _, h', _⟩ := hc 0 (by simpa using h); cases h'
    obtain rfl : news = [] := List.eq_nil_of_length_eq_zero h0
    have hrun := run_append_owned_none (P := Try.prog) (w := w) base 24 o.type 32 i 3 Try.underlying24 hi v l.length (flts l) hown
    unfold Oper.wp
    simp [execOp, ho, resolve, invoke, builtin, hs, hx, hrun, Result.andThen]
    exact h v w (by simpa using hown) (World.grownBy.refl w _)
  | some ad =>
    refine wp_append_own w s x 24 ho base 32 i _ 3 24 Try.underlying24 hi hz hsize hby (by rfl) (by omega) v l.length (flts l) hs hown ad news.length cap (flts news) hx (by rw [flts_len]) (fun j u hu => ?_) (flts_one news) (by unfold maxLen; omega) (by omega) hbase (fun v' w' h2 h3 _ => h v' w' (by unfold FtO; rw [List.length_append, flts_app]; exact h2) h3)
    have hj := (List.getElem?_eq_some_iff.1 hu).1
    rw [flts_len] at hj
    have hi2 : j / 3 < news.length := by omega
    obtain ⟨b, off, h2, -, h3⟩ := hc (j / 3) (by simpa using hi2)
    injection h2 with h2
    subst h2
    have h4 := h3 (j % 3) (by omega)
    have hf := get_flatten (news.map fltC) (k := 3) (fun r hr => by obtain ⟨x, -, rfl⟩ := List.mem_map.1 hr; rfl) (j / 3) (by simpa using hi2) (j % 3) (by omega)
    rw [← flts_eq, show j / 3 * 3 + j % 3 = j by omega, hu] at hf
    have e2 : ((⟨b, off, none⟩ : Addr).add j) = ⟨b, off + j, none⟩ := by unfold Addr.add; split <;> simp_all
    rw [e2, show off + j = off + j / 3 * 3 + j % 3 by omega, h4, hf]
/-- A slice cut at a place. -/
theorem ftv_drop {w : World} {b off n cap : Nat} {l : List Fa.Flt} (h : FtV w (.slice (some ⟨b, off, none⟩) n cap) l) (k c : Nat) (hk : k ≤ n) : FtV w (.slice (some ⟨b, off + k * 3, none⟩) (n - k) c) (l.drop k) := by
  obtain ⟨a2, c2, e, hm, hx, hc⟩ := h
  rw [List.length_map] at hm
  injection e with e1 e2 e3
  rw [List.length_map] at e2
  subst e1 e2
  refine ⟨some ⟨b, off + k * 3, none⟩, c, by simp, by simp; omega, (fun h => by cases h), fun i hi => ?_⟩
  have hi2 : k + i < (l.map fltC).length := by simp at hi ⊢; omega
  obtain ⟨b2, o2, g1, g2, g3⟩ := hc (k + i) hi2
  injection g1 with g1
  injection g1 with g1 g4
  subst g1 g4
  refine ⟨_, _, rfl, g2, fun j hj => ?_⟩
  rw [show off + k * 3 + i * 3 + j = off + (k + i) * 3 + j by omega, g3 j hj]
  simp
theorem ftv_take {w : World} {a : Option Addr} {n cap : Nat} {l : List Fa.Flt} (h : FtV w (.slice a n cap) l) (k c : Nat) (hk : k ≤ n) (hc0 : a = none → c = 0) : FtV w (.slice a k c) (l.take k) := by
  obtain ⟨a2, c2, e, hm, hx, hc⟩ := h
  rw [List.length_map] at hm
  injection e with e1 e2 e3
  rw [List.length_map] at e2
  subst e1 e2
  refine ⟨_, c, by simp; omega, by simp; omega, hc0, fun i hi => ?_⟩
  have hi2 : i < (l.map fltC).length := by simp at hi ⊢; omega
  obtain ⟨b2, o2, g1, g2, g3⟩ := hc i hi2
  refine ⟨b2, o2, g1, g2, fun j hj => ?_⟩
  rw [g3 j hj]
  simp
theorem ftv_nil0 {w : World} {a : Option Addr} {c : Nat} (h : a = none → c = 0) : FtV w (.slice a 0 c) [] := ⟨a, c, rfl, by simp, h, fun i hi => by simp at hi⟩
/-- What the law leans on. -/
structure SpFacts (b c : Fa.Bud) (l m : List Fa.Flt) (X Y Z W : Fa.Bud × Nat) (okA okW : Bool) : Prop where
  hX : Fa.run b l = X
  hY : Fa.run b m = Y
  hZ : Fa.run c l = Z
  hW : Fa.run b (l.take Z.2) = W
  xi : X.2 ≤ l.length
  yj : Y.2 ≤ l.length
  zl : Z.2 ≤ l.length
  zt : okW = true → Z.2 ≤ X.2
  wu : okW = true → W.2 = Z.2
  ij : (X.2 = l.length) ↔ (Y.2 = l.length)
  xy : X.2 = l.length → X.1 = Y.1
  xs : BudS X.1
  xn : BudN X.1
  wn : BudN W.1
  hokA : okA = decide (X.2 = l.length)
  left : X.2 = l.length → (l.length : Int) - Fa.cnt l 0 = Fa.left b - Fa.left X.1
  wi : X.2 = l.length → withinB X.1 b = true
  hokW : withinB c b = okW
  zw : okW = true → withinB Z.1 W.1 = true
theorem nn_of {b : Fa.Bud} (h : Fa.rightB b = true) : Fa.Nn b := by
  have := Fa.rightB_iff.1 h
  exact ⟨this.h1.1, this.h2.1, this.h3.1, this.h4.1, this.h5.1⟩
theorem right_s {b : Fa.Bud} (h : Fa.rightB b = true) : BudS b := by
  have := Fa.rightB_iff.1 h
  exact ⟨by have := this.h1; omega, by have := this.h2; omega, by have := this.h3; omega, by have := this.h4; omega, by have := this.h5; omega⟩
theorem rest_s {b : Fa.Bud} (h : Fa.rightB b = true) {l : List Fa.Flt} (hn : Fa.Nn (Fa.rest b l)) : BudS (Fa.rest b l) := by
  have h1 := right_s h
  obtain ⟨n1, n2, n3, n4, n5⟩ := hn
  have := Fa.cnt_nonneg l 1; have := Fa.cnt_nonneg l 2; have := Fa.cnt_nonneg l 3; have := Fa.cnt_nonneg l 4; have := Fa.cnt_nonneg l 5
  obtain ⟨⟨a1, a2⟩, ⟨a3, a4⟩, ⟨a5, a6⟩, ⟨a7, a8⟩, a9, a10⟩ := h1
  simp only [Fa.rest] at n1 n2 n3 n4 n5
  constructor <;> (simp only [Fa.rest]; omega)
theorem bn_of_s {b c : Fa.Bud} (hb : BudN b) (h : BudS c) (h1 : c.muteMost = b.muteMost) (h2 : c.liftMost = b.liftMost) : BudN c := by
  obtain ⟨a1, a2, a3, a4, a5⟩ := h
  exact ⟨by omega, by omega, by omega, by rw [h1]; exact hb.h4, by omega, by rw [h2]; exact hb.h6, by omega⟩
instance (b : Fa.Bud) (l : List Fa.Flt) : Decidable (Fa.Fits b l) := by unfold Fa.Fits; infer_instance
theorem spFacts (b c : Fa.Bud) (l : List Fa.Flt) (k : Nat) (hb : BudN b) (hr : Fa.rightB b = true) (hc : Fa.rightB c = true) :
    SpFacts b c l (l.drop k ++ l.take k) (Fa.run b l) (Fa.run b (l.drop k ++ l.take k)) (Fa.run c l) (Fa.run b (l.take (Fa.run c l).2)) (decide (Fa.Fits b l)) (withinB c b) := by
  have nb := nn_of hr
  have nc := nn_of hc
  obtain ⟨p1, p2, p3, p4, -⟩ := Fa.run_spec l b nb
  obtain ⟨q1, q2, q3, q4, -⟩ := Fa.run_spec l c nc
  obtain ⟨m1, -, m3, m4, -⟩ := Fa.run_spec (l.drop k ++ l.take k) b nb
  obtain ⟨w1, w2, w3, w4, -⟩ := Fa.run_spec (l.take (Fa.run c l).2) b nb
  have hml : (l.drop k ++ l.take k).length = l.length := by simp; omega
  have hf := Fa.run_all nb l
  have hfm := Fa.run_all nb (l.drop k ++ l.take k)
  rw [Fa.fits_rot] at hfm
  rw [hml] at hfm m1
  have hxr : (Fa.run b l).1 = Fa.rest b (l.take (Fa.run b l).2) := p3
  have hs : BudS (Fa.run b l).1 := by rw [hxr]; exact rest_s hr (by rw [← hxr]; exact p2)
  have hsw : BudS (Fa.run b (l.take (Fa.run c l).2)).1 := by rw [w3]; exact rest_s hr (by rw [← w3]; exact w2)
  refine ⟨rfl, rfl, rfl, rfl, p1, m1, q1, ?_, ?_, ?_, ?_, hs, ?_, ?_, ?_, ?_, ?_, rfl, ?_⟩
  · exact fun h => (Fa.less_run nc nb (withinB_iff.1 h) l).1
  · exact fun h => (Fa.less_run nc nb (withinB_iff.1 h) l).2.1
  · exact hf.trans hfm.symm
  · intro h
    rw [Fa.run_rest nb (hf.1 h), Fa.run_rest nb ((Fa.fits_rot b l k).2 (hf.1 h)), Fa.rest_rot]
  · exact bn_of_s hb hs (by rw [hxr]; rfl) (by rw [hxr]; rfl)
  · exact bn_of_s hb hsw (by rw [w3]; rfl) (by rw [w3]; rfl)
  · by_cases h : Fa.Fits b l
    · rw [decide_eq_true h, decide_eq_true (hf.2 h)]
    · rw [decide_eq_false h, decide_eq_false (fun e => h (hf.1 e))]
  · intro h
    rw [Fa.run_rest nb (hf.1 h)]
    exact Fa.left_rest (hf.1 h).1
  · intro h
    rw [Fa.run_rest nb (hf.1 h)]
    exact withinB_iff.2 (Fa.within_rest b l)
  · intro h
    exact withinB_iff.2 (Fa.less_run nc nb (withinB_iff.1 h) l).2.2
/-- The five counts are within the budget. -/
def fiveB (b : Fa.Bud) (l : List Fa.Flt) : Bool := decide (Fa.cnt l 1 ≤ b.stops) && (decide (Fa.cnt l 2 ≤ b.cells) && (decide (Fa.cnt l 3 ≤ b.mutes) && (decide (Fa.cnt l 4 ≤ b.lifts) && decide (Fa.cnt l 5 ≤ b.steps))))
def okFb (b : Fa.Bud) (x : Fa.Flt) : Bool := decide (0 ≤ x.kind) && (decide (x.kind < 6) && ((!decide (x.kind = 3) || (decide (1 ≤ x.n) && decide (x.n ≤ b.muteMost))) && (!decide (x.kind = 4) || (decide (1 ≤ x.n) && decide (x.n ≤ b.liftMost)))))
theorem okFb_iff {b : Fa.Bud} {x : Fa.Flt} : okFb b x = true ↔ Fa.okF b x := by
  unfold okFb Fa.okF
  simp only [Bool.and_eq_true, Bool.or_eq_true, Bool.not_eq_true', decide_eq_true_eq, decide_eq_false_iff_not]
  constructor
  · rintro ⟨h1, h2, h3, h4⟩
    exact ⟨h1, h2, fun e => h3.resolve_left (fun h => h e), fun e => h4.resolve_left (fun h => h e)⟩
  · rintro ⟨h1, h2, h3, h4⟩
    refine ⟨h1, h2, ?_, ?_⟩
    · by_cases e : x.kind = 3
      · exact .inr (h3 e)
      · exact .inl e
    · by_cases e : x.kind = 4
      · exact .inr (h4 e)
      · exact .inl e
theorem fits_all (b : Fa.Bud) (l : List Fa.Flt) : (fiveB b l && l.all (okFb b)) = decide (Fa.Fits b l) := by
  rw [Bool.eq_iff_iff, decide_eq_true_eq]
  unfold fiveB Fa.Fits
  simp only [Bool.and_eq_true, decide_eq_true_eq, List.all_eq_true]
  constructor
  · rintro ⟨⟨h1, h2, h3, h4, h5⟩, h6⟩
    exact ⟨fun f hf => okFb_iff.1 (h6 f hf), h1, h2, h3, h4, h5⟩
  · rintro ⟨h6, h1, h2, h3, h4, h5⟩
    exact ⟨⟨h1, h2, h3, h4, h5⟩, fun f hf => okFb_iff.2 (h6 f hf)⟩
theorem bud_sets {w : World} {g : Nat} {T : TypeId} (v : Fa.Bud) (h : w.heap[g]? = some (.cells #[.int .i64 0, .int .i64 0, .int .i64 0, .int .i64 0, .int .i64 0, .int .i64 0, .int .i64 0] T (0, 0))) :
    BudAt (((((((w.setCell ⟨g, 0, none⟩ (.int .i64 v.stops)).setCell ⟨g, 1, none⟩ (.int .i64 v.cells)).setCell ⟨g, 2, none⟩ (.int .i64 v.mutes)).setCell ⟨g, 3, none⟩ (.int .i64 v.muteMost)).setCell ⟨g, 4, none⟩ (.int .i64 v.lifts)).setCell ⟨g, 5, none⟩ (.int .i64 v.liftMost)).setCell ⟨g, 6, none⟩ (.int .i64 v.steps)) g v T :=
  set_heap (set_heap (set_heap (set_heap (set_heap (set_heap (set_heap h 0 (.int .i64 v.stops)) 1 (.int .i64 v.cells)) 2 (.int .i64 v.mutes)) 3 (.int .i64 v.muteMost)) 4 (.int .i64 v.lifts)) 5 (.int .i64 v.liftMost)) 6 (.int .i64 v.steps)
theorem bud_below {n : Nat} {w w2 : World} {g : Nat} (v : Fa.Bud) (h : Below n w w2) (hg : n ≤ g) :
    Below n w (((((((w2.setCell ⟨g, 0, none⟩ (.int .i64 v.stops)).setCell ⟨g, 1, none⟩ (.int .i64 v.cells)).setCell ⟨g, 2, none⟩ (.int .i64 v.mutes)).setCell ⟨g, 3, none⟩ (.int .i64 v.muteMost)).setCell ⟨g, 4, none⟩ (.int .i64 v.lifts)).setCell ⟨g, 5, none⟩ (.int .i64 v.liftMost)).setCell ⟨g, 6, none⟩ (.int .i64 v.steps)) :=
  ((((((h.setCell hg _).setCell hg _).setCell hg _).setCell hg _).setCell hg _).setCell hg _).setCell hg _
theorem bud_setsC {w : World} {g : Nat} {T : TypeId} (v : Fa.Bud) (h : w.heap[g]? = some (.cells #[.int .i64 0, .int .i64 0, .int .i64 0, .int .i64 0, .int .i64 0, .int .i64 0, .int .i64 0] T (0, 0))) :
    BudAt (w.setCells g 0 [.int .i64 v.stops, .int .i64 v.cells, .int .i64 v.mutes, .int .i64 v.muteMost, .int .i64 v.lifts, .int .i64 v.liftMost, .int .i64 v.steps]) g v T := bud_sets v h
theorem bud_belowC {n : Nat} {w w2 : World} {g : Nat} (v : Fa.Bud) (h : Below n w w2) (hg : n ≤ g) :
    Below n w (w2.setCells g 0 [.int .i64 v.stops, .int .i64 v.cells, .int .i64 v.mutes, .int .i64 v.muteMost, .int .i64 v.lifts, .int .i64 v.liftMost, .int .i64 v.steps]) := bud_below v h hg
theorem there7 {w : World} {g : Nat} {T : TypeId} (h : w.heap[g]? = some (.cells #[.int .i64 0, .int .i64 0, .int .i64 0, .int .i64 0, .int .i64 0, .int .i64 0, .int .i64 0] T (0, 0))) : w.there g 0 7 := fun j hj => by
  refine ⟨?_, free_of_heap h _⟩
  rw [Nat.zero_add, cell_of_heap h j (v := .int .i64 0) (by
    match j, hj with
    | 0, _ => rfl
    | 1, _ => rfl
    | 2, _ => rfl
    | 3, _ => rfl
    | 4, _ => rfl
    | 5, _ => rfl
    | 6, _ => rfl)]
  rfl
theorem all_take (p : Fa.Flt → Bool) (l : List Fa.Flt) (k : Nat) (hk : k < l.length) : (l.take (k + 1)).all p = ((l.take k).all p && p l[k]) := by
  rw [List.take_succ_eq_append_getElem hk, List.all_append]; simp
set_option maxRecDepth 100000 in
set_option maxHeartbeats 32000000 in
theorem FaultSpends_any (b c : Fa.Bud) (va : Option Addr) (n vc : Nat) (l : List Fa.Flt) (r : Int) (w : World) (hb : BudN b) (hcb : BudN c) (h : FtV w (.slice va n vc) l) (hcap : n ≤ vc) (hvc : vc ≤ 9223372036854775807) :
    Calls Try.prog 3 #[.agg (budA b), .agg (budA c), .slice va n vc, .int .i64 r] w fun e w' => e = .returned (.bool true) ∧ Below w.heap.size w w' := by
  have HSM := Lib.hid (fun W => small_any W)
  have HRB := Lib.hid (fun W => fRightB_any b W)
  have HRC := Lib.hid (fun W => fRightB_any c W)
  have HRU := Lib.hid (fun d v ll W hd hv => Run_any d v ll W hd hv)
  have HCN := Lib.hid (fun v W hv hl => counts_any v l W hv hl)
  have HLF := Lib.hid (fun d W hd => Left_any d W hd)
  have HWI := Lib.hid (fun d e W => fWithin_any d e W)
  have HSF := Lib.hid (fun k hr hc => spFacts b c l k hb hr hc)
  have hn : n = l.length := by obtain ⟨a2, c2, e, -⟩ := h.form; injection e
  have hva : va = none → vc = 0 := by
    obtain ⟨a2, c2, e, -, hx, -⟩ := h
    injection e with e1 e2 e3
    subst e1 e3
    exact hx
  have H := Lib.hid h
  have HN := Lib.hid hn
  have HVA := Lib.hid hva
  have HBN := Lib.hid hb
  have HCN2 := Lib.hid hcb
  obtain ⟨w2, hw2⟩ : ∃ W, W = (w.alloc (.cells #[.int .i64 b.stops, .int .i64 b.cells, .int .i64 b.mutes, .int .i64 b.muteMost, .int .i64 b.lifts, .int .i64 b.liftMost, .int .i64 b.steps] 23)).alloc (.cells #[.int .i64 c.stops, .int .i64 c.cells, .int .i64 c.mutes, .int .i64 c.muteMost, .int .i64 c.lifts, .int .i64 c.liftMost, .int .i64 c.steps] 23) := ⟨_, rfl⟩
  have HA := al2 w (.cells #[.int .i64 b.stops, .int .i64 b.cells, .int .i64 b.mutes, .int .i64 b.muteMost, .int .i64 b.lifts, .int .i64 b.liftMost, .int .i64 b.steps] 23) (.cells #[.int .i64 c.stops, .int .i64 c.cells, .int .i64 c.mutes, .int .i64 c.muteMost, .int .i64 c.lifts, .int .i64 c.liftMost, .int .i64 c.steps] 23)
  rw [← hw2] at HA
  have IB0 : Hid (BudAt w2 w.heap.size b 23) := Lib.hid HA.1
  have IC0 : Hid (BudAt w2 (w.heap.size + 1) c 23) := Lib.hid HA.2.1
  have B2 := Lib.hid HA.2.2.1
  have HW2 := Lib.hid hw2
  clear h hn hva hb hcb hw2 HA
  obtain ⟨RB, hRB⟩ : ∃ R, Fa.rightB b = R := ⟨_, rfl⟩
  obtain ⟨RC, hRC⟩ : ∃ R, Fa.rightB c = R := ⟨_, rfl⟩
  rw [hRB] at HRB
  rw [hRC] at HRC
  have HRBe := Lib.hid hRB
  have HRCe := Lib.hid hRC
  clear hRB hRC
  unfold budA at HRB HRC ⊢
  go_enter Try.func3, Try.ntmps3
  go_upto_region 1 with fail
  rw [← HW2.out]
  go_wp2_with fail
  go_at_call 4; refine (HSM.out _).mono ?_; rintro e w3 ⟨rfl, b3⟩
  have IB3 := Lib.hid (IB0.out.keep b3)
  have IC3 := Lib.hid (IC0.out.keep b3)
  have B3 := Lib.hid (B2.out.trans (b3.mono B2.out.size))
  clear b3 HSM HW2
  by_cases h60 : 60 < n
  · have d60 : (60 : Int) < (n : Int) := by omega
    go_wp2_with fail
    go_ret
    exact ⟨rfl, B3.out⟩
  obtain ⟨p0, p1, p2, p3, p4, p5, p6⟩ := IB3.out.cells
  go_wp2_with fail
  go_at_call 5; refine (HRB.out _).mono ?_; rintro e w4 ⟨rfl, b4⟩
  have IB4 := Lib.hid (IB3.out.keep b4)
  have IC4 := Lib.hid (IC3.out.keep b4)
  have B4 := Lib.hid (B3.out.trans (b4.mono B3.out.size))
  clear b4 p0 p1 p2 p3 p4 p5 p6
  cases RB with
  | false =>
    go_wp2_with fail
    go_ret
    exact ⟨rfl, B4.out⟩
  | true =>
    obtain ⟨p0, p1, p2, p3, p4, p5, p6⟩ := IC4.out.cells
    go_wp2_with fail
    go_at_call 5; refine (HRC.out _).mono ?_; rintro e w5 ⟨rfl, b5⟩
    have IB5 := Lib.hid (IB4.out.keep b5)
    have IC5 := Lib.hid (IC4.out.keep b5)
    have B5 := Lib.hid (B4.out.trans (b5.mono B4.out.size))
    clear b5 p0 p1 p2 p3 p4 p5 p6
    cases RC with
    | false =>
      go_wp2_with fail
      go_ret
      exact ⟨rfl, B5.out⟩
    | true =>
      go_upto_region 5 with fail
      obtain ⟨Bz, hBz⟩ : ∃ z : Bool, (decide (0 < r) && decide (r < (n : Int))) = z := ⟨_, rfl⟩
      have HBz := Lib.hid hBz
      clear hBz
      go_cut [46] (fun v46 wr => v46 = .bool Bz ∧ wr = w5)
      case first =>
        as_aux_lemma =>
          by_cases q1 : 0 < r
          · have HB2 : Hid (Bz = decide (r < (n : Int))) := Lib.hid (by rw [← HBz.out, decide_eq_true q1]; rfl)
            go_wp2_with fail
            go_meet
            exact ⟨by rw [HB2.out], by first | rfl | trivial⟩
          · have HB2 : Hid (Bz = false) := Lib.hid (by rw [← HBz.out, decide_eq_false q1]; rfl)
            go_wp2_with fail
            go_meet
            exact ⟨by rw [HB2.out], by first | rfl | trivial⟩
      case rest =>
        obtain ⟨rfl, rfl⟩ := hcut
        go_upto_if 46 with fail
        go_cut [10] (fun v10 wr => (∃ k : Nat, v10 = .int .i64 (k : Int) ∧ (k < n ∨ k = 0)) ∧ wr = wc)
        case first =>
          as_aux_lemma =>
            cases Bz with
            | true =>
              have hz := HBz.out
              rw [Bool.and_eq_true, decide_eq_true_eq, decide_eq_true_eq] at hz
              obtain ⟨z1, z2⟩ := hz
              go_wp2_with fail
              go_meet
              exact ⟨⟨r.toNat, by congr 1; omega, .inl (by omega)⟩, by first | rfl | trivial⟩
            | false =>
              go_wp2_with fail
              go_meet
              exact ⟨⟨0, rfl, .inr rfl⟩, by first | rfl | trivial⟩
        case rest =>
          obtain ⟨⟨k, rfl, hk⟩, rfl⟩ := hcut
          obtain ⟨w6, hw6⟩ : ∃ W, W = wc := ⟨_, rfl⟩
          subst hw6
          have hsl : n = 0 ∨ 0 < n := by omega
          go_upto_region 7 with fail
          go_cut [11] (fun v11 wr => ∃ mv, v11 = mv ∧ Hid (FtV wr mv (l.drop k ++ l.take k)) ∧ Hid (Below w6.heap.size w6 wr))
          case first =>
            rcases hsl with hn0 | hn0
            · as_aux_lemma =>
                have hk0 : k = 0 := by omega
                have hvn : va = none → vc = 0 := HVA.out
                have hl : l = [] := List.eq_nil_of_length_eq_zero (by rw [← HN.out]; exact hn0)
                have HLn : Hid (l.drop k ++ l.take k = []) := Lib.hid (by rw [hl]; simp)
                have HK0 : Hid (k = 0 ∧ n = 0) := Lib.hid ⟨hk0, hn0⟩
                have HFn : Hid (∀ W a m c, m = 0 → (a = none → c = 0) → FtV W (.slice a m c) []) := Lib.hid (fun W a m c hm h => by subst hm; exact ftv_nil0 h)
                have hw0 := al1 w6 (.cells #[] 32)
                have HB0 : Hid (Below w6.heap.size w6 (w6.alloc (.cells #[] 32)).drew) := Lib.hid (hw0.2.1.trans (below_drewN _ _ 1))
                have HO0 : Hid (FtO (w6.alloc (.cells #[] 32)).drew w6.heap.size (.slice (some ⟨w6.heap.size, 0, none⟩) 0 0) []) := Lib.hid ⟨rfl, .inr ⟨w6.heap.size, 0, #[], rfl, Nat.le_refl _, hw0.1, Nat.le_refl _, Nat.zero_le _, rfl, rfl⟩⟩
                have HSZ : Hid (w6.heap.size ≤ (w6.alloc (.cells #[] 32)).drew.heap.size) := Lib.hid HB0.out.size
                have k0 : (0 : Int) ≤ (k : Int) := by omega
                have k1 : (k : Int) ≤ (n : Int) := by omega
                have k2 : (k : Int) ≤ (vc : Int) := by omega
                have k4 : k ≤ n := by omega
                have k5 : k ≤ vc := by omega
                clear hl hw0 hn0 hk0
                cases va with
                | none =>
                  have hv0 := hvn rfl
                  clear hvn
                  obtain ⟨hk0, hn0⟩ := HK0.out
                  subst hv0 hk0 hn0
                  go_region_law (first
                    | (refine step_app_ft (by rfl) _ _ (by rfl) w6.heap.size (.slice (some ⟨w6.heap.size, 0, none⟩) 0 0) [] (by rfl) HO0.out _ [] (by rfl) (HFn.out _ _ _ _ (by have := HK0.out; omega) (by first | (intro _; rfl) | (intro h; exact nomatch h) | (intro _; have := HK0.out; omega))) (by decide) HSZ.out ?_; intro v6 wq6 ho6 hg6; have bu6 : Below w6.heap.size w6 wq6 := HB0.out.trans (below_ft HO0.out hg6 (Nat.le_refl _) HSZ.out); have hs6 := bu6.size)
                    | (refine step_app_ft (by rfl) _ _ (by rfl) w6.heap.size v6 [] (by rfl) ho6 _ [] (by rfl) (HFn.out _ _ _ _ (by have := HK0.out; omega) (by first | (intro _; rfl) | (intro h; exact nomatch h) | (intro _; have := HK0.out; omega))) (by decide) hs6 ?_; intro v7 w7 ho7 hg7; have bu7 : Below w6.heap.size w6 w7 := bu6.trans (below_ft ho6 hg7 (Nat.le_refl _) hs6)))
                  all_goals go_wp2_with fail
                  all_goals
                    go_meet
                    exact ⟨_, rfl, Lib.hid (by rw [HLn.out]; simpa using ho7.ftv), Lib.hid bu7⟩
                | some p =>
                  obtain ⟨vb, vo, vx⟩ := p
                  clear hvn
                  by_cases k3 : vc = k
                  · obtain ⟨hk0, hn0⟩ := HK0.out
                    subst k3
                    subst hk0
                    subst hn0
                    go_region_law (first
                      | (refine step_app_ft (by rfl) _ _ (by rfl) w6.heap.size (.slice (some ⟨w6.heap.size, 0, none⟩) 0 0) [] (by rfl) HO0.out _ [] (by rfl) (HFn.out _ _ _ _ (by have := HK0.out; omega) (by first | (intro _; rfl) | (intro h; exact nomatch h) | (intro _; have := HK0.out; omega))) (by decide) HSZ.out ?_; intro v6 wq6 ho6 hg6; have bu6 : Below w6.heap.size w6 wq6 := HB0.out.trans (below_ft HO0.out hg6 (Nat.le_refl _) HSZ.out); have hs6 := bu6.size)
                      | (refine step_app_ft (by rfl) _ _ (by rfl) w6.heap.size v6 [] (by rfl) ho6 _ [] (by rfl) (HFn.out _ _ _ _ (by have := HK0.out; omega) (by first | (intro _; rfl) | (intro h; exact nomatch h) | (intro _; have := HK0.out; omega))) (by decide) hs6 ?_; intro v7 w7 ho7 hg7; have bu7 : Below w6.heap.size w6 w7 := bu6.trans (below_ft ho6 hg7 (Nat.le_refl _) hs6)))
                    all_goals go_wp2_with fail
                    all_goals
                      go_meet
                      exact ⟨_, rfl, Lib.hid (by rw [HLn.out]; simpa using ho7.ftv), Lib.hid bu7⟩
                  · go_region_law (first
                      | (refine step_app_ft (by rfl) _ _ (by rfl) w6.heap.size (.slice (some ⟨w6.heap.size, 0, none⟩) 0 0) [] (by rfl) HO0.out _ [] (by rfl) (HFn.out _ _ _ _ (by have := HK0.out; omega) (by first | (intro _; rfl) | (intro h; exact nomatch h) | (intro _; have := HK0.out; omega))) (by decide) HSZ.out ?_; intro v6 wq6 ho6 hg6; have bu6 : Below w6.heap.size w6 wq6 := HB0.out.trans (below_ft HO0.out hg6 (Nat.le_refl _) HSZ.out); have hs6 := bu6.size)
                      | (refine step_app_ft (by rfl) _ _ (by rfl) w6.heap.size v6 [] (by rfl) ho6 _ [] (by rfl) (HFn.out _ _ _ _ (by have := HK0.out; omega) (by first | (intro _; rfl) | (intro h; exact nomatch h) | (intro _; have := HK0.out; omega))) (by decide) hs6 ?_; intro v7 w7 ho7 hg7; have bu7 : Below w6.heap.size w6 w7 := bu6.trans (below_ft ho6 hg7 (Nat.le_refl _) hs6)))
                    all_goals go_wp2_with fail
                    all_goals
                      go_meet
                      exact ⟨_, rfl, Lib.hid (by rw [HLn.out]; simpa using ho7.ftv), Lib.hid bu7⟩
            · as_aux_lemma =>
                have hkn : k < n := by omega
                obtain ⟨vb, vo, rfl, hvb, -⟩ := H.out.cell 0 (by rw [← HN.out]; exact hn0)
                have k0 : (0 : Int) ≤ (k : Int) := by omega
                have k1 : (k : Int) ≤ (n : Int) := by omega
                have k2 : (k : Int) ≤ (vc : Int) := by omega
                have k3 : ¬ vc = k := by omega
                have k4 : k ≤ n := by omega
                have k5 : k ≤ vc := by omega
                have hw0 := al1 w6 (.cells #[] 32)
                have HB0 : Hid (Below w6.heap.size w6 (w6.alloc (.cells #[] 32)).drew) := Lib.hid (hw0.2.1.trans (below_drewN _ _ 1))
                have HO0 : Hid (FtO (w6.alloc (.cells #[] 32)).drew w6.heap.size (.slice (some ⟨w6.heap.size, 0, none⟩) 0 0) []) := Lib.hid ⟨rfl, .inr ⟨w6.heap.size, 0, #[], rfl, Nat.le_refl _, hw0.1, Nat.le_refl _, Nat.zero_le _, rfl, rfl⟩⟩
                have HHc : Hid (∀ W, Below w6.heap.size w6 W → FtV W (.slice (some ⟨vb, vo, none⟩) n vc) l) := Lib.hid (fun W hW => H.out.keep (B5.out.trans (hW.mono B5.out.size)))
                have HF1 : Hid (FtV (w6.alloc (.cells #[] 32)).drew (.slice (some ⟨vb, vo + k * 3, none⟩) (n - k) (vc - k)) (l.drop k)) := Lib.hid (ftv_drop (HHc.out _ HB0.out) k _ k4)
                have HF2 : Hid (∀ W, Below w6.heap.size w6 W → FtV W (.slice (some ⟨vb, vo, none⟩) k vc) (l.take k)) := Lib.hid (fun W hW => ftv_take (HHc.out W hW) k vc k4 (fun e => by cases e))
                have hl1 : ([] : List Fa.Flt).length + (l.drop k).length ≤ 1000000000 := by have := HN.out; simp; omega
                have hl2 : (([] : List Fa.Flt) ++ l.drop k).length + (l.take k).length ≤ 1000000000 := by have := HN.out; simp; omega
                have HL1 := Lib.hid hl1
                have HL2 := Lib.hid hl2
                have HSZ : Hid (w6.heap.size ≤ (w6.alloc (.cells #[] 32)).drew.heap.size) := Lib.hid HB0.out.size
                clear hl1 hl2 hw0
                go_region_law (first
                  | (refine step_app_ft (by rfl) _ _ (by rfl) w6.heap.size (.slice (some ⟨w6.heap.size, 0, none⟩) 0 0) [] (by rfl) HO0.out (.slice (some ⟨vb, vo + k * 3, none⟩) (n - k) (vc - k)) (l.drop k) (by rfl) HF1.out HL1.out HSZ.out ?_; intro v6 wq6 ho6 hg6; have bu6 : Below w6.heap.size w6 wq6 := HB0.out.trans (below_ft HO0.out hg6 (Nat.le_refl _) HSZ.out); have hf6 := HF2.out wq6 bu6; have hs6 := bu6.size)
                  | (refine step_app_ft (by rfl) _ _ (by rfl) w6.heap.size v6 (([] : List Fa.Flt) ++ l.drop k) (by rfl) ho6 (.slice (some ⟨vb, vo, none⟩) k vc) (l.take k) (by rfl) hf6 HL2.out hs6 ?_; intro v7 w7 ho7 hg7; have bu7 : Below w6.heap.size w6 w7 := bu6.trans (below_ft ho6 hg7 (Nat.le_refl _) hs6)))
                all_goals go_wp2_with fail
                all_goals
                  go_meet
                  exact ⟨_, rfl, Lib.hid ho7.ftv, Lib.hid bu7⟩
          case rest =>
            obtain ⟨mv, hmv, HM, BM⟩ := hcut
            replace hmv := hmv.symm
            subst hmv
            have IBc := Lib.hid (IB5.out.keep BM.out)
            have ICc := Lib.hid (IC5.out.keep BM.out)
            have Bc := Lib.hid (B5.out.trans (BM.out.mono B5.out.size))
            have HF := Lib.hid (HSF.out k HRBe.out HRCe.out)
            obtain ⟨MM, hMM⟩ : ∃ M, l.drop k ++ l.take k = M := ⟨_, rfl⟩
            obtain ⟨⟨x, i⟩, hX⟩ : ∃ X, Fa.run b l = X := ⟨_, rfl⟩
            rw [hMM, hX] at HF
            rw [hMM] at HM
            obtain ⟨⟨y, j⟩, hY⟩ : ∃ X, Fa.run b MM = X := ⟨_, rfl⟩
            obtain ⟨⟨z, t⟩, hZ⟩ : ∃ X, Fa.run c l = X := ⟨_, rfl⟩
            rw [hY, hZ] at HF
            obtain ⟨⟨v, u⟩, hW⟩ : ∃ X, Fa.run b (l.take t) = X := ⟨_, rfl⟩
            dsimp only at HF
            rw [hW] at HF
            have HHc : Hid (∀ W, Below w6.heap.size w6 W → FtV W (.slice va n vc) l) := Lib.hid (fun W hW => H.out.keep (B5.out.trans (hW.mono B5.out.size)))
            have R1 := Lib.hid (fun W (hW : Below w6.heap.size w6 W) => HRU.out b _ l W HBN.out (HHc.out W hW))
            have R2 := Lib.hid (fun W (hW : Below wc.heap.size wc W) => HRU.out b mv MM W HBN.out (HM.out.keep hW))
            have R3 := Lib.hid (fun W (hW : Below w6.heap.size w6 W) => HRU.out c _ l W HCN2.out (HHc.out W hW))
            have R4 := Lib.hid (fun W v (hv : FtV W v (l.take t)) => HRU.out b v (l.take t) W HBN.out hv)
            have RC1 := Lib.hid (fun W (hW : Below w6.heap.size w6 W) => HCN.out _ W (HHc.out W hW) (by have := HN.out; omega))
            rw [hX] at R1
            rw [hY] at R2
            rw [hZ] at R3
            rw [hW] at R4
            have HAk := Lib.hid (HF.out.hokA.symm.trans (fits_all b l).symm)
            have hil : i ≤ n := by have := HF.out.xi; have := HN.out; omega
            have hjl : j ≤ n := by have := HF.out.yj; have := HN.out; omega
            have htl : t ≤ n := by have := HF.out.zl; have := HN.out; omega
            unfold runV at R1 R2 R3 R4
            unfold budA at R1 R2 R3 R4 HLF HWI
            dsimp only at R1 R2 R3 R4
            have n60 : n ≤ 60 := by omega
            clear hMM hX hY hZ hW HRU HCN HSF H
            obtain ⟨p0, p1, p2, p3, p4, p5, p6⟩ := IBc.out.cells
            go_wp2_with fail
            go_at_call 6; refine (R1.out wc BM.out).mono ?_; rintro e w7 ⟨rfl, b7⟩
            have g7 := al1 w7 (.cells #[.int .i64 x.stops, .int .i64 x.cells, .int .i64 x.mutes, .int .i64 x.muteMost, .int .i64 x.lifts, .int .i64 x.liftMost, .int .i64 x.steps] 23)
            have J8 : Hid (BudAt (w7.alloc (.cells #[.int .i64 x.stops, .int .i64 x.cells, .int .i64 x.mutes, .int .i64 x.muteMost, .int .i64 x.lifts, .int .i64 x.liftMost, .int .i64 x.steps] 23)) w7.heap.size x 23) := Lib.hid g7.1
            have B8 : Hid (Below wc.heap.size wc (w7.alloc (.cells #[.int .i64 x.stops, .int .i64 x.cells, .int .i64 x.mutes, .int .i64 x.muteMost, .int .i64 x.lifts, .int .i64 x.liftMost, .int .i64 x.steps] 23))) := Lib.hid (b7.trans (g7.2.1.mono b7.size))
            have IB8 := Lib.hid (IBc.out.keep B8.out)
            clear b7 g7 p0 p1 p2 p3 p4 p5 p6
            obtain ⟨p0, p1, p2, p3, p4, p5, p6⟩ := IB8.out.cells
            go_wp2_with fail
            go_at_call 6; refine (R2.out _ B8.out).mono ?_; rintro e w9 ⟨rfl, b9⟩
            have g9 := al1 w9 (.cells #[.int .i64 y.stops, .int .i64 y.cells, .int .i64 y.mutes, .int .i64 y.muteMost, .int .i64 y.lifts, .int .i64 y.liftMost, .int .i64 y.steps] 23)
            have JX := Lib.hid ((J8.out.keep b9).keep g9.2.1)
            have JY : Hid (BudAt (w9.alloc (.cells #[.int .i64 y.stops, .int .i64 y.cells, .int .i64 y.mutes, .int .i64 y.muteMost, .int .i64 y.lifts, .int .i64 y.liftMost, .int .i64 y.steps] 23)) w9.heap.size y 23) := Lib.hid g9.1
            have B10 : Hid (Below wc.heap.size wc (w9.alloc (.cells #[.int .i64 y.stops, .int .i64 y.cells, .int .i64 y.mutes, .int .i64 y.muteMost, .int .i64 y.lifts, .int .i64 y.liftMost, .int .i64 y.steps] 23))) := Lib.hid (B8.out.trans ((b9.trans (g9.2.1.mono b9.size)).mono B8.out.size))
            clear b9 g9 p0 p1 p2 p3 p4 p5 p6
            obtain ⟨w10, hw10⟩ : ∃ W, W = w9.alloc (.cells #[.int .i64 y.stops, .int .i64 y.cells, .int .i64 y.mutes, .int .i64 y.muteMost, .int .i64 y.lifts, .int .i64 y.liftMost, .int .i64 y.steps] 23) := ⟨_, rfl⟩
            rw [← hw10] at JX JY B10
            have HW10 := Lib.hid hw10
            have IB10 := Lib.hid (IBc.out.keep B10.out)
            have IC10 := Lib.hid (ICc.out.keep B10.out)
            have BA : Hid (Below w6.heap.size w6 w10) := Lib.hid (BM.out.trans (B10.out.mono BM.out.size))
            clear hw10
            obtain ⟨x0, x1, x2, x3, x4, x5, x6⟩ := JX.out.cells
            obtain ⟨y0, y1, y2, y3, y4, y5, y6⟩ := JY.out.cells
            obtain ⟨Xn, hXn⟩ : ∃ q : Bool, decide (i = n) = q := ⟨_, rfl⟩
            have HXn := Lib.hid hXn
            have HXY : Hid (Xn = true → x = y) := Lib.hid (fun h => HF.out.xy (by have := of_decide_eq_true (hXn.trans h); have := HN.out; dsimp only; omega))
            have hIJ : (i = n ↔ j = n) := by have := HF.out.ij; have := HN.out; dsimp only at *; constructor <;> (intro; omega)
            have ei : ((i : Int) == (n : Int)) = Xn := by rw [← hXn]; rw [Bool.eq_iff_iff]; simp; omega
            have ej : ((j : Int) == (n : Int)) = Xn := by rw [← hXn]; rw [Bool.eq_iff_iff]; simp; omega
            clear hXn hIJ
            go_upto_region 10 with fail
            rw [← HW10.out]
            go_cut [88] (fun v88 wr => v88 = .bool false ∧ wr = w10)
            case first =>
              as_aux_lemma =>
                cases Xn with
                | true =>
                  have hxy := HXY.out rfl
                  subst hxy
                  have hnq : ∀ W, (binOp .neq 23 (.agg #[.int .i64 x.stops, .int .i64 x.cells, .int .i64 x.mutes, .int .i64 x.muteMost, .int .i64 x.lifts, .int .i64 x.liftMost, .int .i64 x.steps]) (.agg #[.int .i64 x.stops, .int .i64 x.cells, .int .i64 x.mutes, .int .i64 x.muteMost, .int .i64 x.lifts, .int .i64 x.liftMost, .int .i64 x.steps])).run Try.prog W = .ok (.bool false) W := fun W => by have := bud_neq x x W; rw [decide_eq_true rfl] at this; exact this
                  go_wp2_with fail
                  go_meet
                  exact ⟨rfl, by first | rfl | trivial⟩
                | false =>
                  go_wp2_with fail
                  go_meet
                  exact ⟨rfl, by first | rfl | trivial⟩
            case rest =>
              obtain ⟨rfl, rfl⟩ := hcut
              clear ej x0 x1 x2 x3 x4 x5 x6 y0 y1 y2 y3 y4 y5 y6 JY HXY R2 HM
              obtain ⟨wk, hwk⟩ : ∃ W, W = wc := ⟨_, rfl⟩
              subst hwk
              go_wp2_with fail
              go_at_call 7; refine (RC1.out wk BA.out).mono ?_; rintro e w12 ⟨rfl, hct, b12⟩
              have HCT := Lib.hid hct
              have IB12 := Lib.hid (IB10.out.keep b12)
              have IC12 := Lib.hid (IC10.out.keep b12)
              have JX12 := Lib.hid (JX.out.keep b12)
              have B12 : Hid (Below w6.heap.size w6 w12) := Lib.hid (BA.out.trans (b12.mono BA.out.size))
              obtain ⟨F5, hF5⟩ : ∃ q, fiveB b l = q := ⟨_, rfl⟩
              have HF5 := Lib.hid hF5
              rw [hF5] at HAk
              have q1 : w12.cell? ⟨wk.heap.size, 1, none⟩ = some (.int .i64 (Fa.cnt l 1)) := cell_of_heap hct 1 rfl
              have q2 : w12.cell? ⟨wk.heap.size, 2, none⟩ = some (.int .i64 (Fa.cnt l 2)) := cell_of_heap hct 2 rfl
              have q3 : w12.cell? ⟨wk.heap.size, 3, none⟩ = some (.int .i64 (Fa.cnt l 3)) := cell_of_heap hct 3 rfl
              have q4 : w12.cell? ⟨wk.heap.size, 4, none⟩ = some (.int .i64 (Fa.cnt l 4)) := cell_of_heap hct 4 rfl
              have q5 : w12.cell? ⟨wk.heap.size, 5, none⟩ = some (.int .i64 (Fa.cnt l 5)) := cell_of_heap hct 5 rfl
              obtain ⟨p0, p1, p2, p3, p4, p5, p6⟩ := IB12.out.cells
              clear hct b12 ei
              go_upto_region 13 with fail
              go_cut [17] (fun v17 wr => v17 = .bool F5 ∧ Hid (Below w12.heap.size w12 wr))
              case first =>
                unfold fiveB at hF5
                obtain ⟨c1, hc1⟩ : ∃ q, Fa.cnt l 1 = q := ⟨_, rfl⟩
                obtain ⟨c2, hc2⟩ : ∃ q, Fa.cnt l 2 = q := ⟨_, rfl⟩
                obtain ⟨c3, hc3⟩ : ∃ q, Fa.cnt l 3 = q := ⟨_, rfl⟩
                obtain ⟨c4, hc4⟩ : ∃ q, Fa.cnt l 4 = q := ⟨_, rfl⟩
                obtain ⟨c5, hc5⟩ : ∃ q, Fa.cnt l 5 = q := ⟨_, rfl⟩
                rw [hc1, hc2, hc3, hc4, hc5] at hF5
                rw [hc1] at q1
                rw [hc2] at q2
                rw [hc3] at q3
                rw [hc4] at q4
                rw [hc5] at q5
                have HF6 := Lib.hid hF5
                clear hF5 hc1 hc2 hc3 hc4 hc5
                by_cases e1 : c1 ≤ b.stops
                · by_cases e2 : c2 ≤ b.cells
                  · by_cases e3 : c3 ≤ b.mutes
                    · by_cases e4 : c4 ≤ b.lifts
                      · by_cases e5 : c5 ≤ b.steps
                        · as_aux_lemma =>
                            have d1 : decide (c1 ≤ b.stops) = true := decide_eq_true e1
                            have d2 : decide (c2 ≤ b.cells) = true := decide_eq_true e2
                            have d3 : decide (c3 ≤ b.mutes) = true := decide_eq_true e3
                            have d4 : decide (c4 ≤ b.lifts) = true := decide_eq_true e4
                            have d5 : decide (c5 ≤ b.steps) = true := decide_eq_true e5
                            have HB2 : Hid (F5 = true) := Lib.hid (by rw [← HF6.out, d1, d2, d3, d4, d5]; rfl)
                            go_quiet (fail)
                            go_wp2_with fail
                            all_goals go_meet
                            all_goals exact ⟨by first | rfl | rw [HB2.out], Lib.hid (below_drewN _ _ _)⟩
                        · as_aux_lemma =>
                            have d1 : decide (c1 ≤ b.stops) = true := decide_eq_true e1
                            have d2 : decide (c2 ≤ b.cells) = true := decide_eq_true e2
                            have d3 : decide (c3 ≤ b.mutes) = true := decide_eq_true e3
                            have d4 : decide (c4 ≤ b.lifts) = true := decide_eq_true e4
                            have d5 : decide (c5 ≤ b.steps) = false := decide_eq_false e5
                            have HB2 : Hid (F5 = false) := Lib.hid (by rw [← HF6.out, d1, d2, d3, d4, d5]; rfl)
                            go_quiet (fail)
                            go_wp2_with fail
                            all_goals go_meet
                            all_goals exact ⟨by first | rfl | rw [HB2.out], Lib.hid (below_drewN _ _ _)⟩
                      · as_aux_lemma =>
                          have d1 : decide (c1 ≤ b.stops) = true := decide_eq_true e1
                          have d2 : decide (c2 ≤ b.cells) = true := decide_eq_true e2
                          have d3 : decide (c3 ≤ b.mutes) = true := decide_eq_true e3
                          have d4 : decide (c4 ≤ b.lifts) = false := decide_eq_false e4
                          have HB2 : Hid (F5 = false) := Lib.hid (by rw [← HF6.out, d1, d2, d3, d4]; rfl)
                          go_quiet (fail)
                          go_wp2_with fail
                          all_goals go_meet
                          all_goals exact ⟨by first | rfl | rw [HB2.out], Lib.hid (below_drewN _ _ _)⟩
                    · as_aux_lemma =>
                        have d1 : decide (c1 ≤ b.stops) = true := decide_eq_true e1
                        have d2 : decide (c2 ≤ b.cells) = true := decide_eq_true e2
                        have d3 : decide (c3 ≤ b.mutes) = false := decide_eq_false e3
                        have HB2 : Hid (F5 = false) := Lib.hid (by rw [← HF6.out, d1, d2, d3]; rfl)
                        go_quiet (fail)
                        go_wp2_with fail
                        all_goals go_meet
                        all_goals exact ⟨by first | rfl | rw [HB2.out], Lib.hid (below_drewN _ _ _)⟩
                  · as_aux_lemma =>
                      have d1 : decide (c1 ≤ b.stops) = true := decide_eq_true e1
                      have d2 : decide (c2 ≤ b.cells) = false := decide_eq_false e2
                      have HB2 : Hid (F5 = false) := Lib.hid (by rw [← HF6.out, d1, d2]; rfl)
                      go_quiet (fail)
                      go_wp2_with fail
                      all_goals go_meet
                      all_goals exact ⟨by first | rfl | rw [HB2.out], Lib.hid (below_drewN _ _ _)⟩
                · as_aux_lemma =>
                    have d1 : decide (c1 ≤ b.stops) = false := decide_eq_false e1
                    have HB2 : Hid (F5 = false) := Lib.hid (by rw [← HF6.out, d1]; rfl)
                    go_quiet (fail)
                    go_wp2_with fail
                    all_goals go_meet
                    all_goals exact ⟨by first | rfl | rw [HB2.out], Lib.hid (below_drewN _ _ _)⟩
              case rest =>
                obtain ⟨rfl, HB13⟩ := hcut
                have B13 := Lib.hid (B12.out.trans (HB13.out.mono B12.out.size))
                have HCT13 := Lib.hid (keep_heap HCT.out HB13.out)
                have IB13 := Lib.hid (IB12.out.keep HB13.out)
                have IC13 := Lib.hid (IC12.out.keep HB13.out)
                have JX13 := Lib.hid (JX12.out.keep HB13.out)
                clear hF5 q1 q2 q3 q4 q5 p0 p1 p2 p3 p4 p5 p6
                go_wp2_with fail
                go_loopw [18, 17] (fun iv fv wr => ∃ (k : Nat) (g : Bool), k ≤ n ∧ iv = .int .i64 k ∧ fv = .bool g ∧ Hid (g = (F5 && (l.take k).all (okFb b))) ∧ Hid (Below wc.heap.size wc wr)) (fun iv _ _ => n - (intOf iv).toNat)
                case atStart => exact ⟨0, F5, by omega, rfl, rfl, Lib.hid (by simp), Lib.hid (Below.refl _ _)⟩
                case round =>
                  obtain ⟨k2, g, hk2, rfl, rfl, HG, HB⟩ := hrel
                  by_cases hkn : k2 < n
                  · have hkl : k2 < l.length := by rw [← HN.out]; exact hkn
                    obtain ⟨bb, o, rfl, hbb, x0, x1, x2⟩ := (HHc.out _ (B13.out.trans (HB.out.mono B13.out.size))).cell k2 hkl
                    have i0 : (0 : Int) ≤ (k2 : Int) := by omega
                    have i1 : (k2 : Int) < (n : Int) := by omega
                    have HGn := Lib.hid (all_take (okFb b) l k2 hkl)
                    obtain ⟨X, hX⟩ : ∃ X, l[k2] = X := ⟨_, rfl⟩
                    rw [hX] at x0 x1 x2 HGn
                    have HGo : ∀ r, okFb b X = r → Hid ((g && r) = (F5 && (l.take (k2 + 1)).all (okFb b))) := fun r h => Lib.hid (by rw [HGn.out, ← Bool.and_assoc, ← HG.out, h])
                    obtain ⟨wa, hwa⟩ : ∃ W, W = wr.alloc (.cells #[.int .i64 X.kind, .int .i64 X.a, .int .i64 X.n] 32) := ⟨_, rfl⟩
                    have ga := al1 wr (.cells #[.int .i64 X.kind, .int .i64 X.a, .int .i64 X.n] 32)
                    rw [← hwa] at ga
                    have y0 : wa.cell? ⟨wr.heap.size, 0, none⟩ = some (.int .i64 X.kind) := cell_of_heap ga.1 0 rfl
                    have y2 : wa.cell? ⟨wr.heap.size, 2, none⟩ = some (.int .i64 X.n) := cell_of_heap ga.1 2 rfl
                    have BA2 : Hid (Below wc.heap.size wc wa) := Lib.hid (HB.out.trans (ga.2.1.mono HB.out.size))
                    obtain ⟨_, _, _, p3, _, p5, _⟩ := (IB13.out.keep BA2.out).cells
                    have HWA := Lib.hid hwa
                    clear hwa ga hX hkl
                    go_upto_region 18 with fail
                    rw [← HWA.out]
                    clear x0 x1 x2
                    have HGO := Lib.hid HGo
                    clear HGo
                    cases g with
                    | false =>
                      as_aux_lemma =>
                        have HR := HGO.out _ rfl
                        go_wp2_with fail
                        go_roundw
                        case rel => exact ⟨k2 + 1, _, by omega, by go_num, rfl, HR, BA2⟩
                        case measure => simp [intOf]; omega
                    | true =>
                      by_cases g0 : 0 ≤ X.kind
                      · by_cases g1 : X.kind < 6
                        · by_cases g3 : X.kind = 3
                          · by_cases h1 : 1 ≤ X.n
                            · by_cases h2 : X.n ≤ b.muteMost
                              · as_aux_lemma =>
                                  have t3 : (X.kind != 3) = false := by simp; omega
                                  have t4 : (X.kind != 4) = true := by simp; omega
                                  have HR := HGO.out true (okFb_iff.2 ⟨by omega, by omega, fun _ => by omega, fun _ => by omega⟩)
                                  go_wp2_with fail
                                  go_roundw
                                  case rel => exact ⟨k2 + 1, _, by omega, by go_num, rfl, HR, BA2⟩
                                  case measure => simp [intOf]; omega
                              · as_aux_lemma =>
                                  have t3 : (X.kind != 3) = false := by simp; omega
                                  have t4 : (X.kind != 4) = true := by simp; omega
                                  have HR := HGO.out false (by rw [Bool.eq_false_iff]; intro h; obtain ⟨a1, a2, a3, a4⟩ := okFb_iff.1 h; omega)
                                  go_wp2_with fail
                                  go_roundw
                                  case rel => exact ⟨k2 + 1, _, by omega, by go_num, rfl, HR, BA2⟩
                                  case measure => simp [intOf]; omega
                            · as_aux_lemma =>
                                have t3 : (X.kind != 3) = false := by simp; omega
                                have t4 : (X.kind != 4) = true := by simp; omega
                                have HR := HGO.out false (by rw [Bool.eq_false_iff]; intro h; obtain ⟨a1, a2, a3, a4⟩ := okFb_iff.1 h; omega)
                                go_wp2_with fail
                                go_roundw
                                case rel => exact ⟨k2 + 1, _, by omega, by go_num, rfl, HR, BA2⟩
                                case measure => simp [intOf]; omega
                          · by_cases g4 : X.kind = 4
                            · by_cases h1 : 1 ≤ X.n
                              · by_cases h2 : X.n ≤ b.liftMost
                                · as_aux_lemma =>
                                    have t3 : (X.kind != 3) = true := by simp; omega
                                    have t4 : (X.kind != 4) = false := by simp; omega
                                    have HR := HGO.out true (okFb_iff.2 ⟨by omega, by omega, fun _ => by omega, fun _ => by omega⟩)
                                    go_wp2_with fail
                                    go_roundw
                                    case rel => exact ⟨k2 + 1, _, by omega, by go_num, rfl, HR, BA2⟩
                                    case measure => simp [intOf]; omega
                                · as_aux_lemma =>
                                    have t3 : (X.kind != 3) = true := by simp; omega
                                    have t4 : (X.kind != 4) = false := by simp; omega
                                    have HR := HGO.out false (by rw [Bool.eq_false_iff]; intro h; obtain ⟨a1, a2, a3, a4⟩ := okFb_iff.1 h; omega)
                                    go_wp2_with fail
                                    go_roundw
                                    case rel => exact ⟨k2 + 1, _, by omega, by go_num, rfl, HR, BA2⟩
                                    case measure => simp [intOf]; omega
                              · as_aux_lemma =>
                                  have t3 : (X.kind != 3) = true := by simp; omega
                                  have t4 : (X.kind != 4) = false := by simp; omega
                                  have HR := HGO.out false (by rw [Bool.eq_false_iff]; intro h; obtain ⟨a1, a2, a3, a4⟩ := okFb_iff.1 h; omega)
                                  go_wp2_with fail
                                  go_roundw
                                  case rel => exact ⟨k2 + 1, _, by omega, by go_num, rfl, HR, BA2⟩
                                  case measure => simp [intOf]; omega
                            · as_aux_lemma =>
                                have t3 : (X.kind != 3) = true := by simp; omega
                                have t4 : (X.kind != 4) = true := by simp; omega
                                have HR := HGO.out true (okFb_iff.2 ⟨by omega, by omega, fun _ => by omega, fun _ => by omega⟩)
                                go_wp2_with fail
                                go_roundw
                                case rel => exact ⟨k2 + 1, _, by omega, by go_num, rfl, HR, BA2⟩
                                case measure => simp [intOf]; omega
                        · as_aux_lemma =>
                            have HR := HGO.out false (by rw [Bool.eq_false_iff]; intro h; obtain ⟨a1, a2, a3, a4⟩ := okFb_iff.1 h; omega)
                            go_wp2_with fail
                            go_roundw
                            case rel => exact ⟨k2 + 1, _, by omega, by go_num, rfl, HR, BA2⟩
                            case measure => simp [intOf]; omega
                      · as_aux_lemma =>
                          have HR := HGO.out false (by rw [Bool.eq_false_iff]; intro h; obtain ⟨a1, a2, a3, a4⟩ := okFb_iff.1 h; omega)
                          go_wp2_with fail
                          go_roundw
                          case rel => exact ⟨k2 + 1, _, by omega, by go_num, rfl, HR, BA2⟩
                          case measure => simp [intOf]; omega
                  · have HE : Hid (g = (F5 && l.all (okFb b))) := Lib.hid (by have := HG.out; rwa [List.take_of_length_le (by rw [← HN.out]; omega)] at this)
                    have HGX : Hid (Xn = g) := Lib.hid (by rw [HE.out, ← HAk.out, ← HXn.out, HN.out])
                    have B17 := Lib.hid (B13.out.trans (HB.out.mono B13.out.size))
                    have HCT17 := Lib.hid (keep_heap HCT13.out HB.out)
                    have IB17 := Lib.hid (IB13.out.keep HB.out)
                    have IC17 := Lib.hid (IC13.out.keep HB.out)
                    have JX17 := Lib.hid (JX13.out.keep HB.out)
                    have hgx := HGX.out
                    subst hgx
                    have ei : ((i : Int) == (n : Int)) = Xn := by rw [← HXn.out]; rw [Bool.eq_iff_iff]; simp; omega
                    obtain ⟨p0, p1, p2, p3, p4, p5, p6⟩ := IB17.out.cells
                    obtain ⟨x0, x1, x2, x3, x4, x5, x6⟩ := JX17.out.cells
                    have q0 : wr.cell? ⟨wk.heap.size, 0, none⟩ = some (.int .i64 (Fa.cnt l 0)) := cell_of_heap HCT17.out 0 rfl
                    go_upto_region 19 with fail
                    go_cut [215] (fun v215 wq => v215 = .bool false ∧ Hid (Below wr.heap.size wr wq))
                    case first =>
                      as_aux_lemma =>
                        cases Xn with
                        | false =>
                          go_quiet (fail)
                          go_wp2_with fail
                          all_goals go_meet
                          all_goals exact ⟨rfl, Lib.hid (below_drewN _ _ _)⟩
                        | true =>
                          have hin : i = l.length := by rw [← HN.out]; exact of_decide_eq_true HXn.out
                          have hbS := right_s HRBe.out
                          have hxS : BudS x := HF.out.xs
                          have hle : (l.length : Int) - Fa.cnt l 0 = Fa.left b - Fa.left x := HF.out.left hin
                          rw [← HN.out] at hle
                          have hc0 := Fa.cnt_nonneg l 0
                          have CLb := Lib.hid (fun W => HLF.out b W hbS)
                          have CLx := Lib.hid (fun W => HLF.out x W hxS)
                          have CWx := Lib.hid (fun W => HWI.out x b W)
                          have hwi : withinB x b = true := HF.out.wi hin
                          rw [hwi] at CWx
                          have bl : -10000000 ≤ Fa.left b ∧ Fa.left b ≤ 10000000 := by obtain ⟨a1, a2, a3, a4, a5⟩ := hbS; unfold Fa.left; omega
                          have xl : -10000000 ≤ Fa.left x ∧ Fa.left x ≤ 10000000 := by obtain ⟨a1, a2, a3, a4, a5⟩ := hxS; unfold Fa.left; omega
                          obtain ⟨C0, hC0⟩ : ∃ q, Fa.cnt l 0 = q := ⟨_, rfl⟩
                          obtain ⟨Lb, hLb⟩ : ∃ q, Fa.left b = q := ⟨_, rfl⟩
                          obtain ⟨Lx, hLx⟩ : ∃ q, Fa.left x = q := ⟨_, rfl⟩
                          rw [hC0] at q0 hle hc0
                          rw [hLb] at CLb hle bl
                          rw [hLx] at CLx hle xl
                          clear hC0 hLb hLx hwi hbS hxS hin
                          have hw1 : IntKind.i64.wrap ((n : Int) - C0) = (n : Int) - C0 := IntWalk.i64_in _ (by omega)
                          have hw2 : IntKind.i64.wrap (Lb - Lx) = Lb - Lx := IntWalk.i64_in _ (by omega)
                          have hne : (((n : Int) - C0) != (Lb - Lx)) = false := by simp; omega
                          have lk := heap_lt HCT17.out
                          have lw := IB17.out.lt
                          have l7 := JX17.out.lt
                          have BX : Below wr.heap.size wr wr.drew := below_drewN _ _ 1
                          go_region_held3 (fun w' => w'.cell? ⟨wk.heap.size, 0, none⟩ = some (.int .i64 C0) ∧ w'.cell? ⟨w.heap.size, 0, none⟩ = some (.int .i64 b.stops) ∧ w'.cell? ⟨w.heap.size, 1, none⟩ = some (.int .i64 b.cells) ∧ w'.cell? ⟨w.heap.size, 2, none⟩ = some (.int .i64 b.mutes) ∧ w'.cell? ⟨w.heap.size, 3, none⟩ = some (.int .i64 b.muteMost) ∧ w'.cell? ⟨w.heap.size, 4, none⟩ = some (.int .i64 b.lifts) ∧ w'.cell? ⟨w.heap.size, 5, none⟩ = some (.int .i64 b.liftMost) ∧ w'.cell? ⟨w.heap.size, 6, none⟩ = some (.int .i64 b.steps) ∧ w'.cell? ⟨w7.heap.size, 0, none⟩ = some (.int .i64 x.stops) ∧ w'.cell? ⟨w7.heap.size, 1, none⟩ = some (.int .i64 x.cells) ∧ w'.cell? ⟨w7.heap.size, 2, none⟩ = some (.int .i64 x.mutes) ∧ w'.cell? ⟨w7.heap.size, 3, none⟩ = some (.int .i64 x.muteMost) ∧ w'.cell? ⟨w7.heap.size, 4, none⟩ = some (.int .i64 x.lifts) ∧ w'.cell? ⟨w7.heap.size, 5, none⟩ = some (.int .i64 x.liftMost) ∧ w'.cell? ⟨w7.heap.size, 6, none⟩ = some (.int .i64 x.steps)) (go_keep)
                            (first | ((go_at_call 8; with_reducible refine (CLb.out _).mono ?_; rintro e w5 ⟨rfl, b5⟩; have BX : Below wr.heap.size wr w5 := BX.trans (b5.mono BX.size); have s0 := (BX.cell (p := ⟨wk.heap.size, 0, none⟩) lk).trans q0; have s1 := (BX.cell (p := ⟨w.heap.size, 0, none⟩) lw).trans p0; have s2 := (BX.cell (p := ⟨w.heap.size, 1, none⟩) lw).trans p1; have s3 := (BX.cell (p := ⟨w.heap.size, 2, none⟩) lw).trans p2; have s4 := (BX.cell (p := ⟨w.heap.size, 3, none⟩) lw).trans p3; have s5 := (BX.cell (p := ⟨w.heap.size, 4, none⟩) lw).trans p4; have s6 := (BX.cell (p := ⟨w.heap.size, 5, none⟩) lw).trans p5; have s7 := (BX.cell (p := ⟨w.heap.size, 6, none⟩) lw).trans p6; have s8 := (BX.cell (p := ⟨w7.heap.size, 0, none⟩) l7).trans x0; have s9 := (BX.cell (p := ⟨w7.heap.size, 1, none⟩) l7).trans x1; have s10 := (BX.cell (p := ⟨w7.heap.size, 2, none⟩) l7).trans x2; have s11 := (BX.cell (p := ⟨w7.heap.size, 3, none⟩) l7).trans x3; have s12 := (BX.cell (p := ⟨w7.heap.size, 4, none⟩) l7).trans x4; have s13 := (BX.cell (p := ⟨w7.heap.size, 5, none⟩) l7).trans x5; have s14 := (BX.cell (p := ⟨w7.heap.size, 6, none⟩) l7).trans x6; clear b5)) | ((go_at_call 8; with_reducible refine (CLx.out _).mono ?_; rintro e w5 ⟨rfl, b5⟩; have BX : Below wr.heap.size wr w5 := BX.trans (b5.mono BX.size); have s0 := (BX.cell (p := ⟨wk.heap.size, 0, none⟩) lk).trans q0; have s1 := (BX.cell (p := ⟨w.heap.size, 0, none⟩) lw).trans p0; have s2 := (BX.cell (p := ⟨w.heap.size, 1, none⟩) lw).trans p1; have s3 := (BX.cell (p := ⟨w.heap.size, 2, none⟩) lw).trans p2; have s4 := (BX.cell (p := ⟨w.heap.size, 3, none⟩) lw).trans p3; have s5 := (BX.cell (p := ⟨w.heap.size, 4, none⟩) lw).trans p4; have s6 := (BX.cell (p := ⟨w.heap.size, 5, none⟩) lw).trans p5; have s7 := (BX.cell (p := ⟨w.heap.size, 6, none⟩) lw).trans p6; have s8 := (BX.cell (p := ⟨w7.heap.size, 0, none⟩) l7).trans x0; have s9 := (BX.cell (p := ⟨w7.heap.size, 1, none⟩) l7).trans x1; have s10 := (BX.cell (p := ⟨w7.heap.size, 2, none⟩) l7).trans x2; have s11 := (BX.cell (p := ⟨w7.heap.size, 3, none⟩) l7).trans x3; have s12 := (BX.cell (p := ⟨w7.heap.size, 4, none⟩) l7).trans x4; have s13 := (BX.cell (p := ⟨w7.heap.size, 5, none⟩) l7).trans x5; have s14 := (BX.cell (p := ⟨w7.heap.size, 6, none⟩) l7).trans x6; clear b5)) | ((go_at_call 9; with_reducible refine (CWx.out _).mono ?_; rintro e w5 ⟨rfl, b5⟩; have BX : Below wr.heap.size wr w5 := BX.trans (b5.mono BX.size); have s0 := (BX.cell (p := ⟨wk.heap.size, 0, none⟩) lk).trans q0; have s1 := (BX.cell (p := ⟨w.heap.size, 0, none⟩) lw).trans p0; have s2 := (BX.cell (p := ⟨w.heap.size, 1, none⟩) lw).trans p1; have s3 := (BX.cell (p := ⟨w.heap.size, 2, none⟩) lw).trans p2; have s4 := (BX.cell (p := ⟨w.heap.size, 3, none⟩) lw).trans p3; have s5 := (BX.cell (p := ⟨w.heap.size, 4, none⟩) lw).trans p4; have s6 := (BX.cell (p := ⟨w.heap.size, 5, none⟩) lw).trans p5; have s7 := (BX.cell (p := ⟨w.heap.size, 6, none⟩) lw).trans p6; have s8 := (BX.cell (p := ⟨w7.heap.size, 0, none⟩) l7).trans x0; have s9 := (BX.cell (p := ⟨w7.heap.size, 1, none⟩) l7).trans x1; have s10 := (BX.cell (p := ⟨w7.heap.size, 2, none⟩) l7).trans x2; have s11 := (BX.cell (p := ⟨w7.heap.size, 3, none⟩) l7).trans x3; have s12 := (BX.cell (p := ⟨w7.heap.size, 4, none⟩) l7).trans x4; have s13 := (BX.cell (p := ⟨w7.heap.size, 5, none⟩) l7).trans x5; have s14 := (BX.cell (p := ⟨w7.heap.size, 6, none⟩) l7).trans x6; clear b5)))
                          all_goals go_wp2_with fail
                          all_goals
                            go_meet
                            exact ⟨rfl, Lib.hid BX⟩
                    case rest =>
                      obtain ⟨rfl, HB19⟩ := hcut
                      obtain ⟨wv, hwv⟩ : ∃ W, W = wc := ⟨_, rfl⟩
                      subst hwv
                      have B19 := Lib.hid (B17.out.trans (HB19.out.mono B17.out.size))
                      have IB19 := Lib.hid (IB17.out.keep HB19.out)
                      have IC19 := Lib.hid (IC17.out.keep HB19.out)
                      obtain ⟨okW, hok⟩ : ∃ q, withinB c b = q := ⟨_, rfl⟩
                      rw [hok] at HF
                      have CW := Lib.hid (fun W => HWI.out c b W)
                      rw [hok] at CW
                      clear hok q0 ei p0 p1 p2 p3 p4 p5 p6 x0 x1 x2 x3 x4 x5 x6
                      obtain ⟨p0, p1, p2, p3, p4, p5, p6⟩ := IB19.out.cells
                      obtain ⟨x0, x1, x2, x3, x4, x5, x6⟩ := IC19.out.cells
                      go_wp2_with fail
                      go_at_call 9; refine (CW.out wv).mono ?_; rintro e w21 ⟨rfl, b21⟩
                      have B21 : Hid (Below w6.heap.size w6 w21) := Lib.hid (B19.out.trans (b21.mono B19.out.size))
                      have IB21 := Lib.hid (IB19.out.keep b21)
                      have IC21 := Lib.hid (IC19.out.keep b21)
                      clear b21 p0 p1 p2 p3 p4 p5 p6 x0 x1 x2 x3 x4 x5 x6
                      cases okW with
                      | false =>
                        go_wp2_with fail
                        go_ret
                        exact ⟨rfl, B5.out.trans (B21.out.mono B5.out.size)⟩
                      | true =>
                        obtain ⟨x0, x1, x2, x3, x4, x5, x6⟩ := IC21.out.cells
                        go_wp2_with fail
                        go_at_call 6; refine (R3.out w21 B21.out).mono ?_; rintro e w23 ⟨rfl, b23⟩
                        have g23 := al1 w23 (.cells #[.int .i64 z.stops, .int .i64 z.cells, .int .i64 z.mutes, .int .i64 z.muteMost, .int .i64 z.lifts, .int .i64 z.liftMost, .int .i64 z.steps] 23)
                        obtain ⟨wz, hwz⟩ : ∃ W, W = w23.alloc (.cells #[.int .i64 z.stops, .int .i64 z.cells, .int .i64 z.mutes, .int .i64 z.muteMost, .int .i64 z.lifts, .int .i64 z.liftMost, .int .i64 z.steps] 23) := ⟨_, rfl⟩
                        rw [← hwz] at g23
                        have JZ : Hid (BudAt wz w23.heap.size z 23) := Lib.hid g23.1
                        have B23 : Hid (Below w21.heap.size w21 wz) := Lib.hid (b23.trans (g23.2.1.mono b23.size))
                        have BZ : Hid (Below w6.heap.size w6 wz) := Lib.hid (B21.out.trans (B23.out.mono B21.out.size))
                        have IBz := Lib.hid (IB21.out.keep B23.out)
                        have HWZ := Lib.hid hwz
                        clear b23 g23 hwz x0 x1 x2 x3 x4 x5 x6
                        have hzt : t ≤ i := HF.out.zt rfl
                        have hut : t = u := (HF.out.wu rfl).symm
                        subst hut
                        have hzw : withinB z v = true := HF.out.zw rfl
                        have CZ := Lib.hid (fun W => HWI.out z v W)
                        rw [hzw] at CZ
                        have hm1 : min (t : Int) (n : Int) = (t : Int) := by omega
                        have hm2 : max 0 (t : Int) = (t : Int) := by omega
                        have HVZ : Hid (∀ W, Below wz.heap.size wz W → FtV W (.slice va t vc) (l.take t)) := Lib.hid (fun W hW => ftv_take (HHc.out W (BZ.out.trans (hW.mono BZ.out.size))) t vc htl HVA.out)
                        obtain ⟨p0, p1, p2, p3, p4, p5, p6⟩ := IBz.out.cells
                        have lw := IBz.out.lt
                        clear hzw
                        go_upto_region 24 with fail
                        rw [← HWZ.out]
                        go_cut [22, 23] (fun v22 v23 wq => ∃ B, v22 = .pointer (some ⟨B, 0, none⟩) ∧ v23 = .int .i64 (t : Int) ∧ Hid (BudAt wq B v 23) ∧ Hid (Below wz.heap.size wz wq))
                        case first =>
                          as_aux_lemma =>
                            have BX : Below wz.heap.size wz wz.drew := below_drewN _ _ 1
                            have BX1 : Below wz.heap.size wz (wz.alloc (.cells #[.int .i64 0, .int .i64 0, .int .i64 0, .int .i64 0, .int .i64 0, .int .i64 0, .int .i64 0] 23)).drew := (al1 _ _).2.1.trans (below_drewN _ _ 1)
                            have HZR : Hid ((wz.alloc (.cells #[.int .i64 0, .int .i64 0, .int .i64 0, .int .i64 0, .int .i64 0, .int .i64 0, .int .i64 0] 23)).drew.heap[wz.heap.size]? = some (.cells #[.int .i64 0, .int .i64 0, .int .i64 0, .int .i64 0, .int .i64 0, .int .i64 0, .int .i64 0] 23 (0, 0))) := Lib.hid (al1 _ _).1
                            have t0 : (0 : Int) ≤ (t : Int) := by omega
                            have t1 : (t : Int) ≤ (vc : Int) := by omega
                            have t2 : t ≤ vc := by omega
                            clear hzt
                            have nn0 := World.new_ne wz ⟨w.heap.size, 0, none⟩ p0
                            cases va with
                            | none =>
                              obtain rfl := HVA.out rfl
                              obtain rfl : n = 0 := by omega
                              obtain rfl : t = 0 := by omega
                              refine wp_region_any (by kernel_rfl) ?_
                              change wpAny _ _ _ _ _ _ _ (World.drew _)
                              refine wpAny_take (i := 1) (oi := _) (v := ?_) rfl (by kernel_rfl) (by kernel_rfl) (by kernel_rfl) (fun _ _ _ h => h) (Or.inl ⟨by rfl, ?_⟩) ?_
                              rotate_left
                              · intro w; go_simp; all_goals (with_reducible rfl)
                              try simp only [Act.put, List.getElem_toArray, List.getElem_cons_zero, List.getElem_cons_succ, List.setIfInBounds_toArray, List.set_cons_zero, List.set_cons_succ]
                              refine wpAny_take (i := 2) (oi := _) (v := ?_) rfl (by kernel_rfl) (by kernel_rfl) (by kernel_rfl) (fun _ _ _ h => h) (Or.inl ⟨by rfl, ?_⟩) ?_
                              rotate_left
                              · intro w; go_simp; all_goals (with_reducible rfl)
                              try simp only [Act.put, List.getElem_toArray, List.getElem_cons_zero, List.getElem_cons_succ, List.setIfInBounds_toArray, List.set_cons_zero, List.set_cons_succ]
                              refine wpAny_take (i := 3) (oi := _) (v := ?_) rfl (by kernel_rfl) (by kernel_rfl) (by kernel_rfl) (fun _ _ _ h => h) (Or.inl ⟨by rfl, ?_⟩) ?_
                              rotate_left
                              · intro w; go_simp; all_goals (with_reducible rfl)
                              try simp only [Act.put, List.getElem_toArray, List.getElem_cons_zero, List.getElem_cons_succ, List.setIfInBounds_toArray, List.set_cons_zero, List.set_cons_succ]
                              refine wpAny_take (i := 4) (oi := _) (v := ?_) rfl (by kernel_rfl) (by kernel_rfl) (by kernel_rfl) (fun _ _ _ h => h) (Or.inl ⟨by rfl, ?_⟩) ?_
                              rotate_left
                              · intro w; go_simp; all_goals (with_reducible rfl)
                              try simp only [Act.put, List.getElem_toArray, List.getElem_cons_zero, List.getElem_cons_succ, List.setIfInBounds_toArray, List.set_cons_zero, List.set_cons_succ]
                              refine wpAny_take (i := 5) (oi := _) (v := ?_) rfl (by kernel_rfl) (by kernel_rfl) (by kernel_rfl) (fun _ _ _ h => h) (Or.inl ⟨by rfl, ?_⟩) ?_
                              rotate_left
                              · intro w; go_simp; all_goals (with_reducible rfl)
                              try simp only [Act.put, List.getElem_toArray, List.getElem_cons_zero, List.getElem_cons_succ, List.setIfInBounds_toArray, List.set_cons_zero, List.set_cons_succ]
                              refine wpAny_take (i := 6) (oi := _) (v := ?_) rfl (by kernel_rfl) (by kernel_rfl) (by kernel_rfl) (fun _ _ _ h => h) (Or.inl ⟨by rfl, ?_⟩) ?_
                              rotate_left
                              · intro w; go_simp; all_goals (with_reducible rfl)
                              try simp only [Act.put, List.getElem_toArray, List.getElem_cons_zero, List.getElem_cons_succ, List.setIfInBounds_toArray, List.set_cons_zero, List.set_cons_succ]
                              refine wpAny_take (i := 7) (oi := _) (v := ?_) rfl (by kernel_rfl) (by kernel_rfl) (by kernel_rfl) (fun _ _ _ h => h) (Or.inl ⟨by rfl, ?_⟩) ?_
                              rotate_left
                              · intro w; go_simp; all_goals (with_reducible rfl)
                              try simp only [Act.put, List.getElem_toArray, List.getElem_cons_zero, List.getElem_cons_succ, List.setIfInBounds_toArray, List.set_cons_zero, List.set_cons_succ]
                              refine wpAny_ready (rs := [0, 12]) (by kernel_rfl) (by simp) ?_
                              refine AllReady.cons (o := _) rfl (fun K hK => ?_) ?_
                              · go_simp
                                refine hK _ _ ?_
                                clear hK K
                                try simp only [Act.put, List.getElem_toArray, List.getElem_cons_zero, List.getElem_cons_succ, List.setIfInBounds_toArray, List.set_cons_zero, List.set_cons_succ]
                                refine wpAny_ready (rs := [8, 12]) (by kernel_rfl) (by simp) ?_
                                refine AllReady.cons (o := _) rfl (fun K hK => ?_) ?_
                                · go_simp; go_wp2_with (go_at_call 6; with_reducible refine (R4.out _ _ (HVZ.out _ BX)).mono ?_; rintro e w5 ⟨rfl, b5⟩; have BX : Below wz.heap.size wz w5 := BX.trans (b5.mono BX.size); clear b5)
                                  try simp only [Act.put, List.getElem_toArray, List.getElem_cons_zero, List.getElem_cons_succ, List.setIfInBounds_toArray, List.set_cons_zero, List.set_cons_succ]
                                  refine wpAny_take (i := 9) (oi := _) (v := ?_) rfl (by kernel_rfl) (by kernel_rfl) (by kernel_rfl) (fun _ _ _ h => h) (Or.inl ⟨by rfl, ?_⟩) ?_
                                  rotate_left
                                  · intro w; go_simp; all_goals (with_reducible rfl)
                                  try simp only [Act.put, List.getElem_toArray, List.getElem_cons_zero, List.getElem_cons_succ, List.setIfInBounds_toArray, List.set_cons_zero, List.set_cons_succ]
                                  refine wpAny_take (i := 10) (oi := _) (v := ?_) rfl (by kernel_rfl) (by kernel_rfl) (by kernel_rfl) (fun _ _ _ h => h) (Or.inl ⟨by rfl, ?_⟩) ?_
                                  rotate_left
                                  · intro w; go_simp; all_goals (with_reducible rfl)
                                  try simp only [Act.put, List.getElem_toArray, List.getElem_cons_zero, List.getElem_cons_succ, List.setIfInBounds_toArray, List.set_cons_zero, List.set_cons_succ]
                                  refine wpAny_take (i := 11) (oi := _) (v := ?_) rfl (by kernel_rfl) (by kernel_rfl) (by kernel_rfl) (fun _ _ _ h => h) (Or.inl ⟨by rfl, ?_⟩) ?_
                                  rotate_left
                                  · intro w; go_simp; all_goals (with_reducible rfl)
                                  try simp only [Act.put, List.getElem_toArray, List.getElem_cons_zero, List.getElem_cons_succ, List.setIfInBounds_toArray, List.set_cons_zero, List.set_cons_succ]
                                  refine wpAny_ready (rs := [12]) (by kernel_rfl) (by simp) ?_
                                  refine AllReady.cons (o := _) rfl (fun K hK => ?_) ?_
                                  · go_simp
                                    refine hK _ _ ?_
                                    clear hK K
                                    try simp only [Act.put, List.getElem_toArray, List.getElem_cons_zero, List.getElem_cons_succ, List.setIfInBounds_toArray, List.set_cons_zero, List.set_cons_succ]
                                    refine wpAny_ready (rs := [13]) (by kernel_rfl) (by simp) ?_
                                    refine AllReady.cons (o := _) rfl (fun K hK => ?_) ?_
                                    · go_simp
                                      refine hK _ _ ?_
                                      clear hK K
                                      try simp only [Act.put, List.getElem_toArray, List.getElem_cons_zero, List.getElem_cons_succ, List.setIfInBounds_toArray, List.set_cons_zero, List.set_cons_succ]
                                      refine wpAny_take (i := 14) (oi := _) (v := ?_) rfl (by kernel_rfl) (by kernel_rfl) (by kernel_rfl) (fun _ _ _ h => h) (Or.inl ⟨by rfl, ?_⟩) ?_
                                      rotate_left
                                      · intro w; go_simp; all_goals (with_reducible rfl)
                                      try simp only [Act.put, List.getElem_toArray, List.getElem_cons_zero, List.getElem_cons_succ, List.setIfInBounds_toArray, List.set_cons_zero, List.set_cons_succ]
                                      refine wpAny_done (by kernel_rfl) ?_ _
                                      go_wp2_with fail
                                      go_meet
                                      exact ⟨_, rfl, rfl, Lib.hid (al1 _ _).1, Lib.hid (BX.alloc BX.size _)⟩
                                    exact AllReady.nil
                                  exact AllReady.nil
                                refine AllReady.cons (o := _) rfl (fun K hK => ?_) ?_
                                · go_simp
                                  refine hK _ _ ?_
                                  clear hK K
                                  try simp only [Act.put, List.getElem_toArray, List.getElem_cons_zero, List.getElem_cons_succ, List.setIfInBounds_toArray, List.set_cons_zero, List.set_cons_succ]
                                  refine wpAny_ready (rs := [8]) (by kernel_rfl) (by simp) ?_
                                  refine AllReady.cons (o := _) rfl (fun K hK => ?_) ?_
                                  · go_simp; go_wp2_with (go_at_call 6; with_reducible refine (R4.out _ _ (HVZ.out _ BX1)).mono ?_; rintro e w5 ⟨rfl, b5⟩; have BX : Below wz.heap.size wz w5 := BX1.trans (b5.mono BX1.size); have hzr := keep_heap HZR.out b5; clear b5)
                                    try simp only [Act.put, List.getElem_toArray, List.getElem_cons_zero, List.getElem_cons_succ, List.setIfInBounds_toArray, List.set_cons_zero, List.set_cons_succ]
                                    refine wpAny_take (i := 9) (oi := _) (v := ?_) rfl (by kernel_rfl) (by kernel_rfl) (by kernel_rfl) (fun _ _ _ h => h) (Or.inl ⟨by rfl, ?_⟩) ?_
                                    rotate_left
                                    · intro w; go_simp; all_goals (with_reducible rfl)
                                    try simp only [Act.put, List.getElem_toArray, List.getElem_cons_zero, List.getElem_cons_succ, List.setIfInBounds_toArray, List.set_cons_zero, List.set_cons_succ]
                                    refine wpAny_take (i := 10) (oi := _) (v := ?_) rfl (by kernel_rfl) (by kernel_rfl) (by kernel_rfl) (fun _ _ _ h => h) (Or.inl ⟨by rfl, ?_⟩) ?_
                                    rotate_left
                                    · intro w; go_simp; all_goals (with_reducible rfl)
                                    try simp only [Act.put, List.getElem_toArray, List.getElem_cons_zero, List.getElem_cons_succ, List.setIfInBounds_toArray, List.set_cons_zero, List.set_cons_succ]
                                    refine wpAny_take (i := 11) (oi := _) (v := ?_) rfl (by kernel_rfl) (by kernel_rfl) (by kernel_rfl) (fun _ _ _ h => h) (Or.inl ⟨by rfl, ?_⟩) ?_
                                    rotate_left
                                    · intro w; go_simp; all_goals (with_reducible rfl)
                                    try simp only [Act.put, List.getElem_toArray, List.getElem_cons_zero, List.getElem_cons_succ, List.setIfInBounds_toArray, List.set_cons_zero, List.set_cons_succ]
                                    refine wpAny_ready (rs := [13]) (by kernel_rfl) (by simp) ?_
                                    refine AllReady.cons (o := _) rfl (fun K hK => ?_) ?_
                                    · rw [if_pos (by rfl)]; refine wp_store_mid 23 _ _ (by rfl) wz.heap.size 0 #[.int .i64 v.stops, .int .i64 v.cells, .int .i64 v.mutes, .int .i64 v.muteMost, .int .i64 v.lifts, .int .i64 v.liftMost, .int .i64 v.steps] (by rfl) (by rfl) (there7 hzr) (by kernel_rfl) (by simp [Value.oneCell']) ?_
                                      refine hK _ _ ?_
                                      clear hK K
                                      try simp only [Act.put, List.getElem_toArray, List.getElem_cons_zero, List.getElem_cons_succ, List.setIfInBounds_toArray, List.set_cons_zero, List.set_cons_succ]
                                      refine wpAny_take (i := 14) (oi := _) (v := ?_) rfl (by kernel_rfl) (by kernel_rfl) (by kernel_rfl) (fun _ _ _ h => h) (Or.inl ⟨by rfl, ?_⟩) ?_
                                      rotate_left
                                      · intro w; go_simp; all_goals (with_reducible rfl)
                                      try simp only [Act.put, List.getElem_toArray, List.getElem_cons_zero, List.getElem_cons_succ, List.setIfInBounds_toArray, List.set_cons_zero, List.set_cons_succ]
                                      refine wpAny_done (by kernel_rfl) ?_ _
                                      go_wp2_with fail
                                      go_meet
                                      exact ⟨_, rfl, rfl, Lib.hid (bud_setsC v hzr), Lib.hid (bud_belowC v BX (Nat.le_refl _))⟩
                                    exact AllReady.nil
                                  exact AllReady.nil
                                exact AllReady.nil
                              refine AllReady.cons (o := _) rfl (fun K hK => ?_) ?_
                              · go_simp
                                refine hK _ _ ?_
                                clear hK K
                                try simp only [Act.put, List.getElem_toArray, List.getElem_cons_zero, List.getElem_cons_succ, List.setIfInBounds_toArray, List.set_cons_zero, List.set_cons_succ]
                                refine wpAny_ready (rs := [0]) (by kernel_rfl) (by simp) ?_
                                refine AllReady.cons (o := _) rfl (fun K hK => ?_) ?_
                                · go_simp
                                  refine hK _ _ ?_
                                  clear hK K
                                  try simp only [Act.put, List.getElem_toArray, List.getElem_cons_zero, List.getElem_cons_succ, List.setIfInBounds_toArray, List.set_cons_zero, List.set_cons_succ]
                                  refine wpAny_ready (rs := [8]) (by kernel_rfl) (by simp) ?_
                                  refine AllReady.cons (o := _) rfl (fun K hK => ?_) ?_
                                  · go_simp; go_wp2_with (go_at_call 6; with_reducible refine (R4.out _ _ (HVZ.out _ BX1)).mono ?_; rintro e w5 ⟨rfl, b5⟩; have BX : Below wz.heap.size wz w5 := BX1.trans (b5.mono BX1.size); have hzr := keep_heap HZR.out b5; clear b5)
                                    try simp only [Act.put, List.getElem_toArray, List.getElem_cons_zero, List.getElem_cons_succ, List.setIfInBounds_toArray, List.set_cons_zero, List.set_cons_succ]
                                    refine wpAny_take (i := 9) (oi := _) (v := ?_) rfl (by kernel_rfl) (by kernel_rfl) (by kernel_rfl) (fun _ _ _ h => h) (Or.inl ⟨by rfl, ?_⟩) ?_
                                    rotate_left
                                    · intro w; go_simp; all_goals (with_reducible rfl)
                                    try simp only [Act.put, List.getElem_toArray, List.getElem_cons_zero, List.getElem_cons_succ, List.setIfInBounds_toArray, List.set_cons_zero, List.set_cons_succ]
                                    refine wpAny_take (i := 10) (oi := _) (v := ?_) rfl (by kernel_rfl) (by kernel_rfl) (by kernel_rfl) (fun _ _ _ h => h) (Or.inl ⟨by rfl, ?_⟩) ?_
                                    rotate_left
                                    · intro w; go_simp; all_goals (with_reducible rfl)
                                    try simp only [Act.put, List.getElem_toArray, List.getElem_cons_zero, List.getElem_cons_succ, List.setIfInBounds_toArray, List.set_cons_zero, List.set_cons_succ]
                                    refine wpAny_take (i := 11) (oi := _) (v := ?_) rfl (by kernel_rfl) (by kernel_rfl) (by kernel_rfl) (fun _ _ _ h => h) (Or.inl ⟨by rfl, ?_⟩) ?_
                                    rotate_left
                                    · intro w; go_simp; all_goals (with_reducible rfl)
                                    try simp only [Act.put, List.getElem_toArray, List.getElem_cons_zero, List.getElem_cons_succ, List.setIfInBounds_toArray, List.set_cons_zero, List.set_cons_succ]
                                    refine wpAny_ready (rs := [13]) (by kernel_rfl) (by simp) ?_
                                    refine AllReady.cons (o := _) rfl (fun K hK => ?_) ?_
                                    · rw [if_pos (by rfl)]; refine wp_store_mid 23 _ _ (by rfl) wz.heap.size 0 #[.int .i64 v.stops, .int .i64 v.cells, .int .i64 v.mutes, .int .i64 v.muteMost, .int .i64 v.lifts, .int .i64 v.liftMost, .int .i64 v.steps] (by rfl) (by rfl) (there7 hzr) (by kernel_rfl) (by simp [Value.oneCell']) ?_
                                      refine hK _ _ ?_
                                      clear hK K
                                      try simp only [Act.put, List.getElem_toArray, List.getElem_cons_zero, List.getElem_cons_succ, List.setIfInBounds_toArray, List.set_cons_zero, List.set_cons_succ]
                                      refine wpAny_take (i := 14) (oi := _) (v := ?_) rfl (by kernel_rfl) (by kernel_rfl) (by kernel_rfl) (fun _ _ _ h => h) (Or.inl ⟨by rfl, ?_⟩) ?_
                                      rotate_left
                                      · intro w; go_simp; all_goals (with_reducible rfl)
                                      try simp only [Act.put, List.getElem_toArray, List.getElem_cons_zero, List.getElem_cons_succ, List.setIfInBounds_toArray, List.set_cons_zero, List.set_cons_succ]
                                      refine wpAny_done (by kernel_rfl) ?_ _
                                      go_wp2_with fail
                                      go_meet
                                      exact ⟨_, rfl, rfl, Lib.hid (bud_setsC v hzr), Lib.hid (bud_belowC v BX (Nat.le_refl _))⟩
                                    exact AllReady.nil
                                  exact AllReady.nil
                                exact AllReady.nil
                              exact AllReady.nil
                            | some p =>
                              obtain ⟨vb, vo, vx⟩ := p
                              refine wp_region_any (by kernel_rfl) ?_
                              change wpAny _ _ _ _ _ _ _ (World.drew _)
                              refine wpAny_take (i := 1) (oi := _) (v := ?_) rfl (by kernel_rfl) (by kernel_rfl) (by kernel_rfl) (fun _ _ _ h => h) (Or.inl ⟨by rfl, ?_⟩) ?_
                              rotate_left
                              · intro w; go_simp; all_goals (with_reducible rfl)
                              try simp only [Act.put, List.getElem_toArray, List.getElem_cons_zero, List.getElem_cons_succ, List.setIfInBounds_toArray, List.set_cons_zero, List.set_cons_succ]
                              refine wpAny_take (i := 2) (oi := _) (v := ?_) rfl (by kernel_rfl) (by kernel_rfl) (by kernel_rfl) (fun _ _ _ h => h) (Or.inl ⟨by rfl, ?_⟩) ?_
                              rotate_left
                              · intro w; go_simp; all_goals (with_reducible rfl)
                              try simp only [Act.put, List.getElem_toArray, List.getElem_cons_zero, List.getElem_cons_succ, List.setIfInBounds_toArray, List.set_cons_zero, List.set_cons_succ]
                              refine wpAny_take (i := 3) (oi := _) (v := ?_) rfl (by kernel_rfl) (by kernel_rfl) (by kernel_rfl) (fun _ _ _ h => h) (Or.inl ⟨by rfl, ?_⟩) ?_
                              rotate_left
                              · intro w; go_simp; all_goals (with_reducible rfl)
                              try simp only [Act.put, List.getElem_toArray, List.getElem_cons_zero, List.getElem_cons_succ, List.setIfInBounds_toArray, List.set_cons_zero, List.set_cons_succ]
                              refine wpAny_take (i := 4) (oi := _) (v := ?_) rfl (by kernel_rfl) (by kernel_rfl) (by kernel_rfl) (fun _ _ _ h => h) (Or.inl ⟨by rfl, ?_⟩) ?_
                              rotate_left
                              · intro w; go_simp; all_goals (with_reducible rfl)
                              try simp only [Act.put, List.getElem_toArray, List.getElem_cons_zero, List.getElem_cons_succ, List.setIfInBounds_toArray, List.set_cons_zero, List.set_cons_succ]
                              refine wpAny_take (i := 5) (oi := _) (v := ?_) rfl (by kernel_rfl) (by kernel_rfl) (by kernel_rfl) (fun _ _ _ h => h) (Or.inl ⟨by rfl, ?_⟩) ?_
                              rotate_left
                              · intro w; go_simp; all_goals (with_reducible rfl)
                              try simp only [Act.put, List.getElem_toArray, List.getElem_cons_zero, List.getElem_cons_succ, List.setIfInBounds_toArray, List.set_cons_zero, List.set_cons_succ]
                              refine wpAny_take (i := 6) (oi := _) (v := ?_) rfl (by kernel_rfl) (by kernel_rfl) (by kernel_rfl) (fun _ _ _ h => h) (Or.inl ⟨by rfl, ?_⟩) ?_
                              rotate_left
                              · intro w; go_simp; all_goals (with_reducible rfl)
                              try simp only [Act.put, List.getElem_toArray, List.getElem_cons_zero, List.getElem_cons_succ, List.setIfInBounds_toArray, List.set_cons_zero, List.set_cons_succ]
                              refine wpAny_take (i := 7) (oi := _) (v := ?_) rfl (by kernel_rfl) (by kernel_rfl) (by kernel_rfl) (fun _ _ _ h => h) (Or.inl ⟨by rfl, ?_⟩) ?_
                              rotate_left
                              · intro w; go_simp; all_goals (with_reducible rfl)
                              try simp only [Act.put, List.getElem_toArray, List.getElem_cons_zero, List.getElem_cons_succ, List.setIfInBounds_toArray, List.set_cons_zero, List.set_cons_succ]
                              refine wpAny_ready (rs := [0, 12]) (by kernel_rfl) (by simp) ?_
                              refine AllReady.cons (o := _) rfl (fun K hK => ?_) ?_
                              · go_simp
                                refine hK _ _ ?_
                                clear hK K
                                try simp only [Act.put, List.getElem_toArray, List.getElem_cons_zero, List.getElem_cons_succ, List.setIfInBounds_toArray, List.set_cons_zero, List.set_cons_succ]
                                refine wpAny_ready (rs := [8, 12]) (by kernel_rfl) (by simp) ?_
                                refine AllReady.cons (o := _) rfl (fun K hK => ?_) ?_
                                · go_simp; go_wp2_with (go_at_call 6; with_reducible refine (R4.out _ _ (HVZ.out _ BX)).mono ?_; rintro e w5 ⟨rfl, b5⟩; have BX : Below wz.heap.size wz w5 := BX.trans (b5.mono BX.size); clear b5)
                                  try simp only [Act.put, List.getElem_toArray, List.getElem_cons_zero, List.getElem_cons_succ, List.setIfInBounds_toArray, List.set_cons_zero, List.set_cons_succ]
                                  refine wpAny_take (i := 9) (oi := _) (v := ?_) rfl (by kernel_rfl) (by kernel_rfl) (by kernel_rfl) (fun _ _ _ h => h) (Or.inl ⟨by rfl, ?_⟩) ?_
                                  rotate_left
                                  · intro w; go_simp; all_goals (with_reducible rfl)
                                  try simp only [Act.put, List.getElem_toArray, List.getElem_cons_zero, List.getElem_cons_succ, List.setIfInBounds_toArray, List.set_cons_zero, List.set_cons_succ]
                                  refine wpAny_take (i := 10) (oi := _) (v := ?_) rfl (by kernel_rfl) (by kernel_rfl) (by kernel_rfl) (fun _ _ _ h => h) (Or.inl ⟨by rfl, ?_⟩) ?_
                                  rotate_left
                                  · intro w; go_simp; all_goals (with_reducible rfl)
                                  try simp only [Act.put, List.getElem_toArray, List.getElem_cons_zero, List.getElem_cons_succ, List.setIfInBounds_toArray, List.set_cons_zero, List.set_cons_succ]
                                  refine wpAny_take (i := 11) (oi := _) (v := ?_) rfl (by kernel_rfl) (by kernel_rfl) (by kernel_rfl) (fun _ _ _ h => h) (Or.inl ⟨by rfl, ?_⟩) ?_
                                  rotate_left
                                  · intro w; go_simp; all_goals (with_reducible rfl)
                                  try simp only [Act.put, List.getElem_toArray, List.getElem_cons_zero, List.getElem_cons_succ, List.setIfInBounds_toArray, List.set_cons_zero, List.set_cons_succ]
                                  refine wpAny_ready (rs := [12]) (by kernel_rfl) (by simp) ?_
                                  refine AllReady.cons (o := _) rfl (fun K hK => ?_) ?_
                                  · go_simp
                                    refine hK _ _ ?_
                                    clear hK K
                                    try simp only [Act.put, List.getElem_toArray, List.getElem_cons_zero, List.getElem_cons_succ, List.setIfInBounds_toArray, List.set_cons_zero, List.set_cons_succ]
                                    refine wpAny_ready (rs := [13]) (by kernel_rfl) (by simp) ?_
                                    refine AllReady.cons (o := _) rfl (fun K hK => ?_) ?_
                                    · go_simp
                                      refine hK _ _ ?_
                                      clear hK K
                                      try simp only [Act.put, List.getElem_toArray, List.getElem_cons_zero, List.getElem_cons_succ, List.setIfInBounds_toArray, List.set_cons_zero, List.set_cons_succ]
                                      refine wpAny_take (i := 14) (oi := _) (v := ?_) rfl (by kernel_rfl) (by kernel_rfl) (by kernel_rfl) (fun _ _ _ h => h) (Or.inl ⟨by rfl, ?_⟩) ?_
                                      rotate_left
                                      · intro w; go_simp; all_goals (with_reducible rfl)
                                      try simp only [Act.put, List.getElem_toArray, List.getElem_cons_zero, List.getElem_cons_succ, List.setIfInBounds_toArray, List.set_cons_zero, List.set_cons_succ]
                                      refine wpAny_done (by kernel_rfl) ?_ _
                                      go_wp2_with fail
                                      go_meet
                                      exact ⟨_, rfl, rfl, Lib.hid (al1 _ _).1, Lib.hid (BX.alloc BX.size _)⟩
                                    exact AllReady.nil
                                  exact AllReady.nil
                                refine AllReady.cons (o := _) rfl (fun K hK => ?_) ?_
                                · go_simp
                                  refine hK _ _ ?_
                                  clear hK K
                                  try simp only [Act.put, List.getElem_toArray, List.getElem_cons_zero, List.getElem_cons_succ, List.setIfInBounds_toArray, List.set_cons_zero, List.set_cons_succ]
                                  refine wpAny_ready (rs := [8]) (by kernel_rfl) (by simp) ?_
                                  refine AllReady.cons (o := _) rfl (fun K hK => ?_) ?_
                                  · go_simp; go_wp2_with (go_at_call 6; with_reducible refine (R4.out _ _ (HVZ.out _ BX1)).mono ?_; rintro e w5 ⟨rfl, b5⟩; have BX : Below wz.heap.size wz w5 := BX1.trans (b5.mono BX1.size); have hzr := keep_heap HZR.out b5; clear b5)
                                    try simp only [Act.put, List.getElem_toArray, List.getElem_cons_zero, List.getElem_cons_succ, List.setIfInBounds_toArray, List.set_cons_zero, List.set_cons_succ]
                                    refine wpAny_take (i := 9) (oi := _) (v := ?_) rfl (by kernel_rfl) (by kernel_rfl) (by kernel_rfl) (fun _ _ _ h => h) (Or.inl ⟨by rfl, ?_⟩) ?_
                                    rotate_left
                                    · intro w; go_simp; all_goals (with_reducible rfl)
                                    try simp only [Act.put, List.getElem_toArray, List.getElem_cons_zero, List.getElem_cons_succ, List.setIfInBounds_toArray, List.set_cons_zero, List.set_cons_succ]
                                    refine wpAny_take (i := 10) (oi := _) (v := ?_) rfl (by kernel_rfl) (by kernel_rfl) (by kernel_rfl) (fun _ _ _ h => h) (Or.inl ⟨by rfl, ?_⟩) ?_
                                    rotate_left
                                    · intro w; go_simp; all_goals (with_reducible rfl)
                                    try simp only [Act.put, List.getElem_toArray, List.getElem_cons_zero, List.getElem_cons_succ, List.setIfInBounds_toArray, List.set_cons_zero, List.set_cons_succ]
                                    refine wpAny_take (i := 11) (oi := _) (v := ?_) rfl (by kernel_rfl) (by kernel_rfl) (by kernel_rfl) (fun _ _ _ h => h) (Or.inl ⟨by rfl, ?_⟩) ?_
                                    rotate_left
                                    · intro w; go_simp; all_goals (with_reducible rfl)
                                    try simp only [Act.put, List.getElem_toArray, List.getElem_cons_zero, List.getElem_cons_succ, List.setIfInBounds_toArray, List.set_cons_zero, List.set_cons_succ]
                                    refine wpAny_ready (rs := [13]) (by kernel_rfl) (by simp) ?_
                                    refine AllReady.cons (o := _) rfl (fun K hK => ?_) ?_
                                    · rw [if_pos (by rfl)]; refine wp_store_mid 23 _ _ (by rfl) wz.heap.size 0 #[.int .i64 v.stops, .int .i64 v.cells, .int .i64 v.mutes, .int .i64 v.muteMost, .int .i64 v.lifts, .int .i64 v.liftMost, .int .i64 v.steps] (by rfl) (by rfl) (there7 hzr) (by kernel_rfl) (by simp [Value.oneCell']) ?_
                                      refine hK _ _ ?_
                                      clear hK K
                                      try simp only [Act.put, List.getElem_toArray, List.getElem_cons_zero, List.getElem_cons_succ, List.setIfInBounds_toArray, List.set_cons_zero, List.set_cons_succ]
                                      refine wpAny_take (i := 14) (oi := _) (v := ?_) rfl (by kernel_rfl) (by kernel_rfl) (by kernel_rfl) (fun _ _ _ h => h) (Or.inl ⟨by rfl, ?_⟩) ?_
                                      rotate_left
                                      · intro w; go_simp; all_goals (with_reducible rfl)
                                      try simp only [Act.put, List.getElem_toArray, List.getElem_cons_zero, List.getElem_cons_succ, List.setIfInBounds_toArray, List.set_cons_zero, List.set_cons_succ]
                                      refine wpAny_done (by kernel_rfl) ?_ _
                                      go_wp2_with fail
                                      go_meet
                                      exact ⟨_, rfl, rfl, Lib.hid (bud_setsC v hzr), Lib.hid (bud_belowC v BX (Nat.le_refl _))⟩
                                    exact AllReady.nil
                                  exact AllReady.nil
                                exact AllReady.nil
                              refine AllReady.cons (o := _) rfl (fun K hK => ?_) ?_
                              · go_simp
                                refine hK _ _ ?_
                                clear hK K
                                try simp only [Act.put, List.getElem_toArray, List.getElem_cons_zero, List.getElem_cons_succ, List.setIfInBounds_toArray, List.set_cons_zero, List.set_cons_succ]
                                refine wpAny_ready (rs := [0]) (by kernel_rfl) (by simp) ?_
                                refine AllReady.cons (o := _) rfl (fun K hK => ?_) ?_
                                · go_simp
                                  refine hK _ _ ?_
                                  clear hK K
                                  try simp only [Act.put, List.getElem_toArray, List.getElem_cons_zero, List.getElem_cons_succ, List.setIfInBounds_toArray, List.set_cons_zero, List.set_cons_succ]
                                  refine wpAny_ready (rs := [8]) (by kernel_rfl) (by simp) ?_
                                  refine AllReady.cons (o := _) rfl (fun K hK => ?_) ?_
                                  · go_simp; go_wp2_with (go_at_call 6; with_reducible refine (R4.out _ _ (HVZ.out _ BX1)).mono ?_; rintro e w5 ⟨rfl, b5⟩; have BX : Below wz.heap.size wz w5 := BX1.trans (b5.mono BX1.size); have hzr := keep_heap HZR.out b5; clear b5)
                                    try simp only [Act.put, List.getElem_toArray, List.getElem_cons_zero, List.getElem_cons_succ, List.setIfInBounds_toArray, List.set_cons_zero, List.set_cons_succ]
                                    refine wpAny_take (i := 9) (oi := _) (v := ?_) rfl (by kernel_rfl) (by kernel_rfl) (by kernel_rfl) (fun _ _ _ h => h) (Or.inl ⟨by rfl, ?_⟩) ?_
                                    rotate_left
                                    · intro w; go_simp; all_goals (with_reducible rfl)
                                    try simp only [Act.put, List.getElem_toArray, List.getElem_cons_zero, List.getElem_cons_succ, List.setIfInBounds_toArray, List.set_cons_zero, List.set_cons_succ]
                                    refine wpAny_take (i := 10) (oi := _) (v := ?_) rfl (by kernel_rfl) (by kernel_rfl) (by kernel_rfl) (fun _ _ _ h => h) (Or.inl ⟨by rfl, ?_⟩) ?_
                                    rotate_left
                                    · intro w; go_simp; all_goals (with_reducible rfl)
                                    try simp only [Act.put, List.getElem_toArray, List.getElem_cons_zero, List.getElem_cons_succ, List.setIfInBounds_toArray, List.set_cons_zero, List.set_cons_succ]
                                    refine wpAny_take (i := 11) (oi := _) (v := ?_) rfl (by kernel_rfl) (by kernel_rfl) (by kernel_rfl) (fun _ _ _ h => h) (Or.inl ⟨by rfl, ?_⟩) ?_
                                    rotate_left
                                    · intro w; go_simp; all_goals (with_reducible rfl)
                                    try simp only [Act.put, List.getElem_toArray, List.getElem_cons_zero, List.getElem_cons_succ, List.setIfInBounds_toArray, List.set_cons_zero, List.set_cons_succ]
                                    refine wpAny_ready (rs := [13]) (by kernel_rfl) (by simp) ?_
                                    refine AllReady.cons (o := _) rfl (fun K hK => ?_) ?_
                                    · rw [if_pos (by rfl)]; refine wp_store_mid 23 _ _ (by rfl) wz.heap.size 0 #[.int .i64 v.stops, .int .i64 v.cells, .int .i64 v.mutes, .int .i64 v.muteMost, .int .i64 v.lifts, .int .i64 v.liftMost, .int .i64 v.steps] (by rfl) (by rfl) (there7 hzr) (by kernel_rfl) (by simp [Value.oneCell']) ?_
                                      refine hK _ _ ?_
                                      clear hK K
                                      try simp only [Act.put, List.getElem_toArray, List.getElem_cons_zero, List.getElem_cons_succ, List.setIfInBounds_toArray, List.set_cons_zero, List.set_cons_succ]
                                      refine wpAny_take (i := 14) (oi := _) (v := ?_) rfl (by kernel_rfl) (by kernel_rfl) (by kernel_rfl) (fun _ _ _ h => h) (Or.inl ⟨by rfl, ?_⟩) ?_
                                      rotate_left
                                      · intro w; go_simp; all_goals (with_reducible rfl)
                                      try simp only [Act.put, List.getElem_toArray, List.getElem_cons_zero, List.getElem_cons_succ, List.setIfInBounds_toArray, List.set_cons_zero, List.set_cons_succ]
                                      refine wpAny_done (by kernel_rfl) ?_ _
                                      go_wp2_with fail
                                      go_meet
                                      exact ⟨_, rfl, rfl, Lib.hid (bud_setsC v hzr), Lib.hid (bud_belowC v BX (Nat.le_refl _))⟩
                                    exact AllReady.nil
                                  exact AllReady.nil
                                exact AllReady.nil
                              exact AllReady.nil
                        case rest =>
                          obtain ⟨VB, rfl, rfl, JV, HB24⟩ := hcut
                          obtain ⟨wy, hwy⟩ : ∃ W, W = wc := ⟨_, rfl⟩
                          subst hwy
                          have JZ24 := Lib.hid (JZ.out.keep HB24.out)
                          have B24 : Hid (Below w.heap.size w wy) := Lib.hid (B5.out.trans ((BZ.out.trans (HB24.out.mono BZ.out.size)).mono B5.out.size))
                          have d1 : decide ((t : Int) ≤ (i : Int)) = true := by rw [decide_eq_true_eq]; omega
                          clear hm1 hm2 p0 p1 p2 p3 p4 p5 p6 lw
                          obtain ⟨x0, x1, x2, x3, x4, x5, x6⟩ := JZ24.out.cells
                          obtain ⟨y0, y1, y2, y3, y4, y5, y6⟩ := JV.out.cells
                          go_wp2_with fail
                          go_at_call 9; refine (CZ.out wy).mono ?_; rintro e w25 ⟨rfl, b25⟩
                          all_goals go_wp2_with fail
                          all_goals go_ret
                          all_goals exact ⟨rfl, B24.out.trans (b25.mono B24.out.size)⟩
end Go.Proofs.Ytcdfmgobokjcnaa
