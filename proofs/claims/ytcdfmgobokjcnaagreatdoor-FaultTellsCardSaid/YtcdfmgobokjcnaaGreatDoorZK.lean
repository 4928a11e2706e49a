/- Parts Ft4, Ft5 of this claim, laid one behind the other: walks and the plain laws behind them; each contract states its own conditions. -/
import Derived.Test.YtcdfmgobokjcnaaGreatDoorZE
import Derived.Test.YtcdfmgobokjcnaaGreatDoorUJ
/- Walks of package taquinref14: Few. -/
namespace Go.Proofs.YtcdfmgobokjcnaaGreatDoor
set_option linter.unusedSimpArgs false
set_option linter.unusedVariables false
open Go.RowKit

theorem int64Info : (Tryz.prog.info? 3).map (fun i => (i.zero, i.size, i.bytes)) = some (some (.int .i64 0), 1, 8) := by kernel_rfl
/-- Numbers go behind a row of numbers of the call's own, in a region that draws. -/
theorem step_app_is {w : World} {ops : Array Oper} {o : Oper} {a : Act} {K : Act → World → Prop} {Q : Exit → Act → World → Prop} {E : Prop} (hgd : o.guard = none) (s x : Operand)
    (ho : o.op = .call { callee := .builtin .append, args := #[s, x], argTypes := #[22, 22] })
    (base : Nat) (v : Value) (l : List Int) (hs : a.eval s = v) (hown : w.ownsRow base 3 1 v l.length (ints l))
    (u : Value) (news : List Int) (hx : a.eval x = u) (hr : Is w u news) (h63 : l.length + news.length ≤ 1000000000) (hbase : base ≤ w.heap.size)
    (h : ∀ v' w', w'.ownsRow base 3 1 v' (l ++ news).length (ints (l ++ news)) → w.grownBy w' v.ownBlock → K (a.put o.dst v') w') :
    if Region.wanted o (yielded ops a.tmps) = true then Oper.wp Tryz.prog o a w K Q else E := by
  have hw : Region.wanted o (yielded ops a.tmps) = true := by simp [Region.wanted, hgd]
  rw [if_pos hw]
  obtain ⟨i, hi, hz, hsize, hby⟩ := info_parts int64Info
  have happ : ints l ++ ints news = ints (l ++ news) := by simp [ints]
  have hrun : ∃ v' w', (Builtin.append_ #[22, 22] o.type #[v, u]).run Tryz.prog w = .ok v' w' ∧ w'.ownsRow base 3 1 v' (l ++ news).length (ints (l ++ news)) ∧ w.grownBy w' v.ownBlock := by
    obtain ⟨ad, cap, rfl, hm, hn, hc⟩ := hr
    have hln := ints_len news
    cases ad with
    | none =>
      obtain rfl := hn rfl
      have h0 : news = [] := by
        cases news with
        | nil => rfl
        | cons u t => obtain ⟨_, _, h', _⟩ := hc 0 (by simp [ints]); cases h'
      subst h0
      refine ⟨v, w, ?_, by simpa using hown, World.grownBy.refl w _⟩
      exact run_append_owned_none (P := Tryz.prog) (w := w) base 22 o.type 3 i 1 Tryz.underlying22 hi v l.length (ints l) hown
    | some ad =>
      obtain ⟨v', w', hr, h2, h3, -⟩ := run_append_own (P := Tryz.prog) w base 22 o.type 3 i _ 1 8 Tryz.underlying22 hi hz hsize hby (by rfl) (by omega) v l.length (ints l) hown ad (ints news).length cap (ints news) (by omega) (fun j y hj => by
        have hjl := (List.getElem?_eq_some_iff.1 hj).1
        obtain ⟨b, off, e1, hcell⟩ := hc j hjl
        cases e1
        have e2 : ((⟨b, off, none⟩ : Addr).add j) = ⟨b, off + j, none⟩ := by unfold Addr.add; split <;> simp_all
        rw [e2, hcell]
        rw [← hj, List.getElem?_eq_getElem hjl]) (fun y hy => by
          obtain ⟨n, -, rfl⟩ := List.mem_map.1 hy; rfl) (by unfold maxLen; omega) (by omega) hbase
      exact ⟨v', w', hr, by rw [List.length_append, ← happ, ← hln]; exact h2, h3⟩
  obtain ⟨v', w', hr, h2, h3⟩ := hrun
  unfold Oper.wp execOp
  simp only [ho, resolve, invoke, builtin, Sem.run_bind, Sem.run_pure, Result.andThen_ok, List.map_toArray, List.map_cons, List.map_nil, hs, hx, hr]
  exact h v' w' h2 h3
/-- A row of the call's own without an element. -/
theorem own_none {w : World} {g : Nat} {e : TypeId} (h : w.heap[g]? = some (.cells #[] e (0, 0))) : w.ownsRow g e 1 (.slice (some ⟨g, 0, none⟩) 0 0) 0 [] :=
  ⟨rfl, .inr ⟨g, 0, #[], rfl, Nat.le_refl _, h, Nat.le_refl _, Nat.zero_le _, rfl, rfl⟩⟩
/-- What is few where Few says so. -/
structure Few4 (s : Bd.State) : Prop where
  sh : s.shelves.length ≤ 12
  ro : s.robots.length ≤ 12
  pe : s.people.length ≤ 12
  de : s.dead.length ≤ 12
  sk : s.stuck.length ≤ 12
  shB : ∀ c ∈ s.shelves, -1152921504606846976 ≤ c ∧ c ≤ 1152921504606846976
  peB : ∀ c ∈ s.people, -1152921504606846976 ≤ c ∧ c ≤ 1152921504606846976
  deB : ∀ c ∈ s.dead, -1152921504606846976 ≤ c ∧ c ≤ 1152921504606846976
  roB : ∀ r ∈ s.robots, -1152921504606846976 ≤ r.cell ∧ r.cell ≤ 1152921504606846976
def fewL (s : Bd.State) (k : Nat) : List Int := ((s.shelves ++ s.people) ++ s.dead) ++ (s.robots.take k).map (·.cell)
theorem few4_of {s : Bd.State} {m : List Int} (hm : m = fewL s s.robots.length) (h1 : s.shelves.length ≤ 12) (h2 : s.robots.length ≤ 12) (h3 : s.people.length ≤ 12) (h4 : s.dead.length ≤ 12) (h5 : s.stuck.length ≤ 12)
    (h : ∀ c ∈ m, -1152921504606846976 ≤ c ∧ c ≤ 1152921504606846976) : Few4 s := by
  subst hm
  unfold fewL at h
  rw [List.take_length] at h
  refine ⟨h1, h2, h3, h4, h5, fun c hc => h c ?_, fun c hc => h c ?_, fun c hc => h c ?_, fun r hr => h _ ?_⟩
  · simp [hc]
  · simp [hc]
  · simp [hc]
  · exact List.mem_append_right _ (List.mem_map.2 ⟨r, hr, rfl⟩)
theorem Few4.sts {s : Bd.State} (h : Few4 s) : StS s :=
  ⟨fun r hr => h.roB r hr, fun c hc => h.shB c hc, fun c hc => h.peB c hc, by have := h.ro; omega, by have := h.sh; omega, by have := h.pe; omega⟩
end Go.Proofs.YtcdfmgobokjcnaaGreatDoor
/- Walks of package taquinref14: Few. -/
namespace Go.Proofs.YtcdfmgobokjcnaaGreatDoor
set_option linter.unusedSimpArgs false
set_option linter.unusedVariables false
open Go.RowKit

set_option maxRecDepth 100000 in
set_option maxHeartbeats 16000000 in
theorem rFew4_any (s : Bd.State) (sv rv pv dv kv : Value) (w : World) (h : StV w sv rv pv dv kv s) :
    Calls Tryz.prog 44 #[stV s sv rv pv dv kv] w fun e w' => TruePost (Few4 s) e ∧ Below w.heap.size w w' := by
  obtain ⟨a1, c1, a2, c2, a3, c3, a4, c4, a5, c5, rfl, rfl, rfl, rfl, rfl, m1, m2, m3, m4, m5⟩ := h.open
  have HS := Lib.hid h
  have HE : Hid (∀ m, m = fewL s s.robots.length → s.shelves.length ≤ 12 → s.robots.length ≤ 12 → s.people.length ≤ 12 → s.dead.length ≤ 12 → s.stuck.length ≤ 12 → (∀ c ∈ m, -1152921504606846976 ≤ c ∧ c ≤ 1152921504606846976) → Few4 s) := Lib.hid (fun m e h1 h2 h3 h4 h5 h6 => few4_of e h1 h2 h3 h4 h5 h6)
  unfold stV
  obtain ⟨l1, e1⟩ : ∃ n, s.shelves.length = n := ⟨_, rfl⟩
  obtain ⟨l2, e2⟩ : ∃ n, s.robots.length = n := ⟨_, rfl⟩
  obtain ⟨l3, e3⟩ : ∃ n, s.people.length = n := ⟨_, rfl⟩
  obtain ⟨l4, e4⟩ : ∃ n, s.dead.length = n := ⟨_, rfl⟩
  obtain ⟨l5, e5⟩ : ∃ n, s.stuck.length = n := ⟨_, rfl⟩
  rw [e1, e2, e3, e4, e5] at HS HE
  rw [e1, e2, e3, e4, e5]
  have E1 := Lib.hid e1
  have E2 := Lib.hid e2
  have E3 := Lib.hid e3
  have E4 := Lib.hid e4
  obtain ⟨w2, hw2⟩ : ∃ W, W = w.alloc (.cells #[.int .i64 s.tick, .slice a1 l1 c1, .slice a2 l2 c2, .slice a3 l3 c3, .slice a4 l4 c4, .slice a5 l5 c5] 34) := ⟨_, rfl⟩
  have HA := al1 w (.cells #[.int .i64 s.tick, .slice a1 l1 c1, .slice a2 l2 c2, .slice a3 l3 c3, .slice a4 l4 c4, .slice a5 l5 c5] 34)
  rw [← hw2] at HA
  have IT := Lib.hid HA.1
  have B2 := Lib.hid HA.2.1
  have HW2 := Lib.hid hw2
  have t1 : w2.cell? ⟨w.heap.size, 1, none⟩ = some (.slice a1 l1 c1) := cell_of_heap IT.out 1 rfl
  have t2 : w2.cell? ⟨w.heap.size, 2, none⟩ = some (.slice a2 l2 c2) := cell_of_heap IT.out 2 rfl
  have t3 : w2.cell? ⟨w.heap.size, 3, none⟩ = some (.slice a3 l3 c3) := cell_of_heap IT.out 3 rfl
  have t4 : w2.cell? ⟨w.heap.size, 4, none⟩ = some (.slice a4 l4 c4) := cell_of_heap IT.out 4 rfl
  have t5 : w2.cell? ⟨w.heap.size, 5, none⟩ = some (.slice a5 l5 c5) := cell_of_heap IT.out 5 rfl
  have lt : w.heap.size < w2.heap.size := heap_lt IT.out
  clear h e1 e2 e3 e4 e5 hw2 HA
  go_enter Tryz.func44, Tryz.ntmps44
  go_upto_region 1 with fail
  rw [← HW2.out]
  by_cases f1 : 12 < l1
  · have g1 : (12 : Int) < (l1 : Int) := by omega
    go_wp2_with fail
    go_ret
    exact ⟨TruePost.no _, B2.out⟩
  have g1 : ¬ (12 : Int) < (l1 : Int) := by omega
  by_cases f2 : 12 < l2
  · have g2 : (12 : Int) < (l2 : Int) := by omega
    go_wp2_with fail
    go_ret
    exact ⟨TruePost.no _, B2.out⟩
  have g2 : ¬ (12 : Int) < (l2 : Int) := by omega
  by_cases f3 : 12 < l3
  · have g3 : (12 : Int) < (l3 : Int) := by omega
    go_wp2_with fail
    go_ret
    exact ⟨TruePost.no _, B2.out⟩
  have g3 : ¬ (12 : Int) < (l3 : Int) := by omega
  by_cases f4 : 12 < l4
  · have g4 : (12 : Int) < (l4 : Int) := by omega
    go_wp2_with fail
    go_ret
    exact ⟨TruePost.no _, B2.out⟩
  have g4 : ¬ (12 : Int) < (l4 : Int) := by omega
  by_cases f5 : 12 < l5
  · have g5 : (12 : Int) < (l5 : Int) := by omega
    go_wp2_with fail
    go_ret
    exact ⟨TruePost.no _, B2.out⟩
  have g5 : ¬ (12 : Int) < (l5 : Int) := by omega
  go_upto_region 3 with fail
  have HI1 : Hid (∀ W, Below w2.heap.size w2 W → Is W (.slice a1 l1 c1) s.shelves) := Lib.hid (fun W hW => HS.out.sh.keep (B2.out.trans (hW.mono B2.out.size)))
  have HI3 : Hid (∀ W, Below w2.heap.size w2 W → Is W (.slice a3 l3 c3) s.people) := Lib.hid (fun W hW => HS.out.pe.keep (B2.out.trans (hW.mono B2.out.size)))
  have HI4 : Hid (∀ W, Below w2.heap.size w2 W → Is W (.slice a4 l4 c4) s.dead) := Lib.hid (fun W hW => HS.out.de.keep (B2.out.trans (hW.mono B2.out.size)))
  have hL1 : ([] : List Int).length + s.shelves.length ≤ 1000000000 := by have := E1.out; simp; omega
  have hL2 : (([] : List Int) ++ s.shelves).length + s.people.length ≤ 1000000000 := by have := E1.out; have := E3.out; simp; omega
  have hL3 : ((([] : List Int) ++ s.shelves) ++ s.people).length + s.dead.length ≤ 1000000000 := by have := E1.out; have := E3.out; have := E4.out; simp; omega
  have HL1 := Lib.hid hL1
  have HL2 := Lib.hid hL2
  have HL3 := Lib.hid hL3
  have gd := al1 w2 (.cells #[] 3)
  have BX0 : Below w2.heap.size w2 (w2.alloc (.cells #[] 3)).drew := gd.2.1.trans (below_drewN _ _ 1)
  have HO0 : Hid ((w2.alloc (.cells #[] 3)).drew.ownsRow w2.heap.size 3 1 (.slice (some ⟨w2.heap.size, 0, none⟩) 0 0) ([] : List Int).length (ints [])) := Lib.hid (own_none gd.1)
  clear hL1 hL2 hL3 gd
  go_cut [3] (fun v wx => ∃ vv, v = vv ∧ Hid (wx.ownsRow w2.heap.size 3 1 vv (fewL s 0).length (ints (fewL s 0))) ∧ Hid (Below w2.heap.size w2 wx))
  case first =>
    refine wp_region_held_drew (S := fun W' => W'.cell? ⟨w.heap.size, 1, none⟩ = some (.slice a1 l1 c1) ∧ W'.cell? ⟨w.heap.size, 3, none⟩ = some (.slice a3 l3 c3) ∧ W'.cell? ⟨w.heap.size, 4, none⟩ = some (.slice a4 l4 c4)) (by kernel_rfl) ⟨t1, t3, t4⟩ (fun hHeld => ?_)
    refine wpAnyH_take (i := 1) (oi := _) (v := ?_) rfl (by kernel_rfl) (by kernel_rfl) (by kernel_rfl) (fun _ _ _ h => h) (Or.inl ⟨by rfl, ?_⟩) (by assumption) ?_
    rotate_left
    · intro w hSw; obtain ⟨k0, k1, k2⟩ := hSw; go_simp; all_goals (with_reducible rfl)
    try simp only [Act.put, List.getElem_toArray, List.getElem_cons_zero, List.getElem_cons_succ, List.setIfInBounds_toArray, List.set_cons_zero, List.set_cons_succ]
    refine wpAnyH_take (i := 4) (oi := _) (v := ?_) rfl (by kernel_rfl) (by kernel_rfl) (by kernel_rfl) (fun _ _ _ h => h) (Or.inl ⟨by rfl, ?_⟩) (by assumption) ?_
    rotate_left
    · intro w hSw; obtain ⟨k0, k1, k2⟩ := hSw; go_simp; all_goals (with_reducible rfl)
    try simp only [Act.put, List.getElem_toArray, List.getElem_cons_zero, List.getElem_cons_succ, List.setIfInBounds_toArray, List.set_cons_zero, List.set_cons_succ]
    refine wpAnyH_take (i := 7) (oi := _) (v := ?_) rfl (by kernel_rfl) (by kernel_rfl) (by kernel_rfl) (fun _ _ _ h => h) (Or.inl ⟨by rfl, ?_⟩) (by assumption) ?_
    rotate_left
    · intro w hSw; obtain ⟨k0, k1, k2⟩ := hSw; go_simp; all_goals (with_reducible rfl)
    try simp only [Act.put, List.getElem_toArray, List.getElem_cons_zero, List.getElem_cons_succ, List.setIfInBounds_toArray, List.set_cons_zero, List.set_cons_succ]
    refine wpAnyH_take (i := 2) (oi := _) (v := ?_) rfl (by kernel_rfl) (by kernel_rfl) (by kernel_rfl) (fun _ _ _ h => h) (Or.inl ⟨by rfl, ?_⟩) (by assumption) ?_
    rotate_left
    · intro w hSw; obtain ⟨k0, k1, k2⟩ := hSw; go_simp; all_goals (with_reducible rfl)
    try simp only [Act.put, List.getElem_toArray, List.getElem_cons_zero, List.getElem_cons_succ, List.setIfInBounds_toArray, List.set_cons_zero, List.set_cons_succ]
    refine wpAnyH_take (i := 5) (oi := _) (v := ?_) rfl (by kernel_rfl) (by kernel_rfl) (by kernel_rfl) (fun _ _ _ h => h) (Or.inl ⟨by rfl, ?_⟩) (by assumption) ?_
    rotate_left
    · intro w hSw; obtain ⟨k0, k1, k2⟩ := hSw; go_simp; all_goals (with_reducible rfl)
    try simp only [Act.put, List.getElem_toArray, List.getElem_cons_zero, List.getElem_cons_succ, List.setIfInBounds_toArray, List.set_cons_zero, List.set_cons_succ]
    refine wpAnyH_take (i := 8) (oi := _) (v := ?_) rfl (by kernel_rfl) (by kernel_rfl) (by kernel_rfl) (fun _ _ _ h => h) (Or.inl ⟨by rfl, ?_⟩) (by assumption) ?_
    rotate_left
    · intro w hSw; obtain ⟨k0, k1, k2⟩ := hSw; go_simp; all_goals (with_reducible rfl)
    try simp only [Act.put, List.getElem_toArray, List.getElem_cons_zero, List.getElem_cons_succ, List.setIfInBounds_toArray, List.set_cons_zero, List.set_cons_succ]
    refine wpAnyH_ready (rs := [0]) (by kernel_rfl) (by simp) ?_
    refine AllReadyH.cons (o := _) rfl (fun K hK => ?_) AllReadyH.nil
    go_simp
    refine hK.out _ _ ?_ (fun hHeld => ?_)
    · exact ⟨(BX0.cell (p := ⟨w.heap.size, 1, none⟩) lt).trans t1, (BX0.cell (p := ⟨w.heap.size, 3, none⟩) lt).trans t3, (BX0.cell (p := ⟨w.heap.size, 4, none⟩) lt).trans t4⟩
    clear hK K
    try simp only [Act.put, List.getElem_toArray, List.getElem_cons_zero, List.getElem_cons_succ, List.setIfInBounds_toArray, List.set_cons_zero, List.set_cons_succ]
    refine wpAnyH_ready (rs := [3]) (by kernel_rfl) (by simp) ?_
    refine AllReadyH.cons (o := _) rfl (fun K hK => ?_) AllReadyH.nil
    refine step_app_is (by rfl) _ _ (by rfl) w2.heap.size (.slice (some ⟨w2.heap.size, 0, none⟩) 0 0) [] (by rfl) HO0.out (.slice a1 l1 c1) s.shelves (by rfl) (HI1.out _ BX0) HL1.out BX0.size ?_
    intro v1 wA1 ho1 hg1
    have BX1 : Below w2.heap.size w2 wA1 := BX0.trans (below_own HO0.out hg1 (Nat.le_refl _) BX0.size)
    obtain ⟨sa1, sc1, rfl, -⟩ := own_slice ho1
    have HO1 := Lib.hid ho1
    clear ho1 hg1
    refine hK.out _ _ ?_ (fun hHeld => ?_)
    · exact ⟨(BX1.cell (p := ⟨w.heap.size, 1, none⟩) lt).trans t1, (BX1.cell (p := ⟨w.heap.size, 3, none⟩) lt).trans t3, (BX1.cell (p := ⟨w.heap.size, 4, none⟩) lt).trans t4⟩
    clear hK K
    try simp only [Act.put, List.getElem_toArray, List.getElem_cons_zero, List.getElem_cons_succ, List.setIfInBounds_toArray, List.set_cons_zero, List.set_cons_succ]
    refine wpAnyH_ready (rs := [6]) (by kernel_rfl) (by simp) ?_
    refine AllReadyH.cons (o := _) rfl (fun K hK => ?_) AllReadyH.nil
    refine step_app_is (by rfl) _ _ (by rfl) w2.heap.size _ _ (by rfl) HO1.out (.slice a3 l3 c3) s.people (by rfl) (HI3.out _ BX1) HL2.out BX1.size ?_
    intro v2 wA2 ho2 hg2
    have BX2 : Below w2.heap.size w2 wA2 := BX1.trans (below_own HO1.out hg2 (Nat.le_refl _) BX1.size)
    obtain ⟨sa2, sc2, rfl, -⟩ := own_slice ho2
    have HO2 := Lib.hid ho2
    clear ho2 hg2
    refine hK.out _ _ ?_ (fun hHeld => ?_)
    · exact ⟨(BX2.cell (p := ⟨w.heap.size, 1, none⟩) lt).trans t1, (BX2.cell (p := ⟨w.heap.size, 3, none⟩) lt).trans t3, (BX2.cell (p := ⟨w.heap.size, 4, none⟩) lt).trans t4⟩
    clear hK K
    try simp only [Act.put, List.getElem_toArray, List.getElem_cons_zero, List.getElem_cons_succ, List.setIfInBounds_toArray, List.set_cons_zero, List.set_cons_succ]
    refine wpAnyH_ready (rs := [9]) (by kernel_rfl) (by simp) ?_
    refine AllReadyH.cons (o := _) rfl (fun K hK => ?_) AllReadyH.nil
    refine step_app_is (by rfl) _ _ (by rfl) w2.heap.size _ _ (by rfl) HO2.out (.slice a4 l4 c4) s.dead (by rfl) (HI4.out _ BX2) HL3.out BX2.size ?_
    intro v3 wA3 ho3 hg3
    have BX3 : Below w2.heap.size w2 wA3 := BX2.trans (below_own HO2.out hg3 (Nat.le_refl _) BX2.size)
    obtain ⟨sa3, sc3, rfl, -⟩ := own_slice ho3
    have HO3 := Lib.hid ho3
    clear ho3 hg3
    refine hK.out _ _ ?_ (fun hHeld => ?_)
    · exact ⟨(BX3.cell (p := ⟨w.heap.size, 1, none⟩) lt).trans t1, (BX3.cell (p := ⟨w.heap.size, 3, none⟩) lt).trans t3, (BX3.cell (p := ⟨w.heap.size, 4, none⟩) lt).trans t4⟩
    clear hK K
    try simp only [Act.put, List.getElem_toArray, List.getElem_cons_zero, List.getElem_cons_succ, List.setIfInBounds_toArray, List.set_cons_zero, List.set_cons_succ]
    refine wpAnyH_take (i := 10) (oi := _) (v := ?_) rfl (by kernel_rfl) (by kernel_rfl) (by kernel_rfl) (fun _ _ _ h => h) (Or.inl ⟨by rfl, ?_⟩) (by assumption) ?_
    rotate_left
    · intro w hSw; obtain ⟨k0, k1, k2⟩ := hSw; go_simp; all_goals (with_reducible rfl)
    try simp only [Act.put, List.getElem_toArray, List.getElem_cons_zero, List.getElem_cons_succ, List.setIfInBounds_toArray, List.set_cons_zero, List.set_cons_succ]
    refine wpAnyH_done (by kernel_rfl) ?_ _
    go_wp2_with fail
    go_meet
    exact ⟨_, rfl, Lib.hid (by unfold fewL; simpa using HO3.out), Lib.hid BX3⟩
  case rest =>
    obtain ⟨vv, hvv, HO, HBX⟩ := hcut
    replace hvv := hvv.symm
    subst hvv
    obtain ⟨wz, hwz⟩ : ∃ W, W = wc := ⟨_, rfl⟩
    subst hwz
    have lt2 : l2 ≤ 12 := by omega
    clear t1 t2 t3 t4 t5 HO0 BX0 HI1 HI3 HI4 HL1 HL2 HL3 g1 g2 g3 g4 g5
    have t2 : wz.cell? ⟨w.heap.size, 2, none⟩ = some (.slice a2 l2 c2) := cell_of_heap (keep_heap IT.out HBX.out) 2 rfl
    go_upto_region 5 with fail
    go_loopw [4, 3] (fun iv vw wr => ∃ (k : Nat) (vv : Value), k ≤ l2 ∧ iv = .int .i64 k ∧ vw = vv ∧ Hid (wr.ownsRow w2.heap.size 3 1 vv (fewL s k).length (ints (fewL s k))) ∧ Hid (Below w2.heap.size w2 wr)) (fun iv _ _ => l2 - (intOf iv).toNat)
    case atStart => exact ⟨0, _, by omega, rfl, rfl, HO, HBX⟩
    case round =>
      clear t2 HO HBX
      obtain ⟨k, v9, hk, rfl, hv9, HO, HU⟩ := hrel
      replace hv9 := hv9.symm
      subst hv9
      have BW : Hid (Below w.heap.size w wr) := Lib.hid (B2.out.trans (HU.out.mono B2.out.size))
      have t2 : wr.cell? ⟨w.heap.size, 2, none⟩ = some (.slice a2 l2 c2) := cell_of_heap (keep_heap IT.out HU.out) 2 rfl
      by_cases hkn : k < l2
      · have hkl : k < s.robots.length := by rw [E2.out]; exact hkn
        obtain ⟨rb, ro, rfl, hrb, x0, -, -, -, -, -⟩ := (HS.out.ro.keep BW.out).cell k hkl
        have k0 : (0 : Int) ≤ (k : Int) := by omega
        have k1 : (k : Int) < (l2 : Int) := by omega
        have HFL : Hid (fewL s (k + 1) = fewL s k ++ [s.robots[k].cell]) := Lib.hid (by unfold fewL; rw [List.take_succ_eq_append_getElem hkl, List.map_append]; simp)
        have HLE : Hid ((fewL s k).length ≤ 1000) := Lib.hid (by
          unfold fewL
          have := E1.out; have := E3.out; have := E4.out
          simp only [List.length_append, List.length_map, List.length_take]
          omega)
        obtain ⟨X, hX⟩ : ∃ X, s.robots[k].cell = X := ⟨_, rfl⟩
        rw [hX] at x0 HFL
        clear hX hkl
        go_wp2_with (at_builtin; refine wpList_append_sl rfl (.tmp 51) (.tmp 58) 22 rfl w2.heap.size 3 (.int .i64 0) 8 Tryz.underlying22 int64Info rfl v9 (fewL s k).length (ints (fewL s k)) rfl (World.ownsRow.alloc HO.out _) (.slice (some ⟨wr.heap.size, 0, none⟩) 1 1) (ints [X]) rfl (is_new1 (heap_alloc_new _ _)) ?c1 ?c2 ?c3 ?c4 ?_)
        case c1 => intro u hu; obtain ⟨x, -, rfl⟩ := List.mem_map.1 hu; rfl
        case c2 => rw [ints_len]; have := HLE.out; unfold maxLen; simp; omega
        case c3 => rw [ints_len]; have := HLE.out; simp; omega
        case c4 => have := HU.out.size; simp; omega
        intro v' w' ho' hg'
        have HO2 : Hid (w'.ownsRow w2.heap.size 3 1 v' (fewL s (k + 1)).length (ints (fewL s (k + 1)))) := Lib.hid (by rw [HFL.out, List.length_append, show ints (fewL s k ++ [X]) = ints (fewL s k) ++ ints [X] by simp [ints]]; rw [ints_len] at ho'; exact ho')
        have HU2 : Hid (Below w2.heap.size w2 w') := Lib.hid ((HU.out.alloc HU.out.size _).trans (below_own (World.ownsRow.alloc HO.out _) hg' (Nat.le_refl _) (by have := HU.out.size; simp; omega)))
        clear ho' hg'
        go_wp2_with fail
        go_roundw
        case rel => exact ⟨k + 1, _, by omega, by go_num, rfl, HO2, HU2⟩
        case measure => simp [intOf]; omega
      · have hkL : k = s.robots.length := by rw [E2.out]; omega
        have IM : Hid (Is wr v9 (fewL s k)) := Lib.hid (Sl.of_own HO.out (own_max HO.out))
        have HKE : Hid (fewL s k = fewL s s.robots.length) := Lib.hid (by rw [hkL])
        obtain ⟨sa, sc, rfl, hm9⟩ := own_slice HO.out
        obtain ⟨m, hm⟩ : ∃ m, fewL s k = m := ⟨_, rfl⟩
        rw [hm] at IM HKE hm9 ⊢
        obtain ⟨n, hn⟩ : ∃ n, m.length = n := ⟨_, rfl⟩
        rw [hn] at IM hm9 ⊢
        have HN := Lib.hid hn
        have BWr := Lib.hid BW.out
        have A0 : Hid (∀ c ∈ m.take 0, -1152921504606846976 ≤ c ∧ c ≤ 1152921504606846976) := Lib.hid (by simp)
        clear hkL HO hm hn
        go_wp2_with fail
        go_loop [5] (fun iv => ∃ j : Nat, j ≤ n ∧ iv = .int .i64 j ∧ Hid (∀ c ∈ m.take j, -1152921504606846976 ≤ c ∧ c ≤ 1152921504606846976)) (fun iv => n - (intOf iv).toNat)
        case atStart => exact ⟨0, by omega, rfl, A0⟩
        case round =>
          clear A0
          obtain ⟨j, hj, rfl, HA⟩ := hrel
          by_cases hjn : j < n
          · have hjl : j < m.length := by rw [HN.out]; exact hjn
            obtain ⟨b, off, rfl, r0⟩ := IM.out.cell j hjl
            have j0 : (0 : Int) ≤ (j : Int) := by omega
            have j1 : (j : Int) < (n : Int) := by omega
            have HTK := Lib.hid (List.take_succ_eq_append_getElem hjl)
            obtain ⟨X, hX⟩ : ∃ X, m[j] = X := ⟨_, rfl⟩
            rw [hX] at r0 HTK
            clear hX hjl
            by_cases y1 : X < -1152921504606846976
            · go_wp2_with fail
              go_ret
              exact ⟨TruePost.no _, BWr.out⟩
            · by_cases y2 : X > 1152921504606846976
              · go_wp2_with fail
                go_ret
                exact ⟨TruePost.no _, BWr.out⟩
              · have HNX : Hid (∀ c ∈ m.take (j + 1), -1152921504606846976 ≤ c ∧ c ≤ 1152921504606846976) := Lib.hid (by
                  rw [HTK.out]
                  intro c hc
                  rcases List.mem_append.1 hc with hc | hc
                  · exact HA.out c hc
                  · rw [List.mem_singleton] at hc; omega)
                go_wp2_with fail
                go_round
                case rel => exact ⟨j + 1, by omega, by go_num, HNX⟩
                case measure => simp [intOf]; omega
          · have HF4 : Hid (Few4 s) := Lib.hid (HE.out m (by rw [HKE.out, E2.out]) (by omega) (by omega) (by omega) (by omega) (by omega) (by
              have h9 := HA.out
              rw [List.take_of_length_le (by rw [HN.out]; omega)] at h9
              exact h9))
            go_wp2_with fail
            go_ret
            exact ⟨⟨true, rfl, fun _ => HF4.out⟩, BWr.out⟩
end Go.Proofs.YtcdfmgobokjcnaaGreatDoor
