/- Parts Pf of this claim, laid one behind the other: walks and the plain laws behind them; each contract states its own conditions. -/
import Derived.Test.YtfcbcpfnaadpeaaGreatDoorZL
/- Walks of package petri: the sets found so far. -/
namespace Go.Proofs.YtfcbcpfnaadpeaaGreatDoor
set_option linter.unusedSimpArgs false
set_option linter.unusedVariables false
open Go.RowKit Go.Sort

theorem found_any (base : Nat) (v : Value) (fs : List Nat) (b x : Nat) (w : World) (hf : ∀ y ∈ fs, y < 16384) (hx : x < 16384) (ho : w.ownsRow base 90 1 v fs.length (words fs)) (hb : w.heap[b]? = some (.cells #[.int .u64 x] 90 (0, 0))) :
    Calls Tryz.prog 62 #[v, .func (.func 63) #[] #[.pointer (some ⟨b, 0, none⟩)]] w fun e w' => e = .returned (.bool (fs.any fun f => Pt.subB f x)) ∧ Up w w' := by
  have hm := own_max ho
  rcases ho.2 with ⟨rfl, h0⟩ | ⟨g, cap, cur, rfl, hbg, hg, hnc, hcm, hcs, htake⟩
  · have h1 : fs = [] := List.eq_nil_of_length_eq_zero h0
    subst h1
    refine (Tryz.slices_ContainsFunc_empty_f62 (α := U14) none 0 _ w).mono ?_
    rintro e w' ⟨rfl, rfl⟩
    exact ⟨rfl, Up.refl _⟩
  · obtain ⟨d, rfl⟩ := liftU hf
    have hD : (d.map (·.1)).length = d.length := by simp
    have eg : ∀ args w, (callFunc 63 args).run Tryz.prog w = .ok (.enter 63 args) w := enters_of Tryz.func63 (by kernel_rfl) rfl
    rw [hD] at ho hm ⊢
    refine (Tryz.slices_ContainsFunc_f62 (α := U14) encU (fun i => Pt.subB i.1 x) 63 #[.pointer (some ⟨b, 0, none⟩)] eg g 0 d.length cap d w
      (fun W y hB => (sub_any y.1 b 0 x W (by have := y.2; omega) (by omega) (cell_of_heap (keep_heap hb hB) 0 rfl)).mono fun e w' ⟨h1, h2⟩ => ⟨h1, 0, by rw [← h2]; rfl⟩) (Nat.le_refl _) (by unfold maxLen at hm; omega) (fun j hj => ?_)).mono ?_
    · have := ho.cells (g := g) rfl j (encU d[j]) (by
        unfold words encU
        rw [List.map_map, List.getElem?_map, List.getElem?_eq_getElem hj]; rfl)
      rw [Addr.add_lit] at this
      rw [this, getElem!_pos d j hj]
    · rintro e w' ⟨rfl, q, rfl⟩
      refine ⟨?_, below_drewN _ _ _, by simp [World.drewN]⟩
      rw [List.take_length, List.any_map]; rfl
/-- The words found, as slices of places. -/
def Res (w : World) (base : Nat) (v : Value) (fs : List Nat) : Prop := ∃ us : List Value, us.length = fs.length ∧ w.ownsRow base 22 1 v fs.length us ∧ ∀ i (h1 : i < fs.length) (h2 : i < us.length), w.ownsRow base 3 1 us[i] (Pt.listW fs[i]).length (ints (Si.nn (Pt.listW fs[i])))
theorem Res.nil (w : World) (base : Nat) : Res w base (.slice none 0 0) [] := ⟨[], rfl, World.ownsRow_nil .., fun i h => by simp at h⟩
theorem Res.gt {w w' : World} {base : Nat} {v : Value} {fs : List Nat} {e : TypeId} (h : Res w base v fs) (hg : GT e w w') (h1 : e ≠ 22) (h2 : e ≠ 3) : Res w' base v fs := by
  obtain ⟨us, a, b, c⟩ := h
  exact ⟨us, a, hg.row b h1, fun i k1 k2 => hg.row (c i k1 k2) h2⟩
theorem own_below {w w' : World} {base : Nat} {e : TypeId} {sz : Nat} {v : Value} {n : Nat} {xs : List Value} (h : w.ownsRow base e sz v n xs) (hb : Below w.heap.size w w') : w'.ownsRow base e sz v n xs := by
  refine ⟨h.1, ?_⟩
  rcases h.2 with h | ⟨g, cap, cur, rfl, h1, h2, h3⟩
  · exact .inl h
  · exact .inr ⟨g, cap, cur, rfl, h1, keep_heap h2 hb, h3⟩
theorem Res.below {w w' : World} {base : Nat} {v : Value} {fs : List Nat} (h : Res w base v fs) (hb : Below w.heap.size w w') : Res w' base v fs := by
  obtain ⟨us, a, b, c⟩ := h
  exact ⟨us, a, own_below b hb, fun i k1 k2 => own_below (c i k1 k2) hb⟩
theorem Res.alloc {w : World} {base : Nat} {v : Value} {fs : List Nat} (h : Res w base v fs) (o : Obj) : Res (w.alloc o) base v fs := h.below ((Below.refl _ w).alloc (Nat.le_refl _) o)
theorem Res.drew {w : World} {base : Nat} {v : Value} {fs : List Nat} (h : Res w base v fs) : Res w.drew base v fs := h.below (Below.refl _ w).drew
theorem Res.form {w : World} {base : Nat} {v : Value} {fs : List Nat} (h : Res w base v fs) : ∃ a cap, v = .slice a fs.length cap ∧ fs.length ≤ 9223372036854775807 := by
  obtain ⟨us, -, b, -⟩ := h
  obtain ⟨a, c, rfl, h1⟩ := own_slice b
  exact ⟨a, c, rfl, h1⟩
theorem Res.ll {w : World} {base : Nat} {v : Value} {fs : List Nat} (h : Res w base v fs) : Ll w v (fs.map fun x => Si.nn (Pt.listW x)) := by
  obtain ⟨us, a, b, c⟩ := h
  refine ⟨(fs.map fun x => Si.nn (Pt.listW x)).zip us, ?_, ?_, ?_⟩
  · rw [List.map_fst_zip]; simp [a]
  · rw [List.map_snd_zip (by simp [a])]
    exact Sl.of_own b (own_max b)
  · intro x hx
    obtain ⟨i, hi, rfl⟩ := List.getElem_of_mem hx
    have h1 : i < fs.length := by simpa [a] using hi
    have h2 : i < us.length := by omega
    rw [List.getElem_zip, List.getElem_map]
    exact Sl.of_own (c i h1 h2) (own_max (c i h1 h2))
theorem Tryz.rowInfo : (Tryz.prog.info? 22).map (fun i => (i.zero, i.size, i.bytes)) = some (some (.slice none 0 0), 1, 24) := by kernel_rfl
theorem Tryz.wordInfo : (Tryz.prog.info? 90).map (fun i => (i.zero, i.size, i.bytes)) = some (some (.int .u64 0), 1, 8) := by kernel_rfl
theorem words_app (l : List Nat) (y : Nat) : words (l ++ [y]) = words l ++ [.int .u64 (y : Int)] := by simp [words]
/-- One more word. -/
theorem wpList_app_word {w : World} {ops : Array Oper} {rest : List Oper} {o : Oper} {a : Act} {Q : Exit → Act → World → Prop} (hgd : o.guard = none) (s x : Operand)
    (ho : o.op = .call { callee := .builtin .append, args := #[s, x], argTypes := #[89, 89] })
    (base : Nat) (v : Value) (n : Nat) (fs : List Nat) (hn : fs.length = n) (hs : a.eval s = v) (hown : w.ownsRow base 90 1 v n (words fs))
    (g c y : Nat) (hx : a.eval x = .slice (some ⟨g, 0, none⟩) 1 c) (hg : w.heap[g]? = some (.cells #[.int .u64 y] 90 (0, 0)))
    (hsz : n + 1 ≤ 1000000000) (hbase : base ≤ w.heap.size)
    (h : ∀ a' c' w', w'.ownsRow base 90 1 (.slice a' (n + 1) c') (n + 1) (words (fs ++ [y])) → GT 90 w w' → w.grownBy w' v.ownBlock → Below base w w' → wpList Tryz.prog ops Q rest (a.put o.dst (.slice a' (n + 1) c')) w') : wpList Tryz.prog ops Q (o :: rest) a w := by
  subst hn
  obtain ⟨i, hi, hz, hsize, hby⟩ := info_parts Tryz.wordInfo
  refine wpList_append_own w hgd s x _ ho base 90 i _ 1 8 Tryz.underlying89 hi hz hsize hby rfl (by decide) v fs.length (words fs) hs hown ⟨g, 0, none⟩ 1 c [.int .u64 y] hx rfl ?_ ?_ (by unfold maxLen; omega) (by omega) hbase ?_
  · intro j z hj
    have h0 : j = 0 := by have := (List.getElem?_eq_some_iff.1 hj).1; simpa using this
    subst h0
    simp at hj; subst hj
    rw [Addr.add_lit]; exact cell_of_heap hg 0 rfl
  · intro z hz
    obtain rfl := List.mem_singleton.1 hz; rfl
  · intro v' w' h2 h3 _
    obtain ⟨a', c', rfl, -⟩ := own_slice h2
    rw [← words_app] at h2
    exact h a' c' w' h2 (GT.of_own hown h3) h3 (below_own hown h3 (Nat.le_refl _) hbase)
/-- The same, as a step of a region. -/
theorem step_app_res {w : World} {ops : Array Oper} {o : Oper} {a : Act} {K : Act → World → Prop} {Q : Exit → Act → World → Prop} {E : Prop} (hgd : o.guard = none) (s x : Operand)
    (ho : o.op = .call { callee := .builtin .append, args := #[s, x], argTypes := #[36, 36] })
    (base : Nat) (v : Value) (n : Nat) (fs : List Nat) (hn : fs.length = n) (hs : a.eval s = v) (hR : Res w base v fs)
    (g c y : Nat) (u : Value) (hx : a.eval x = .slice (some ⟨g, 0, none⟩) 1 c) (hg : w.heap[g]? = some (.cells #[u] 22 (0, 0)))
    (hu : w.ownsRow base 3 1 u (Pt.listW y).length (ints (Si.nn (Pt.listW y)))) (hsz : n + 1 ≤ 1000000000) (hbase : base ≤ w.heap.size)
    (h : ∀ a' c' w', Res w' base (.slice a' (n + 1) c') (fs ++ [y]) → GT 22 w w' → Below base w w' → K (a.put o.dst (.slice a' (n + 1) c')) w') :
    if Region.wanted o (yielded ops a.tmps) = true then Oper.wp Tryz.prog o a w K Q else E := by
  subst hn
  obtain ⟨i, hi, hz, hsize, hby⟩ := info_parts Tryz.rowInfo
  obtain ⟨us, hul, hown, hin⟩ := hR
  obtain ⟨ua, uc, hus, -⟩ := own_slice hu
  refine step_append_lies _ hgd s x _ ho base 22 i _ 1 24 Tryz.underlying36 hi hz hsize hby rfl (by decide) v fs.length us hs hown ⟨g, 0, none⟩ 1 c [u] hx rfl (news_one hg) ?_ (by omega) (by unfold maxLen; omega) (by omega) hbase _ rfl ?_
  · intro z hz
    obtain rfl := List.mem_singleton.1 hz
    rw [hus]; rfl
  · intro g' c' w' h2 h3 _ _
    have hgt := GT.of_own hown h3
    refine h _ c' w' ⟨us ++ [u], by simp [hul], by simpa using h2, fun i k1 k2 => ?_⟩ hgt (below_own hown h3 (Nat.le_refl _) hbase)
    by_cases hi2 : i < fs.length
    · rw [List.getElem_append_left (by omega), List.getElem_append_left hi2]
      exact hgt.row (hin i hi2 (by omega)) (by decide)
    · have e : i = fs.length := by simp at k1; omega
      subst e
      rw [List.getElem_append_right (by omega), List.getElem_append_right (by omega)]
      simp only [hul, Nat.sub_self, List.getElem_singleton]
      exact hgt.row hu (by decide)
theorem step_app_word {w : World} {ops : Array Oper} {o : Oper} {a : Act} {K : Act → World → Prop} {Q : Exit → Act → World → Prop} {E : Prop} (hgd : o.guard = none) (s x : Operand)
    (ho : o.op = .call { callee := .builtin .append, args := #[s, x], argTypes := #[89, 89] })
    (base : Nat) (v : Value) (n : Nat) (fs : List Nat) (hn : fs.length = n) (hs : a.eval s = v) (hown : w.ownsRow base 90 1 v n (words fs))
    (g c y : Nat) (hx : a.eval x = .slice (some ⟨g, 0, none⟩) 1 c) (hg : w.heap[g]? = some (.cells #[.int .u64 y] 90 (0, 0)))
    (hsz : n + 1 ≤ 1000000000) (hbase : base ≤ w.heap.size)
    (h : ∀ a' c' w', w'.ownsRow base 90 1 (.slice a' (n + 1) c') (n + 1) (words (fs ++ [y])) → GT 90 w w' → w.grownBy w' v.ownBlock → Below base w w' → K (a.put o.dst (.slice a' (n + 1) c')) w') :
    if Region.wanted o (yielded ops a.tmps) = true then Oper.wp Tryz.prog o a w K Q else E := by
  subst hn
  obtain ⟨i, hi, hz, hsize, hby⟩ := info_parts Tryz.wordInfo
  refine step_append_lies _ hgd s x _ ho base 90 i _ 1 8 Tryz.underlying89 hi hz hsize hby rfl (by decide) v fs.length (words fs) hs hown ⟨g, 0, none⟩ 1 c [.int .u64 y] hx rfl (news_one hg) ?_ (by omega) (by unfold maxLen; omega) (by omega) hbase _ rfl ?_
  · intro z hz
    obtain rfl := List.mem_singleton.1 hz; rfl
  · intro g' c' w' h2 h3 _ _
    rw [← words_app] at h2
    exact h _ c' w' h2 (GT.of_own hown h3) h3 (below_own hown h3 (Nat.le_refl _) hbase)
/-- What holds within the round that finds a set. -/
structure Cx (w2 : World) (x bx : Nat) (W : World) (fv : Value) (fs : List Nat) (rv : Value) (rs : List Nat) : Prop where
  own : W.ownsRow w2.heap.size 90 1 fv fs.length (words fs)
  res : Res W w2.heap.size rv rs
  bel : Below w2.heap.size w2 W
  box : W.heap[bx]? = some (.cells #[.int .u64 x] 90 (0, 0))
theorem Cx.below {w2 W W' : World} {x bx : Nat} {fv rv : Value} {fs rs : List Nat} (h : Cx w2 x bx W fv fs rv rs) (hb : Below W.heap.size W W') : Cx w2 x bx W' fv fs rv rs :=
  ⟨own_below h.own hb, h.res.below hb, h.bel.trans (hb.mono h.bel.size), keep_heap h.box hb⟩
theorem Cx.alloc {w2 W : World} {x bx : Nat} {fv rv : Value} {fs rs : List Nat} (h : Cx w2 x bx W fv fs rv rs) (o : Obj) : Cx w2 x bx (W.alloc o) fv fs rv rs := h.below ((Below.refl _ W).alloc (Nat.le_refl _) o)
theorem Cx.drew {w2 W : World} {x bx : Nat} {fv rv : Value} {fs rs : List Nat} (h : Cx w2 x bx W fv fs rv rs) : Cx w2 x bx W.drew fv fs rv rs := h.below (Below.refl _ W).drew
theorem Cx.appF {w2 W W' : World} {x bx : Nat} {fv fv' rv : Value} {fs rs : List Nat} {n : Nat} (h : Cx w2 x bx W fv fs rv rs) (hn : fs.length = n) (far : fv.ownBlock ≠ some bx) (h1 : W'.ownsRow w2.heap.size 90 1 fv' (n + 1) (words (fs ++ [x]))) (h2 : GT 90 W W') (h3 : W.grownBy W' fv.ownBlock) (h4 : Below w2.heap.size W W') : Cx w2 x bx W' fv' (fs ++ [x]) rv rs :=
  ⟨by rw [List.length_append, hn]; exact h1, h.res.gt h2 (by decide) (by decide), h.bel.trans h4, (h3.block bx (heap_lt h.box) (fun e => far e.symm)).trans h.box⟩
theorem Cx.appR {w2 W W' : World} {x bx : Nat} {fv rv rv' : Value} {fs rs rs' : List Nat} (h : Cx w2 x bx W fv fs rv rs) (h1 : Res W' w2.heap.size rv' rs') (h2 : GT 22 W W') (h4 : Below w2.heap.size W W') : Cx w2 x bx W' fv fs rv' rs' :=
  ⟨h2.row h.own (by decide), h1, h.bel.trans h4, h2.heap h.box (by decide)⟩
theorem Cx.cell {w2 W : World} {x bx : Nat} {fv rv : Value} {fs rs : List Nat} (h : Cx w2 x bx W fv fs rv rs) : W.cell? ⟨bx, 0, none⟩ = some (.int .u64 x) := cell_of_heap h.box 0 rfl
theorem Cx.own2 {w2 W : World} {x bx n : Nat} {fv rv : Value} {fs rs : List Nat} (h : Cx w2 x bx W fv fs rv rs) (hn : fs.length = n) : W.ownsRow w2.heap.size 90 1 fv n (words fs) := by
  have := h.own
  rwa [hn] at this
theorem Cx.size {w2 W : World} {x bx : Nat} {fv rv : Value} {fs rs : List Nat} (h : Cx w2 x bx W fv fs rv rs) : w2.heap.size ≤ W.heap.size := h.bel.size
theorem heap_drew {w : World} {k : Nat} {o : Obj} (h : w.heap[k]? = some o) : w.drew.heap[k]? = some o := h
theorem heap_old {w : World} {k : Nat} {o p : Obj} (h : w.heap[k]? = some o) : (w.alloc p).heap[k]? = some o := (heap_alloc_old _ _ (heap_lt h)).trans h
theorem Res.mono {w : World} {base base' : Nat} {v : Value} {fs : List Nat} (h : Res w base v fs) (hb : base' ≤ base) : Res w base' v fs := by
  obtain ⟨us, a, b, c⟩ := h
  exact ⟨us, a, own_mono b hb, fun i k1 k2 => own_mono (c i k1 k2) hb⟩
end Go.Proofs.YtfcbcpfnaadpeaaGreatDoor
