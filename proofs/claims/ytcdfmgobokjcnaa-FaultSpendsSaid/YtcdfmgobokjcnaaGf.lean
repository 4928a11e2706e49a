/- Walks: slices.Collect, Sorted, Compact; fault.delays. -/
import Derived.Test.YtcdfmgobokjcnaaGe
import Derived.Test.YtcdfmgobokjcnaaGb
namespace Go.Proofs.Ytcdfmgobokjcnaa
set_option linter.unusedSimpArgs false
set_option linter.unusedVariables false
open Go.RowKit Go.Sort

theorem compactUpTo_spec (zs : List Int) (hs : zs.Pairwise (· ≤ ·)) : ∀ m, m ≤ zs.length → (Lib.compactUpTo zs.toArray m).Pairwise (· < ·) ∧ ∀ c, c ∈ Lib.compactUpTo zs.toArray m ↔ c ∈ zs.take m
  | 0, _ => by simp [Lib.compactUpTo]
  | m + 1, hm => by
    obtain ⟨h1, h2⟩ := compactUpTo_spec zs hs m (by omega)
    have hml : m < zs.length := by omega
    have e1 : zs.toArray[m]! = zs[m] := by rw [getElem!_pos zs.toArray m (by simpa using hml)]; simp
    have htk := List.take_succ_eq_append_getElem hml
    rw [Lib.compactUpTo_succ, htk]
    by_cases h0 : m = 0
    · subst h0
      have hk : Lib.keeps zs.toArray 0 = true := Lib.keeps_lt_one _ 0 (by omega)
      rw [if_pos hk, e1]
      refine ⟨by simp [Lib.compactUpTo], fun c => by simp [Lib.compactUpTo]⟩
    · have hm1 : m - 1 < zs.length := by omega
      have e2 : zs.toArray[m - 1]! = zs[m - 1] := by rw [getElem!_pos zs.toArray (m - 1) (by simpa using hm1)]; simp
      have hle : ∀ c ∈ zs.take m, c ≤ zs[m - 1] := by
        intro c hc
        obtain ⟨j, hj, rfl⟩ := List.getElem_of_mem hc
        rw [List.length_take] at hj
        rw [List.getElem_take]
        by_cases e : j = m - 1
        · subst e; exact Int.le_refl _
        · exact List.pairwise_iff_getElem.1 hs j (m - 1) (by omega) hm1 (by omega)
      have hlx : zs[m - 1] ≤ zs[m] := List.pairwise_iff_getElem.1 hs (m - 1) m hm1 hml (by omega)
      by_cases hx : zs[m] = zs[m - 1]
      · have hk : Lib.keeps zs.toArray m = false := Lib.keeps_neg (by omega) (by rw [e1, e2, hx])
        rw [if_neg (by rw [hk]; simp), List.append_nil]
        refine ⟨h1, fun c => ?_⟩
        rw [h2, List.mem_append, List.mem_singleton]
        constructor
        · exact .inl
        · rintro (h | h)
          · exact h
          · subst h
            rw [hx]
            rw [List.mem_take_iff_getElem]
            exact ⟨m - 1, by omega, rfl⟩
      · have hk : Lib.keeps zs.toArray m = true := Lib.keeps_pos (by rw [e1, e2]; exact hx)
        rw [if_pos hk, e1]
        refine ⟨?_, fun c => by rw [List.mem_append, List.mem_append, h2]⟩
        rw [List.pairwise_append]
        refine ⟨h1, by simp, fun a ha b hb => ?_⟩
        rw [List.mem_singleton] at hb
        subst hb
        have := hle a ((h2 a).1 ha)
        omega
theorem compact_spec (zs : List Int) (hs : zs.Pairwise (· ≤ ·)) : (Lib.compact zs).Pairwise (· < ·) ∧ ∀ c, c ∈ Lib.compact zs ↔ c ∈ zs := by
  have := compactUpTo_spec zs hs zs.length (Nat.le_refl _)
  rwa [List.take_length] at this
theorem compact_le (zs : List Int) : (Lib.compact zs).length ≤ zs.length := by
  have : ∀ m, (Lib.compactUpTo zs.toArray m).length ≤ m := by
    intro m
    induction m with
    | zero => simp [Lib.compactUpTo]
    | succ m ih =>
      rw [Lib.compactUpTo_succ, List.length_append]
      split <;> simp <;> omega
  exact this _
/-- The places: ascending, each once. -/
structure Places (cells ps : List Int) : Prop where
  asc : ps.Pairwise (· < ·)
  mem : ∀ c, c ∈ ps ↔ c ∈ cells
  len : ps.length ≤ cells.length
theorem Places.nodup {cells ps : List Int} (h : Places cells ps) : ps.Nodup := h.asc.imp (fun h => by omega)
/-- What grew but in rows of faults. -/
def NoF (w w' : World) : Prop := w.heap.size ≤ w'.heap.size ∧ ∀ (k : Nat) (cs : Array Value) (t : TypeId) (fr : Nat × Nat), w.heap[k]? = some (.cells cs t fr) → t ≠ 32 → w'.heap[k]? = some (.cells cs t fr)
theorem NoF.refl (w : World) : NoF w w := ⟨Nat.le_refl _, fun _ _ _ _ h _ => h⟩
theorem NoF.trans {w w' w'' : World} (h : NoF w w') (h2 : NoF w' w'') : NoF w w'' := ⟨Nat.le_trans h.1 h2.1, fun k cs t fr hk ht => h2.2 k cs t fr (h.2 k cs t fr hk ht) ht⟩
theorem NoF.below {w w' : World} (h : Below w.heap.size w w') : NoF w w' := ⟨h.size, fun _ _ _ _ hk _ => keep_heap hk h⟩
theorem NoF.ft {w w' : World} {base : Nat} {v : Value} {l : List Fa.Flt} (ho : FtO w base v l) (hg : w.grownBy w' v.ownBlock) : NoF w w' :=
  ⟨hg.size, fun _ _ _ _ hk ht => (GT.of_own ho hg).heap hk (fun e => ht e.symm)⟩
/-- A slice of numbers in a block of numbers. -/
def IsT (w : World) (v : Value) (l : List Int) : Prop := Is w v l ∧ ∀ g off n cap, v = .slice (some ⟨g, off, none⟩) n cap → ∃ cs fr, w.heap[g]? = some (.cells cs 3 fr)
theorem IsT.nof {w w' : World} {v : Value} {l : List Int} (h : IsT w v l) (hn : NoF w w') : IsT w' v l := by
  obtain ⟨⟨a, cap, rfl, hm, hx, hc⟩, ht⟩ := h
  refine ⟨⟨a, cap, rfl, hm, hx, fun i hi => ?_⟩, fun g off n cap e => ?_⟩
  · obtain ⟨b, off, e1, e2⟩ := hc i hi
    subst e1
    obtain ⟨cs, fr, h1⟩ := ht b off _ _ rfl
    have h2 := hn.2 _ _ _ _ h1 (by decide)
    refine ⟨b, off, rfl, ?_⟩
    rw [← e2]
    simp [World.cell?, h1, h2]
  · obtain ⟨cs, fr, h1⟩ := ht g off n cap e
    exact ⟨cs, fr, hn.2 _ _ _ _ h1 (by decide)⟩
/-- A new slice that holds the places. -/
def PlPost (B : Nat) (cells : List Int) (w : World) (e : Ending) (w' : World) : Prop := ∃ v ps, e = .returned v ∧ Places cells ps ∧ IsT w' v ps ∧ Below B w w'
theorem compactI_any (B : Nat) (v : Value) (cells zs : List Int) (w : World) (hs : zs.Pairwise (· ≤ ·)) (hm : ∀ c, c ∈ zs ↔ c ∈ cells) (hl : zs.length ≤ cells.length) (ho : w.ownsRow B 3 1 v zs.length (ints zs)) :
    Calls Try.prog 17 #[v] w (PlPost B cells w) := by
  obtain ⟨c1, c2⟩ := compact_spec zs hs
  have c3 := compact_le zs
  have hP : Places cells (Lib.compact zs) := ⟨c1, fun c => (c2 c).trans (hm c), by omega⟩
  have hmax := own_max ho
  rcases ho.2 with ⟨rfl, h0⟩ | ⟨g, cap, cur, rfl, hbg, hg, hnc, hcm, hcs, htake⟩
  · have h1 : zs = [] := List.eq_nil_of_length_eq_zero h0
    subst h1
    refine (Try.slices_Compact_int_empty none 0 w).mono ?_
    rintro e w' ⟨rfl, rfl⟩
    exact ⟨_, _, rfl, hP, ⟨Sl.nil _, fun g off n cap e => by cases e⟩, Below.refl _ _⟩
  · rw [Nat.mul_one] at htake
    have hH := Go.holds_of_blockI hg htake
    refine (Try.slices_Compact_int g 0 cap zs w hH (by unfold maxLen at hmax; omega) hnc).mono ?_
    rintro e w' ⟨rfl, q, rfl⟩
    have hsz : (Lib.compact zs ++ List.replicate (zs.length - (Lib.compact zs).length) 0).toArray.size = zs.toArray.size := by simp; omega
    have hH2 := holds_putRow (Value.int .i64) (Sort.ahead w q) g 0 zs.toArray _ (holds_ahead _ _ _ _ _ _ hH) hsz
    refine ⟨_, _, rfl, hP, ⟨?_, ?_⟩, ?_⟩
    · refine ⟨some ⟨g, 0, none⟩, cap, by rw [ints_len], by rw [ints_len]; omega, (fun h => by cases h), fun i hi => ⟨g, 0, rfl, ?_⟩⟩
      rw [ints_len] at hi
      have hi2 : i < (Lib.compact zs ++ List.replicate (zs.length - (Lib.compact zs).length) 0).toArray.size := by simp; omega
      rw [(hH2 i hi2).1, getElem!_pos _ i hi2]
      simp [ints, List.getElem_append_left hi]
    · intro g2 off n cap2 e
      injection e with e
      injection e with e
      injection e with e
      subst e
      exact ⟨_, (0, 0), by simp [putRow, mapBlock, Sort.ahead, Array.getElem?_modify, hg, onCells]; rfl⟩
    · refine ⟨rfl, rfl, rfl, by simp [putRow, mapBlock, Sort.ahead], fun k hk => ?_⟩
      unfold putRow mapBlock
      dsimp only
      rw [Array.getElem?_modify, if_neg (by omega)]
      rfl
set_option maxHeartbeats 1000000 in
theorem collect_any (v : Value) (l : List Int) (bA : Nat) (w : World) (hA : Box w bA 29 v) (hv : Is w v l) (hlen : l.length ≤ 1000000) :
    Calls Try.prog 34 #[.func (.func 36) #[] #[.pointer (some ⟨bA, 0, none⟩)]] w (RwPost l w) := by
  have HA := Lib.hid (appendSeq_any v l bA w hA hv hlen)
  unfold RwPost at HA ⊢
  clear hA hv hlen
  go_enter Try.func34, Try.ntmps34
  go_wp2_with fail
  go_at_call 45; refine HA.out.mono ?_; rintro e w2 ⟨v2, rfl, h2, b2⟩
  obtain ⟨a2, c2, rfl, -⟩ := own_slice h2
  have H2 := Lib.hid h2
  have B2 := Lib.hid b2
  clear h2 b2
  go_wp2_with fail
  go_ret
  exact ⟨_, rfl, H2.out, B2.out⟩
/-- A new row that holds the numbers of a list, ascending. -/
def SoPost (l : List Int) (w : World) (e : Ending) (w' : World) : Prop := ∃ v m, e = .returned v ∧ m.Perm l ∧ m.Pairwise (· ≤ ·) ∧ w'.ownsRow w.heap.size 3 1 v m.length (ints m) ∧ Below w.heap.size w w'
set_option maxHeartbeats 1000000 in
theorem sorted_any (v : Value) (l : List Int) (bA : Nat) (w : World) (hA : Box w bA 29 v) (hv : Is w v l) (hlen : l.length ≤ 1000000) :
    Calls Try.prog 18 #[.func (.func 36) #[] #[.pointer (some ⟨bA, 0, none⟩)]] w (SoPost l w) := by
  have HA := Lib.hid (collect_any v l bA w hA hv hlen)
  unfold RwPost at HA
  unfold SoPost
  clear hA hv
  go_enter Try.func18, Try.ntmps18
  go_wp2_with fail
  go_at_call 34; refine HA.out.mono ?_; rintro e w2 ⟨v2, rfl, h2, b2⟩
  have HS := Lib.hid (sortI_any w.heap.size v2 l w2 h2 (by omega) b2.size)
  obtain ⟨a2, c2, rfl, -⟩ := own_slice h2
  have B2 := Lib.hid b2
  clear h2 b2
  unfold SortedPost at HS
  go_wp2_with fail
  go_at_call 35; refine HS.out.mono ?_; rintro e w3 ⟨rfl, m, hm1, hm2, hm3, hm4, b3⟩
  have B3 := Lib.hid (B2.out.trans b3)
  have M1 := Lib.hid hm1
  have M2 := Lib.hid hm2
  have M4 := Lib.hid hm4
  clear hm1 hm2 hm3 hm4 b3
  go_wp2_with fail
  go_ret
  exact ⟨_, m, rfl, M1.out, M2.out, M4.out, B3.out⟩
end Go.Proofs.Ytcdfmgobokjcnaa
