/- Walks: append to rows of faults; fault.delays. -/
import Derived.Test.YtcdfmgobokjcnaaGf
import Derived.Test.YtcdfmgobokjcnaaGd
namespace Go.Proofs.Ytcdfmgobokjcnaa
set_option linter.unusedSimpArgs false
set_option linter.unusedVariables false
open Go.RowKit Go.Sort

theorem fltInfo : (Try.prog.info? 32).map (fun i => (i.zero, i.size, i.bytes)) = some (some (.agg #[.int .i64 0, .int .i64 0, .int .i64 0]), 3, 24) := by kernel_rfl
set_option maxRecDepth 100000 in
theorem wpList_app_ft {w : World} {ops : Array Oper} {rest : List Oper} {o : Oper} {a : Act} {Q : Exit → Act → World → Prop} (hgd : o.guard = none) (s x : Operand)
    (ho : o.op = .call { callee := .builtin .append, args := #[s, x], argTypes := #[24, 24] })
    (base : Nat) (v : Value) (l : List Fa.Flt) (hs : a.eval s = v) (hown : FtO w base v l)
    (u : Value) (news : List Fa.Flt) (hx : a.eval x = u) (hr : FtV w u news)
    (h63 : l.length + news.length ≤ 1000000000) (hbase : base ≤ w.heap.size)
    (h : ∀ v' w', FtO w' base v' (l ++ news) → w.grownBy w' v.ownBlock → wpList Try.prog ops Q rest (a.put o.dst v') w') : wpList Try.prog ops Q (o :: rest) a w := by
  obtain ⟨i, hi, hz, hsize, hby⟩ := info_parts fltInfo
  obtain ⟨ad, cap, rfl, hm, hn, hc⟩ := hr
  rw [List.length_map] at hx hm
  cases ad with
  | none =>
    obtain rfl := hn rfl
    have h0 : news.length = 0 := by
      rcases Nat.eq_zero_or_pos news.length with h | h
      · exact h
      · obtain ⟨_, _, h', _⟩ := hc 0 (by simpa using h); cases h'
    obtain rfl : news = [] := List.eq_nil_of_length_eq_zero h0
    exact wpList_append_own_none hgd s x 24 ho base 32 i 3 Try.underlying24 hi v l.length (flts l) hs hown hx (h v w (by simpa using hown) (World.grownBy.refl w _))
  | some ad =>
    have hb : ∃ b off, ad = ⟨b, off, none⟩ ∨ news.length = 0 := by
      rcases Nat.eq_zero_or_pos news.length with h | h
      · exact ⟨0, 0, .inr h⟩
      · obtain ⟨b, off, h', _⟩ := hc 0 (by simpa using h)
        injection h' with h'
        exact ⟨b, off, .inl h'⟩
    refine wpList_append_own w hgd s x 24 ho base 32 i _ 3 24 Try.underlying24 hi hz hsize hby (by rfl) (by omega) v l.length (flts l) hs hown ad news.length cap (flts news) hx (by rw [flts_len]) (fun j u hu => ?_) (flts_one news) (by unfold maxLen; omega) (by omega) hbase (fun v' w' h2 h3 _ => h v' w' (by unfold FtO; rw [List.length_append, flts_app]; exact h2) h3)
    have hj := (List.getElem?_eq_some_iff.1 hu).1
    rw [flts_len] at hj
    have hi2 : j / 3 < news.length := by omega
    obtain ⟨b, off, h2, -, h3⟩ := hc (j / 3) (by simpa using hi2)
    injection h2 with h2
    subst h2
    have h4 := h3 (j % 3) (by omega)
    have hf := get_flatten (news.map fltC) (k := 3) (fun r hr => by obtain ⟨x, -, rfl⟩ := List.mem_map.1 hr; rfl) (j / 3) (by simpa using hi2) (j % 3) (by omega)
    rw [← flts_eq, show j / 3 * 3 + j % 3 = j by omega, hu] at hf
    have e2 : ((⟨b, off, none⟩ : Addr).add j) = ⟨b, off + j, none⟩ := by unfold Addr.add; split <;> simp_all
    rw [e2, show off + j = off + j / 3 * 3 + j % 3 by omega, h4, hf]
theorem ftv_one {w : World} {g : Nat} {x : Fa.Flt} {t : TypeId} (h : w.heap[g]? = some (.cells #[.int .i64 x.kind, .int .i64 x.a, .int .i64 x.n] t (0, 0))) : FtV w (.slice (some ⟨g, 0, none⟩) 1 1) [x] := by
  refine ⟨some ⟨g, 0, none⟩, 1, rfl, by simp [maxLen], (fun h => by cases h), fun i hi => ⟨g, 0, rfl, heap_lt h, fun j hj => ?_⟩⟩
  have : i = 0 := by simp at hi; omega
  subst this
  have : j = 0 ∨ j = 1 ∨ j = 2 := by omega
  rcases this with rfl | rfl | rfl
  · exact cell_of_heap h 0 rfl
  · exact cell_of_heap h 1 rfl
  · exact cell_of_heap h 2 rfl
theorem FtO.nil (w : World) (base : Nat) : FtO w base (.slice none 0 0) [] := ⟨rfl, .inl ⟨rfl, rfl⟩⟩
theorem below_ft {B : Nat} {w w' : World} {base : Nat} {v : Value} {l : List Fa.Flt} (ho : FtO w base v l) (hg : w.grownBy w' v.ownBlock) (hB : B ≤ base) (hw : B ≤ w.heap.size) : Below B w w' := below_own ho hg hB hw
theorem delaysL_len (k a most : Int) : (Fa.delaysL k a most).length = most.toNat := by simp [Fa.delaysL]
theorem delays_step (k a : Int) (n : Nat) : Fa.delaysL k a ((n : Int) + 1) = Fa.delaysL k a n ++ [⟨k, a, (n : Int) + 1⟩] := by
  unfold Fa.delaysL
  rw [show ((n : Int) + 1).toNat = n + 1 by omega, Int.toNat_natCast, List.range_succ, List.map_append]; rfl
/-- A new row of faults is handed back. -/
def FoPost (l : List Fa.Flt) (w : World) (e : Ending) (w' : World) : Prop := ∃ v, e = .returned v ∧ FtO w' w.heap.size v l ∧ Below w.heap.size w w'
set_option maxRecDepth 100000 in
set_option maxHeartbeats 8000000 in
theorem delays_any (k a most : Int) (w : World) (hm : most ≤ 1000000) :
    Calls Try.prog 16 #[.int .i64 k, .int .i64 a, .int .i64 most] w (FoPost (Fa.delaysL k a most) w) := by
  unfold FoPost
  go_enter Try.func16, Try.ntmps16
  go_wp2_with fail
  go_loopw [7, 10] (fun s7 iv wr => ∃ (i : Nat) (v : Value), v = s7 ∧ iv = .int .i64 i ∧ (i : Int) ≤ (most.toNat : Int) ∧ Hid (FtO wr w.heap.size v (Fa.delaysL k a i)) ∧ Hid (Below w.heap.size w wr)) (fun _ iv _ => most.toNat - (intOf iv).toNat)
  case atStart => exact ⟨0, .slice none 0 0, rfl, rfl, by omega, Lib.hid (FtO.nil w _), Lib.hid (Below.refl _ _)⟩
  case round =>
    obtain ⟨i, v, rfl, rfl, hi, HO, HB⟩ := hrel
    by_cases hlt : (i : Int) < most
    · have hst := Lib.hid (delays_step k a i)
      have hln : Hid ((Fa.delaysL k a i).length ≤ 1000000) := Lib.hid (by rw [delaysL_len]; omega)
      have B1 := Lib.hid (HB.out.alloc HB.out.size (.cells #[.int .i64 k, .int .i64 a, .int .i64 ((i : Int) + 1)] 32))
      have HN := Lib.hid (ftv_one (x := ⟨k, a, (i : Int) + 1⟩) (heap_alloc_new wr (.cells #[.int .i64 k, .int .i64 a, .int .i64 ((i : Int) + 1)] 32)))
      have HO1 := Lib.hid (HO.out.keep ((Below.refl _ wr).alloc (Nat.le_refl _) (.cells #[.int .i64 k, .int .i64 a, .int .i64 ((i : Int) + 1)] 32)))
      have hbs := B1.out.size
      go_wp2_with (at_builtin; refine wpList_app_ft rfl (.tmp 13) (.tmp 19) rfl w.heap.size v _ rfl HO1.out _ [⟨k, a, (i : Int) + 1⟩] rfl HN.out ?d1 hbs ?_)
      case d1 => have := hln.out; simp; omega
      intro v3 w3 ho3 hg3
      have HO3 : Hid (FtO w3 w.heap.size v3 (Fa.delaysL k a ((i : Int) + 1))) := Lib.hid (by rw [hst.out]; exact ho3)
      have B3 := Lib.hid (B1.out.trans (below_ft HO1.out hg3 (Nat.le_refl _) hbs))
      clear ho3 hg3 hbs
      go_wp2_with fail
      go_roundw
      case rel => exact ⟨i + 1, v3, rfl, by go_num, by omega, Lib.hid (by have := HO3.out; rwa [show ((i : Int) + 1) = ((i + 1 : Nat) : Int) by omega] at this), B3⟩
      case measure => simp [intOf]; omega
    · have he : Hid (Fa.delaysL k a i = Fa.delaysL k a most) := Lib.hid (by unfold Fa.delaysL; rw [show (i : Int).toNat = most.toNat by omega])
      go_wp2_with fail
      go_ret
      exact ⟨_, rfl, by rw [← he.out]; exact HO.out, HB.out⟩
end Go.Proofs.Ytcdfmgobokjcnaa
