/- Walks of package taquinlaw29: counts. -/
import Derived.Test.YtcdfmgobokjcnaaGj
namespace Go.Proofs.Ytcdfmgobokjcnaa
set_option linter.unusedSimpArgs false
set_option linter.unusedVariables false
open Go.RowKit Go.Sort

/-- How many faults of each kind there are. -/
def cntL (l : List Fa.Flt) : List Int := [Fa.cnt l 0, Fa.cnt l 1, Fa.cnt l 2, Fa.cnt l 3, Fa.cnt l 4, Fa.cnt l 5]
theorem cnt_take (l : List Fa.Flt) (k : Nat) (hk : k < l.length) (j : Int) : Fa.cnt (l.take (k + 1)) j = Fa.cnt (l.take k) j + if l[k].kind = j then 1 else 0 := by
  rw [List.take_succ_eq_append_getElem hk, Fa.cnt_append, Fa.cnt_cons]
  simp [show Fa.cnt [] = fun _ => 0 from rfl]
theorem cntL_in (l : List Fa.Flt) (k K : Nat) (hk : k < l.length) (hK : l[k].kind = (K : Int)) (h6 : K < 6) : cntL (l.take (k + 1)) = (cntL (l.take k)).set K (Fa.cnt (l.take k) (K : Int) + 1) := by
  unfold cntL
  simp only [cnt_take l k hk, hK]
  rcases (by omega : K = 0 ∨ K = 1 ∨ K = 2 ∨ K = 3 ∨ K = 4 ∨ K = 5) with rfl | rfl | rfl | rfl | rfl | rfl <;> simp
theorem cntL_out (l : List Fa.Flt) (k : Nat) (hk : k < l.length) (h : l[k].kind < 0 ∨ 6 ≤ l[k].kind) : cntL (l.take (k + 1)) = cntL (l.take k) := by
  unfold cntL
  simp only [cnt_take l k hk]
  rw [if_neg (by omega), if_neg (by omega), if_neg (by omega), if_neg (by omega), if_neg (by omega), if_neg (by omega)]
  simp
theorem cntL_get (l : List Fa.Flt) (K : Nat) (h6 : K < 6) : (ints (cntL l)).toArray[K]? = some (.int .i64 (Fa.cnt l (K : Int))) := by
  rcases (by omega : K = 0 ∨ K = 1 ∨ K = 2 ∨ K = 3 ∨ K = 4 ∨ K = 5) with rfl | rfl | rfl | rfl | rfl | rfl <;> rfl
theorem cnt_le (l : List Fa.Flt) (j : Int) : 0 ≤ Fa.cnt l j ∧ Fa.cnt l j ≤ l.length := by
  unfold Fa.cnt
  have := List.countP_le_length (p := fun f : Fa.Flt => decide (f.kind = j)) (l := l)
  omega
theorem make6 (w : World) : (Instr.makeSlice 29 (.int .i64 6) (.int .i64 6)).run Try.prog w = .ok (.slice (some ⟨w.heap.size, 0, none⟩) 6 6) (w.alloc (.cells (ints (cntL [])).toArray 3)) := by
  obtain ⟨i, hi, hz, hsize, hby⟩ := info_parts intInfoB
  have := run_make (P := Try.prog) w 29 3 i _ Try.underlying29 hi hz .i64 .i64 6 6 (by omega) (Int.le_refl _) (by rw [hby]; omega) (by omega)
  rw [hsize, show madeCells (Value.int .i64 0).cells (Int.toNat 6 * 1) = (ints (cntL [])).toArray from by kernel_rfl] at this
  exact this
/-- The row of counts. -/
def CntPost (l : List Fa.Flt) (w : World) (e : Ending) (w' : World) : Prop :=
  e = .returned (.slice (some ⟨w.heap.size, 0, none⟩) 6 6) ∧ w'.heap[w.heap.size]? = some (.cells (ints (cntL l)).toArray 3 (0, 0)) ∧ Below w.heap.size w w'
set_option maxRecDepth 100000 in
set_option maxHeartbeats 8000000 in
theorem counts_any (v : Value) (l : List Fa.Flt) (w : World) (h : FtV w v l) (hl : l.length ≤ 1000000) :
    Calls Try.prog 7 #[v] w (CntPost l w) := by
  obtain ⟨a, cap, rfl, hm⟩ := h.form
  have H := Lib.hid h
  obtain ⟨n, hn⟩ : ∃ n, l.length = n := ⟨_, rfl⟩
  unfold CntPost
  rw [hn] at hm H hl ⊢
  have HN := Lib.hid hn
  clear h hn
  have hmk := make6 w
  go_enter Try.func7, Try.ntmps7
  go_wp2_with fail
  clear hmk
  go_loopw [4] (fun iv wr => ∃ k : Nat, k ≤ n ∧ iv = .int .i64 k ∧ Hid (wr.heap[w.heap.size]? = some (.cells (ints (cntL (l.take k))).toArray 3 (0, 0))) ∧ Hid (Below w.heap.size w wr)) (fun iv _ => n - (intOf iv).toNat)
  case atStart => exact ⟨0, by omega, rfl, Lib.hid (heap_alloc_new _ _), Lib.hid (al1 _ _).2.1⟩
  case round =>
    obtain ⟨k, hk, rfl, HR, HB⟩ := hrel
    by_cases hkn : k < n
    · have hkl : k < l.length := by rw [HN.out]; exact hkn
      obtain ⟨b, o, rfl, hb, x0, x1, x2⟩ := (H.out.keep HB.out).cell k hkl
      have i0 : (0 : Int) ≤ (k : Int) := by omega
      have i1 : (k : Int) < (n : Int) := by omega
      have hin := Lib.hid (fun K => cntL_in l k K hkl)
      have hout := Lib.hid (cntL_out l k hkl)
      obtain ⟨X, hX⟩ : ∃ X, l[k].kind = X := ⟨_, rfl⟩
      rw [hX] at x0 hin hout
      clear hX x1 x2 hkl
      by_cases g0 : 0 ≤ X
      · by_cases g1 : X < 6
        · obtain ⟨K, rfl⟩ := Int.eq_ofNat_of_zero_le g0
          have hK6 : K < 6 := by omega
          have hc := cell_of_heap HR.out K (cntL_get (l.take k) K hK6)
          have hf := free_of_heap HR.out K
          have hce := cnt_le (l.take k) (K : Int)
          rw [List.length_take] at hce
          have HI := Lib.hid (hin.out K rfl hK6)
          obtain ⟨Z, hZ⟩ : ∃ Z, Fa.cnt (l.take k) (K : Int) = Z := ⟨_, rfl⟩
          rw [hZ] at hc hce HI
          have hz0 : 0 ≤ Z := hce.1
          have hz1 : Z ≤ 1000000 := by omega
          clear hce hZ
          go_wp2_with fail
          go_roundw
          case rel =>
            refine ⟨k + 1, by omega, by go_num, Lib.hid ?_, Lib.hid (HB.out.setCell (by dsimp only; omega) _)⟩
            rw [HI.out]
            have := set_heap HR.out K (.int .i64 (Z + 1))
            rw [this]
            simp [ints, List.map_set]
          case measure => simp [intOf]; omega
        · have HO := Lib.hid (hout.out (.inr (by omega)))
          go_wp2_with fail
          go_roundw
          case rel => exact ⟨k + 1, by omega, by go_num, Lib.hid (by rw [HO.out]; exact HR.out), HB⟩
          case measure => simp [intOf]; omega
      · have HO := Lib.hid (hout.out (.inl (by omega)))
        go_wp2_with fail
        go_roundw
        case rel => exact ⟨k + 1, by omega, by go_num, Lib.hid (by rw [HO.out]; exact HR.out), HB⟩
        case measure => simp [intOf]; omega
    · have HE : Hid (wr.heap[w.heap.size]? = some (.cells (ints (cntL l)).toArray 3 (0, 0))) := Lib.hid (by have := HR.out; rwa [List.take_of_length_le (by rw [HN.out]; omega)] at this)
      go_wp2_with fail
      go_ret
      exact ⟨rfl, HE.out, HB.out⟩
end Go.Proofs.Ytcdfmgobokjcnaa
