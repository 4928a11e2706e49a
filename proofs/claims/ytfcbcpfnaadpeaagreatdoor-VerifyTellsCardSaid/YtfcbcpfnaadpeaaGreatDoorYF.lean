/- Parts Va, Vb, Vc of this claim, laid one behind the other: walks and the plain laws behind them; each contract states its own conditions. -/
import Derived.Test.YtfcbcpfnaadpeaaGreatDoorZU
import Derived.Test.YtfcbcpfnaadpeaaGreatDoorZH
import Derived.Test.YtfcbcpfnaadpeaaGreatDoorShelf
import Derived.Laws.CopyRow
import Derived.Laws.CopyOwn
import Derived.Test.YtfcbcpfnaadpeaaGreatDoorZA
import Derived.Test.YtfcbcpfnaadpeaaGreatDoorZJ
namespace Go.Proofs.YtfcbcpfnaadpeaaGreatDoor
set_option maxRecDepth 100000
set_option maxHeartbeats 64000000
set_option linter.unusedSimpArgs false
set_option linter.unusedVariables false
open Go.RowKit
def repC (c : Int) (n m : Nat) : List Int := List.replicate m c ++ List.replicate (n - m) 0
theorem repC_len {c : Int} {n m : Nat} (h : m ≤ n) : (repC c n m).length = n := by unfold repC; simp; omega
theorem repC_all (c : Int) (n : Nat) : repC c n n = List.replicate n c := by unfold repC; simp
theorem repC_cell {c : Int} {n m j : Nat} (h : j < m) : (ints (repC c n m)).toArray[j]? = some (.int .i64 c) := by
 unfold repC ints
 simp [List.getElem?_append_left, h]
theorem repC_next {c : Int} {n m d : Nat} (hm : m ≤ n) (hd : m + d ≤ n) : ((ints (repC c n m)).toArray.toList.take m ++ List.replicate d (Value.int .i64 c) ++ (ints (repC c n m)).toArray.toList.drop (m + (List.replicate d (Value.int .i64 c)).length)).toArray = (ints (repC c n (m + d))).toArray := by
 unfold repC ints
 apply Array.ext_getElem?
 intro i
 simp only [List.getElem?_toArray, List.toList_toArray, List.map_append, List.map_replicate, List.length_replicate]
 simp only [List.getElem?_append, List.length_append, List.length_take, List.length_replicate, List.getElem?_take, List.getElem?_drop, List.getElem?_replicate]
 repeat' split
 all_goals first | rfl | omega | (congr 1; omega) | skip
theorem Repeat_any (g0 n : Nat) (c : Int) (w : World) (h0 : w.cell? ⟨g0, 0, none⟩ = some (.int .i64 c)) (hn : 1 ≤ n) (hn2 : n ≤ 100000) :
 Calls Tryz.prog 129 #[.slice (some ⟨g0, 0, none⟩) 1 1, .int .i64 n] w fun e w' => e = .returned (.slice (some ⟨w.heap.size, 0, none⟩) n n) ∧ w'.heap[w.heap.size]? = some (.cells (ints (List.replicate n c)).toArray 3 (0, 0)) ∧ Below w.heap.size w w' := by
 have hg0 : g0 < w.heap.size := cell_block_lt h0
 have hmul := Tryz.bits_Mul 1 n (by omega) (by omega) w
 rw [show 1 * n / 18446744073709551616 = 0 by omega, show 1 * n % 18446744073709551616 = n by omega] at hmul
 have HMU := hid hmul
 have hmk := make_ints n (n : Int) rfl hn2
 have hu : IntKind.u64.wrap (n : Int) = (n : Int) := by unfold IntKind.wrap; simp [IntKind.bits, IntKind.signed]; omega
 have hi : IntKind.i64.wrap (n : Int) = (n : Int) := IntWalk.i64_in _ (by omega)
 have hsz : (Tryz.prog.info? 3).map (·.size) = some 1 := by kernel_rfl
 obtain ⟨w1, hw1⟩ : ∃ x, x = w.alloc (.cells (madeCells #[.int .i64 0] n) 3) := ⟨_, rfl⟩
 have hh1 : w1.heap[w.heap.size]? = some (.cells (ints (repC c n 0)).toArray 3 (0, 0)) := by
  rw [hw1, made_intsN]; unfold repC; simp only [List.replicate_zero, List.nil_append, Nat.sub_zero]; exact heap_alloc_new _ _
 have b1 : Below w.heap.size w w1 := by rw [hw1]; exact (Below.refl _ w).alloc (Nat.le_refl _) _
 have hcp := fun ty => run_copy_row (P := Tryz.prog) w1 22 22 ty 3 w.heap.size 0 n n ⟨g0, 0, none⟩ 1 1 (ints (repC c n 0)).toArray 3 (List.replicate 1 (.int .i64 c)) Tryz.underlying22 hsz hh1 (by rw [List.length_replicate]; exact (Nat.min_eq_left hn).symm)
  (fun j v hj => by
   have e : j = 0 := by have := (List.getElem?_eq_some_iff.1 hj).1; simp at this; omega
   subst e
   simp at hj
   subst hj
   have := (b1.cell (p := ⟨g0, 0, none⟩) hg0).trans h0
   simpa [Addr.add] using this) (by simp [ints_len, repC_len (Nat.zero_le n)]; omega) (by intro v hv; simp at hv; subst hv; rfl)
 rw [repC_next (Nat.zero_le n) (by omega)] at hcp
 obtain ⟨w2, hw2⟩ : ∃ x, x = w1.setRow w.heap.size (ints (repC c n (0 + 1))).toArray := ⟨_, rfl⟩
 rw [← hw2] at hcp
 have H2 : Hid (w2.heap[w.heap.size]? = some (.cells (ints (repC c n 1)).toArray 3 (0, 0))) := hid (by rw [hw2]; exact setRow_heap _ _ _ _ _ _ hh1)
 have B2 : Hid (Below w.heap.size w w2) := hid (by rw [hw2]; exact below_setRow b1 (Nat.le_refl _) _)
 have HW1 := hid hw1
 have hlr : (goInt ((List.replicate 1 (Value.int .i64 c)).length : Nat)) = .int .i64 1 := rfl
 rw [hlr] at hcp
 clear hmul hh1 b1 hw1 hw2 hlr h0
 go_enter Tryz.func129, Tryz.ntmps129
 go_wp2_with fail
 go_at_call 206; refine HMU.out.mono ?_; rintro e w' ⟨rfl, hww⟩; obtain rfl : w = w' := hww.symm
 go_upto_region 7 with fail
 rw [← HW1.out]
 go_wp2_with fail
 go_loopw [8] (fun iv wr => ∃ m : Nat, 1 ≤ m ∧ m ≤ n ∧ iv = .int .i64 m ∧ Hid (wr.heap[w.heap.size]? = some (.cells (ints (repC c n m)).toArray 3 (0, 0))) ∧ Hid (Below w.heap.size w wr)) (fun iv _ => n - (intOf iv).toNat)
 case atStart => exact ⟨1, by omega, hn, rfl, H2, B2⟩
 case round =>
  clear H2 B2 hcp hmk
  obtain ⟨m, hm1, hmn, rfl, HG, HB⟩ := hrel
  by_cases hlt : m < n
  · obtain ⟨d, hd⟩ : ∃ d, d = min m (n - m) := ⟨_, rfl⟩
    have hd1 : 1 ≤ d := by omega
    have hd2 : m + d ≤ n := by omega
    have hh1 : wr.drew.heap[w.heap.size]? = some (.cells (ints (repC c n m)).toArray 3 (0, 0)) := HG.out
    have hcp := fun ty => run_copy_row (P := Tryz.prog) wr.drew 22 22 ty 3 w.heap.size m (n - m) (n - m) ⟨w.heap.size, 0, none⟩ m n (ints (repC c n m)).toArray 3 (List.replicate d (.int .i64 c)) Tryz.underlying22 hsz hh1 (by rw [List.length_replicate]; exact hd)
     (fun j v hj => by
      have e := (List.getElem?_eq_some_iff.1 hj).1
      rw [List.length_replicate] at e
      have e2 : v = .int .i64 c := by have := (List.getElem?_eq_some_iff.1 hj).2; rw [List.getElem_replicate] at this; exact this.symm
      subst e2
      have := cell_of_heap hh1 j (repC_cell (c := c) (n := n) (m := m) (j := j) (by omega))
      rw [Addr.add_lit, Nat.zero_add]; exact this) (by simp [ints_len, repC_len hmn]; omega) (by intro v hv; rw [List.mem_replicate] at hv; rw [hv.2]; rfl)
    rw [repC_next hmn hd2, List.length_replicate] at hcp
    obtain ⟨w2, hw2⟩ : ∃ x, x = wr.drew.setRow w.heap.size (ints (repC c n (m + d))).toArray := ⟨_, rfl⟩
    rw [← hw2] at hcp
    have H2 : Hid (w2.heap[w.heap.size]? = some (.cells (ints (repC c n (m + d))).toArray 3 (0, 0))) := hid (by rw [hw2]; exact setRow_heap _ _ _ _ _ _ hh1)
    have B2 : Hid (Below w.heap.size w w2) := hid (by rw [hw2]; exact below_setRow (HB.out.trans (below_drewN _ _ 1)) (Nat.le_refl _) _)
    have g1 : (goInt (d : Nat)) = .int .i64 (d : Int) := rfl
    rw [g1] at hcp
    have m0 : (0 : Int) ≤ (m : Int) := by omega
    have m2 : (m : Int) ≤ (n : Int) := by omega
    have m3 : (m : Int) < (n : Int) := by omega
    clear hh1 hw2 hd g1
    have hwr : IntKind.i64.wrap ((m : Int) + (d : Int)) = ((m + d : Nat) : Int) := by rw [IntWalk.i64_in _ (by omega)]; omega
    have HWR := hid hwr
    clear hwr
    go_wp2_with fail
    go_region_with (fail)
    all_goals
     go_simp
     rw [HWR.out]
     go_roundw
     case rel => exact ⟨_, _, _, _, _, _, _, _, _, _, _, _, _, _, ⟨m + d, by omega, hd2, rfl, H2, B2⟩, rfl⟩
     case measure => simp [intOf]; omega
  · obtain rfl : n = m := by omega
    have HF : Hid (wr.heap[w.heap.size]? = some (.cells (ints (List.replicate n c)).toArray 3 (0, 0))) := hid (by rw [← repC_all]; exact HG.out)
    go_wp2_with fail
    go_ret
    exact ⟨rfl, HF.out, HB.out⟩
theorem Repeat_ex (g0 n : Nat) (c : Int) (w : World) (h0 : w.cell? ⟨g0, 0, none⟩ = some (.int .i64 c)) (hn : 1 ≤ n) (hn2 : n ≤ 100000) :
 Calls Tryz.prog 129 #[.slice (some ⟨g0, 0, none⟩) 1 1, .int .i64 n] w fun e w' => ∃ g, e = .returned (.slice (some ⟨g, 0, none⟩) n n) ∧ w.heap.size ≤ g ∧ w'.heap[g]? = some (.cells (ints (List.replicate n c)).toArray 3 (0, 0)) ∧ Below w.heap.size w w' :=
 (Repeat_any g0 n c w h0 hn hn2).mono fun e w' ⟨h1, h2, h3⟩ => ⟨_, h1, Nat.le_refl _, h2, h3⟩
def zdC (s : Si.Site) (kv ov zv av sv rv x : Value) : Array Value := #[.int .i64 s.floor.w, .int .i64 s.floor.h, .int .i64 s.floor.d, kv, ov, zv, av, sv, rv, x]
structure ZdV (w : World) (B g : Nat) (s : Si.Site) (kv ov zv av sv rv : Value) : Prop where
 hB : w.heap[B]? = some (.cells (zdC s kv ov zv av sv rv (.slice (some ⟨g, 0, none⟩) s.floor.kind.length s.floor.kind.length)) 121 (0, 0))
 hg : w.heap[g]? = some (.cells (ints (Ve.zoneL s)).toArray 3 (0, 0))
 sv : SiV w kv ov zv av sv rv s
theorem ZdV.below {w w' : World} {B g : Nat} {s : Si.Site} {kv ov zv av sv rv : Value} (h : ZdV w B g s kv ov zv av sv rv) (hb : Below w.heap.size w w') : ZdV w' B g s kv ov zv av sv rv :=
 ⟨keep_heap h.hB hb, keep_heap h.hg hb, h.sv.keep hb⟩
theorem kind_pos {f : Fl.Floor} (h : Fl.Right f) : 1 ≤ f.kind.length ∧ f.kind.length ≤ 4096 := by
 have h1 := h.kl
 have h2 := h.sz
 have h3 : 1 ≤ f.w * f.h := by have := Int.mul_le_mul h.w1 h.h1 (by omega) (by have := h.w1; omega); simpa using this
 have h4 : 1 ≤ f.w * f.h * f.d := by have := Int.mul_le_mul h3 h.d1 (by omega) (by omega); simpa using this
 unfold Fl.Floor.size at h1 h2
 omega
theorem begin_any (s : Si.Site) (kv ov zv av sv rv : Value) (w : World) (h : SiV w kv ov zv av sv rv s) (hr : Si.Right s) :
 Calls Tryz.prog 47 #[siV s kv ov zv av sv rv] w fun e w' => ∃ B g, e = .returned (.pointer (some ⟨B, 0, none⟩)) ∧ ZdV w' B g s kv ov zv av sv rv ∧ Below w.heap.size w w' := by
 obtain ⟨a1, c1, a2, c2, a3, c3, a4, c4, a5, c5, a6, c6, rfl, rfl, rfl, rfl, rfl, rfl, m1, m2, m3, m4, m5, m6⟩ := h.open
 obtain ⟨hp1, hp2⟩ := kind_pos hr.fl
 have HV := hid h
 have HR := hid hr
 have HZ0 := hid (Ve.zlK_zero s)
 obtain ⟨l1, e1⟩ : ∃ n, s.floor.kind.length = n := ⟨_, rfl⟩
 obtain ⟨l2, e2⟩ : ∃ n, s.floor.out.length = n := ⟨_, rfl⟩
 obtain ⟨l3, e3⟩ : ∃ n, s.zones.length = n := ⟨_, rfl⟩
 obtain ⟨l4, e4⟩ : ∃ n, s.aparts.length = n := ⟨_, rfl⟩
 obtain ⟨l5, e5⟩ : ∃ n, s.shelves.length = n := ⟨_, rfl⟩
 obtain ⟨l6, e6⟩ : ∃ n, s.robots.length = n := ⟨_, rfl⟩
 have HE1 := hid e1
 have HE2 := hid e2
 have E3 := hid e3
 have HE4 := hid e4
 have HE5 := hid e5
 have HE6 := hid e6
 unfold siV
 rw [e1] at hp1 hp2 HZ0
 rw [e1, e2, e3, e4, e5, e6] at HV
 rw [e1, e2, e3, e4, e5, e6]
 rw [e3] at m3
 have HRE := hid (fun g0 W h0 => Repeat_ex g0 l1 (-1) W h0 hp1 (by omega))
 obtain ⟨w1, hw1⟩ : ∃ x, x = w.alloc (.cells #[.int .i64 s.floor.w, .int .i64 s.floor.h, .int .i64 s.floor.d, .slice a1 l1 c1, .slice a2 l2 c2, .slice a3 l3 c3, .slice a4 l4 c4, .slice a5 l5 c5, .slice a6 l6 c6] 30) := ⟨_, rfl⟩
 have B1 : Hid (Below w.heap.size w w1) := hid (by rw [hw1]; exact (Below.refl _ w).alloc (Nat.le_refl _) _)
 have I1 : Hid (w1.heap[w.heap.size]? = some (.cells #[.int .i64 s.floor.w, .int .i64 s.floor.h, .int .i64 s.floor.d, .slice a1 l1 c1, .slice a2 l2 c2, .slice a3 l3 c3, .slice a4 l4 c4, .slice a5 l5 c5, .slice a6 l6 c6] 30 (0, 0))) := hid (by rw [hw1]; exact heap_alloc_new _ _)
 have HW1 := hid hw1
 obtain ⟨FW, hFW⟩ : ∃ x, s.floor.w = x := ⟨_, rfl⟩
 obtain ⟨FH, hFH⟩ : ∃ x, s.floor.h = x := ⟨_, rfl⟩
 obtain ⟨FD, hFD⟩ : ∃ x, s.floor.d = x := ⟨_, rfl⟩
 have HFW := hid hFW
 have HFH := hid hFH
 have HFD := hid hFD
 rw [hFW, hFH, hFD] at I1 HW1 ⊢
 have lw : w.heap.size < w1.heap.size := heap_lt I1.out
 have p0 : w1.cell? ⟨w.heap.size, 0, none⟩ = some (.int .i64 FW) := cell_of_heap I1.out 0 rfl
 have p1 : w1.cell? ⟨w.heap.size, 1, none⟩ = some (.int .i64 FH) := cell_of_heap I1.out 1 rfl
 have p2 : w1.cell? ⟨w.heap.size, 2, none⟩ = some (.int .i64 FD) := cell_of_heap I1.out 2 rfl
 have p3 : w1.cell? ⟨w.heap.size, 3, none⟩ = some (.slice a1 l1 c1) := cell_of_heap I1.out 3 rfl
 have p4 : w1.cell? ⟨w.heap.size, 4, none⟩ = some (.slice a2 l2 c2) := cell_of_heap I1.out 4 rfl
 have p5 : w1.cell? ⟨w.heap.size, 5, none⟩ = some (.slice a3 l3 c3) := cell_of_heap I1.out 5 rfl
 have p6 : w1.cell? ⟨w.heap.size, 6, none⟩ = some (.slice a4 l4 c4) := cell_of_heap I1.out 6 rfl
 have p7 : w1.cell? ⟨w.heap.size, 7, none⟩ = some (.slice a5 l5 c5) := cell_of_heap I1.out 7 rfl
 have p8 : w1.cell? ⟨w.heap.size, 8, none⟩ = some (.slice a6 l6 c6) := cell_of_heap I1.out 8 rfl
 clear h hr e1 e2 e3 e4 e5 e6 hw1 hFW hFH hFD
 go_enter Tryz.func47, Tryz.ntmps47
 go_upto_region 1 with fail
 rw [← HW1.out]
 go_cut [3] (fun v wx => ∃ B g, v = .pointer (some ⟨B, 0, none⟩) ∧ Hid (wx.heap[B]? = some (.cells #[.int .i64 FW, .int .i64 FH, .int .i64 FD, .slice a1 l1 c1, .slice a2 l2 c2, .slice a3 l3 c3, .slice a4 l4 c4, .slice a5 l5 c5, .slice a6 l6 c6, .slice (some ⟨g, 0, none⟩) l1 l1] 121 (0, 0))) ∧
  Hid (wx.heap[g]? = some (.cells (ints (Ve.zlK s 0 [])).toArray 3 (0, 0))) ∧ Hid (w.heap.size ≤ g ∧ g ≠ B) ∧ Hid (Below w1.heap.size w1 wx))
 case first =>
  go_region_held3 (fun w' => w'.cell? ⟨w.heap.size, 0, none⟩ = some (.int .i64 FW) ∧ w'.cell? ⟨w.heap.size, 1, none⟩ = some (.int .i64 FH) ∧ w'.cell? ⟨w.heap.size, 2, none⟩ = some (.int .i64 FD) ∧ w'.cell? ⟨w.heap.size, 3, none⟩ = some (.slice a1 l1 c1) ∧ w'.cell? ⟨w.heap.size, 4, none⟩ = some (.slice a2 l2 c2) ∧ w'.cell? ⟨w.heap.size, 5, none⟩ = some (.slice a3 l3 c3) ∧ w'.cell? ⟨w.heap.size, 6, none⟩ = some (.slice a4 l4 c4) ∧ w'.cell? ⟨w.heap.size, 7, none⟩ = some (.slice a5 l5 c5) ∧ w'.cell? ⟨w.heap.size, 8, none⟩ = some (.slice a6 l6 c6)) (go_keep)
   ((go_at_call 129; refine (HRE.out w1.heap.size ((w1.alloc (.cells #[.int .i64 (-1)] 3)).drew) (cell_of_heap (heap_alloc_new w1 _) 0 rfl)).mono ?_; rintro e w5 ⟨g, rfl, hgl, hh, b5⟩; have BA : Below w1.heap.size w1 ((w1.alloc (.cells #[.int .i64 (-1)] 3)).drew) := ((Below.refl _ w1).alloc (Nat.le_refl _) _).drew; have BX : Below w1.heap.size w1 w5 := BA.trans (b5.mono BA.size); have HGL := hid (Nat.le_trans BA.size hgl); have HHH := hid hh; have s0 := (BX.cell (p := ⟨w.heap.size, 0, none⟩) lw).trans p0; have s1 := (BX.cell (p := ⟨w.heap.size, 1, none⟩) lw).trans p1; have s2 := (BX.cell (p := ⟨w.heap.size, 2, none⟩) lw).trans p2; have s3 := (BX.cell (p := ⟨w.heap.size, 3, none⟩) lw).trans p3; have s4 := (BX.cell (p := ⟨w.heap.size, 4, none⟩) lw).trans p4; have s5 := (BX.cell (p := ⟨w.heap.size, 5, none⟩) lw).trans p5; have s6 := (BX.cell (p := ⟨w.heap.size, 6, none⟩) lw).trans p6; have s7 := (BX.cell (p := ⟨w.heap.size, 7, none⟩) lw).trans p7; have s8 := (BX.cell (p := ⟨w.heap.size, 8, none⟩) lw).trans p8; clear b5 hh hgl BA))
  all_goals go_wp2_with fail
  all_goals
   go_meet
   refine ⟨_, _, rfl, hid (heap_alloc_new _ _), hid ?_, hid ⟨Nat.le_trans (Nat.le_of_lt lw) HGL.out, ?_⟩, hid (BX.alloc BX.size _)⟩
   · rw [HZ0.out]; exact (heap_alloc_old _ _ (heap_lt HHH.out)).trans HHH.out
   · exact Nat.ne_of_lt (heap_lt HHH.out)
 case rest =>
  obtain ⟨B, g, rfl, HB0, HG0, HGL, HBX⟩ := hcut
  have BC := hid (B1.out.trans (HBX.out.mono B1.out.size))
  have IC := keep_heap I1.out HBX.out
  have q5 : wc.cell? ⟨w.heap.size, 5, none⟩ = some (.slice a3 l3 c3) := cell_of_heap IC 5 rfl
  have lc : w.heap.size < wc.heap.size := heap_lt IC
  clear p0 p1 p2 p3 p4 p5 p6 p7 p8 IC HRE HZ0 I1 HW1
  go_wp2_with fail
  go_loopw [20] (fun iv wr => ∃ k : Nat, k ≤ l3 ∧ iv = .int .i64 k ∧ Hid (wr.heap[B]? = some (.cells #[.int .i64 FW, .int .i64 FH, .int .i64 FD, .slice a1 l1 c1, .slice a2 l2 c2, .slice a3 l3 c3, .slice a4 l4 c4, .slice a5 l5 c5, .slice a6 l6 c6, .slice (some ⟨g, 0, none⟩) l1 l1] 121 (0, 0))) ∧
   Hid (wr.heap[g]? = some (.cells (ints (Ve.zlK s k [])).toArray 3 (0, 0))) ∧ Hid (Below w.heap.size w wr)) (fun iv _ => l3 - (intOf iv).toNat)
  case atStart => exact ⟨0, by omega, rfl, HB0, HG0, BC⟩
  case round =>
   clear q5 lc HB0 HG0 BC HBX
   obtain ⟨k, hk, rfl, HBB, HGG, HB⟩ := hrel
   obtain ⟨wo, rfl⟩ : ∃ wo : World, wo = wr := ⟨_, rfl⟩
   by_cases hkn : k < l3
   · have hkl : k < s.zones.length := by rw [E3.out]; exact hkn
     obtain ⟨zb, zo, u1, u2, t1, hzb, hu1, hu2, r0, r1, r2, r3, r4⟩ := HV.out.zn.cell k hkl
     subst t1
     replace r0 := (HB.out.cell (p := ⟨zb, zo + k * 5, none⟩) hzb).trans r0
     replace r1 := (HB.out.cell (p := ⟨zb, zo + k * 5 + 1, none⟩) hzb).trans r1
     replace r2 := (HB.out.cell (p := ⟨zb, zo + k * 5 + 2, none⟩) hzb).trans r2
     replace r3 := (HB.out.cell (p := ⟨zb, zo + k * 5 + 3, none⟩) hzb).trans r3
     replace r4 := (HB.out.cell (p := ⟨zb, zo + k * 5 + 4, none⟩) hzb).trans r4
     have hzbo : zb < wo.heap.size := Nat.lt_of_lt_of_le hzb HB.out.size
     have HZN := hid (Ve.zlK_next HR.out.zd hkl)
     have HZC := hid (fun c hc => HR.out.zk _ (List.getElem_mem hkl) c hc)
     obtain ⟨y1, d1, rfl, hnm⟩ := hu1.form
     obtain ⟨y2, d2, rfl, -⟩ := two_form hu2
     obtain ⟨z, hz⟩ : ∃ z, s.zones[k] = z := ⟨_, rfl⟩
     rw [hz] at r0 r1 r2 r3 r4 hu1 hnm HZN HZC
     obtain ⟨NM, hNM⟩ : ∃ N : ByteArray, ⟨z.name.toArray⟩ = N := ⟨_, rfl⟩
     rw [hNM] at r0
     obtain ⟨SP, hSP⟩ : ∃ x, z.speed = x := ⟨_, rfl⟩
     obtain ⟨KP, hKP⟩ : ∃ x, z.keep = x := ⟨_, rfl⟩
     rw [hSP] at r2
     rw [hKP] at r3
     obtain ⟨n, hn⟩ : ∃ n, z.cells.length = n := ⟨_, rfl⟩
     obtain ⟨m, hm⟩ : ∃ n, z.shut.length = n := ⟨_, rfl⟩
     rw [hn] at r1 hu1 hnm
     rw [hm] at r4
     have HU := hid hu1
     have HN := hid hn
     have k0 : (0 : Int) ≤ (k : Int) := by omega
     have k1 : (k : Int) < (l3 : Int) := by omega
     obtain ⟨w2, hw2⟩ : ∃ x, x = wo.alloc (.cells #[.string NM, .slice y1 n d1, .int .i64 SP, .int .i64 KP, .slice y2 m d2] 80) := ⟨_, rfl⟩
     have BA : Hid (Below wo.heap.size wo w2) := hid (by rw [hw2]; exact (Below.refl _ _).alloc (Nat.le_refl _) _)
     have IA := heap_alloc_new wo (.cells #[.string NM, .slice y1 n d1, .int .i64 SP, .int .i64 KP, .slice y2 m d2] 80)
     rw [← hw2] at IA
     have HW2 := hid hw2
     have x1 : w2.cell? ⟨wo.heap.size, 1, none⟩ = some (.slice y1 n d1) := cell_of_heap IA 1 rfl
     have lo2 : wo.heap.size < w2.heap.size := heap_lt IA
     have G2 : Hid (w2.heap[g]? = some (.cells (ints (Ve.zlK s k (z.cells.take 0))).toArray 3 (0, 0))) := hid (by rw [List.take_zero]; exact keep_heap HGG.out BA.out)
     have BB2 := hid (keep_heap HBB.out BA.out)
     have B2 := hid (HB.out.trans (BA.out.mono HB.out.size))
     clear hz hNM hSP hKP hn hm hu1 hu2 hw2 IA
     go_upto_region 5 with fail
     rw [← HW2.out]
     clear r0 r1 r2 r3 r4
     go_wp2_with fail
     go_loopw [28] (fun iv wr => ∃ j : Nat, j ≤ n ∧ iv = .int .i64 j ∧ Hid (wr.heap[B]? = some (.cells #[.int .i64 FW, .int .i64 FH, .int .i64 FD, .slice a1 l1 c1, .slice a2 l2 c2, .slice (some ⟨zb, zo, none⟩) l3 c3, .slice a4 l4 c4, .slice a5 l5 c5, .slice a6 l6 c6, .slice (some ⟨g, 0, none⟩) l1 l1] 121 (0, 0))) ∧
      Hid (wr.heap[g]? = some (.cells (ints (Ve.zlK s k (z.cells.take j))).toArray 3 (0, 0))) ∧ Hid (Below w.heap.size w wr)) (fun iv _ => n - (intOf iv).toNat)
     case atStart => exact ⟨0, by omega, rfl, BB2, G2, B2⟩
     case round =>
      clear x1 lo2 G2 BB2 B2 HBB HGG HB
      obtain ⟨j, hj, rfl, HBB, HGG, HB⟩ := hrel
      by_cases hjn : j < n
      · have hjl : j < z.cells.length := by rw [HN.out]; exact hjn
        obtain ⟨ub, uo, t2, hc⟩ := (HU.out.keep HB.out).cell j hjl
        subst t2
        have hzc := (HZC.out _ (List.getElem_mem hjl)).1
        have HTK := hid (List.take_succ_eq_append_getElem hjl)
        obtain ⟨C, hC⟩ : ∃ C, z.cells[j] = C := ⟨_, rfl⟩
        rw [hC] at hc hzc HTK
        have hc0 : 0 ≤ C ∧ C < (l1 : Int) := by
         unfold Fl.isC at hzc
         have h9 := HR.out.fl.kl
         rw [HE1.out] at h9
         simp at hzc
         omega
        obtain ⟨c, rfl⟩ : ∃ c : Nat, C = (c : Int) := ⟨C.toNat, by omega⟩
        have HST := hid (Ve.zlK_step s k (z.cells.take j) c)
        rw [← HTK.out] at HST
        have hcl : c < l1 := by omega
        have hcg : ∃ v, wr.cell? ⟨g, c, none⟩ = some v := ⟨.int .i64 ((Ve.zlK s k (z.cells.take j))[c]'(by rw [Ve.zlK_len, HE1.out]; exact hcl)), cell_of_heap HGG.out c (by simp [ints, Ve.zlK_len, HE1.out, hcl])⟩
        obtain ⟨ov0, hcg⟩ := hcg
        have fz : wr.frozen? ⟨g, c, none⟩ = false := free_of_heap HGG.out c
        have p9 : wr.cell? ⟨B, 9, none⟩ = some (.slice (some ⟨g, 0, none⟩) l1 l1) := cell_of_heap HBB.out 9 rfl
        have c0 : (0 : Int) ≤ (c : Int) := by omega
        have c1' : (c : Int) < (l1 : Int) := by omega
        have j0 : (0 : Int) ≤ (j : Int) := by omega
        have j1 : (j : Int) < (n : Int) := by omega
        obtain ⟨hgl, hgB⟩ := HGL.out
        clear hC hzc hc0
        go_wp2_with fail
        go_roundw
        case rel =>
         refine ⟨j + 1, by omega, by go_num, hid ?_, hid ?_, hid (HB.out.setCell hgl _)⟩
         · exact (heap_setCell_other _ _ B _ (fun e => hgB e.symm)).trans HBB.out
         · rw [HST.out, ← ints_set]; exact set_heap HGG.out c _
        case measure => simp [intOf]; omega
      · obtain rfl : n = j := by omega
        have HG3 : Hid (wr.heap[g]? = some (.cells (ints (Ve.zlK s (k + 1) [])).toArray 3 (0, 0))) := hid (by
         have h9 := HGG.out
         rw [List.take_of_length_le (by rw [HN.out]; omega), HZN.out] at h9
         exact h9)
        go_wp2_with fail
        go_roundw
        case rel => exact ⟨k + 1, by omega, by go_num, HBB, HG3, HB⟩
        case measure => simp [intOf]; omega
   · obtain rfl : l3 = k := by omega
     go_wp2_with fail
     go_ret
     refine ⟨B, g, rfl, ⟨?_, ?_, ?_⟩, HB.out⟩
     · unfold zdC
       rw [HFW.out, HFH.out, HFD.out, HE1.out]; exact HBB.out
     · rw [← Ve.zlK_all, E3.out]; exact HGG.out
     · exact HV.out.keep HB.out
theorem gets1_any (c : Nat) (l : List Int) (g B n : Nat) (w : World) (hB : w.heap[B]? = some (.cells #[.slice (some ⟨g, 0, none⟩) n n] 22 (0, 0))) (hg : w.heap[g]? = some (.cells (ints l).toArray 3 (0, 0))) (hn : n = l.length) (hc : c < l.length) :
 Calls Tryz.prog 149 #[.int .i64 c, .pointer (some ⟨B, 0, none⟩)] w fun e w' => e = .returned (.bool (decide (0 ≤ l.getD c (-1)))) ∧ w = w' := by
 have c0 : w.cell? ⟨B, 0, none⟩ = some (.slice (some ⟨g, 0, none⟩) n n) := cell_of_heap hB 0 rfl
 have c1 : w.cell? ⟨g, c, none⟩ = some (.int .i64 l[c]) := cell_of_heap hg c (by simp [ints, hc])
 have hv : l.getD c (-1) = l[c] := getD_lt _ _ _ hc
 rw [hv]
 obtain ⟨v, hv2⟩ : ∃ v, v = l[c] := ⟨_, rfl⟩
 rw [← hv2] at c1 ⊢
 have n0 : (0 : Int) ≤ (c : Int) := by omega
 have n1 : (c : Int) < (n : Int) := by omega
 clear hB hg hn hv hv2 hc
 go_enter Tryz.func149, Tryz.ntmps149
 go_wp2_with fail
 go_ret
 exact ⟨rfl, rfl⟩
theorem getsAny (v : Value) (cs : List Int) (l : List Int) (g B n : Nat) (w : World) (hB : w.heap[B]? = some (.cells #[.slice (some ⟨g, 0, none⟩) n n] 22 (0, 0))) (hg : w.heap[g]? = some (.cells (ints l).toArray 3 (0, 0))) (hn : n = l.length) (hv : Is w v cs)
 (hc : ∀ c ∈ cs, 0 ≤ c ∧ c.toNat < l.length) :
 Calls Tryz.prog 137 #[v, .func (.func 149) #[] #[.pointer (some ⟨B, 0, none⟩)]] w fun e w' => e = .returned (.bool (cs.any fun c => decide (0 ≤ l.getD c.toNat (-1)))) ∧ Below w.heap.size w w' := by
 obtain ⟨a, cap, rfl, hm⟩ := hv.form
 cases cs with
 | nil =>
  refine (Tryz.slices_ContainsFunc_empty_f137 (α := Int) a cap _ w).mono ?_
  rintro e w' ⟨rfl, rfl⟩
  exact ⟨rfl, Below.refl _ _⟩
 | cons c0 cs0 =>
  obtain ⟨cs, hcs⟩ : ∃ cs, cs = c0 :: cs0 := ⟨_, rfl⟩
  rw [← hcs] at hv hm hc ⊢
  have h0 : 0 < cs.length := by rw [hcs]; simp
  have hL : 0 < l.length := by have := (hc c0 (by rw [hcs]; exact List.mem_cons_self ..)).2; omega
  obtain ⟨b, off, rfl, -⟩ := hv.cell 0 h0
  have eg : ∀ args w, (callFunc 149 args).run Tryz.prog w = .ok (.enter 149 args) w := enters_of Tryz.func149 (by kernel_rfl) rfl
  haveI : Inhabited (Fin l.length) := ⟨⟨0, hL⟩⟩
  have hcell : ∀ j, j < cs.length → ∃ hj : j < cs.length, 0 ≤ cs[j] ∧ cs[j].toNat < l.length := fun j hj => ⟨hj, hc _ (List.getElem_mem hj)⟩
  obtain ⟨zs, hzl, hz⟩ : ∃ zs : List (Fin l.length), zs.length = cs.length ∧ ∀ j (h : j < zs.length) (h' : j < cs.length), ((zs[j].1 : Nat) : Int) = cs[j] := by
   refine ⟨cs.map fun c => if h : c.toNat < l.length then ⟨c.toNat, h⟩ else ⟨0, hL⟩, by simp, fun j h h' => ?_⟩
   obtain ⟨_, h1, h2⟩ := hcell j h'
   rw [List.getElem_map, dif_pos h2]
   show ((cs[j].toNat : Nat) : Int) = cs[j]
   omega
  refine (Tryz.slices_ContainsFunc_f137 (α := Fin l.length) (fun i => .int .i64 (i.1 : Nat)) (fun i => decide (0 ≤ l.getD i.1 (-1))) 149 #[.pointer (some ⟨B, 0, none⟩)] eg b off cs.length cap zs w
   (fun W x hb => (gets1_any x.1 l g B n W (keep_heap hB hb) (keep_heap hg hb) hn x.2).mono fun e w' ⟨h1, h2⟩ => ⟨h1, 0, by rw [← h2]; rfl⟩) (by omega) hm (fun j hj => ?_)).mono ?_
  · obtain ⟨b2, off2, e, hce⟩ := hv.cell j (by omega)
    cases e
    rw [hce, getElem!_pos zs j hj, ← hz j hj (by omega)]
  · rintro e w' ⟨rfl, q, rfl⟩
    refine ⟨?_, below_drewN _ _ _⟩
    congr 2
    rw [List.take_of_length_le (by omega), Bool.eq_iff_iff, List.any_eq_true, List.any_eq_true]
    constructor
    · rintro ⟨x, hx, hp⟩
      obtain ⟨j, hj, rfl⟩ := List.getElem_of_mem hx
      refine ⟨cs[j]'(by omega), List.getElem_mem _, ?_⟩
      rw [← hz j hj (by omega)]; simpa using hp
    · rintro ⟨c, hc, hp⟩
      obtain ⟨j, hj, rfl⟩ := List.getElem_of_mem hc
      refine ⟨zs[j]'(by omega), List.getElem_mem _, ?_⟩
      rw [← hz j (by omega) hj] at hp; simpa using hp
theorem gets_any (s : Si.Site) (kv ov zv av sv rv : Value) (B g0 a b : Nat) (w : World) (h : ZdV w B g0 s kv ov zv av sv rv) (hr : Si.Right s) (hk : Si.Ok s) (ha : a < s.zones.length) (hb : b < s.zones.length) :
 Calls Tryz.prog 67 #[.pointer (some ⟨B, 0, none⟩), .int .i64 a, .int .i64 b] w fun e w' => e = .returned (.bool (Si.nextZ s a b)) ∧ Below w.heap.size w w' := by
 obtain ⟨a1, c1, a2, c2, a3, c3, a4, c4, a5, c5, a6, c6, rfl, rfl, rfl, rfl, rfl, rfl, m1, m2, m3, m4, m5, m6⟩ := h.sv.open
 obtain ⟨hp1, hp2⟩ := kind_pos hr.fl
 have HV := hid h.sv
 have HG := hid h.hg
 have HBB := hid h.hB
 have HR := hid hr
 have HK := hid hk
 have hzn := hk.zn
 have HZG := hid (fun c hc => Ve.zoneL_get s c hc)
 have HFAR : Hid (Fl.dist s.floor (s.zones[a]'ha).cells (Ve.avoidN s a b s.floor.kind.length) = Si.far s a b) := hid (Ve.far_eq hr ha)
 obtain ⟨l1, e1⟩ : ∃ n, s.floor.kind.length = n := ⟨_, rfl⟩
 obtain ⟨l2, e2⟩ : ∃ n, s.floor.out.length = n := ⟨_, rfl⟩
 obtain ⟨l3, e3⟩ : ∃ n, s.zones.length = n := ⟨_, rfl⟩
 obtain ⟨l4, e4⟩ : ∃ n, s.aparts.length = n := ⟨_, rfl⟩
 obtain ⟨l5, e5⟩ : ∃ n, s.shelves.length = n := ⟨_, rfl⟩
 obtain ⟨l6, e6⟩ : ∃ n, s.robots.length = n := ⟨_, rfl⟩
 obtain ⟨R, hR⟩ : ∃ R, Si.nextZ s a b = R := ⟨_, rfl⟩
 rw [hR]
 have HRR := hid hR
 have HAZ := hid ha
 have HBZ := hid hb
 unfold zdC at HBB
 rw [e1, e2, e3, e4, e5, e6] at HV HBB
 rw [e1] at hp1 hp2 HZG
 rw [e3] at ha hb m3 hzn
 have E1 := hid e1
 have E3 := hid e3
 obtain ⟨FW, hFW⟩ : ∃ x, s.floor.w = x := ⟨_, rfl⟩
 obtain ⟨FH, hFH⟩ : ∃ x, s.floor.h = x := ⟨_, rfl⟩
 obtain ⟨FD, hFD⟩ : ∃ x, s.floor.d = x := ⟨_, rfl⟩
 have HFW := hid hFW
 have HFH := hid hFH
 have HFD := hid hFD
 rw [hFW, hFH, hFD] at HBB
 have lBw : B < w.heap.size := heap_lt HBB.out
 have p9 : w.cell? ⟨B, 9, none⟩ = some (.slice (some ⟨g0, 0, none⟩) l1 l1) := cell_of_heap HBB.out 9 rfl
 have H0 : Hid (w.ownsRow w.heap.size 3 1 (.slice none 0 0) (Ve.avoidN s a b 0).length (ints (Ve.avoidN s a b 0))) := hid (World.ownsRow_nil w w.heap.size 3 1)
 have a0 : (0 : Int) ≤ (a : Int) := by omega
 have a9 : (a : Int) < (l3 : Int) := by omega
 have b0 : (0 : Int) ≤ (b : Int) := by omega
 have b9 : (b : Int) < (l3 : Int) := by omega
 clear h hr hk hR e1 e2 e3 e4 e5 e6 hFW hFH hFD
 go_enter Tryz.func67, Tryz.ntmps67
 go_wp2_with fail
 go_loopw [7, 16] (fun vv iv wr => ∃ k : Nat, k ≤ l1 ∧ iv = .int .i64 k ∧ Hid (wr.ownsRow w.heap.size 3 1 vv (Ve.avoidN s a b k).length (ints (Ve.avoidN s a b k))) ∧ Hid (Below w.heap.size w wr)) (fun _ iv _ => l1 - (intOf iv).toNat)
 case atStart => exact ⟨0, by omega, rfl, H0, hid (Below.refl _ _)⟩
 case round =>
  clear p9 H0
  obtain ⟨k, hk, rfl, HO, HB⟩ := hrel
  obtain ⟨vv, rfl⟩ : ∃ v, v = u7 := ⟨_, rfl⟩
  by_cases hkn : k < l1
  · have hgr := keep_heap HG.out HB.out
    have hcz : wr.cell? ⟨g0, k, none⟩ = some (.int .i64 (Si.zoneOf s.zones (k : Int))) := cell_of_heap hgr k (by have := HZG.out k hkn; simp [ints, this])
    have k0 : (0 : Int) ≤ (k : Int) := by omega
    have k1 : (k : Int) < (l1 : Int) := by omega
    have HY := hid (fun h => Ve.avoidN_yes (s := s) (a := a) (b := b) (k := k) h)
    have HN := hid (fun h => Ve.avoidN_no (s := s) (a := a) (b := b) (k := k) h)
    have HI : Hid (Ve.isAv s a b k = (decide (0 ≤ Si.zoneOf s.zones (k : Int)) && (decide (Si.zoneOf s.zones (k : Int) ≠ (a : Int)) && decide (Si.zoneOf s.zones (k : Int) ≠ (b : Int))))) := hid rfl
    obtain ⟨Z, hZ⟩ : ∃ Z, Si.zoneOf s.zones (k : Int) = Z := ⟨_, rfl⟩
    rw [hZ] at hcz HI
    have hal := Ve.avoidN_len s a b k
    obtain ⟨m, hm⟩ : ∃ m, (Ve.avoidN s a b k).length = m := ⟨_, rfl⟩
    rw [hm] at HO hal
    have HM := hid hm
    clear hgr hZ hm
    by_cases h0 : Z ≥ 0
    · by_cases h1 : Z = (a : Int)
      · have t1 : (Z != (a : Int)) = false := by simp [h1]
        have HF : Hid (Ve.avoidN s a b (k + 1) = Ve.avoidN s a b k) := hid (HN.out (by rw [HI.out, decide_eq_false (p := Z ≠ (a : Int)) (by simpa using h1)]; simp))
        clear h1
        go_wp2_with fail
        go_roundw
        case rel => exact ⟨k + 1, by omega, by go_num, hid (by rw [HF.out, HM.out]; exact HO.out), HB⟩
        case measure => simp [intOf]; omega
      · have t1 : (Z != (a : Int)) = true := by simp [h1]
        by_cases h2 : Z = (b : Int)
        · have t2 : (Z != (b : Int)) = false := by simp [h2]
          have HF : Hid (Ve.avoidN s a b (k + 1) = Ve.avoidN s a b k) := hid (HN.out (by rw [HI.out, decide_eq_false (p := Z ≠ (b : Int)) (by simpa using h2)]; simp))
          clear h1 h2
          go_wp2_with fail
          go_roundw
          case rel => exact ⟨k + 1, by omega, by go_num, hid (by rw [HF.out, HM.out]; exact HO.out), HB⟩
          case measure => simp [intOf]; omega
        · have t2 : (Z != (b : Int)) = true := by simp [h2]
          have HF : Hid (Ve.avoidN s a b (k + 1) = Ve.avoidN s a b k ++ [(k : Int)]) := hid (HY.out (by rw [HI.out, decide_eq_true h0, decide_eq_true h1, decide_eq_true h2]; rfl))
          clear h1 h2
          have hwz := HB.out.size
          go_wp2_with (at_builtin; refine wpList_app_int rfl (.tmp 33) (.tmp 35) rfl w.heap.size vv m _ rfl (World.ownsRow.alloc HO.out _) wr.heap.size 1 (k : Int) rfl (heap_alloc_new _ _) ?c1 ?c2 ?_)
          case c1 => omega
          case c2 => simp; omega
          intro av' cv' w4 ho4 hg4
          have HO4 := hid ho4
          have HB4 : Hid (Below w.heap.size w w4) := hid ((HB.out.alloc HB.out.size _).trans (below_own (World.ownsRow.alloc HO.out _) hg4 (Nat.le_refl _) (by simp; omega)))
          clear ho4 hg4
          go_wp2_with fail
          go_roundw
          case rel =>
           refine ⟨k + 1, by omega, by go_num, hid ?_, HB4⟩
           rw [HF.out, List.length_append, HM.out, ints_append]
           exact HO4.out
          case measure => simp [intOf]; omega
    · have HF : Hid (Ve.avoidN s a b (k + 1) = Ve.avoidN s a b k) := hid (HN.out (by rw [HI.out, decide_eq_false (by omega)]; rfl))
      go_wp2_with fail
      go_roundw
      case rel => exact ⟨k + 1, by omega, by go_num, hid (by rw [HF.out, HM.out]; exact HO.out), HB⟩
      case measure => simp [intOf]; omega
  · obtain rfl : l1 = k := by omega
    obtain ⟨zb, zo, u1, u2, e1, hzb, hu1, hu2, q0, q1, q2, q3, q4⟩ := (HV.out.zn.keep HB.out).cell a HAZ.out
    obtain ⟨xb, xo, x1, x2, e2, hxb, hx1, hx2, r0, r1, r2, r3, r4⟩ := (HV.out.zn.keep HB.out).cell b HBZ.out
    subst e1
    injection e2 with e2
    injection e2 with e2 e4
    subst e2 e4
    obtain ⟨oa, oc, rfl, hon⟩ := own_slice HO.out
    have HAV : Hid (Is wr (.slice oa (Ve.avoidN s a b l1).length oc) (Ve.avoidN s a b s.floor.kind.length)) := hid (by
     have := Sl.of_own HO.out (own_max HO.out)
     rw [E1.out]; exact this)
    have HFL := hid (HV.out.fl.keep HB.out)
    have HU := hid hu1
    have HX := hid hx1
    have HCB : Hid (Si.cellsOf s b = (s.zones[b]'HBZ.out).cells) := hid (Si.cellsOf_eq HBZ.out)
    obtain ⟨z1, d1, rfl, -⟩ := hu1.form
    obtain ⟨z2, d2, rfl, -⟩ := hx1.form
    have i1 := keep_heap HBB.out HB.out
    have p0 : wr.cell? ⟨B, 0, none⟩ = some (.int .i64 FW) := cell_of_heap i1 0 rfl
    have p1 : wr.cell? ⟨B, 1, none⟩ = some (.int .i64 FH) := cell_of_heap i1 1 rfl
    have p2 : wr.cell? ⟨B, 2, none⟩ = some (.int .i64 FD) := cell_of_heap i1 2 rfl
    have p3 : wr.cell? ⟨B, 3, none⟩ = some (.slice a1 l1 c1) := cell_of_heap i1 3 rfl
    have p4 : wr.cell? ⟨B, 4, none⟩ = some (.slice a2 l2 c2) := cell_of_heap i1 4 rfl
    have p5 : wr.cell? ⟨B, 5, none⟩ = some (.slice (some ⟨zb, zo, none⟩) l3 c3) := cell_of_heap i1 5 rfl
    have lw : B < wr.heap.size := heap_lt i1
    obtain ⟨ZA1, hZA1⟩ : ∃ z, s.zones[a]'HAZ.out = z := ⟨_, rfl⟩
    obtain ⟨ZB1, hZB1⟩ : ∃ z, s.zones[b]'HBZ.out = z := ⟨_, rfl⟩
    have HZB := hid hZB1
    rw [hZA1] at q1 HU HFAR
    rw [hZB1] at r1 HX HCB
    obtain ⟨y1, hy1⟩ : ∃ n, ZA1.cells.length = n := ⟨_, rfl⟩
    obtain ⟨y2, hy2⟩ : ∃ n, ZB1.cells.length = n := ⟨_, rfl⟩
    obtain ⟨y3, hy3⟩ : ∃ n, (Ve.avoidN s a b l1).length = n := ⟨_, rfl⟩
    rw [hy1] at q1 HU
    rw [hy2] at r1 HX
    rw [hy3] at HAV HO
    rw [hy3]
    have BD : Hid (Below wr.heap.size wr wr.drew) := hid ((Below.refl _ wr).drew)
    have BE : Hid (Below wr.heap.size wr (wr.alloc (.cells #[.slice none 0 0] 22)).drew) := hid (((Below.refl _ wr).alloc (Nat.le_refl _) _).drew)
    have ZA : Hid ((wr.alloc (.cells #[.slice none 0 0] 22)).drew.heap[wr.heap.size]? = some (.cells #[.slice none 0 0] 22 (0, 0))) := hid (heap_alloc_new wr _)
    have HFR := hid HK.out.fl
    obtain ⟨wo, rfl⟩ : ∃ wo : World, wo = wr := ⟨_, rfl⟩
    have ne1 : wo.heap.size ≠ B := by omega
    have ne2 : B ≠ wo.heap.size := by omega
    have ne3 : wo.heap.size ≠ zb := by omega
    have ne4 : zb ≠ wo.heap.size := by omega
    have HF0 : Hid (flV s.floor (.slice a1 l1 c1) (.slice a2 l2 c2) = .agg #[.int .i64 FW, .int .i64 FH, .int .i64 FD, .slice a1 l1 c1, .slice a2 l2 c2]) := hid (by unfold flV; rw [HFW.out, HFH.out, HFD.out])
    have HDI := hid (fun (av : Value) W h1 h2 h3 => Dist_any s.floor (.slice a1 l1 c1) (.slice a2 l2 c2) (.slice z1 y1 d1) av ZA1.cells (Ve.avoidN s a b s.floor.kind.length) W HFR.out h1 h2 h3)
    rw [HF0.out] at HDI
    clear hu1 hu2 hx1 hx2 i1 q0 q2 q3 q4 r0 r2 r3 r4 hZA1 hZB1 hy1 hy2 hy3 hon
    go_upto_region 8 with fail
    go_cut [10] (fun v wx => ∃ bb g n, v = .pointer (some ⟨bb, 0, none⟩) ∧ Hid (wx.heap[bb]? = some (.cells #[.slice (some ⟨g, 0, none⟩) n n] 22 (0, 0))) ∧ Hid (wx.heap[g]? = some (.cells (ints (Si.far s a b)).toArray 3 (0, 0))) ∧ Hid (n = (Si.far s a b).length) ∧ Hid (Below wo.heap.size wo wx))
    case first =>
     go_region_held3 (fun w' => w'.cell? ⟨B, 0, none⟩ = some (.int .i64 FW) ∧ w'.cell? ⟨B, 1, none⟩ = some (.int .i64 FH) ∧ w'.cell? ⟨B, 2, none⟩ = some (.int .i64 FD) ∧ w'.cell? ⟨B, 3, none⟩ = some (.slice a1 l1 c1) ∧ w'.cell? ⟨B, 4, none⟩ = some (.slice a2 l2 c2) ∧ w'.cell? ⟨B, 5, none⟩ = some (.slice (some ⟨zb, zo, none⟩) l3 c3) ∧ w'.cell? ⟨zb, zo + a * 5 + 1, none⟩ = some (.slice z1 y1 d1)) (go_keep)
      ((go_at_call 148; refine (HDI.out (.slice oa y3 oc) _ (by first | exact HFL.out.keep BD.out | exact HFL.out.keep BE.out) (by first | exact HU.out.keep BD.out | exact HU.out.keep BE.out) (by first | exact HAV.out.keep BD.out | exact HAV.out.keep BE.out)).mono ?_; rintro e w2 ⟨g, n, rfl, hn, hg, hh, hb⟩; have BX : Below wo.heap.size wo w2 := (by first | exact BD.out.trans (hb.mono (by simp)) | exact BE.out.trans (hb.mono (by simp))); have m0 := (BX.cell (p := ⟨B, 0, none⟩) lw).trans p0; have m1 := (BX.cell (p := ⟨B, 1, none⟩) lw).trans p1; have m2 := (BX.cell (p := ⟨B, 2, none⟩) lw).trans p2; have m3 := (BX.cell (p := ⟨B, 3, none⟩) lw).trans p3; have m4 := (BX.cell (p := ⟨B, 4, none⟩) lw).trans p4; have m5 := (BX.cell (p := ⟨B, 5, none⟩) lw).trans p5; have m6 := (BX.cell (p := ⟨zb, zo + a * 5 + 1, none⟩) hzb).trans q1; have HH := hid hh; have HNN := hid hn; have lg := heap_lt hh; first | (have hz := keep_heap ZA.out hb; have z0 := cell_of_heap hz 0 rfl; have z1' := free_of_heap hz 0; have HZ := hid hz; have hgne : g ≠ wo.heap.size := (by simp at hg; omega); clear hz hn hh) | clear hn hh))
     all_goals go_wp2_with fail
     all_goals
      go_meet
      first
       | exact ⟨_, g, n, rfl, hid (heap_alloc_new _ _), hid ((heap_alloc_old _ _ lg).trans (by rw [← HFAR.out]; exact HH.out)), hid (by rw [← HFAR.out]; exact HNN.out), hid (BX.alloc BX.size _)⟩
       | exact ⟨_, g, n, rfl, hid (set_heap HZ.out 0 _), hid ((heap_setCell_other _ _ g _ hgne).trans (by rw [← HFAR.out]; exact HH.out)), hid (by rw [← HFAR.out]; exact HNN.out), hid (BX.setCell (Nat.le_refl _) _)⟩
    case rest =>
     obtain ⟨bb, g, n, rfl, HB1, HG1, HN1, HBX⟩ := hcut
     have HC := hid (getsAny (.slice z2 y2 d2) ZB1.cells (Si.far s a b) g bb n wc HB1.out HG1.out HN1.out (HX.out.keep HBX.out) (fun c hc => by
      rw [Si.far_len]; exact Si.cell_nat HK.out (List.getElem_mem HBZ.out) (by rw [HZB.out]; exact hc)))
     have HR2 : Hid ((ZB1.cells.any fun c => decide (0 ≤ (Si.far s a b).getD c.toNat (-1))) = Si.nextZ s a b) := hid (by unfold Si.nextZ; rw [HCB.out])
     rw [HR2.out, HRR.out] at HC
     have BY := hid (HB.out.trans (HBX.out.mono HB.out.size))
     have k5 : wc.cell? ⟨B, 5, none⟩ = some (.slice (some ⟨zb, zo, none⟩) l3 c3) := (HBX.out.cell (p := ⟨B, 5, none⟩) lw).trans p5
     have k6 : wc.cell? ⟨zb, zo + b * 5 + 1, none⟩ = some (.slice z2 y2 d2) := (HBX.out.cell (p := ⟨zb, zo + b * 5 + 1, none⟩) hzb).trans r1
     clear p0 p1 p2 p3 p4 p5 q1 r1
     go_wp2_with fail
     go_at_call 137; refine HC.out.mono ?_; rintro e w3 ⟨rfl, b3⟩
     have B3 := hid (BY.out.trans (b3.mono BY.out.size))
     clear b3
     go_wp2_with fail
     go_ret
     exact ⟨rfl, B3.out⟩
end Go.Proofs.YtfcbcpfnaadpeaaGreatDoor
