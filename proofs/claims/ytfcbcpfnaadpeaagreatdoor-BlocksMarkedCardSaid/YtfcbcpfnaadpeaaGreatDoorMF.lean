/- Parts Fn, Qr, Fs, Ft of this claim, laid one behind the other: walks and the plain laws behind them; each contract states its own conditions. -/
import Derived.Laws.AppendOwn
import Derived.Sort.Grow
import Derived.RegionTactic
import Derived.BigRegion
import Derived.Test.YtfcbcpfnaadpeaaGreatDoorME
namespace Go.Proofs.YtfcbcpfnaadpeaaGreatDoor
set_option maxRecDepth 100000
set_option maxHeartbeats 64000000
set_option linter.unusedSimpArgs false
set_option linter.unusedVariables false
open Go.RowKit
def nxtV (b : Bool) (n : Int) : Value := .tuple #[.int .i64 (if b = true then n else 0), .bool b]
theorem bit_and1 (x : Int) (h0 : 0 ≤ x) (h1 : x ≤ 63) : bits BinOp.and IntKind.i64 x 1 = x % 2 := by
 obtain ⟨n, rfl⟩ := Int.eq_ofNat_of_zero_le h0
 have h : ∀ n : Fin 64, bits BinOp.and IntKind.i64 ((n.1 : Nat) : Int) 1 = ((n.1 : Nat) : Int) % 2 := by decide +kernel
 exact h ⟨n, by omega⟩
theorem getD_lt {α : Type} (l : List α) (i : Nat) (x : α) (h : i < l.length) : l.getD i x = l[i] := by simp [List.getD, h]
theorem Next_raw (f : Fl.Floor) (kv ov : Value) (c n d : Nat) (w : World) (hr : Fl.Right f) (hF : FlV w kv ov f) (hc : c < f.kind.length) (hn : n < f.kind.length) (hd : d < 6) (hbn : Fl.beside f c d = (n : Int)) :
 Calls Tryz.prog 106 #[flV f kv ov, .int .i64 c, .int .i64 d] w fun e w' => e = .returned (nxtV (Fl.open2 f c n d) n) ∧ Below w.heap.size w w' := by
 have hb := fun W => beside_any f kv ov (c : Int) d W (.of hr) hd
 rw [hbn] at hb
 obtain ⟨ka, kc, rfl, hkm⟩ := hF.kind.form
 obtain ⟨oa, oc, rfl, hom⟩ := hF.out.form
 obtain ⟨kb, ko, e1, kcell⟩ := hF.kind.cell c hc
 obtain ⟨kb2, ko2, e2, ncell⟩ := hF.kind.cell n hn
 obtain ⟨ob, oo, e3, ocell⟩ := hF.out.cell c (by rw [hr.ol]; exact hc)
 subst e1
 injection e2 with e2
 injection e2 with e2 e4
 subst e2 e4
 subst e3
 have ho := hr.os _ (List.getElem_mem (by rw [hr.ol]; exact hc : c < f.out.length))
 obtain ⟨K, hK⟩ : ∃ K, f.kind[c] = K := ⟨_, rfl⟩
 obtain ⟨M, hM⟩ : ∃ K, f.kind[n] = K := ⟨_, rfl⟩
 obtain ⟨O, hO⟩ : ∃ K, f.out[c]'(by rw [hr.ol]; exact hc) = K := ⟨_, rfl⟩
 rw [hK] at kcell
 rw [hM] at ncell
 rw [hO] at ocell ho
 have HO : Hid (Fl.open2 f c n d = (!(decide (K = 0) || (decide (M = 0) || decide (O / 2 ^ d % 2 = 0))) && !(decide (4 ≤ d) && (!decide (K = 6) || !decide (M = 6))))) := hid (by
  unfold Fl.open2
  rw [getD_lt _ _ _ hc, getD_lt _ _ _ hn, getD_lt _ _ _ (by rw [hr.ol]; exact hc : c < f.out.length), hK, hM, hO])
 have hol := hr.ol
 rw [hol] at hb hom
 rw [hol]
 unfold flV at hb ⊢
 obtain ⟨L, hL⟩ : ∃ L, f.kind.length = L := ⟨_, rfl⟩
 rw [hL] at hb hom hc hn
 rw [hL]
 have HB := hid hb
 have B1 := hid ((Below.refl _ w).alloc (Nat.le_refl _) (.cells #[.int .i64 f.w, .int .i64 f.h, .int .i64 f.d, .slice (some ⟨kb, ko, none⟩) L kc, .slice (some ⟨ob, oo, none⟩) L oc] 24))
 have d0 : (0 : Int) ≤ (d : Int) := by omega
 have d1 : (d : Int) < 6 := by omega
 have c0 : (0 : Int) ≤ (c : Int) := by omega
 have c1 : (c : Int) < (L : Int) := by omega
 have n0 : (0 : Int) ≤ (n : Int) := by omega
 have n1 : (n : Int) < (L : Int) := by omega
 obtain ⟨o0, o1⟩ := ho
 have lk := cell_block_lt kcell
 have lo := cell_block_lt ocell
 obtain ⟨R, hR⟩ : ∃ R, Fl.open2 f c n d = R := ⟨_, rfl⟩
 rw [hR] at HO ⊢
 have hp : 0 ≤ O / 2 ^ d := Int.ediv_nonneg o0 (by have := Int.pow_pos (n := 2) (m := d) (by omega); omega)
 have hq : O / 2 ^ d ≤ 63 := Int.le_trans (Int.ediv_le_self _ o0) o1
 have hbit := bit_and1 (O / 2 ^ d) hp hq
 obtain ⟨Bt, hBt⟩ : ∃ Bt, O / 2 ^ d % 2 = Bt := ⟨_, rfl⟩
 rw [hBt] at hbit HO
 clear hb hbn hF hol hL hK hM hO hR hkm hr hd hBt hp hq
 clear hc hn
 by_cases k0 : K = 0
 · have e1 : (K == 0) = true := beq_iff_eq.2 k0
   have HR : Hid (R = false) := hid (by rw [HO.out]; simp [k0])
   clear k0
   go_enter Tryz.func106, Tryz.ntmps106
   go_wp2_with fail
   go_at_call 189; refine (HB.out _).mono ?_; rintro e w1 ⟨rfl, b1⟩
   have i1 : w1.heap[w.heap.size]? = some (.cells #[.int .i64 f.w, .int .i64 f.h, .int .i64 f.d, .slice (some ⟨kb, ko, none⟩) L kc, .slice (some ⟨ob, oo, none⟩) L oc] 24 (0, 0)) := (b1.block w.heap.size (by simp)).trans (heap_alloc_new _ _)
   have p3 : w1.cell? ⟨w.heap.size, 3, none⟩ = some (.slice (some ⟨kb, ko, none⟩) L kc) := cell_of_heap i1 3 rfl
   have p4 : w1.cell? ⟨w.heap.size, 4, none⟩ = some (.slice (some ⟨ob, oo, none⟩) L oc) := cell_of_heap i1 4 rfl
   have B2 := hid (B1.out.trans (b1.mono B1.out.size))
   have q0 : w1.cell? ⟨kb, ko + c, none⟩ = some (.int .i64 K) := (B2.out.cell (p := ⟨kb, ko + c, none⟩) lk).trans kcell
   have q1 : w1.cell? ⟨kb, ko + n, none⟩ = some (.int .i64 M) := (B2.out.cell (p := ⟨kb, ko + n, none⟩) lk).trans ncell
   have q2 : w1.cell? ⟨ob, oo + c, none⟩ = some (.int .i64 O) := (B2.out.cell (p := ⟨ob, oo + c, none⟩) lo).trans ocell
   clear b1 i1 B1 kcell ncell ocell
   go_wp2_with fail
   all_goals
    go_ret2
    exact ⟨by rw [HR.out]; rfl, B2.out⟩
 by_cases m0 : M = 0
 · have e1 : (K == 0) = false := beq_eq_false_iff_ne.2 k0
   have e2 : (M == 0) = true := beq_iff_eq.2 m0
   have HR : Hid (R = false) := hid (by rw [HO.out]; simp [m0])
   clear k0 m0
   go_enter Tryz.func106, Tryz.ntmps106
   go_wp2_with fail
   go_at_call 189; refine (HB.out _).mono ?_; rintro e w1 ⟨rfl, b1⟩
   have i1 : w1.heap[w.heap.size]? = some (.cells #[.int .i64 f.w, .int .i64 f.h, .int .i64 f.d, .slice (some ⟨kb, ko, none⟩) L kc, .slice (some ⟨ob, oo, none⟩) L oc] 24 (0, 0)) := (b1.block w.heap.size (by simp)).trans (heap_alloc_new _ _)
   have p3 : w1.cell? ⟨w.heap.size, 3, none⟩ = some (.slice (some ⟨kb, ko, none⟩) L kc) := cell_of_heap i1 3 rfl
   have p4 : w1.cell? ⟨w.heap.size, 4, none⟩ = some (.slice (some ⟨ob, oo, none⟩) L oc) := cell_of_heap i1 4 rfl
   have B2 := hid (B1.out.trans (b1.mono B1.out.size))
   have q0 : w1.cell? ⟨kb, ko + c, none⟩ = some (.int .i64 K) := (B2.out.cell (p := ⟨kb, ko + c, none⟩) lk).trans kcell
   have q1 : w1.cell? ⟨kb, ko + n, none⟩ = some (.int .i64 M) := (B2.out.cell (p := ⟨kb, ko + n, none⟩) lk).trans ncell
   have q2 : w1.cell? ⟨ob, oo + c, none⟩ = some (.int .i64 O) := (B2.out.cell (p := ⟨ob, oo + c, none⟩) lo).trans ocell
   clear b1 i1 B1 kcell ncell ocell
   go_wp2_with fail
   all_goals
    go_ret2
    exact ⟨by rw [HR.out]; rfl, B2.out⟩
 have e1 : (K == 0) = false := beq_eq_false_iff_ne.2 k0
 have e2 : (M == 0) = false := beq_eq_false_iff_ne.2 m0
 by_cases b0 : Bt = 0
 · have e3 : (Bt == 0) = true := beq_iff_eq.2 b0
   have HR : Hid (R = false) := hid (by rw [HO.out]; simp [b0])
   clear k0 m0 b0
   go_enter Tryz.func106, Tryz.ntmps106
   go_wp2_with fail
   go_at_call 189; refine (HB.out _).mono ?_; rintro e w1 ⟨rfl, b1⟩
   have i1 : w1.heap[w.heap.size]? = some (.cells #[.int .i64 f.w, .int .i64 f.h, .int .i64 f.d, .slice (some ⟨kb, ko, none⟩) L kc, .slice (some ⟨ob, oo, none⟩) L oc] 24 (0, 0)) := (b1.block w.heap.size (by simp)).trans (heap_alloc_new _ _)
   have p3 : w1.cell? ⟨w.heap.size, 3, none⟩ = some (.slice (some ⟨kb, ko, none⟩) L kc) := cell_of_heap i1 3 rfl
   have p4 : w1.cell? ⟨w.heap.size, 4, none⟩ = some (.slice (some ⟨ob, oo, none⟩) L oc) := cell_of_heap i1 4 rfl
   have B2 := hid (B1.out.trans (b1.mono B1.out.size))
   have q0 : w1.cell? ⟨kb, ko + c, none⟩ = some (.int .i64 K) := (B2.out.cell (p := ⟨kb, ko + c, none⟩) lk).trans kcell
   have q1 : w1.cell? ⟨kb, ko + n, none⟩ = some (.int .i64 M) := (B2.out.cell (p := ⟨kb, ko + n, none⟩) lk).trans ncell
   have q2 : w1.cell? ⟨ob, oo + c, none⟩ = some (.int .i64 O) := (B2.out.cell (p := ⟨ob, oo + c, none⟩) lo).trans ocell
   clear b1 i1 B1 kcell ncell ocell
   go_wp2_with fail
   all_goals
    go_ret2
    exact ⟨by rw [HR.out]; rfl, B2.out⟩
 have e3 : (Bt == 0) = false := beq_eq_false_iff_ne.2 b0
 by_cases d4 : d < 4
 · have e4 : ((d : Int) == 4) = false := beq_eq_false_iff_ne.2 (by omega)
   have e5 : ((d : Int) == 5) = false := beq_eq_false_iff_ne.2 (by omega)
   have HR : Hid (R = true) := hid (by rw [HO.out]; simp [k0, m0, b0, show ¬ 4 ≤ d by omega])
   clear k0 m0 b0 d4
   go_enter Tryz.func106, Tryz.ntmps106
   go_wp2_with fail
   go_at_call 189; refine (HB.out _).mono ?_; rintro e w1 ⟨rfl, b1⟩
   have i1 : w1.heap[w.heap.size]? = some (.cells #[.int .i64 f.w, .int .i64 f.h, .int .i64 f.d, .slice (some ⟨kb, ko, none⟩) L kc, .slice (some ⟨ob, oo, none⟩) L oc] 24 (0, 0)) := (b1.block w.heap.size (by simp)).trans (heap_alloc_new _ _)
   have p3 : w1.cell? ⟨w.heap.size, 3, none⟩ = some (.slice (some ⟨kb, ko, none⟩) L kc) := cell_of_heap i1 3 rfl
   have p4 : w1.cell? ⟨w.heap.size, 4, none⟩ = some (.slice (some ⟨ob, oo, none⟩) L oc) := cell_of_heap i1 4 rfl
   have B2 := hid (B1.out.trans (b1.mono B1.out.size))
   have q0 : w1.cell? ⟨kb, ko + c, none⟩ = some (.int .i64 K) := (B2.out.cell (p := ⟨kb, ko + c, none⟩) lk).trans kcell
   have q1 : w1.cell? ⟨kb, ko + n, none⟩ = some (.int .i64 M) := (B2.out.cell (p := ⟨kb, ko + n, none⟩) lk).trans ncell
   have q2 : w1.cell? ⟨ob, oo + c, none⟩ = some (.int .i64 O) := (B2.out.cell (p := ⟨ob, oo + c, none⟩) lo).trans ocell
   clear b1 i1 B1 kcell ncell ocell
   go_wp2_with fail
   all_goals
    go_ret2
    exact ⟨by rw [HR.out]; rfl, B2.out⟩
 by_cases k6 : K = 6
 · have e6 : (K != 6) = false := by simp [k6]
   by_cases m6 : M = 6
   · have e7 : (M != 6) = false := by simp [m6]
     have HR : Hid (R = true) := hid (by rw [HO.out]; simp [k0, m0, b0, k6, m6])
     clear k0 m0 b0 k6 m6
     go_enter Tryz.func106, Tryz.ntmps106
     go_wp2_with fail
     go_at_call 189; refine (HB.out _).mono ?_; rintro e w1 ⟨rfl, b1⟩
     have i1 : w1.heap[w.heap.size]? = some (.cells #[.int .i64 f.w, .int .i64 f.h, .int .i64 f.d, .slice (some ⟨kb, ko, none⟩) L kc, .slice (some ⟨ob, oo, none⟩) L oc] 24 (0, 0)) := (b1.block w.heap.size (by simp)).trans (heap_alloc_new _ _)
     have p3 : w1.cell? ⟨w.heap.size, 3, none⟩ = some (.slice (some ⟨kb, ko, none⟩) L kc) := cell_of_heap i1 3 rfl
     have p4 : w1.cell? ⟨w.heap.size, 4, none⟩ = some (.slice (some ⟨ob, oo, none⟩) L oc) := cell_of_heap i1 4 rfl
     have B2 := hid (B1.out.trans (b1.mono B1.out.size))
     have q0 : w1.cell? ⟨kb, ko + c, none⟩ = some (.int .i64 K) := (B2.out.cell (p := ⟨kb, ko + c, none⟩) lk).trans kcell
     have q1 : w1.cell? ⟨kb, ko + n, none⟩ = some (.int .i64 M) := (B2.out.cell (p := ⟨kb, ko + n, none⟩) lk).trans ncell
     have q2 : w1.cell? ⟨ob, oo + c, none⟩ = some (.int .i64 O) := (B2.out.cell (p := ⟨ob, oo + c, none⟩) lo).trans ocell
     clear b1 i1 B1 kcell ncell ocell
     go_wp2_with fail
     all_goals first | (exfalso; omega) | skip
     all_goals
      go_ret2
      exact ⟨by rw [HR.out]; rfl, B2.out⟩
   · have e7 : (M != 6) = true := by simp [m6]
     have HR : Hid (R = false) := hid (by rw [HO.out]; simp [m6]; intros; omega)
     have hd45 : ((d : Int) == 4) = false → ((d : Int) == 5) = true := fun h => beq_iff_eq.2 (by have := beq_eq_false_iff_ne.1 h; omega)
     clear k0 m0 b0 k6 m6
     go_enter Tryz.func106, Tryz.ntmps106
     go_wp2_with fail
     go_at_call 189; refine (HB.out _).mono ?_; rintro e w1 ⟨rfl, b1⟩
     have i1 : w1.heap[w.heap.size]? = some (.cells #[.int .i64 f.w, .int .i64 f.h, .int .i64 f.d, .slice (some ⟨kb, ko, none⟩) L kc, .slice (some ⟨ob, oo, none⟩) L oc] 24 (0, 0)) := (b1.block w.heap.size (by simp)).trans (heap_alloc_new _ _)
     have p3 : w1.cell? ⟨w.heap.size, 3, none⟩ = some (.slice (some ⟨kb, ko, none⟩) L kc) := cell_of_heap i1 3 rfl
     have p4 : w1.cell? ⟨w.heap.size, 4, none⟩ = some (.slice (some ⟨ob, oo, none⟩) L oc) := cell_of_heap i1 4 rfl
     have B2 := hid (B1.out.trans (b1.mono B1.out.size))
     have q0 : w1.cell? ⟨kb, ko + c, none⟩ = some (.int .i64 K) := (B2.out.cell (p := ⟨kb, ko + c, none⟩) lk).trans kcell
     have q1 : w1.cell? ⟨kb, ko + n, none⟩ = some (.int .i64 M) := (B2.out.cell (p := ⟨kb, ko + n, none⟩) lk).trans ncell
     have q2 : w1.cell? ⟨ob, oo + c, none⟩ = some (.int .i64 O) := (B2.out.cell (p := ⟨ob, oo + c, none⟩) lo).trans ocell
     clear b1 i1 B1 kcell ncell ocell
     go_wp2_with fail
     all_goals first | (exfalso; omega) | skip
     all_goals
      go_ret2
      exact ⟨by rw [HR.out]; rfl, B2.out⟩
 · have e6 : (K != 6) = true := by simp [k6]
   have HR : Hid (R = false) := hid (by rw [HO.out]; simp [k6]; intros; omega)
   clear k0 m0 b0 k6
   go_enter Tryz.func106, Tryz.ntmps106
   go_wp2_with fail
   go_at_call 189; refine (HB.out _).mono ?_; rintro e w1 ⟨rfl, b1⟩
   have i1 : w1.heap[w.heap.size]? = some (.cells #[.int .i64 f.w, .int .i64 f.h, .int .i64 f.d, .slice (some ⟨kb, ko, none⟩) L kc, .slice (some ⟨ob, oo, none⟩) L oc] 24 (0, 0)) := (b1.block w.heap.size (by simp)).trans (heap_alloc_new _ _)
   have p3 : w1.cell? ⟨w.heap.size, 3, none⟩ = some (.slice (some ⟨kb, ko, none⟩) L kc) := cell_of_heap i1 3 rfl
   have p4 : w1.cell? ⟨w.heap.size, 4, none⟩ = some (.slice (some ⟨ob, oo, none⟩) L oc) := cell_of_heap i1 4 rfl
   have B2 := hid (B1.out.trans (b1.mono B1.out.size))
   have q0 : w1.cell? ⟨kb, ko + c, none⟩ = some (.int .i64 K) := (B2.out.cell (p := ⟨kb, ko + c, none⟩) lk).trans kcell
   have q1 : w1.cell? ⟨kb, ko + n, none⟩ = some (.int .i64 M) := (B2.out.cell (p := ⟨kb, ko + n, none⟩) lk).trans ncell
   have q2 : w1.cell? ⟨ob, oo + c, none⟩ = some (.int .i64 O) := (B2.out.cell (p := ⟨ob, oo + c, none⟩) lo).trans ocell
   clear b1 i1 B1 kcell ncell ocell
   go_wp2_with fail
   all_goals first | (exfalso; omega) | skip
   all_goals
    go_ret2
    exact ⟨by rw [HR.out]; rfl, B2.out⟩
theorem next_cases {f : Fl.Floor} (hr : Fl.Right f) (c d : Nat) : (Fl.beside f c d = -1 ∧ Fl.next f c d = none) ∨ ∃ n : Nat, n < f.kind.length ∧ Fl.beside f c d = (n : Int) ∧ Fl.next f c d = if Fl.open2 f c n d = true then some n else none := by
 rcases Fl.beside_lt hr (c : Int) d with h | ⟨h0, h1⟩
 · exact .inl ⟨h, by unfold Fl.next; rw [if_pos (by omega)]⟩
 · refine .inr ⟨(Fl.beside f c d).toNat, by have := hr.kl; omega, by omega, ?_⟩
   unfold Fl.next
   rw [if_neg (by omega)]
def nextV : Option Nat → Value
 | some n => .tuple #[.int .i64 n, .bool true]
 | none => .tuple #[.int .i64 0, .bool false]
theorem Next_none (f : Fl.Floor) (kv ov : Value) (c d : Nat) (w : World) (hr : Fl.Right f) (hd : d < 6) (hbn : Fl.beside f c d = -1) :
 Calls Tryz.prog 106 #[flV f kv ov, .int .i64 c, .int .i64 d] w fun e w' => e = .returned (nextV none) ∧ Below w.heap.size w w' := by
 have hb := fun W => beside_any f kv ov (c : Int) d W (.of hr) hd
 rw [hbn] at hb
 unfold flV at hb ⊢
 have HB := hid hb
 have B1 := hid ((Below.refl _ w).alloc (Nat.le_refl _) (.cells #[.int .i64 f.w, .int .i64 f.h, .int .i64 f.d, kv, ov] 24))
 clear hb hbn
 unfold nextV
 go_enter Tryz.func106, Tryz.ntmps106
 go_wp2_with fail
 go_at_call 189; refine (HB.out _).mono ?_; rintro e w1 ⟨rfl, b1⟩
 have B2 := hid (B1.out.trans (b1.mono B1.out.size))
 clear b1
 go_wp2_with fail
 go_ret2
 exact ⟨rfl, B2.out⟩
theorem Next_any (f : Fl.Floor) (kv ov : Value) (c d : Nat) (w : World) (hr : Fl.Right f) (hF : FlV w kv ov f) (hc : c < f.kind.length) (hd : d < 6) :
 Calls Tryz.prog 106 #[flV f kv ov, .int .i64 c, .int .i64 d] w fun e w' => e = .returned (nextV (Fl.next f c d)) ∧ Below w.heap.size w w' := by
 rcases next_cases hr c d with ⟨h1, h2⟩ | ⟨n, hn, h1, h2⟩
 · rw [h2]; exact Next_none f kv ov c d w hr hd h1
 · rw [h2]
   refine (Next_raw f kv ov c n d w hr hF hc hn hd h1).mono ?_
   rintro e w' ⟨rfl, hb⟩
   refine ⟨?_, hb⟩
   cases Fl.open2 f c n d <;> rfl
def Qr (w : World) (base : Nat) (e : TypeId) (v : Value) (xs : List Value) : Prop :=
 (v = .slice none 0 0 ∧ xs = []) ∨ ∃ g off cap cur, v = .slice (some ⟨g, off, none⟩) xs.length cap ∧ base ≤ g ∧ w.heap[g]? = some (.cells cur e (0, 0)) ∧ xs.length ≤ cap ∧ cap ≤ maxLen ∧ off + cap ≤ cur.size ∧ ∀ i, (h : i < xs.length) → cur[off + i]? = some xs[i]
theorem Qr.nil (w : World) (base : Nat) (e : TypeId) : Qr w base e (.slice none 0 0) [] := .inl ⟨rfl, rfl⟩
theorem Qr.form {w : World} {base : Nat} {e : TypeId} {v : Value} {xs : List Value} (h : Qr w base e v xs) : ∃ a cap, v = .slice a xs.length cap ∧ xs.length ≤ 9223372036854775807 ∧ xs.length ≤ cap := by
 rcases h with ⟨rfl, rfl⟩ | ⟨g, off, cap, cur, rfl, h1, h2, h3, h4, -⟩
 · exact ⟨none, 0, rfl, by simp, by simp⟩
 · exact ⟨_, cap, rfl, by unfold maxLen at h4; omega, h3⟩
theorem Qr.of_own {w : World} {base : Nat} {e : TypeId} {v : Value} {n : Nat} {xs : List Value} (h : w.ownsRow base e 1 v n xs) : Qr w base e v xs := by
 have hl : xs.length = n := by have := h.1; omega
 rcases h.2 with ⟨rfl, rfl⟩ | ⟨g, cap, cur, rfl, hb, hh, hnc, hcm, hcs, ht⟩
 · obtain rfl : xs = [] := List.eq_nil_of_length_eq_zero hl
   exact .nil ..
 · refine .inr ⟨g, 0, cap, cur, by rw [hl], hb, hh, by omega, hcm, by omega, fun i hi => ?_⟩
   have h2 : cur.toList[i]? = some xs[i] := by
    have : (cur.toList.take (n * 1))[i]? = some xs[i] := by rw [ht]; simp [hi]
    rw [List.getElem?_take] at this
    split at this
    · exact this
    · cases this
   rw [Nat.zero_add]; simpa using h2
theorem Qr.sl {w : World} {base : Nat} {e : TypeId} {v : Value} {xs : List Value} (h : Qr w base e v xs) : Sl w v xs := by
 rcases h with ⟨rfl, rfl⟩ | ⟨g, off, cap, cur, rfl, h1, h2, h3, h4, h5, h6⟩
 · exact Sl.nil w
 · exact ⟨_, cap, rfl, by omega, (fun h => by cases h), fun i hi => ⟨g, off, rfl, cell_of_heap h2 _ (h6 i hi)⟩⟩
theorem Qr.kept {w w' : World} {base : Nat} {e : TypeId} {v : Value} {xs : List Value} (h : Qr w base e v xs) (hk : ∀ g, v.ownBlock = some g → w'.heap[g]? = w.heap[g]?) : Qr w' base e v xs := by
 rcases h with h | ⟨g, off, cap, cur, rfl, h1, h2, hr⟩
 · exact .inl h
 · exact .inr ⟨g, off, cap, cur, rfl, h1, (hk g rfl).trans h2, hr⟩
theorem Qr.block {w : World} {base : Nat} {e : TypeId} {v : Value} {xs : List Value} (h : Qr w base e v xs) {g : Nat} (hg : v.ownBlock = some g) : base ≤ g ∧ g < w.heap.size ∧ ∃ cs, w.heap[g]? = some (.cells cs e (0, 0)) := by
 rcases h with ⟨rfl, -⟩ | ⟨g', off, cap, cur, rfl, h1, h2, hr⟩
 · cases hg
 · cases hg; exact ⟨h1, heap_lt h2, _, h2⟩
theorem Qr.head {w : World} {base : Nat} {e : TypeId} {v x : Value} {xs : List Value} (h : Qr w base e v (x :: xs)) : ∃ g off cap, v = .slice (some ⟨g, off, none⟩) (xs.length + 1) cap ∧ w.cell? ⟨g, off, none⟩ = some x ∧ xs.length + 1 ≤ cap ∧ cap ≤ maxLen := by
 rcases h with ⟨-, h⟩ | ⟨g, off, cap, cur, rfl, h1, h2, h3, h4, h5, h6⟩
 · cases h
 · exact ⟨g, off, cap, rfl, cell_of_heap h2 _ (h6 0 (by simp)), h3, h4⟩
theorem Qr.tail {w : World} {base : Nat} {e : TypeId} {x : Value} {xs : List Value} {g off n cap : Nat} (h : Qr w base e (.slice (some ⟨g, off, none⟩) n cap) (x :: xs)) :
 (cap = 1 → Qr w base e (.slice (some ⟨g, off, none⟩) (n - 1) (cap - 1)) xs) ∧ (cap ≠ 1 → Qr w base e (.slice (some ⟨g, off + 1, none⟩) (n - 1) (cap - 1)) xs) := by
 rcases h with ⟨h, -⟩ | ⟨g', off', cap', cur, e1, h1, h2, h3, h4, h5, h6⟩
 · cases h
 · cases e1
   constructor
   · intro hc
     have h0 : xs = [] := List.eq_nil_of_length_eq_zero (by simp at h3; omega)
     subst h0
     exact .inr ⟨g, off, cap - 1, cur, rfl, h1, h2, by simp, by omega, by omega, fun i hi => by simp at hi⟩
   · intro hc
     refine .inr ⟨g, off + 1, cap - 1, cur, rfl, h1, h2, by simp at h3; omega, by omega, by simp at h3; omega, fun i hi => ?_⟩
     have := h6 (i + 1) (by simp; omega)
     simp only [List.getElem_cons_succ] at this
     rw [show off + 1 + i = off + (i + 1) by omega]; exact this
section
variable {P : Program} (w : World)
theorem run_append_qr (base : Nat) (t ty e : TypeId) (i : TypeInfo) (z : Value) (bytes : Nat) (ht : P.underlying t = some (.slice e)) (hi : P.info? e = some i) (hz : i.zero = some z)
 (hsize : i.size = 1) (hby : i.bytes = bytes) (hzs : z.cells.size = 1) (v : Value) (xs : List Value) (hq : Qr w base e v xs)
 (a : Addr) (c : Nat) (u : Value) (hu : u.oneCell' = true) (hnews : w.cell? (a.add 0) = some u) (h63 : xs.length + 1 ≤ maxLen) (hbytes : (xs.length + 1) * bytes ≤ 140737488355328) (hbase : base ≤ w.heap.size) :
 ∃ v' w', (Builtin.append_ #[t, t] ty #[v, .slice (some a) 1 c]).run P w = .ok v' w' ∧ Qr w' base e v' (xs ++ [u]) ∧ w.grownBy w' v.ownBlock := by
 have hn : ∀ j y, [u][j]? = some y → w.cell? (a.add j) = some y := by
  intro j y hj
  have h0 : j = 0 := by have := (List.getElem?_eq_some_iff.1 hj).1; simpa using this
  subst h0
  simp at hj; subst hj; exact hnews
 have h1 : ∀ y ∈ [u], y.oneCell' = true := fun y hy => by obtain rfl := List.mem_singleton.1 hy; exact hu
 rcases hq with ⟨rfl, rfl⟩ | ⟨g, off, cap, cur, rfl, hbg, hg, hnc, hcm, hcs, hcur⟩
 · obtain ⟨v', w', hr, h2, h3, -⟩ := run_append_own (P := P) w base t ty e i z 1 bytes ht hi hz hsize hby hzs (by omega) (.slice none 0 0) 0 [] (World.ownsRow_nil w base e 1) a 1 c [u] rfl hn h1 (by simpa using h63) (by simpa using hbytes) hbase
   exact ⟨v', w', hr, Qr.of_own h2, h3⟩
 · by_cases hroom : xs.length + 1 ≤ cap
   · have hin : off + xs.length < cur.size := by omega
     have hr := run_append_room_cells (P := P) w t ty e i ht hi g off xs.length cap a 1 c [u] (by simp [hsize]) hn h1 hroom
      (fun j hj => by
       have h0 : j = 0 := by simpa using hj
       subst h0
       rw [hsize, Nat.mul_one, Nat.add_zero, cell_of_heap hg (off + xs.length) (Array.getElem?_eq_getElem hin)]; rfl)
      (fun j hj => free_of_heap hg _)
     rw [hsize, Nat.mul_one] at hr
     refine ⟨_, _, hr, .inr ⟨g, off, cap, cur.setIfInBounds (off + xs.length) u, by simp, hbg, set_heap hg _ _, by simpa using hroom, hcm, by simpa using hcs, fun k hk => ?_⟩, ⟨rfl, rfl, rfl, by simp [World.setCells], fun k _ hk => ?_⟩⟩
     · by_cases hkx : k < xs.length
       · rw [Array.getElem?_setIfInBounds_ne (by omega), List.getElem_append_left hkx]; exact hcur k hkx
       · have e1 : k = xs.length := by simp at hk; omega
         subst e1
         rw [Array.getElem?_setIfInBounds_self, if_pos hin]; simp
     · exact heap_setCell_other w ⟨g, off + xs.length, none⟩ k u (fun e => hk (by simp [Value.ownBlock, e]))
   · have holds : ∀ j y, xs[j]? = some y → w.cell? ((⟨g, off, none⟩ : Addr).add j) = some y := by
      intro j y hj
      obtain ⟨hj2, rfl⟩ := List.getElem?_eq_some_iff.1 hj
      rw [Addr.add_lit]
      exact cell_of_heap hg _ (hcur j hj2)
     obtain ⟨v', w', hr, h2, h3⟩ := run_append_arg_grows (P := P) w t ty e i z 1 bytes ht hi hz hsize hby hzs (by omega) ⟨g, off, none⟩ xs.length cap xs (by omega) holds a 1 c [u] rfl hn (by omega) h63 hbytes
     exact ⟨v', w', hr, Qr.of_own (own_mono h2 hbase), ⟨h3.os, h3.tape, h3.output, h3.size, fun k hk _ => h3.block k hk (by simp)⟩⟩
theorem wpList_append_qr {ops : Array Oper} {rest : List Oper} {o : Oper} {a : Act} {Q : Exit → Act → World → Prop} (hgd : o.guard = none) (s x : Operand) (t : TypeId)
 (ho : o.op = .call { callee := .builtin .append, args := #[s, x], argTypes := #[t, t] })
 (base : Nat) (e : TypeId) (i : TypeInfo) (z : Value) (bytes : Nat) (ht : P.underlying t = some (.slice e)) (hi : P.info? e = some i) (hz : i.zero = some z)
 (hsize : i.size = 1) (hby : i.bytes = bytes) (hzs : z.cells.size = 1) (v : Value) (xs : List Value) (hs : a.eval s = v) (hq : Qr w base e v xs)
 (ad : Addr) (c : Nat) (u : Value) (hx : a.eval x = .slice (some ad) 1 c) (hu : u.oneCell' = true) (hnews : w.cell? (ad.add 0) = some u) (h63 : xs.length + 1 ≤ maxLen) (hbytes : (xs.length + 1) * bytes ≤ 140737488355328) (hbase : base ≤ w.heap.size)
 (h : ∀ v' w', Qr w' base e v' (xs ++ [u]) → w.grownBy w' v.ownBlock → wpList P ops Q rest (a.put o.dst v') w') : wpList P ops Q (o :: rest) a w := by
 refine wpList_plain hgd fun _ hK => ?_
 obtain ⟨v', w', hr, h2, h3⟩ := run_append_qr (P := P) w base t o.type e i z bytes ht hi hz hsize hby hzs v xs hq ad c u hu hnews h63 hbytes hbase
 unfold Oper.wp execOp
 simp only [ho, resolve, invoke, builtin, Sem.run_bind, Sem.run_pure, Result.andThen_ok, List.map_toArray, List.map_cons, List.map_nil, hs, hx, hr]
 exact hK _ _ (h v' w' h2 h3)
theorem run_append_up (base : Nat) (t ty e : TypeId) (i : TypeInfo) (z : Value) (bytes : Nat) (ht : P.underlying t = some (.slice e)) (hi : P.info? e = some i) (hz : i.zero = some z)
 (hsize : i.size = 1) (hby : i.bytes = bytes) (hzs : z.cells.size = 1) (v : Value) (n : Nat) (xs : List Value) (hown : w.ownsRow base e 1 v n xs)
 (a : Addr) (c : Nat) (u : Value) (hu : u.oneCell' = true) (hnews : w.cell? (a.add 0) = some u) (h63 : n + 1 ≤ maxLen) (hbytes : (n + 1) * bytes ≤ 140737488355328) (hbase : base ≤ w.heap.size) :
 ∃ v' w', (Builtin.append_ #[t, t] ty #[v, .slice (some a) 1 c]).run P w = .ok v' w' ∧ w'.ownsRow base e 1 v' (n + 1) (xs ++ [u]) ∧ w.grownBy w' v.ownBlock ∧ w.drawn ≤ w'.drawn := by
 have hn : ∀ j y, [u][j]? = some y → w.cell? (a.add j) = some y := by
  intro j y hj
  have h0 : j = 0 := by have := (List.getElem?_eq_some_iff.1 hj).1; simpa using this
  subst h0
  simp at hj; subst hj; exact hnews
 have h1 : ∀ y ∈ [u], y.oneCell' = true := fun y hy => by obtain rfl := List.mem_singleton.1 hy; exact hu
 obtain ⟨v', w', hr, h2, h3, -⟩ := run_append_own (P := P) w base t ty e i z 1 bytes ht hi hz hsize hby hzs (by omega) v n xs hown a 1 c [u] rfl hn h1 h63 hbytes hbase
 refine ⟨v', w', hr, h2, h3, ?_⟩
 have hsmall : n + 1 ≤ 9223372036854775807 := by simp only [maxLen] at h63; omega
 rcases hown.2 with ⟨rfl, rfl⟩ | ⟨g, cap, cur, rfl, hbg, hg, hnc, hcm, hcs, htake⟩
 · have hr2 := run_append_nil (P := P) (w := w) t ty e i z ht hi hz a 1 c [u] (by simp [hsize]) hn (by omega) (by omega) (by rw [hby]; simp only [Nat.zero_add] at hbytes; omega)
   rw [hr] at hr2
   injection hr2 with _ e2
   rw [e2]; simp
 · by_cases hroom : n + 1 ≤ cap
   · have hr2 := run_append_room (P := P) w t ty e i ht hi g n cap cur hg a 1 c [u] (by simp [hsize]) hn h1 hroom (by simp [hsize]; omega)
     rw [hr] at hr2
     injection hr2 with _ e2
     rw [e2]; exact Nat.le_refl _
   · have holds : ∀ j y, xs[j]? = some y → w.cell? ((⟨g, 0, none⟩ : Addr).add j) = some y := hown.cells (g := g) rfl
     have hr2 := run_append_grow (P := P) (w := w) t ty e i z ht hi hz ⟨g, 0, none⟩ n cap xs (by rw [hsize]; exact hown.1) holds a 1 c [u] (by simp [hsize]) hn (by omega) (by omega) (growslice_fits (by omega) (by rw [hby]; exact hbytes))
     rw [hr] at hr2
     injection hr2 with _ e2
     rw [e2]; simp
theorem wpList_append_up {ops : Array Oper} {rest : List Oper} {o : Oper} {a : Act} {Q : Exit → Act → World → Prop} (hgd : o.guard = none) (s x : Operand) (t : TypeId)
 (ho : o.op = .call { callee := .builtin .append, args := #[s, x], argTypes := #[t, t] })
 (base : Nat) (e : TypeId) (i : TypeInfo) (z : Value) (bytes : Nat) (ht : P.underlying t = some (.slice e)) (hi : P.info? e = some i) (hz : i.zero = some z)
 (hsize : i.size = 1) (hby : i.bytes = bytes) (hzs : z.cells.size = 1) (v : Value) (n : Nat) (xs : List Value) (hs : a.eval s = v) (hown : w.ownsRow base e 1 v n xs)
 (ad : Addr) (c : Nat) (u : Value) (hx : a.eval x = .slice (some ad) 1 c) (hu : u.oneCell' = true) (hnews : w.cell? (ad.add 0) = some u) (h63 : n + 1 ≤ maxLen) (hbytes : (n + 1) * bytes ≤ 140737488355328) (hbase : base ≤ w.heap.size)
 (h : ∀ v' w', w'.ownsRow base e 1 v' (n + 1) (xs ++ [u]) → w.grownBy w' v.ownBlock → w.drawn ≤ w'.drawn → wpList P ops Q rest (a.put o.dst v') w') : wpList P ops Q (o :: rest) a w := by
 refine wpList_plain hgd fun _ hK => ?_
 obtain ⟨v', w', hr, h2, h3, h4⟩ := run_append_up (P := P) w base t o.type e i z bytes ht hi hz hsize hby hzs v n xs hown ad c u hu hnews h63 hbytes hbase
 unfold Oper.wp execOp
 simp only [ho, resolve, invoke, builtin, Sem.run_bind, Sem.run_pure, Result.andThen_ok, List.map_toArray, List.map_cons, List.map_nil, hs, hx, hr]
 exact hK _ _ (h v' w' h2 h3 h4)
end
def Up (w w' : World) : Prop := Below w.heap.size w w' ∧ w.drawn ≤ w'.drawn
theorem Up.refl (w : World) : Up w w := ⟨Below.refl _ _, Nat.le_refl _⟩
theorem Up.trans {a b c : World} (h : Up a b) (k : Up b c) : Up a c := ⟨h.1.trans (k.1.mono h.1.size), Nat.le_trans h.2 k.2⟩
theorem Up.alloc {a b : World} (h : Up a b) (o : Obj) : Up a (b.alloc o) := ⟨h.1.alloc h.1.size o, h.2⟩
theorem Up.grow {w w' : World} (h : Up w w') : ∃ q os, w' = Go.Sort.grow (w.drewN q) os := by
 obtain ⟨hb, hd⟩ := h
 refine ⟨w'.drawn - w.drawn, w'.heap.extract w.heap.size w'.heap.size, ?_⟩
 obtain ⟨hp, tp, dr, os, out⟩ := w
 obtain ⟨hp', tp', dr', os', out'⟩ := w'
 have e1 := hb.os
 have e2 := hb.tape
 have e3 := hb.output
 have hs := hb.size
 have hbl := hb.block
 dsimp only at e1 e2 e3 hs hd hbl
 subst e1 e2 e3
 unfold Go.Sort.grow World.drewN
 dsimp only
 have e4 : dr' = dr + (dr' - dr) := by omega
 have e5 : hp' = hp ++ hp'.extract hp.size hp'.size := by
  apply Array.ext_getElem?
  intro k
  by_cases hk : k < hp.size
  · rw [Array.getElem?_append_left hk]; exact hbl k hk
  · rw [Array.getElem?_append_right (by omega), Array.getElem?_extract]
    by_cases hk2 : k < hp'.size
    · rw [if_pos (by simp; omega), show hp.size + (k - hp.size) = k by omega]
    · rw [if_neg (by simp; omega), Array.getElem?_eq_none (by omega)]
 rw [← e4, ← e5]
structure SpB where
 bo : Nat
 bp : Nat
 bq : Nat
 go : Nat
 gp : Nat
structure SpI (w0 W : World) (b : SpB) (f : Fl.Floor) (kv ov : Value) (L : Nat) (s : Fl.Bs) : Prop where
 b0 : W.heap[w0.heap.size]? = some (.cells #[.int .i64 f.w, .int .i64 f.h, .int .i64 f.d, kv, ov] 24 (0, 0))
 bo : W.heap[b.bo]? = some (.cells #[.slice (some ⟨b.go, 0, none⟩) L L] 22 (0, 0))
 bp : W.heap[b.bp]? = some (.cells #[.slice (some ⟨b.gp, 0, none⟩) L L] 110 (0, 0))
 go : W.heap[b.go]? = some (.cells (ints s.out).toArray 3 (0, 0))
 gp : W.heap[b.gp]? = some (.cells (bools s.op).toArray 4 (0, 0))
 bq : ∃ qv, W.heap[b.bq]? = some (.cells #[qv] 22 (0, 0)) ∧ Qr W (b.bq + 1) 3 qv (ints (s.q.map Int.ofNat))
 o1 : w0.heap.size < b.go
 o2 : b.go < b.bo
 o3 : b.bo < b.gp
 o4 : b.gp < b.bp
 o5 : b.bp < b.bq
 below : Below w0.heap.size w0 W
 lo : s.out.length = L
 lp : s.op.length = L
theorem SpI.keep {w0 W W' : World} {b : SpB} {f : Fl.Floor} {kv ov : Value} {L : Nat} {s : Fl.Bs} (h : SpI w0 W b f kv ov L s) (hb : Below W.heap.size W W') : SpI w0 W' b f kv ov L s := by
 obtain ⟨qv, h1, h2⟩ := h.bq
 exact ⟨keep_heap h.b0 hb, keep_heap h.bo hb, keep_heap h.bp hb, keep_heap h.go hb, keep_heap h.gp hb, ⟨qv, keep_heap h1 hb, h2.kept fun g hg => hb.block g (h2.block hg).2.1⟩, h.o1, h.o2, h.o3, h.o4, h.o5, h.below.trans (hb.mono h.below.size), h.lo, h.lp⟩
theorem SpI.lt {w0 W : World} {b : SpB} {f : Fl.Floor} {kv ov : Value} {L : Nat} {s : Fl.Bs} (h : SpI w0 W b f kv ov L s) : b.bq < W.heap.size := by obtain ⟨qv, h1, -⟩ := h.bq; exact heap_lt h1
theorem Tryz.intInfo : (Tryz.prog.info? 3).map (fun i => (i.zero, i.size, i.bytes)) = some (some (.int .i64 0), 1, 8) := by kernel_rfl
theorem getD_op {l : List Bool} {c : Nat} (h : l.getD c false = false ∨ l.getD c false = true) (hc : c < l.length) : (bools l)[c]? = some (.bool (l.getD c false)) := by
 simp [bools, getD_lt l c false hc, hc]
theorem reach_no {w0 W : World} {b : SpB} {f : Fl.Floor} {kv ov : Value} {L : Nat} {s : Fl.Bs} (h : SpI w0 W b f kv ov L s) (c : Nat) (n : Int) (hc : c < L) (hL : L ≤ 1000000) (ho : s.op.getD c false = false) :
 Calls Tryz.prog 274 #[.int .i64 c, .int .i64 n, .pointer (some ⟨b.bp, 0, none⟩), .pointer (some ⟨b.bo, 0, none⟩), .pointer (some ⟨b.bq, 0, none⟩)] W fun e W' => e = .returned (.tuple #[]) ∧ W = W' := by
 have c0 : W.cell? ⟨b.bp, 0, none⟩ = some (.slice (some ⟨b.gp, 0, none⟩) L L) := cell_of_heap h.bp 0 rfl
 have c1 : W.cell? ⟨b.gp, c, none⟩ = some (.bool false) := cell_of_heap h.gp c (by have := getD_op (l := s.op) (c := c) (.inl ho) (by rw [h.lp]; exact hc); rw [ho] at this; simpa using this)
 have n0 : (0 : Int) ≤ (c : Int) := by omega
 have n1 : (c : Int) < (L : Int) := by omega
 clear h ho
 go_enter Tryz.func274, Tryz.ntmps274
 go_wp2_with fail
 go_end0
 exact ⟨rfl, rfl⟩
theorem ints_set (l : List Int) (c : Nat) (n : Int) : (ints l).toArray.setIfInBounds c (.int .i64 n) = (ints (l.set c n)).toArray := by simp [ints, List.map_set]
theorem bools_set (l : List Bool) (c : Nat) (n : Bool) : (bools l).toArray.setIfInBounds c (.bool n) = (bools (l.set c n)).toArray := by simp [bools, List.map_set]
theorem SpI.reached {w0 W W3 : World} {b : SpB} {f : Fl.Floor} {kv ov : Value} {L : Nat} {s : Fl.Bs} (h : SpI w0 W b f kv ov L s) (c : Nat) (n : Int) (v' : Value)
 (hb : ∀ k, k ≤ b.bq → k ≠ b.gp → k ≠ b.go → k ≠ b.bq → W3.heap[k]? = W.heap[k]?) (hgp : W3.heap[b.gp]? = some (.cells (bools (s.op.set c false)).toArray 4 (0, 0))) (hgo : W3.heap[b.go]? = some (.cells (ints (s.out.set c n)).toArray 3 (0, 0)))
 (hv : W3.heap[b.bq]? = some (.cells #[v'] 22 (0, 0))) (hq : Qr W3 (b.bq + 1) 3 v' (ints ((s.q ++ [c]).map Int.ofNat))) (e1 : W3.os = W.os) (e2 : W3.tape = W.tape) (e3 : W3.output = W.output) (e4 : W.heap.size ≤ W3.heap.size) :
 SpI w0 W3 b f kv ov L ⟨s.op.set c false, s.out.set c n, s.q ++ [c]⟩ := by
 have o1 := h.o1
 have o2 := h.o2
 have o3 := h.o3
 have o4 := h.o4
 have o5 := h.o5
 exact ⟨(hb _ (by omega) (by omega) (by omega) (by omega)).trans h.b0, (hb _ (by omega) (by omega) (by omega) (by omega)).trans h.bo, (hb _ (by omega) (by omega) (by omega) (by omega)).trans h.bp, hgo, hgp, ⟨v', hv, hq⟩, o1, o2, o3, o4, o5,
  h.below.trans ⟨e1, e2, e3, e4, fun k hk => hb k (by omega) (by omega) (by omega) (by omega)⟩, by simpa using h.lo, by simpa using h.lp⟩
theorem reach_yes {w0 W : World} {b : SpB} {f : Fl.Floor} {kv ov : Value} {L : Nat} {s : Fl.Bs} (h : SpI w0 W b f kv ov L s) (c : Nat) (n : Int) (hc : c < L) (hL : L ≤ 1000000) (hq : s.q.length < 1000000) (ho : s.op.getD c false = true) :
 Calls Tryz.prog 274 #[.int .i64 c, .int .i64 n, .pointer (some ⟨b.bp, 0, none⟩), .pointer (some ⟨b.bo, 0, none⟩), .pointer (some ⟨b.bq, 0, none⟩)] W fun e W' => e = .returned (.tuple #[]) ∧ SpI w0 W' b f kv ov L ⟨s.op.set c false, s.out.set c n, s.q ++ [c]⟩ := by
 have H := hid h
 obtain ⟨qv, hq1, hq2⟩ := h.bq
 have HQ1 := hid hq1
 have HQ2 := hid hq2
 obtain ⟨bo, bp, bq, go, gp⟩ := b
 have c0 : W.cell? ⟨bp, 0, none⟩ = some (.slice (some ⟨gp, 0, none⟩) L L) := cell_of_heap h.bp 0 rfl
 have c1 : W.cell? ⟨gp, c, none⟩ = some (.bool true) := cell_of_heap h.gp c (by have := getD_op (l := s.op) (c := c) (.inr ho) (by rw [h.lp]; exact hc); rw [ho] at this; simpa using this)
 have c2 : W.cell? ⟨bo, 0, none⟩ = some (.slice (some ⟨go, 0, none⟩) L L) := cell_of_heap h.bo 0 rfl
 obtain ⟨ov0, c3⟩ : ∃ v, W.cell? ⟨go, c, none⟩ = some v := ⟨.int .i64 (s.out[c]'(by rw [h.lo]; exact hc)), cell_of_heap h.go c (by have := h.lo; simp [ints, hc, this])⟩
 have f1 : W.frozen? ⟨gp, c, none⟩ = false := free_of_heap h.gp c
 have f2 : W.frozen? ⟨go, c, none⟩ = false := free_of_heap h.go c
 have c4 : W.cell? ⟨bq, 0, none⟩ = some qv := cell_of_heap hq1 0 rfl
 have f4 : W.frozen? ⟨bq, 0, none⟩ = false := free_of_heap hq1 0
 have o2 := h.o2
 have o3 := h.o3
 have o4 := h.o4
 have o5 := h.o5
 have l5 := h.lt
 dsimp only at o2 o3 o4 o5 l5
 dsimp only
 have n0 : (0 : Int) ≤ (c : Int) := by omega
 have n1 : (c : Int) < (L : Int) := by omega
 have ne1 : go ≠ gp := by omega
 have ne2 : gp ≠ go := by omega
 have ne3 : bo ≠ gp := by omega
 have ne4 : bo ≠ go := by omega
 have ne5 : bp ≠ gp := by omega
 have ne6 : bp ≠ go := by omega
 have ne7 : bq ≠ gp := by omega
 have ne8 : bq ≠ go := by omega
 clear h ho hq1 hq2
 go_enter Tryz.func274, Tryz.ntmps274
 go_wp2_with fail
 go_region
 have hp := set_heap H.out.gp c (.bool false)
 have hg0 : (W.setCell ⟨gp, c, none⟩ (.bool false)).heap[go]? = _ := (heap_setCell_other W ⟨gp, c, none⟩ go (.bool false) ne1).trans H.out.go
 have hg := set_heap hg0 c (.int .i64 n)
 have hp2 := (heap_setCell_other (W.setCell ⟨gp, c, none⟩ (.bool false)) ⟨go, c, none⟩ gp (.int .i64 n) ne2).trans hp
 rw [bools_set] at hp2
 rw [ints_set] at hg
 have hoth : ∀ k, k ≠ gp → k ≠ go → ((W.setCell ⟨gp, c, none⟩ (.bool false)).setCell ⟨go, c, none⟩ (.int .i64 n)).drew.heap[k]? = W.heap[k]? := fun k h1 h2 => (heap_setCell_other _ _ _ _ h2).trans (heap_setCell_other _ _ _ _ h1)
 have hsz : ((W.setCell ⟨gp, c, none⟩ (.bool false)).setCell ⟨go, c, none⟩ (.int .i64 n)).drew.heap.size = W.heap.size := by simp
 have hp3 : ((W.setCell ⟨gp, c, none⟩ (.bool false)).setCell ⟨go, c, none⟩ (.int .i64 n)).drew.heap[gp]? = _ := hp2
 have hg3 : ((W.setCell ⟨gp, c, none⟩ (.bool false)).setCell ⟨go, c, none⟩ (.int .i64 n)).drew.heap[go]? = _ := hg
 have hos : ((W.setCell ⟨gp, c, none⟩ (.bool false)).setCell ⟨go, c, none⟩ (.int .i64 n)).drew.os = W.os := rfl
 have hta : ((W.setCell ⟨gp, c, none⟩ (.bool false)).setCell ⟨go, c, none⟩ (.int .i64 n)).drew.tape = W.tape := rfl
 have hou : ((W.setCell ⟨gp, c, none⟩ (.bool false)).setCell ⟨go, c, none⟩ (.int .i64 n)).drew.output = W.output := rfl
 clear hp hg0 hg hp2
 generalize ((W.setCell ⟨gp, c, none⟩ (.bool false)).setCell ⟨go, c, none⟩ (.int .i64 n)).drew = W2 at *
 have HP3 := hid hp3
 have HG3 := hid hg3
 have HOTH := hid hoth
 have HSZ := hid hsz
 have HOS := hid hos
 have HTA := hid hta
 have HOU := hid hou
 have HB2 := hid ((hoth bq ne7 ne8).trans HQ1.out)
 have HQ3 : Hid (Qr W2 (bq + 1) 3 qv (ints (List.map Int.ofNat s.q))) := hid (HQ2.out.kept fun g hg => hoth g (by have := (HQ2.out.block hg).1; omega) (by have := (HQ2.out.block hg).1; omega))
 clear hp3 hg3 hoth hsz hos hta hou c0 c1 c2 c3 f1 f2 c4 f4
 have c4 : W2.cell? ⟨bq, 0, none⟩ = some qv := cell_of_heap HB2.out 0 rfl
 have hql : (ints (List.map Int.ofNat s.q)).length = s.q.length := by simp [ints]
 have HQL := hid hql
 obtain ⟨i0, hi, hz0, hz1, hz2⟩ := info_parts Tryz.intInfo
 have HI := hid hi
 have HZ0 := hid hz0
 have HZ1 := hid hz1
 have HZ2 := hid hz2
 have l6 : bq < W2.heap.size := heap_lt HB2.out
 clear hql hi hz0 hz1 hz2
 go_wp2_with (at_builtin; refine wpList_append_qr _ rfl (.tmp 18) (.tmp 20) 22 rfl (bq + 1) 3 i0 (.int .i64 0) 8 Tryz.underlying22 HI.out HZ0.out HZ1.out HZ2.out rfl qv (ints (List.map Int.ofNat s.q)) rfl (HQ3.out.kept fun g hg => heap_alloc_old _ _ (HQ3.out.block hg).2.1) ⟨W2.heap.size, 0, none⟩ 1 (.int .i64 c) rfl rfl ?c1 ?c2 ?c3 ?c4 ?_)
 case c1 => rw [Addr.add_lit]; exact cell_of_heap (heap_alloc_new _ _) 0 rfl
 case c2 => rw [HQL.out]; unfold maxLen; omega
 case c3 => rw [HQL.out]; omega
 case c4 => simp; omega
 intro v' W3 hq3 hg3
 obtain ⟨va, vc, hv', -, -⟩ := hq3.form
 obtain ⟨vn, hvn⟩ : ∃ vn, (ints (List.map Int.ofNat s.q) ++ [Value.int .i64 c]).length = vn := ⟨_, rfl⟩
 rw [hvn] at hv'
 subst hv'
 clear hvn
 have hne : ∀ k, k ≤ bq → some k ≠ qv.ownBlock := fun k hk e => by have := (HQ3.out.block e.symm).1; omega
 have hold : ∀ k, k ≤ bq → W3.heap[k]? = W2.heap[k]? := fun k hk => (hg3.block k (by simp; omega) (hne k hk)).trans (heap_alloc_old _ _ (by omega))
 have hb3 := (hold bq (Nat.le_refl _)).trans HB2.out
 have c5 : W3.cell? ⟨bq, 0, none⟩ = some qv := cell_of_heap hb3 0 rfl
 have f5 : W3.frozen? ⟨bq, 0, none⟩ = false := free_of_heap hb3 0
 have HB3 := hid hb3
 have HOLD := hid hold
 have HV3 := hid hq3
 have HGR := hid hg3
 clear hne hold hb3 hq3 hg3 c4
 go_wp2_with fail
 go_end0
 refine ⟨rfl, H.out.reached c n (.slice va vn vc) (fun k h1 h2 h3 h4 => ?_) ?_ ?_ ?_ ?_ ?_ ?_ ?_ ?_⟩
 · exact (heap_setCell_other W3 ⟨bq, 0, none⟩ k _ h4).trans ((HOLD.out k h1).trans (HOTH.out k h2 h3))
 · exact (heap_setCell_other W3 ⟨bq, 0, none⟩ gp _ (by show gp ≠ bq; omega)).trans ((HOLD.out gp (by omega)).trans HP3.out)
 · exact (heap_setCell_other W3 ⟨bq, 0, none⟩ go _ (by show go ≠ bq; omega)).trans ((HOLD.out go (by omega)).trans HG3.out)
 · exact set_heap HB3.out 0 _
 · rw [show ints ((s.q ++ [c]).map Int.ofNat) = ints (List.map Int.ofNat s.q) ++ [.int .i64 c] by simp [ints]]
   exact HV3.out.kept fun g hg => heap_setCell_other W3 ⟨bq, 0, none⟩ g _ (by have := (HV3.out.block hg).1; show g ≠ bq; omega)
 · exact HGR.out.os.trans HOS.out
 · exact HGR.out.tape.trans HTA.out
 · exact HGR.out.output.trans HOU.out
 · have := HGR.out.size; have := HSZ.out; simp at *; omega
theorem reach_any {w0 W : World} {b : SpB} {f : Fl.Floor} {kv ov : Value} {L : Nat} {s : Fl.Bs} (h : SpI w0 W b f kv ov L s) (c : Nat) (n : Int) (hc : c < L) (hL : L ≤ 1000000) (hq : s.q.length < 1000000) :
 Calls Tryz.prog 274 #[.int .i64 c, .int .i64 n, .pointer (some ⟨b.bp, 0, none⟩), .pointer (some ⟨b.bo, 0, none⟩), .pointer (some ⟨b.bq, 0, none⟩)] W fun e W' => e = .returned (.tuple #[]) ∧ SpI w0 W' b f kv ov L (Fl.reach s c n) := by
 cases ho : s.op.getD c false with
 | false =>
  refine (reach_no h c n hc hL ho).mono ?_
  rintro e W' ⟨rfl, rfl⟩
  refine ⟨rfl, ?_⟩
  unfold Fl.reach
  rw [ho, if_neg (by simp)]
  exact h
 | true =>
  refine (reach_yes h c n hc hL hq ho).mono ?_
  rintro e W' ⟨rfl, h2⟩
  refine ⟨rfl, ?_⟩
  unfold Fl.reach
  rw [ho, if_pos rfl]
  exact h2
theorem Tryz.boolInfo : (Tryz.prog.info? 4).map (fun i => (i.zero, i.size, i.bytes)) = some (some (.bool false), 1, 1) := by kernel_rfl
theorem make_bools (n : Nat) (c : Int) (hc : c = (n : Int)) (hn : n ≤ 100000) (w : World) : (Instr.makeSlice 110 (.int .i64 c) (.int .i64 c)).run Tryz.prog w = .ok (.slice (some ⟨w.heap.size, 0, none⟩) n n) (w.alloc (.cells (madeCells #[.bool false] n) 4)) := by
 subst hc
 obtain ⟨i, hi, hz, hsize, hby⟩ := info_parts Tryz.boolInfo
 have := run_make (P := Tryz.prog) w 110 4 i _ Tryz.underlying110 hi hz .i64 .i64 n n (by omega) (Int.le_refl _) (by rw [hby]; omega) (by omega)
 rw [hsize, Int.toNat_natCast, Nat.mul_one] at this
 exact this
theorem make_ints (n : Nat) (c : Int) (hc : c = (n : Int)) (hn : n ≤ 100000) (w : World) : (Instr.makeSlice 22 (.int .i64 c) (.int .i64 c)).run Tryz.prog w = .ok (.slice (some ⟨w.heap.size, 0, none⟩) n n) (w.alloc (.cells (madeCells #[.int .i64 0] n) 3)) := by
 subst hc
 obtain ⟨i, hi, hz, hsize, hby⟩ := info_parts Tryz.intInfo
 have := run_make (P := Tryz.prog) w 22 3 i _ Tryz.underlying22 hi hz .i64 .i64 n n (by omega) (Int.le_refl _) (by rw [hby]; omega) (by omega)
 rw [hsize, Int.toNat_natCast, Nat.mul_one] at this
 exact this
theorem made_ints (l : List Int) : madeCells #[.int .i64 0] l.length = (ints (l.map fun _ => 0)).toArray := by
 apply Array.ext_getElem?
 intro k
 by_cases hk : k < l.length
 · simp [madeCells, ints, hk, Nat.mod_one]
 · simp [madeCells, ints, hk, Nat.mod_one]
theorem made_bools (l : List Int) : madeCells #[.bool false] l.length = (bools (l.map fun _ => false)).toArray := by
 apply Array.ext_getElem?
 intro k
 by_cases hk : k < l.length
 · simp [madeCells, bools, hk, Nat.mod_one]
 · simp [madeCells, bools, hk, Nat.mod_one]
structure SpJ (w0 W : World) (b : SpB) (f : Fl.Floor) (kv ov : Value) (L : Nat) (out : List Int) (op : List Bool) : Prop where
 b0 : W.heap[w0.heap.size]? = some (.cells #[.int .i64 f.w, .int .i64 f.h, .int .i64 f.d, kv, ov] 24 (0, 0))
 bo : W.heap[b.bo]? = some (.cells #[.slice (some ⟨b.go, 0, none⟩) L L] 22 (0, 0))
 bp : W.heap[b.bp]? = some (.cells #[.slice (some ⟨b.gp, 0, none⟩) L L] 110 (0, 0))
 go : W.heap[b.go]? = some (.cells (ints out).toArray 3 (0, 0))
 gp : W.heap[b.gp]? = some (.cells (bools op).toArray 4 (0, 0))
 o1 : w0.heap.size < b.go
 o2 : b.go < b.bo
 o3 : b.bo < b.gp
 o4 : b.gp < b.bp
 below : Below w0.heap.size w0 W
 lo : out.length = L
 lp : op.length = L
theorem SpJ.keep {w0 W W' : World} {b : SpB} {f : Fl.Floor} {kv ov : Value} {L : Nat} {out : List Int} {op : List Bool} (h : SpJ w0 W b f kv ov L out op) (hb : Below W.heap.size W W') : SpJ w0 W' b f kv ov L out op :=
 ⟨keep_heap h.b0 hb, keep_heap h.bo hb, keep_heap h.bp hb, keep_heap h.go hb, keep_heap h.gp hb, h.o1, h.o2, h.o3, h.o4, h.below.trans (hb.mono h.below.size), h.lo, h.lp⟩
theorem SpJ.set {w0 W W2 : World} {b : SpB} {f : Fl.Floor} {kv ov : Value} {L : Nat} {out : List Int} {op : List Bool} (h : SpJ w0 W b f kv ov L out op) (out' : List Int) (op' : List Bool) (h1 : ∀ k, k ≠ b.gp → k ≠ b.go → W2.heap[k]? = W.heap[k]?)
 (hg : W2.heap[b.go]? = some (.cells (ints out').toArray 3 (0, 0))) (hp : W2.heap[b.gp]? = some (.cells (bools op').toArray 4 (0, 0))) (e1 : W2.os = W.os) (e2 : W2.tape = W.tape) (e3 : W2.output = W.output) (e4 : W2.heap.size = W.heap.size) (l1 : out'.length = L) (l2 : op'.length = L) : SpJ w0 W2 b f kv ov L out' op' := by
 have o1 := h.o1
 have o2 := h.o2
 have o3 := h.o3
 have o4 := h.o4
 exact ⟨(h1 _ (by omega) (by omega)).trans h.b0, (h1 _ (by omega) (by omega)).trans h.bo, (h1 _ (by omega) (by omega)).trans h.bp, hg, hp, o1, o2, o3, o4,
  h.below.trans ⟨e1, e2, e3, by omega, fun k hk => h1 k (by omega) (by omega)⟩, l1, l2⟩
theorem SpJ.two {w0 W : World} {b : SpB} {f : Fl.Floor} {kv ov : Value} {L : Nat} {out : List Int} {op : List Bool} (h : SpJ w0 W b f kv ov L out op) (c : Nat) (n : Int) (p : Bool) :
 SpJ w0 ((W.setCell ⟨b.go, c, none⟩ (.int .i64 n)).setCell ⟨b.gp, c, none⟩ (.bool p)).drew b f kv ov L (out.set c n) (op.set c p) := by
 have o2 := h.o2
 have o3 := h.o3
 have hg := set_heap h.go c (.int .i64 n)
 have hg2 := (heap_setCell_other (W.setCell ⟨b.go, c, none⟩ (.int .i64 n)) ⟨b.gp, c, none⟩ b.go (.bool p) (by show b.go ≠ b.gp; omega)).trans hg
 have hp0 := (heap_setCell_other W ⟨b.go, c, none⟩ b.gp (.int .i64 n) (by show b.gp ≠ b.go; omega)).trans h.gp
 have hp := set_heap hp0 c (.bool p)
 rw [ints_set] at hg2
 rw [bools_set] at hp
 exact h.set _ _ (fun k h1 h2 => (heap_setCell_other _ _ _ _ h1).trans (heap_setCell_other _ _ _ _ h2)) hg2 hp rfl rfl rfl (by simp) (by simpa using h.lo) (by simpa using h.lp)
theorem SpJ.one {w0 W : World} {b : SpB} {f : Fl.Floor} {kv ov : Value} {L : Nat} {out : List Int} {op : List Bool} (h : SpJ w0 W b f kv ov L out op) (c : Nat) (p : Bool) :
 SpJ w0 (W.setCell ⟨b.gp, c, none⟩ (.bool p)) b f kv ov L out (op.set c p) := by
 have o2 := h.o2
 have o3 := h.o3
 have hg2 := (heap_setCell_other W ⟨b.gp, c, none⟩ b.go (.bool p) (by show b.go ≠ b.gp; omega)).trans h.go
 have hp := set_heap h.gp c (.bool p)
 rw [bools_set] at hp
 exact h.set _ _ (fun k h1 h2 => heap_setCell_other _ _ _ _ h1) hg2 hp rfl rfl rfl (by simp) h.lo (by simpa using h.lp)
theorem SpJ.queue {w0 W : World} {b : SpB} {f : Fl.Floor} {kv ov : Value} {L : Nat} {out : List Int} {op : List Bool} (h : SpJ w0 W b f kv ov L out op) (hb : b.bq = W.heap.size) :
 SpI w0 (W.alloc (.cells #[.slice none 0 0] 22)) b f kv ov L ⟨op, out, []⟩ := by
 have h2 := h.keep ((Below.refl _ W).alloc (Nat.le_refl _) (.cells #[.slice none 0 0] 22))
 exact ⟨h2.b0, h2.bo, h2.bp, h2.go, h2.gp, ⟨.slice none 0 0, by rw [hb]; exact heap_alloc_new _ _, Qr.nil ..⟩, h2.o1, h2.o2, h2.o3, h2.o4, by have := heap_lt h.bp; omega, h2.below, h2.lo, h2.lp⟩
def lenOfV : Value → Nat
 | .slice _ n _ => n
 | _ => 0
def trueV : Value → Bool
 | .bool b => b
 | _ => false
def cellsAt (w : World) (g : Nat) : List Value := match w.heap[g]? with
 | some (.cells cs _ _) => cs.toList
 | _ => []
def roundsAt (b : SpB) (w : World) : Nat := lenOfV ((w.cell? ⟨b.bq, 0, none⟩).getD undef) + (cellsAt w b.gp).countP trueV
theorem roundsAt_eq {w0 W : World} {b : SpB} {f : Fl.Floor} {kv ov : Value} {L : Nat} {s : Fl.Bs} (h : SpI w0 W b f kv ov L s) : roundsAt b W = Fl.rounds s := by
 obtain ⟨qv, h1, h2⟩ := h.bq
 obtain ⟨a, c, hq, -, -⟩ := h2.form
 unfold roundsAt Fl.rounds cellsAt
 rw [cell_of_heap h1 0 rfl, h.gp, hq]
 simp only [Option.getD_some, lenOfV]
 congr 1
 · simp [ints]
 · simp only [bools]
   rw [List.countP_map, List.count]
   congr 1
   funext x
   cases x <;> rfl
theorem bne_dec (X : Int) : (X != 0) = decide (X ≠ 0) := by by_cases h : X = 0 <;> simp [h]
theorem SpJ.withq {w0 W : World} {b : SpB} {f : Fl.Floor} {kv ov : Value} {L : Nat} {out : List Int} {op : List Bool} (h : SpJ w0 W b f kv ov L out op) (q : Nat) : SpJ w0 W ⟨b.bo, b.bp, q, b.go, b.gp⟩ f kv ov L out op :=
 ⟨h.b0, h.bo, h.bp, h.go, h.gp, h.o1, h.o2, h.o3, h.o4, h.below, h.lo, h.lp⟩
theorem SpI.pop {w0 W : World} {b : SpB} {f : Fl.Floor} {kv ov : Value} {L : Nat} {s : Fl.Bs} (h : SpI w0 W b f kv ov L s) (qv v' : Value) (r : List Nat) (hq : W.heap[b.bq]? = some (.cells #[qv] 22 (0, 0))) (hv : Qr W (b.bq + 1) 3 v' (ints (r.map Int.ofNat))) :
 SpI w0 (W.setCell ⟨b.bq, 0, none⟩ v') b f kv ov L { s with q := r } := by
 have o1 := h.o1
 have o2 := h.o2
 have o3 := h.o3
 have o4 := h.o4
 have o5 := h.o5
 have hk : ∀ k, k ≠ b.bq → (W.setCell ⟨b.bq, 0, none⟩ v').heap[k]? = W.heap[k]? := fun k hk => heap_setCell_other _ _ _ _ hk
 exact ⟨(hk _ (by omega)).trans h.b0, (hk _ (by omega)).trans h.bo, (hk _ (by omega)).trans h.bp, (hk _ (by omega)).trans h.go, (hk _ (by omega)).trans h.gp, ⟨v', set_heap hq 0 v', hv.kept fun g hg => hk g (by have := (hv.block hg).1; omega)⟩, o1, o2, o3, o4, o5,
  h.below.trans ⟨rfl, rfl, rfl, by simp, fun k hk2 => hk k (by omega)⟩, h.lo, h.lp⟩
theorem Qr.cut {w : World} {base : Nat} {e : TypeId} {v x : Value} {xs : List Value} {T E : TypeId} (h : Qr w base e v (x :: xs)) (ht : Tryz.prog.underlying T = some (.slice E)) (hE : ∀ W : World, (sizeOf E).run Tryz.prog W = .ok 1 W) :
 ∃ a n c, (∀ W : World, (Instr.slice T v (some (.int .i64 1)) none none).run Tryz.prog W = .ok (.slice a n c) W) ∧ Qr w base e (.slice a n c) xs := by
 obtain ⟨g, off, cap, rfl, -, hc, hm⟩ := h.head
 have he : Tryz.prog.elem T = E := by unfold Program.elem; rw [ht]
 have hr := fun W : World => run_slice_l (P := Tryz.prog) (w := W) T (some ⟨g, off, none⟩) (xs.length + 1) cap (by rw [he, ht]) .i64 1 (by omega) (by omega)
 obtain ⟨t1, t2⟩ := h.tail
 by_cases hcap : cap = 1
 · refine ⟨some ⟨g, off, none⟩, xs.length + 1 - 1, cap - 1, fun W => ?_, t1 hcap⟩
   rw [hr W, he, hE W, hcap]; rfl
 · refine ⟨some ⟨g, off + 1, none⟩, xs.length + 1 - 1, cap - 1, fun W => ?_, t2 hcap⟩
   rw [hr W, he, hE W]
   simp [Result.andThen, sliced, hcap, Addr.add]
end Go.Proofs.YtfcbcpfnaadpeaaGreatDoor
