/- Walks: Same of taquinref09, where the lists are the same. -/
import Derived.Test.YtdjiimblfhbcjaaDoorLxA
import Derived.Test.YtdjiimblfhbcjaaDoorLxD
namespace Go.Proofs.YtdjiimblfhbcjaaDoor
set_option linter.unusedSimpArgs false
open Go.RowKit

theorem TK.ts {w : World} {g cap : Nat} {ts : List Lx.Tok} (h : TK w g ts) (h1 : ts.length ≤ cap) (h2 : cap ≤ maxLen) : TS w (.slice (some ⟨g, 0, none⟩) ts.length cap) ts := by
  refine ⟨some ⟨g, 0, none⟩, cap, rfl, Nat.le_trans h1 h2, fun h => (by cases h), h1, h2, fun i hi => ⟨g, 0, rfl, ?_⟩⟩
  have := h i hi
  simp only [Nat.zero_add]; exact this
/-- A part of a slice. -/
theorem TS.part {w : World} {b off n cap : Nat} {ts : List Lx.Tok} (h : TS w (.slice (some ⟨b, off, none⟩) n cap) ts) (k m : Nat) (hk : k ≤ m) (hm : m ≤ ts.length) : TS w (.slice (some ⟨b, off + k * 4, none⟩) (m - k) (cap - k)) ((ts.take m).drop k) := by
  obtain ⟨a, cap', e, hmx, hn, hc1, hc2, hc⟩ := h
  injection e with e1 e2 e3
  subst e1 e2 e3
  have hl : ((ts.take m).drop k).length = m - k := by rw [List.length_drop, List.length_take]; omega
  refine ⟨_, _, by rw [hl], by omega, fun h => (by cases h), by omega, by omega, fun i hi => ⟨b, off + k * 4, rfl, ?_⟩⟩
  obtain ⟨b', off', e1, h2⟩ := hc (k + i) (by omega)
  cases e1
  have e3 : ((ts.take m).drop k)[i] = ts[k + i]'(by omega) := by simp
  rw [e3, show off + k * 4 + i * 4 = off + (k + i) * 4 by omega]
  exact h2
theorem same_cells {w : World} {va vb : Value} {tb : List Lx.Tok} {d : Nat} (ha : TS w va (tb.map (Lx.later d))) (hb : TS w vb tb) (hl : ∀ t ∈ tb, t.line ≤ 1000000000) (n : Nat) (hn : n = tb.length) (k : Nat) (hk : k < n) :
    ∃ (ba oa ca bb ob cb : Nat) (kd nn ln : Int) (tx : ByteArray), va = .slice (some ⟨ba, oa, none⟩) n ca ∧ vb = .slice (some ⟨bb, ob, none⟩) n cb ∧ 0 ≤ ln ∧ ln ≤ 1000000000 ∧
      w.cell? ⟨bb, ob + k * 4, none⟩ = some (.int .i64 kd) ∧ w.cell? ⟨bb, ob + k * 4 + 1, none⟩ = some (.string tx) ∧ w.cell? ⟨bb, ob + k * 4 + 2, none⟩ = some (.int .i64 nn) ∧ w.cell? ⟨bb, ob + k * 4 + 3, none⟩ = some (.int .i64 ln) ∧
      w.cell? ⟨ba, oa + k * 4, none⟩ = some (.int .i64 kd) ∧ w.cell? ⟨ba, oa + k * 4 + 1, none⟩ = some (.string tx) ∧ w.cell? ⟨ba, oa + k * 4 + 2, none⟩ = some (.int .i64 nn) ∧ w.cell? ⟨ba, oa + k * 4 + 3, none⟩ = some (.int .i64 (ln + d)) := by
  subst hn
  obtain ⟨a, ca, rfl, -, -, -, -, hca⟩ := ha
  obtain ⟨b, cb, rfl, -, -, -, -, hcb⟩ := hb
  obtain ⟨ba, oa, rfl, a1, a2, a3, a4⟩ := hca k (by rw [List.length_map]; exact hk)
  obtain ⟨bb, ob, rfl, b1, b2, b3, b4⟩ := hcb k hk
  rw [List.getElem_map] at a1 a2 a3 a4
  refine ⟨ba, oa, ca, bb, ob, cb, _, _, _, _, by rw [List.length_map], rfl, ?_, ?_, b1, b2, b3, b4, a1, a2, a3, ?_⟩
  · omega
  · have := hl _ (List.getElem_mem hk); omega
  · rw [a4]; rfl

theorem TS.len {w : World} {v : Value} {ts : List Lx.Tok} (h : TS w v ts) : ∃ a cap, v = .slice a ts.length cap ∧ ts.length ≤ 9223372036854775807 := by
  obtain ⟨a, cap, rfl, hm, -⟩ := h
  exact ⟨a, cap, rfl, hm⟩
set_option maxRecDepth 100000 in
set_option maxHeartbeats 8000000 in
theorem Same_true (va vb : Value) (tb : List Lx.Tok) (d : Nat) (di : Int) (hdi : di = (d : Int)) (w : World) (ha : TS w va (tb.map (Lx.later d))) (hb : TS w vb tb) (hl : ∀ t ∈ tb, t.line ≤ 1000000000) (hd : d ≤ 1000000000) :
    Calls Tryd.prog 26 #[va, vb, .int .i64 di] w fun e w' => e = .returned (.bool true) ∧ Below w.heap.size w w' := by
  subst hdi
  obtain ⟨a, ca, rfl, hla⟩ := ha.len
  obtain ⟨b, cb, rfl, hlb⟩ := hb.len
  rw [List.length_map] at hla ha ⊢
  obtain ⟨n, hn⟩ : ∃ n, n = tb.length := ⟨_, rfl⟩
  rw [← hn] at ha hb hla hlb ⊢
  have HA := Lib.hid ha
  have HB := Lib.hid hb
  have HL := Lib.hid hl
  have HN := Lib.hid hn
  have hne : ((n : Int) != (n : Int)) = false := by simp
  clear ha hb hl hn
  go_enter Tryd.func26, Tryd.ntmps26
  go_wp2_with fail
  go_loopw [7] (fun i wr => ∃ k : Nat, k ≤ n ∧ i = .int .i64 k ∧ Hid (Below w.heap.size w wr)) (fun i _ => n - (intOf i).toNat)
  case atStart => exact ⟨0, by omega, rfl, Lib.hid (Below.refl _ _)⟩
  case round =>
    obtain ⟨k, hk, rfl, B⟩ := hrel
    by_cases hlt : k < n
    · obtain ⟨ba, oa, ca', bb, ob, cb', kd, nn, ln, tx, e1, e2, l0, l1, q0, q1, q2, q3, p0, p1, p2, p3⟩ := same_cells (HA.out.keep B.out) (HB.out.keep B.out) HL.out n HN.out k hlt
      cases e1
      cases e2
      have kI0 : (0 : Int) ≤ (k : Int) := by omega
      have kI1 : (k : Int) < (n : Int) := by omega
      have kI2 : (k : Int).toNat = k := by omega
      go_wp2_with fail
      generalize hW : World.alloc wr _ = W2
      have b2 : Below wr.heap.size wr W2 := hW ▸ (Below.refl _ _).alloc (Nat.le_refl _) _
      have r0 := (b2.cell (cell_lt p0)).trans p0
      have r1 := (b2.cell (cell_lt p1)).trans p1
      have r2 := (b2.cell (cell_lt p2)).trans p2
      have r3 := (b2.cell (cell_lt p3)).trans p3
      have s0 : W2.cell? ⟨wr.heap.size, 0, none⟩ = some (.int .i64 kd) := hW ▸ World.cell?_alloc_new _ _ _ _
      have s1 : W2.cell? ⟨wr.heap.size, 1, none⟩ = some (.string tx) := hW ▸ World.cell?_alloc_new _ _ _ _
      have s2 : W2.cell? ⟨wr.heap.size, 2, none⟩ = some (.int .i64 nn) := hW ▸ World.cell?_alloc_new _ _ _ _
      have s3 : W2.cell? ⟨wr.heap.size, 3, none⟩ = some (.int .i64 (ln + d)) := hW ▸ World.cell?_alloc_new _ _ _ _
      have B2 := Lib.hid (B.out.trans (b2.mono B.out.size))
      clear hW b2 p0 p1 p2 p3 q0 q1 q2 q3
      go_quiet (fail)
      go_wp2_with fail
      go_roundw
      case rel => exact ⟨k + 1, by omega, by go_num, Lib.hid (below_same B2.out ⟨rfl, rfl, rfl, rfl⟩)⟩
      case measure => simp [intOf]; omega
    · go_wp2_with fail
      go_ret
      exact ⟨rfl, B.out⟩
theorem Same_k (va vb : Value) (ts : List Lx.Tok) {w : World} (ha : TS w va ts) (hb : TS w vb ts) (hl : ∀ t ∈ ts, t.line ≤ 1000000000) :
    Calls Tryd.prog 26 #[va, vb, .int .i64 0] w fun e w' => e = .returned (.bool true) ∧ Below w.heap.size w w' :=
  Same_true va vb ts 0 0 rfl w (by rw [Lx.later0]; exact ha) hb hl (by omega)
end Go.Proofs.YtdjiimblfhbcjaaDoor
