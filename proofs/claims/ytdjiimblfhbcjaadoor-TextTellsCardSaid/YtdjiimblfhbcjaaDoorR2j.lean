/- Walks of taquinref02: Pattern. -/
import Derived.Test.YtdjiimblfhbcjaaDoorR2i
import Derived.Laws.NewBlocks
import Derived.Laws.MakeOwn
import Derived.Laws.OwnMore
namespace Go.Proofs.YtdjiimblfhbcjaaDoor
set_option linter.unusedSimpArgs false
open Go.RowKit

/-- Block g is a row of n bools of the call's own. -/
def BL (base : Nat) (w : World) (g n : Nat) (f : Nat → Bool) : Prop := w.ownsRow base 4 1 (.slice (some ⟨g, 0, none⟩) n n) n ((List.range n).map fun j => .bool (f j))
theorem BL.cell {base : Nat} {w : World} {g n : Nat} {f : Nat → Bool} (h : BL base w g n f) (k : Nat) (hk : k < n) : w.cell? ⟨g, k, none⟩ = some (.bool (f k)) := by
  rw [World.ownsRow.cellAt h k (by omega)]; simp [hk]
theorem BL.free {base : Nat} {w : World} {g n : Nat} {f : Nat → Bool} (h : BL base w g n f) (k : Nat) : w.frozen? ⟨g, k, none⟩ = false := World.ownsRow.frozenAt h k
theorem BL.keep {base : Nat} {w W : World} {g n : Nat} {f : Nat → Bool} (h : BL base w g n f) (hb : Below w.heap.size w W) : BL base W g n f := own_below h hb
theorem BL.lt {base : Nat} {w : World} {g n : Nat} {f : Nat → Bool} (h : BL base w g n f) : base ≤ g ∧ g < w.heap.size := World.ownsRow.lt h g rfl
theorem BL.store {base : Nat} {w : World} {g n : Nat} {f : Nat → Bool} (h : BL base w g n f) (k : Nat) (b : Bool) (f' : Nat → Bool) (hf : ∀ j, j < n → f' j = if j = k then b else f j) : BL base (w.setCell ⟨g, k, none⟩ (.bool b)) g n f' := by
  have := (World.ownsRow.stored h k (.bool b)).1
  unfold BL
  have e : ((List.range n).map fun j => Value.bool (f' j)) = ((List.range n).map fun j => Value.bool (f j)).set k (.bool b) := by
    apply List.ext_getElem
    · simp
    · intro j h1 h2
      simp only [List.length_map, List.length_range] at h1
      rw [List.getElem_set]
      simp only [List.getElem_map, List.getElem_range]
      rw [hf j h1]
      by_cases hj : j = k
      · rw [if_pos hj, if_pos hj.symm]
      · rw [if_neg hj, if_neg (fun e => hj e.symm)]
  rw [e]; exact this
theorem BL.other {base : Nat} {w : World} {g g2 n : Nat} {f : Nat → Bool} (h : BL base w g n f) (hne : g2 ≠ g) (k : Nat) (v : Value) : BL base (w.setCell ⟨g2, k, none⟩ v) g n f :=
  World.ownsRow.kept (row := some g2) h ⟨rfl, rfl, rfl, by simp, fun j _ hj => heap_setCell_other w ⟨g2, k, none⟩ j v (fun e => hj (by simp [e]))⟩ (.inr (by simp [Value.ownBlock]; exact fun e => hne e.symm))
theorem BL.same {base : Nat} {w : World} {g n : Nat} {f f' : Nat → Bool} (h : BL base w g n f) (hf : ∀ j, j < n → f' j = f j) : BL base w g n f' := by
  unfold BL at *
  have e : ((List.range n).map fun j => Value.bool (f' j)) = ((List.range n).map fun j => Value.bool (f j)) := List.map_congr_left (fun j hj => by rw [hf j (List.mem_range.1 hj)])
  rw [e]; exact h
theorem BL.made (base : Nat) (w : World) (n : Nat) (hb : base ≤ w.heap.size) (hn : n ≤ 100000) : BL base (w.alloc (.cells (madeCells #[.bool false] n) 4)) w.heap.size n (fun _ => false) := by
  have := World.ownsRow_lit (base := base) (e := 4) (size := 1) w (madeCells #[.bool false] n) n hb (by unfold maxLen; omega) (by rw [size_madeCells]; omega)
  unfold BL
  rw [toList_madeCells_one] at this
  have e : ((List.range n).map fun _ => Value.bool false) = List.replicate n (.bool false) := by rw [List.map_const', List.length_range]
  rw [e]; exact this
theorem BL.first (base : Nat) (w : World) (n : Nat) (hb : base ≤ w.heap.size) (hn : n ≤ 100000) : BL base (w.alloc (.cells ((madeCells #[.bool false] n).setIfInBounds 0 (.bool true)) 4)) w.heap.size n (fun k => decide (k = 0)) := by
  have h := (BL.made base w n hb hn).store 0 true (fun k => decide (k = 0)) (fun j _ => by by_cases hj : j = 0 <;> simp [hj])
  rw [World.setCell_alloc_at _ _ _ _ _ rfl] at h; exact h
theorem head_st (a : UInt8) (r : List UInt8) : (Pat.headPart (a :: r)).1.st.length ≤ r.length := by
  rw [Pat.headPart_cons]
  by_cases h1 : a = 42
  · rw [if_pos h1]; exact Nat.zero_le _
  rw [if_neg h1]
  by_cases h2 : a = 92
  · rw [if_pos h2]; cases r <;> exact Nat.zero_le _
  rw [if_neg h2]
  by_cases h3 : a = 63
  · rw [if_pos h3]; exact Nat.zero_le _
  rw [if_neg h3]
  by_cases h4 : a = 91
  · rw [if_pos h4]
    cases hc : Pat.cls r with
    | none => exact Nat.zero_le _
    | some x => have := Pat.cls_set_len hc; obtain ⟨x, y, n⟩ := x; exact this
  · rw [if_neg h4]; exact Nat.zero_le _
theorem pts_st (l : List UInt8) : ∀ x ∈ Pat.pts l, x.1.st.length ≤ l.length := by
  have : ∀ (k : Nat) (l : List UInt8), ∀ x ∈ Pat.ptsF k l, x.1.st.length ≤ l.length := by
    intro k
    induction k with
    | zero => intro l x hx; cases hx
    | succ k ih =>
      intro l x hx
      cases l with
      | nil => cases hx
      | cons a r =>
        rw [Pat.ptsF] at hx
        rcases List.mem_cons.1 hx with rfl | hx
        · have := head_st a r; simp; omega
        · have := ih _ x hx
          rw [List.length_drop] at this; omega
  exact this _ _
theorem Tryd.boolInfo : (Tryd.prog.info? 4).map (fun i => (i.zero, i.size, i.bytes)) = some (some (.bool false), 1, 1) := by kernel_rfl
theorem make_bools (n : Nat) (c : Int) (hc : c = (n : Int)) (hn : n ≤ 100000) (w : World) : (Instr.makeSlice 82 (.int .i64 c) (.int .i64 c)).run Tryd.prog w = .ok (.slice (some ⟨w.heap.size, 0, none⟩) n n) (w.alloc (.cells (madeCells #[.bool false] n) 4)) := by
  subst hc
  obtain ⟨i, hi, hz, hsize, hby⟩ := info_parts Tryd.boolInfo
  have := run_make (P := Tryd.prog) w 82 4 i _ Tryd.underlying82 hi hz .i64 .i64 n n (by omega) (Int.le_refl _) (by rw [hby]; omega) (by omega)
  rw [hsize, Int.toNat_natCast, Nat.mul_one] at this
  exact this

set_option maxRecDepth 100000 in
set_option maxHeartbeats 64000000 in
theorem rPattern_any (p s : ByteArray) (b : Bool) (hb : Pat.pat (bs p) (bs s) = b) (w : World) (hp : p.size ≤ 1000) (hs : s.size ≤ 1000) :
    Calls Tryd.prog 41 #[.string p, .string s] w fun e w' => e = .returned (.bool b) ∧ Below w.heap.size w w' := by
  obtain ⟨l, hl⟩ : ∃ l, Pat.pts (bs p) = l := ⟨_, rfl⟩
  have HL := Lib.hid hl
  have hll := Pat.pts_len (bs p)
  have hok := pts_st (bs p)
  rw [hl, bs_len] at hll
  rw [hl, bs_len] at hok
  have HOK := Lib.hid hok
  obtain ⟨ps, hps⟩ : ∃ ps, ps = l.map (·.1) := ⟨_, rfl⟩
  have HPS := Lib.hid hps
  have HPP : Hid (Pat.tb ps (bs s) l.length s.size = b) := Lib.hid (by
    rw [hps, ← hb, Pat.pat, ← Pat.pts_parts, hl, ← Pat.tb_all, List.length_map, bs_len])
  have HT0 : Hid (∀ j, j < s.size + 1 → Pat.tb ps (bs s) 0 j = decide (j = 0)) := Lib.hid (fun j hj => Pat.tb_zero ps (bs s) j (by rw [bs_len]; omega))
  have hmk := make_bools (s.size + 1) ((s.size : Int) + 1) (by omega) (by omega)
  have hm0 : (madeCells #[.bool false] (s.size + 1))[0]? = some (.bool false) := by simp [madeCells]
  clear hl hb hps hok
  go_enter Tryd.func41, Tryd.ntmps41
  go_wp2_with fail
  go_at_call 67; refine (rParts_k p l HL.out _ (by omega)).mono ?_; rintro e w1 ⟨v, rfl, hP, hB⟩
  obtain ⟨a, ca, rfl, hla⟩ := hP.len
  obtain ⟨n, hn⟩ : ∃ n, n = l.length := ⟨_, rfl⟩
  rw [← hn] at hP hla hll HPP ⊢
  have HP := Lib.hid hP
  have HB := Lib.hid hB
  have HN := Lib.hid hn
  clear hP hB hn
  have HF : Hid (BL w1.heap.size (w1.alloc (.cells ((madeCells #[.bool false] (s.size + 1)).setIfInBounds 0 (.bool true)) 4)) w1.heap.size (s.size + 1) (Pat.tb ps (bs s) 0)) := Lib.hid ((BL.first _ w1 _ (Nat.le_refl _) (by omega)).same HT0.out)
  go_wp2_with fail
  go_loopw [6, 7] (fun c iv wr => ∃ i gc : Nat, i ≤ n ∧ iv = .int .i64 i ∧ c = .slice (some ⟨gc, 0, none⟩) (s.size + 1) (s.size + 1) ∧ Hid (BL w1.heap.size wr gc (s.size + 1) (Pat.tb ps (bs s) i)) ∧ Hid (Below w1.heap.size w1 wr)) (fun _ iv _ => n - (intOf iv).toNat)
  case atStart => exact ⟨0, w1.heap.size, by omega, rfl, rfl, HF, Lib.hid ((Below.refl _ _).alloc (Nat.le_refl _) _)⟩
  case round =>
    obtain ⟨i, gc, hi, rfl, rfl, HC, HW⟩ := hrel
    clear HF
    by_cases hlt : i < n
    · have hil : i < l.length := by rw [← HN.out]; exact hlt
      have hwb := HW.out.size
      have hgl := HC.out.lt
      have HM : Hid (BL w1.heap.size (wr.alloc (.cells (madeCells #[.bool false] (s.size + 1)) 4)) wr.heap.size (s.size + 1) (fun j => if j < 0 then Pat.tb ps (bs s) (i + 1) j else false)) := Lib.hid ((BL.made _ wr _ hwb (by omega)).same (fun j _ => by simp))
      obtain ⟨wo, rfl⟩ : ∃ wo : World, wo = wr := ⟨_, rfl⟩
      have hst0 : Hid (l[i].1.isStar = true → Pat.tb ps (bs s) (i + 1) 0 = Pat.tb ps (bs s) i 0) := Lib.hid (fun h => Pat.tb_star_zero ps (bs s) i (by rw [HPS.out, List.length_map]; exact hil) (by simp only [HPS.out, List.getElem_map]; exact h))
      have hst1 : Hid (l[i].1.isStar = true → ∀ k, k < s.size → Pat.tb ps (bs s) (i + 1) (k + 1) = (Pat.tb ps (bs s) i (k + 1) || Pat.tb ps (bs s) (i + 1) k)) := Lib.hid (fun h k hk => Pat.tb_star ps (bs s) i k (by rw [HPS.out, List.length_map]; exact hil) (by simp only [HPS.out, List.getElem_map]; exact h) (by rw [bs_len]; exact hk))
      have hot0 : Hid (l[i].1.isStar = false → Pat.tb ps (bs s) (i + 1) 0 = false) := Lib.hid (fun h => Pat.tb_one_zero ps (bs s) i (by rw [HPS.out, List.length_map]; exact hil) (by simp only [HPS.out, List.getElem_map]; exact h))
      have hot1 : Hid (l[i].1.isStar = false → ∀ k, (hk : k < s.size) → Pat.tb ps (bs s) (i + 1) (k + 1) = (Pat.tb ps (bs s) i k && l[i].1.fits s[k])) := Lib.hid (fun h k hk => by
        have := Pat.tb_one ps (bs s) i k (by rw [HPS.out, List.length_map]; exact hil) (by simp only [HPS.out, List.getElem_map]; exact h) (by rw [bs_len]; exact hk)
        simp only [HPS.out, List.getElem_map] at this ⊢
        exact this)
      have HM1 : Hid (BL w1.heap.size (wo.alloc (.cells (madeCells #[.bool false] (s.size + 1)) 4)) gc (s.size + 1) (Pat.tb ps (bs s) i)) := Lib.hid (HC.out.keep ((Below.refl _ _).alloc (Nat.le_refl _) _))
      have HM2 : Hid (Below w1.heap.size w1 (wo.alloc (.cells (madeCells #[.bool false] (s.size + 1)) 4))) := Lib.hid (HW.out.alloc hwb _)
      have hxl : l[i].1.st.length ≤ 100000000 := by have := HOK.out _ (List.getElem_mem hil); omega
      go_wp2_with fail
      go_loopw [9] (fun kv wr => ∃ k : Nat, k ≤ s.size + 1 ∧ kv = .int .i64 k ∧ Hid (BL w1.heap.size wr wo.heap.size (s.size + 1) (fun j => if j < k then Pat.tb ps (bs s) (i + 1) j else false)) ∧ Hid (BL w1.heap.size wr gc (s.size + 1) (Pat.tb ps (bs s) i)) ∧ Hid (Below w1.heap.size w1 wr)) (fun kv _ => s.size + 1 - (intOf kv).toNat)
      case atStart => exact ⟨0, by omega, rfl, HM, HM1, HM2⟩
      case round =>
        obtain ⟨k, hk, rfl, HN2, HC2, HW2⟩ := hrel
        clear HM HM1 HM2
        by_cases hkl : k ≤ s.size
        · obtain ⟨g, cb, e1, q0, q1, q2, q3, q4⟩ := (HP.out.keep HW2.out).at n HN.out i hil
          cases e1
          have iI0 : (0 : Int) ≤ (i : Int) := by omega
          have iI1 : (i : Int) < (n : Int) := by omega
          have iI2 : (i : Int).toNat = i := by omega
          have kI0 : (0 : Int) ≤ (k : Int) := by omega
          have kI1 : (k : Int) < (s.size : Int) + 1 := by omega
          have kI2 : (k : Int).toNat = k := by omega
          have kI3 : (k : Int) ≤ (s.size : Int) := by omega
          have c0 := HC2.out.cell k (by omega)
          have n0 := HN2.out.cell k (by omega)
          have nf := HN2.out.free k
          have hgc : gc ≠ wo.heap.size := by omega
          have hgb : w1.heap.size ≤ wo.heap.size := hwb
          cases hx : l[i].1.isStar with
          | true =>
            have q5 : wr.cell? ⟨g, i * 5, none⟩ = some (.int .i64 1) := by
              rw [q0]; revert hx; cases l[i].1 <;> simp [Pat.Part.isStar, Pat.Part.kd]
            clear q0 q1 q2 q3 q4
            cases k with
            | zero =>
              have HV : Hid (Pat.tb ps (bs s) (i + 1) 0 = Pat.tb ps (bs s) i 0) := Lib.hid (hst0.out hx)
              clear hx
              obtain ⟨b0, hb0⟩ : ∃ b0, b0 = Pat.tb ps (bs s) i 0 := ⟨_, rfl⟩
              rw [← hb0] at c0 HV
              have HN3 : Hid (BL w1.heap.size (wr.setCell ⟨wo.heap.size, 0, none⟩ (.bool b0)) wo.heap.size (s.size + 1) (fun j => if j < 0 + 1 then Pat.tb ps (bs s) (i + 1) j else false)) := Lib.hid (HN2.out.store 0 b0 _ (fun j _ => by
                by_cases hj : j = 0
                · subst hj; simp [HV.out]
                · rw [if_neg (by omega), if_neg hj, if_neg (by omega)]))
              have HC3 : Hid (BL w1.heap.size (wr.setCell ⟨wo.heap.size, 0, none⟩ (.bool b0)) gc (s.size + 1) (Pat.tb ps (bs s) i)) := Lib.hid (HC2.out.other (fun e => hgc e.symm) 0 _)
              have HW3 : Hid (Below w1.heap.size w1 (wr.setCell ⟨wo.heap.size, 0, none⟩ (.bool b0))) := Lib.hid (HW2.out.setCell hgb _)
              clear hb0
              cases b0
              all_goals
                go_wp2_with fail
                go_roundw
                case rel => exact ⟨0 + 1, by omega, by go_num, HN3, HC3, HW3⟩
                case measure => simp [intOf] <;> omega
            | succ k =>
              have HV := Lib.hid (hst1.out hx k (by omega))
              have n1 := HN2.out.cell k (by omega)
              rw [if_pos (by omega)] at n1
              have kI4 : (0 : Int) < (k : Int) + 1 := by omega
              clear hx
              obtain ⟨b0, hb0⟩ : ∃ b0, b0 = Pat.tb ps (bs s) i (k + 1) := ⟨_, rfl⟩
              obtain ⟨b1, hb1⟩ : ∃ b1, b1 = Pat.tb ps (bs s) (i + 1) k := ⟨_, rfl⟩
              rw [← hb0] at c0 HV
              rw [← hb1] at n1 HV
              clear hb0 hb1
              cases b0 with
              | true =>
                replace HV : Hid (Pat.tb ps (bs s) (i + 1) (k + 1) = true) := Lib.hid HV.out
                have HN3 : Hid (BL w1.heap.size (wr.setCell ⟨wo.heap.size, k + 1, none⟩ (.bool true)) wo.heap.size (s.size + 1) (fun j => if j < k + 1 + 1 then Pat.tb ps (bs s) (i + 1) j else false)) := Lib.hid (HN2.out.store (k + 1) true _ (fun j _ => by
                  by_cases hj : j = k + 1
                  · subst hj; simp [HV.out]
                  · rw [if_neg hj]
                    by_cases hj2 : j < k + 1
                    · rw [if_pos (by omega), if_pos hj2]
                    · rw [if_neg (by omega), if_neg hj2]))
                have HC3 : Hid (BL w1.heap.size (wr.setCell ⟨wo.heap.size, k + 1, none⟩ (.bool true)) gc (s.size + 1) (Pat.tb ps (bs s) i)) := Lib.hid (HC2.out.other (fun e => hgc e.symm) (k + 1) _)
                have HW3 : Hid (Below w1.heap.size w1 (wr.setCell ⟨wo.heap.size, k + 1, none⟩ (.bool true))) := Lib.hid (HW2.out.setCell hgb _)
                go_wp2_with fail
                go_roundw
                case rel => exact ⟨k + 1 + 1, by omega, by go_num, HN3, HC3, HW3⟩
                case measure => simp [intOf] <;> omega
              | false =>
                replace HV : Hid (Pat.tb ps (bs s) (i + 1) (k + 1) = b1) := Lib.hid HV.out
                have HN3 : Hid (BL w1.heap.size (wr.setCell ⟨wo.heap.size, k + 1, none⟩ (.bool b1)) wo.heap.size (s.size + 1) (fun j => if j < k + 1 + 1 then Pat.tb ps (bs s) (i + 1) j else false)) := Lib.hid (HN2.out.store (k + 1) b1 _ (fun j _ => by
                  by_cases hj : j = k + 1
                  · subst hj; simp [HV.out]
                  · rw [if_neg hj]
                    by_cases hj2 : j < k + 1
                    · rw [if_pos (by omega), if_pos hj2]
                    · rw [if_neg (by omega), if_neg hj2]))
                have HC3 : Hid (BL w1.heap.size (wr.setCell ⟨wo.heap.size, k + 1, none⟩ (.bool b1)) gc (s.size + 1) (Pat.tb ps (bs s) i)) := Lib.hid (HC2.out.other (fun e => hgc e.symm) (k + 1) _)
                have HW3 : Hid (Below w1.heap.size w1 (wr.setCell ⟨wo.heap.size, k + 1, none⟩ (.bool b1))) := Lib.hid (HW2.out.setCell hgb _)
                go_wp2_with fail
                go_roundw
                case rel => exact ⟨k + 1 + 1, by omega, by go_num, HN3, HC3, HW3⟩
                case measure => simp [intOf] <;> omega
          | false =>
            have e1 : ((l[i].1.kd : Int) == 1) = false := by revert hx; cases l[i].1 <;> simp [Pat.Part.isStar, Pat.Part.kd]
            cases k with
            | zero =>
              have HV : Hid (Pat.tb ps (bs s) (i + 1) 0 = false) := Lib.hid (hot0.out hx)
              have HN3 : Hid (BL w1.heap.size wr wo.heap.size (s.size + 1) (fun j => if j < 0 + 1 then Pat.tb ps (bs s) (i + 1) j else false)) := Lib.hid (HN2.out.same (fun j _ => by
                by_cases hj : j = 0
                · subst hj; simp [HV.out]
                · rw [if_neg (by omega), if_neg (by omega)]))
              clear hx q1 q2 q3 q4
              generalize l[i].1 = x at *
              go_wp2_with fail
              go_roundw
              case rel => exact ⟨0 + 1, by omega, by go_num, HN3, HC2, HW2⟩
              case measure => simp [intOf] <;> omega
            | succ k =>
              have hks : k < s.size := by omega
              have HV := Lib.hid (hot1.out hx k hks)
              have c1 := HC2.out.cell k (by omega)
              have kI4 : (0 : Int) < (k : Int) + 1 := by omega
              have kI5 : (k : Int) < (s.size : Int) := by omega
              have kI6 : (0 : Int) ≤ (k : Int) := by omega
              have kI7 : (k : Int).toNat = k := by omega
              have kI8 : (k : Int) + 1 - 1 = (k : Int) := by omega
              have HX := Lib.hid hx
              obtain ⟨b0, hb0⟩ : ∃ b0, b0 = Pat.tb ps (bs s) i k := ⟨_, rfl⟩
              rw [← hb0] at c1 HV
              clear hb0 hx c0
              cases b0 with
              | false =>
                replace HV : Hid (Pat.tb ps (bs s) (i + 1) (k + 1) = false) := Lib.hid HV.out
                clear q1 q2 q3 q4 HX hst0 hst1 hot0 hot1
                generalize l[i].1 = x at *
                have HN3 : Hid (BL w1.heap.size (wr.setCell ⟨wo.heap.size, k + 1, none⟩ (.bool false)) wo.heap.size (s.size + 1) (fun j => if j < k + 1 + 1 then Pat.tb ps (bs s) (i + 1) j else false)) := Lib.hid (HN2.out.store (k + 1) false _ (fun j _ => by
                  by_cases hj : j = k + 1
                  · subst hj; simp [HV.out]
                  · rw [if_neg hj]
                    by_cases hj2 : j < k + 1
                    · rw [if_pos (by omega), if_pos hj2]
                    · rw [if_neg (by omega), if_neg hj2]))
                have HC3 : Hid (BL w1.heap.size (wr.setCell ⟨wo.heap.size, k + 1, none⟩ (.bool false)) gc (s.size + 1) (Pat.tb ps (bs s) i)) := Lib.hid (HC2.out.other (fun e => hgc e.symm) (k + 1) _)
                have HW3 : Hid (Below w1.heap.size w1 (wr.setCell ⟨wo.heap.size, k + 1, none⟩ (.bool false))) := Lib.hid (HW2.out.setCell hgb _)
                go_wp2_with fail
                go_region
                all_goals
                  go_wp2_with fail
                  go_roundw
                  case rel => exact ⟨k + 1 + 1, by omega, by go_num, HN3, HC3, Lib.hid (below_sm HW3.out ⟨rfl, rfl, rfl, rfl⟩)⟩
                  case measure => simp [intOf] <;> omega
              | true =>
                obtain ⟨bv, hbv⟩ : ∃ bv, bv = l[i].1.fits s[k] := ⟨_, rfl⟩
                replace HV : Hid (Pat.tb ps (bs s) (i + 1) (k + 1) = bv) := Lib.hid (by rw [hbv]; exact HV.out)
                have HBV := Lib.hid hbv.symm
                clear hbv hst0 hst1 hot0 hot1
                generalize l[i].1 = x at *
                generalize l[i].2 = t at *
                have hbw := HN2.out.lt.2
                have kJ1 : IntKind.i64.wrap (k : Int) = (k : Int) := IntWalk.i64_in _ (by omega)
                have kJ2 : (k : Int) < (s.size : Int) + 1 := by omega
                have kJ3 : (k : Int) + 1 < (s.size : Int) + 1 := by omega
                have kJ4 : (0 : Int) ≤ (k : Int) + 1 := by omega
                have kJ5 : ((k : Int) + 1).toNat = k + 1 := by omega
                have kJ6 : (0 : Int) ≤ (k : Int) + 1 - 1 := by omega
                have kJ7 : ((k : Int) + 1 - 1).toNat = k := by omega
                have kJ8 : (k : Int) + 1 - 1 < (s.size : Int) + 1 := by omega
                have kJ9 : (k : Int) + 1 - 1 < (s.size : Int) := by omega
                go_wp2_with fail
                go_region_with ((go_at_call 68; refine (rfits_any x t s[k] bv HBV.out HX.out hxl _).mono ?_; rintro e w3 ⟨rfl, b3⟩; have B3 : Hid (Below wr.heap.size wr w3) := Lib.hid ((Below.refl _ wr).drew.trans b3); have n2 := (B3.out.cell (p := ⟨wo.heap.size, k + 1, none⟩) hbw).trans n0; have nf2 := (B3.out.frozen (p := ⟨wo.heap.size, k + 1, none⟩) hbw).trans nf))
                all_goals
                  have HN4 := Lib.hid (HN2.out.keep B3.out)
                  have HC4 := Lib.hid (HC2.out.keep B3.out)
                  have HW4 : Hid (Below w1.heap.size w1 w3) := Lib.hid (HW2.out.trans (B3.out.mono (by have := HW2.out.size; omega)))
                  have HN3 : Hid (BL w1.heap.size (w3.setCell ⟨wo.heap.size, k + 1, none⟩ (.bool bv)) wo.heap.size (s.size + 1) (fun j => if j < k + 1 + 1 then Pat.tb ps (bs s) (i + 1) j else false)) := Lib.hid (HN4.out.store (k + 1) bv _ (fun j _ => by
                    by_cases hj : j = k + 1
                    · subst hj; simp [HV.out]
                    · rw [if_neg hj]
                      by_cases hj2 : j < k + 1
                      · rw [if_pos (by omega), if_pos hj2]
                      · rw [if_neg (by omega), if_neg hj2]))
                  have HC3 : Hid (BL w1.heap.size (w3.setCell ⟨wo.heap.size, k + 1, none⟩ (.bool bv)) gc (s.size + 1) (Pat.tb ps (bs s) i)) := Lib.hid (HC4.out.other (fun e => hgc e.symm) (k + 1) _)
                  have HW3 : Hid (Below w1.heap.size w1 (w3.setCell ⟨wo.heap.size, k + 1, none⟩ (.bool bv))) := Lib.hid (HW4.out.setCell hgb _)
                  clear b3
                  go_wp2_with fail
                  go_roundw
                  case rel => exact ⟨k + 1 + 1, by omega, by go_num, HN3, HC3, HW3⟩
                  case measure => simp [intOf] <;> omega
        · obtain rfl : k = s.size + 1 := by omega
          have HC3 : Hid (BL w1.heap.size wr wo.heap.size (s.size + 1) (Pat.tb ps (bs s) (i + 1))) := Lib.hid (HN2.out.same (fun j hj => by rw [if_pos hj]))
          go_wp2_with fail
          go_roundw
          case rel => exact ⟨i + 1, wo.heap.size, by omega, by go_num, rfl, HC3, HW2⟩
          case measure => simp [intOf]; omega
    · obtain rfl : i = n := by omega
      have q0 := HC.out.cell s.size (by omega)
      rw [HPP.out] at q0
      go_wp2_with fail
      go_ret
      exact ⟨rfl, HB.out.trans (HW.out.mono HB.out.size)⟩
end Go.Proofs.YtdjiimblfhbcjaaDoor
