/- Parts RdA, RdB, RdC of this claim, laid one behind the other: walks and the plain laws behind them; each contract states its own conditions. -/
import Derived.Lib.IndexBytes
import Derived.Test.YtcdfmgobokjcnaaGreatDoorWB
/- Walks of package wire: what a reader's block holds; fail, close. -/
namespace Go.Proofs.YtcdfmgobokjcnaaGreatDoor
set_option linter.unusedSimpArgs false
set_option linter.unusedVariables false
open Go.RowKit

/-- Of what was there, block b alone may have changed. -/
def NB (b : Nat) (w w' : World) : Prop := w.grownBy w' (some b)
theorem NB.refl (b : Nat) (w : World) : NB b w w := ⟨rfl, rfl, rfl, Nat.le_refl _, fun _ _ _ => rfl⟩
theorem NB.trans {b : Nat} {w w1 w2 : World} (h1 : NB b w w1) (h2 : NB b w1 w2) : NB b w w2 :=
  ⟨h2.os.trans h1.os, h2.tape.trans h1.tape, h2.output.trans h1.output, Nat.le_trans h1.size h2.size, fun k hk hne => (h2.block k (Nat.lt_of_lt_of_le hk h1.size) hne).trans (h1.block k hk hne)⟩
theorem NB.alloc {b : Nat} {w w1 : World} (h : NB b w w1) (o : Obj) : NB b w (w1.alloc o) := h.trans ⟨rfl, rfl, rfl, by simp, fun k hk _ => heap_alloc_old w1 o hk⟩
theorem NB.drew {b : Nat} {w w1 : World} (h : NB b w w1) : NB b w w1.drew := ⟨h.os, h.tape, h.output, h.size, h.block⟩
theorem NB.set {b : Nat} {w w1 : World} (h : NB b w w1) (o : Nat) (v : Value) : NB b w (w1.setCell ⟨b, o, none⟩ v) :=
  h.trans ⟨rfl, rfl, rfl, by simp, fun k _ hk => heap_setCell_other w1 ⟨b, o, none⟩ k v (fun e => hk (by simp [e]))⟩
theorem NB.of_below {b : Nat} {w w' : World} (h : Below w.heap.size w w') : NB b w w' := ⟨h.os, h.tape, h.output, h.size, fun k hk _ => h.block k hk⟩
theorem NB.then {b : Nat} {w w1 w' : World} (h : NB b w w1) (k : Below w1.heap.size w1 w') : NB b w w' := h.trans (NB.of_below k)
theorem NB.below {b B : Nat} {w w' : World} (h : NB b w w') (hB : B ≤ b) (hw : B ≤ w.heap.size) : Below B w w' :=
  ⟨h.os, h.tape, h.output, h.size, fun k hk => h.block k (by omega) (fun e => by injection e with e; omega)⟩
theorem NB.row {b base : Nat} {w w' : World} {e : TypeId} {sz : Nat} {v : Value} {n : Nat} {xs : List Value} (h : NB b w w') (ho : w.ownsRow base e sz v n xs) (hb : b < base) : w'.ownsRow base e sz v n xs := by
  refine World.ownsRow.kept ho h ?_
  cases hv : v.ownBlock with
  | none => exact .inl rfl
  | some g => exact .inr (fun e => by injection e with e; have := (World.ownsRow.lt ho g hv).1; omega)
theorem NB.heap {b k : Nat} {w w' : World} {o : Obj} (h : NB b w w') (hk : w.heap[k]? = some o) (hne : k ≠ b) : w'.heap[k]? = some o := by
  have hlt : k < w.heap.size := (Array.getElem?_eq_some_iff.1 hk).1
  exact (h.block k hlt (fun e => by injection e with e; exact hne e)).trans hk
/-- A reader's block. -/
def Rd (w : World) (b : Nat) (D : ByteArray) (bad : Bool) : Prop := w.heap[b]? = some (.cells #[.string D, .bool bad] 95 (0, 0))
/-- The reader reads what the plain reader reads. -/
def RdS (w : World) (b : Nat) (s : Wr.St) : Prop := ∃ D : ByteArray, bs D = s.1 ∧ Rd w b D s.2
theorem Rd.below {w w' : World} {b : Nat} {D : ByteArray} {bad : Bool} (h : Rd w b D bad) (hb : Below w.heap.size w w') : Rd w' b D bad := (hb.block b (heap_lt h)).trans h
theorem RdS.below {w w' : World} {b : Nat} {s : Wr.St} (h : RdS w b s) (hb : Below w.heap.size w w') : RdS w' b s := by
  obtain ⟨D, h1, h2⟩ := h; exact ⟨D, h1, h2.below hb⟩
theorem Rd.set0 {w : World} {b : Nat} {D E : ByteArray} {bad : Bool} (h : Rd w b D bad) : Rd (w.setCell ⟨b, 0, none⟩ (.string E)) b E bad := set_heap h 0 (.string E)
theorem Rd.set1 {w : World} {b : Nat} {D : ByteArray} {bad c : Bool} (h : Rd w b D bad) : Rd (w.setCell ⟨b, 1, none⟩ (.bool c)) b D c := set_heap h 1 (.bool c)
set_option maxRecDepth 100000 in
set_option maxHeartbeats 4000000 in
theorem rdFail_any (b : Nat) (D : ByteArray) (bad : Bool) (w : World) (h : Rd w b D bad) :
    Calls Tryz.prog 104 #[.pointer (some ⟨b, 0, none⟩)] w fun e w' => e = .returned (.tuple #[]) ∧ NB b w w' ∧ Rd w' b ⟨#[]⟩ true := by
  have hlt := heap_lt h
  have HR := Lib.hid h
  have f0 : w.frozen? ⟨b, 0, none⟩ = false := free_of_heap h 0
  have f1 : w.frozen? ⟨b, 1, none⟩ = false := free_of_heap h 1
  have c0 : w.cell? ⟨b, 0, none⟩ = some (.string D) := cell_of_heap h 0 rfl
  have c1 : w.cell? ⟨b, 1, none⟩ = some (.bool bad) := cell_of_heap h 1 rfl
  clear h
  go_enter Tryz.func104, Tryz.ntmps104
  go_wp2_with fail
  go_end0
  exact ⟨rfl, ((NB.refl b w).set 0 _).set 1 _, (Rd.set0 HR.out).set1⟩
end Go.Proofs.YtcdfmgobokjcnaaGreatDoor
/- Walks of package wire: number. -/
namespace Go.Proofs.YtcdfmgobokjcnaaGreatDoor
set_option linter.unusedSimpArgs false
set_option linter.unusedVariables false
open Go.RowKit

/-- What reading asks of the world. -/
structure EnvR (w : World) : Prop where
  syn : ∃ ev, w.cell? ⟨1, 0, none⟩ = some ev ∧ (ev = .nilIface ∨ ∃ te pe, ev = .iface te pe)
  ran : ∃ ev, w.cell? ⟨2, 0, none⟩ = some ev ∧ (ev = .nilIface ∨ ∃ te pe, ev = .iface te pe)
  pow : PowT w
theorem EnvR.below {w w' : World} (h : EnvR w) (hb : Below w.heap.size w w') : EnvR w' := by
  refine ⟨?_, ?_, h.pow.below hb⟩
  · obtain ⟨m, hm, hx⟩ := h.syn; exact ⟨m, (hb.cell (cell_block_lt hm)).trans hm, hx⟩
  · obtain ⟨m, hm, hx⟩ := h.ran; exact ⟨m, (hb.cell (cell_block_lt hm)).trans hm, hx⟩
theorem Atoi_ok (s : ByteArray) (hs : s.size ≤ 1073741824) (v : Int) (h : Lib.atoiAll (bs s) = .ok v) (w : World) :
    Calls Tryz.prog 105 #[.string s] w fun e w' => e = .returned (.tuple #[.int .i64 v, .nilIface]) ∧ Below w.heap.size w w' := by
  refine (Tryz.strconv_Atoi_ok s (by omega) v h w).mono ?_
  rintro e w' ⟨rfl, rfl | ⟨t, rfl⟩⟩
  · exact ⟨rfl, Below.refl _ _⟩
  · exact ⟨rfl, Go.Joins.below_bytesWorld _ _ _ _ (Nat.le_refl _)⟩
theorem Atoi_bad (s : ByteArray) (hs : s.size ≤ 1073741824) (h : ∀ v, Lib.atoiAll (bs s) ≠ .ok v) (w : World) (hE : EnvR w) :
    Calls Tryz.prog 105 #[.string s] w fun e w' => ∃ x N, e = .returned (.tuple #[.int .i64 x, .iface 202 (.pointer (some ⟨N, 0, none⟩))]) ∧ Below w.heap.size w w' := by
  cases hp : Lib.atoiAll (bs s) with
  | ok v => exact absurd hp (h v)
  | «syntax» =>
    obtain ⟨ev, hv, hev⟩ := hE.syn
    refine (Tryz.strconv_Atoi_syntax s (by omega) hp ev w hv hev).mono ?_
    rintro e w' ⟨N, rfl, -, -, hb⟩
    exact ⟨_, N, rfl, hb⟩
  | range =>
    obtain ⟨ev, hv, hev⟩ := hE.ran
    refine (Tryz.strconv_Atoi_range s (by omega) hp ev w hv hev).mono ?_
    rintro e w' ⟨N, rfl, -, -, hb⟩
    exact ⟨_, N, rfl, hb⟩
theorem ix_find (e : UInt8) : ∀ l : List UInt8, Lib.indexByte l e = match l.findIdx? (· == e) with | none => -1 | some k => (k : Int)
  | [] => rfl
  | a :: l => by
    rw [Lib.indexByte, List.findIdx?_cons, ix_find e l]
    by_cases ha : (a == e) = true
    · rw [if_pos ha, if_pos ha]; rfl
    · rw [if_neg ha, if_neg ha]
      cases h : l.findIdx? (· == e) with
      | none => simp
      | some k =>
        have : ¬ ((k : Int) == -1) = true := by simp
        simp only [Option.map_some, this, if_false]
        simp
theorem numS_no {e : UInt8} {least : Int} {l : List UInt8} {bad : Bool} (h : (l.take 21).findIdx? (· == e) = none) : Wr.numS e least (l, bad) = (0, Wr.fail) := by
  unfold Wr.numS Wr.numR; rw [h]
theorem numS_err {e : UInt8} {least : Int} {l : List UInt8} {bad : Bool} {k : Nat} (h : (l.take 21).findIdx? (· == e) = some k) (ha : ∀ n, Lib.atoiAll (l.take k) ≠ .ok n) : Wr.numS e least (l, bad) = (0, Wr.fail) := by
  unfold Wr.numS Wr.numR; rw [h]
  cases hp : Lib.atoiAll (l.take k) with
  | ok v => exact absurd hp (ha v)
  | «syntax» => simp [hp]
  | range => simp [hp]
theorem numS_odd {e : UInt8} {least n : Int} {l : List UInt8} {bad : Bool} {k : Nat} (h : (l.take 21).findIdx? (· == e) = some k) (ha : Lib.atoiAll (l.take k) = .ok n) (hx : ¬ (Lib.itoa n = l.take k ∧ least ≤ n)) : Wr.numS e least (l, bad) = (0, Wr.fail) := by
  unfold Wr.numS Wr.numR; rw [h]
  simp only
  rw [ha]
  simp only
  rw [if_neg hx]
theorem numS_yes {e : UInt8} {least n : Int} {l : List UInt8} {bad : Bool} {k : Nat} (h : (l.take 21).findIdx? (· == e) = some k) (ha : Lib.atoiAll (l.take k) = .ok n) (hx : Lib.itoa n = l.take k ∧ least ≤ n) : Wr.numS e least (l, bad) = (n, (l.drop (k + 1), bad)) := by
  unfold Wr.numS Wr.numR; rw [h]
  simp only
  rw [ha]
  simp only
  rw [if_pos hx]
theorem find_lt {e : UInt8} {l : List UInt8} {k : Nat} (h : (l.take 21).findIdx? (· == e) = some k) : k < 21 ∧ k < l.length := by
  have := (List.findIdx?_eq_some_iff_findIdx_eq.1 h).1
  rw [List.length_take] at this; omega
theorem toListB (s : ByteArray) : s.toList = bs s := by
  obtain ⟨⟨l⟩⟩ := s
  simp [bs]
theorem bs_upto (D : ByteArray) (n : Nat) : bs (D.extract 0 n) = (bs D).take n := by
  have h1 : bs (D.extract 0 n) = ((bs D).drop 0).take (n - 0) := Lib.extract_data D 0 n
  rwa [List.drop_zero, Nat.sub_zero] at h1
theorem bs_from (D : ByteArray) (n : Nat) : bs (D.extract n D.size) = (bs D).drop n := Lib.extract_to_end D n
set_option maxRecDepth 100000 in
set_option maxHeartbeats 16000000 in
theorem rdNumber_any (b : Nat) (e : UInt8) (ei least : Int) (hei : ei = (e.toNat : Int)) (s : Wr.St) (w : World) (h : RdS w b s) (hE : EnvR w) (hl : s.1.length ≤ 1000000000) (hle : least ≤ 0) :
    Calls Tryz.prog 58 #[.pointer (some ⟨b, 0, none⟩), .int .u8 ei, .int .i64 least] w fun r w' => r = .returned (.int .i64 (Wr.numS e least s).1) ∧ NB b w w' ∧ RdS w' b (Wr.numS e least s).2 := by
  obtain ⟨l, bad⟩ := s
  obtain ⟨D, hD, hR⟩ := h
  simp only at hD hR hl
  have hDs : D.size = l.length := by rw [← bs_len, hD]
  have hlt := heap_lt hR
  have HR := Lib.hid hR
  have HEE := Lib.hid (fun W (hb : Below w.heap.size w W) => hE.below hb)
  have f0 : w.frozen? ⟨b, 0, none⟩ = false := free_of_heap hR 0
  have c0 : w.cell? ⟨b, 0, none⟩ = some (.string D) := cell_of_heap hR 0 rfl
  obtain ⟨m, hm⟩ : ∃ m, min D.size 21 = m := ⟨_, rfl⟩
  have hm1 : m ≤ D.size := by omega
  have hm2 : m ≤ 21 := by omega
  obtain ⟨H, hH⟩ : ∃ H, D.extract 0 m = H := ⟨_, rfl⟩
  have hHb : bs H = l.take 21 := by
    rw [← hH, bs_upto, hD, ← hm, hDs]
    rcases Nat.le_total l.length 21 with h9 | h9
    · rw [Nat.min_eq_left h9, List.take_of_length_le (Nat.le_refl _), List.take_of_length_le h9]
    · rw [Nat.min_eq_right h9]
  have hHs : H.size = m := by rw [← bs_len, hHb, List.length_take]; omega
  have HIX : Hid (∀ w, Calls Tryz.prog 103 #[.string H, .int .u8 ei] w fun e' w' => e' = .returned (.int .i64 (match (l.take 21).findIdx? (· == e) with | none => -1 | some k => (k : Int))) ∧ w' = w) := Lib.hid (fun w => by
    have h1 := Tryz.strings_IndexByte H ei w
    rw [show H.data.toList = bs H from rfl, hHb, show ei.toNat.toUInt8 = e by rw [hei]; simp, ix_find] at h1
    exact h1)
  have hmin : min ((D.size : Nat) : Int) 21 = (m : Int) := by omega
  have m0 : (0 : Int) ≤ (m : Int) := by omega
  have m1 : (m : Int) ≤ (D.size : Int) := by omega
  have HDD := Lib.hid hD
  have HHB := Lib.hid hHb
  have HMM := Lib.hid hm
  have HDs := Lib.hid hDs
  obtain ⟨X, hX⟩ : ∃ X, Wr.numS e least (l, bad) = X := ⟨_, rfl⟩
  rw [hX]
  have HXX := Lib.hid hX
  clear hD hHb hei hE hR hDs hm hX
  go_enter Tryz.func58, Tryz.ntmps58
  go_upto_region 1 with fail
  refine wp_region_held_drew (S := fun W' => W'.cell? ⟨b, 0, none⟩ = some (.string D)) (by kernel_rfl) c0 (fun hHeld => ?_)
  obtain ⟨w1, hwx⟩ : ∃ W, W = w.drew := ⟨_, rfl⟩
  rw [← hwx] at hHeld ⊢
  have B1 : Hid (Below w.heap.size w w1) := Lib.hid (by subst hwx; exact ⟨rfl, rfl, rfl, Nat.le_refl _, fun _ _ => rfl⟩)
  clear hwx
  refine wpAnyH_take (i := 0) (oi := _) (v := ?_) rfl (by kernel_rfl) (by kernel_rfl) (by kernel_rfl) (fun _ _ _ h => h) (Or.inl ⟨by rfl, ?_⟩) (by assumption) ?_
  rotate_left
  · intro w k0; go_simp; all_goals (with_reducible rfl)
  try simp only [Act.put, List.getElem_toArray, List.getElem_cons_zero, List.getElem_cons_succ, List.setIfInBounds_toArray, List.set_cons_zero, List.set_cons_succ]
  refine wpAnyH_take (i := 1) (oi := _) (v := ?_) rfl (by kernel_rfl) (by kernel_rfl) (by kernel_rfl) (fun _ _ _ h => h) (Or.inl ⟨by rfl, ?_⟩) (by assumption) ?_
  rotate_left
  · intro w k0; go_simp; all_goals (with_reducible rfl)
  try simp only [Act.put, List.getElem_toArray, List.getElem_cons_zero, List.getElem_cons_succ, List.setIfInBounds_toArray, List.set_cons_zero, List.set_cons_succ]
  refine wpAnyH_take (i := 2) (oi := _) (v := ?_) rfl (by kernel_rfl) (by kernel_rfl) (by kernel_rfl) (fun _ _ _ h => h) (Or.inl ⟨by rfl, ?_⟩) (by assumption) ?_
  rotate_left
  · intro w k0; go_simp; all_goals (with_reducible rfl)
  try simp only [Act.put, List.getElem_toArray, List.getElem_cons_zero, List.getElem_cons_succ, List.setIfInBounds_toArray, List.set_cons_zero, List.set_cons_succ]
  refine wpAnyH_take (i := 3) (oi := _) (v := ?_) rfl (by kernel_rfl) (by kernel_rfl) (by kernel_rfl) (fun _ _ _ h => h) (Or.inl ⟨by rfl, ?_⟩) (by assumption) ?_
  rotate_left
  · intro w k0; go_simp; all_goals (with_reducible rfl)
  try simp only [Act.put, List.getElem_toArray, List.getElem_cons_zero, List.getElem_cons_succ, List.setIfInBounds_toArray, List.set_cons_zero, List.set_cons_succ]
  refine wpAnyH_take (i := 4) (oi := _) (v := ?_) rfl (by kernel_rfl) (by kernel_rfl) (by kernel_rfl) (fun _ _ _ h => h) (Or.inl ⟨by rfl, ?_⟩) (by assumption) ?_
  rotate_left
  · intro w k0; go_simp; all_goals (with_reducible rfl)
  try simp only [Act.put, List.getElem_toArray, List.getElem_cons_zero, List.getElem_cons_succ, List.setIfInBounds_toArray, List.set_cons_zero, List.set_cons_succ]
  refine wpAnyH_take (i := 5) (oi := _) (v := ?_) rfl (by kernel_rfl) (by kernel_rfl) (by kernel_rfl) (fun _ _ _ h => h) (Or.inl ⟨by rfl, ?_⟩) (by assumption) ?_
  rotate_left
  · intro w k0; go_simp; all_goals (with_reducible rfl)
  try simp only [Act.put, List.getElem_toArray, List.getElem_cons_zero, List.getElem_cons_succ, List.setIfInBounds_toArray, List.set_cons_zero, List.set_cons_succ]
  refine wpAnyH_take (i := 6) (oi := _) (v := ?_) rfl (by kernel_rfl) (by kernel_rfl) (by kernel_rfl) (fun _ _ _ h => h) (Or.inl ⟨by rfl, ?_⟩) (by assumption) ?_
  rotate_left
  · intro w k0; go_simp; all_goals (with_reducible rfl)
  try simp only [Act.put, List.getElem_toArray, List.getElem_cons_zero, List.getElem_cons_succ, List.setIfInBounds_toArray, List.set_cons_zero, List.set_cons_succ]
  refine wpAnyH_take (i := 7) (oi := _) (v := ?_) rfl (by kernel_rfl) (by kernel_rfl) (by kernel_rfl) (fun _ _ _ h => h) (Or.inl ⟨by rfl, ?_⟩) (by assumption) ?_
  rotate_left
  · intro w k0; go_simp; all_goals (with_reducible rfl)
  try simp only [Act.put, List.getElem_toArray, List.getElem_cons_zero, List.getElem_cons_succ, List.setIfInBounds_toArray, List.set_cons_zero, List.set_cons_succ]
  refine wpAnyH_take (i := 8) (oi := _) (v := ?_) rfl (by kernel_rfl) (by kernel_rfl) (by kernel_rfl) (fun _ _ _ h => h) (Or.inl ⟨by rfl, ?_⟩) (by assumption) ?_
  rotate_left
  · intro w k0; go_simp; all_goals (with_reducible rfl)
  try simp only [Act.put, List.getElem_toArray, List.getElem_cons_zero, List.getElem_cons_succ, List.setIfInBounds_toArray, List.set_cons_zero, List.set_cons_succ]
  refine wpAnyH_take (i := 9) (oi := _) (v := ?_) rfl (by kernel_rfl) (by kernel_rfl) (by kernel_rfl) (fun _ _ _ h => h) (Or.inl ⟨by rfl, ?_⟩) (by assumption) ?_
  rotate_left
  · intro w k0; go_simp; all_goals (with_reducible rfl)
  try simp only [Act.put, List.getElem_toArray, List.getElem_cons_zero, List.getElem_cons_succ, List.setIfInBounds_toArray, List.set_cons_zero, List.set_cons_succ]
  refine wpAnyH_take (i := 10) (oi := _) (v := ?_) rfl (by kernel_rfl) (by kernel_rfl) (by kernel_rfl) (fun _ _ _ h => h) (Or.inl ⟨by rfl, ?_⟩) (by assumption) ?_
  rotate_left
  · intro w k0; go_simp; all_goals (with_reducible rfl)
  try simp only [Act.put, List.getElem_toArray, List.getElem_cons_zero, List.getElem_cons_succ, List.setIfInBounds_toArray, List.set_cons_zero, List.set_cons_succ]
  refine wpAnyH_take (i := 11) (oi := _) (v := ?_) rfl (by kernel_rfl) (by kernel_rfl) (by kernel_rfl) (fun _ _ _ h => h) (Or.inl ⟨by rfl, ?_⟩) (by assumption) ?_
  rotate_left
  · intro w k0; go_simp; all_goals (with_reducible rfl)
  try simp only [Act.put, List.getElem_toArray, List.getElem_cons_zero, List.getElem_cons_succ, List.setIfInBounds_toArray, List.set_cons_zero, List.set_cons_succ]
  refine wpAnyH_done (by kernel_rfl) ?_ _
  have R1 : Hid (Rd w1 b D bad) := Lib.hid (HR.out.below B1.out)
  clear hHeld hH hmin c0 f0
  obtain ⟨F, hF⟩ : ∃ F, (l.take 21).findIdx? (· == e) = F := ⟨_, rfl⟩
  rw [hF] at HIX
  cases F with
  | none =>
    have hX := HXX.out.symm.trans (numS_no (least := least) (bad := bad) hF)
    subst hX
    simp only at HIX
    clear hF HXX
    go_wp2_with fail
    go_at_call 103; refine (HIX.out _).mono ?_; rintro e w2 ⟨rfl, rfl⟩
    go_wp2_with fail
    go_at_call 104; refine (rdFail_any b D bad _ R1.out).mono ?_; rintro e w3 ⟨rfl, n3, r3⟩
    go_wp2_with fail
    go_ret
    exact ⟨rfl, (NB.of_below B1.out).trans n3, ⟨_, rfl, r3⟩⟩
  | some k =>
    simp only at HIX
    obtain ⟨k1, k2⟩ := find_lt hF
    have kD : k < D.size := by rw [HDs.out]; exact k2
    have kH : k ≤ H.size := by
      have h1 : min D.size 21 = m := HMM.out
      omega
    have km : k ≤ m := by omega
    obtain ⟨K, hK⟩ : ∃ K, H.extract 0 k = K := ⟨_, rfl⟩
    have hKb : bs K = l.take k := by rw [← hK, bs_upto, HHB.out, List.take_take, Nat.min_eq_left (by omega)]
    have hKs : K.size ≤ 1073741824 := by rw [← bs_len, hKb, List.length_take]; omega
    have kk0 : (0 : Int) ≤ (k : Int) := by omega
    have kk1 : (k : Int) ≤ (H.size : Int) := by omega
    have kk9 : ¬ (k : Int) < 0 := by omega
    have XE := Lib.hid (fun h => HXX.out.symm.trans (numS_err (least := least) (bad := bad) hF h))
    have XO := Lib.hid (fun n h1 h2 => HXX.out.symm.trans (numS_odd (n := n) (least := least) (bad := bad) hF h1 h2))
    have XY := Lib.hid (fun n h1 h2 => HXX.out.symm.trans (numS_yes (n := n) (least := least) (bad := bad) hF h1 h2))
    clear hF HXX
    by_cases hok : ∃ n, Lib.atoiAll (l.take k) = .ok n
    case neg =>
      have hno : ∀ v, Lib.atoiAll (bs K) ≠ .ok v := fun v h => hok ⟨v, by rw [← hKb]; exact h⟩
      have HAT := Lib.hid (Atoi_bad K hKs hno w1 (HEE.out w1 B1.out))
      have hXX := XE.out (fun n h => hok ⟨n, h⟩)
      subst hXX
      clear hok hno XE XO XY hKb
      go_wp2_with fail
      go_at_call 103; refine (HIX.out _).mono ?_; rintro e w2 ⟨rfl, rfl⟩
      go_wp2_with fail
      go_at_call 105; refine HAT.out.mono ?_; rintro e w3 ⟨x, N, rfl, b3⟩
      have B3 := Lib.hid (B1.out.trans (b3.mono B1.out.size))
      have R3 := Lib.hid (R1.out.below b3)
      clear b3 HAT HIX
      go_wp2_with fail
      go_quiet (fail)
      go_wp2_with fail
      go_at_call 104; refine (rdFail_any b D bad _ (R3.out.below (below_drewN _ _ _))).mono ?_; rintro e w4 ⟨rfl, n4, r4⟩
      go_wp2_with fail
      go_ret
      exact ⟨rfl, ((NB.of_below B3.out).then (below_drewN _ _ _)).trans n4, ⟨_, rfl, r4⟩⟩
    case pos =>
      obtain ⟨n, hok⟩ := hok
      have HAT := Lib.hid (Atoi_ok K hKs n (by rw [hKb]; exact hok) w1)
      have h64 : Wr.I64 n := Lib.atoiAll_bounds hok
      have XO' := Lib.hid (XO.out n hok)
      have XY' := Lib.hid (XY.out n hok)
      have HIT := Lib.hid (fun W (hb : Below w.heap.size w W) => Itoa_any n h64 W (HEE.out W hb).pow)
      have HKB := Lib.hid hKb
      clear hok XE XO XY h64 hKb
      go_wp2_with fail
      go_at_call 103; refine (HIX.out _).mono ?_; rintro e w2 ⟨rfl, rfl⟩
      go_wp2_with fail
      go_at_call 105; refine HAT.out.mono ?_; rintro e w3 ⟨rfl, b3⟩
      have B3 := Lib.hid (B1.out.trans (b3.mono B1.out.size))
      have R3 := Lib.hid (R1.out.below b3)
      clear b3 HAT HIX
      go_upto_region 7 with fail
      refine wp_region_held_drew (S := fun _ => True) (by kernel_rfl) trivial (fun hHeld => ?_)
      obtain ⟨w4, hwx⟩ : ∃ W, W = w3.drew := ⟨_, rfl⟩
      rw [← hwx]
      have b4 : Below w3.heap.size w3 w4 := by subst hwx; exact ⟨rfl, rfl, rfl, Nat.le_refl _, fun _ _ => rfl⟩
      have B4 := Lib.hid (B3.out.trans (b4.mono B3.out.size))
      have R4 := Lib.hid (R3.out.below b4)
      clear hwx b4
      refine wpAnyH_take (i := 0) (oi := _) (v := ?_) rfl (by kernel_rfl) (by kernel_rfl) (by kernel_rfl) (fun _ _ _ h => h) (Or.inl ⟨by rfl, ?_⟩) (by assumption) ?_
      rotate_left
      · intro w k0; go_simp; all_goals (with_reducible rfl)
      try simp only [Act.put, List.getElem_toArray, List.getElem_cons_zero, List.getElem_cons_succ, List.setIfInBounds_toArray, List.set_cons_zero, List.set_cons_succ]
      refine wpAnyH_take (i := 1) (oi := _) (v := ?_) rfl (by kernel_rfl) (by kernel_rfl) (by kernel_rfl) (fun _ _ _ h => h) (Or.inl ⟨by rfl, ?_⟩) (by assumption) ?_
      rotate_left
      · intro w k0; go_simp; all_goals (with_reducible rfl)
      try simp only [Act.put, List.getElem_toArray, List.getElem_cons_zero, List.getElem_cons_succ, List.setIfInBounds_toArray, List.set_cons_zero, List.set_cons_succ]
      refine wpAnyH_take (i := 2) (oi := _) (v := ?_) rfl (by kernel_rfl) (by kernel_rfl) (by kernel_rfl) (fun _ _ _ h => h) (Or.inl ⟨by rfl, ?_⟩) (by assumption) ?_
      rotate_left
      · intro w k0; go_simp; all_goals (with_reducible rfl)
      try simp only [Act.put, List.getElem_toArray, List.getElem_cons_zero, List.getElem_cons_succ, List.setIfInBounds_toArray, List.set_cons_zero, List.set_cons_succ]
      refine wpAnyH_take (i := 3) (oi := _) (v := ?_) rfl (by kernel_rfl) (by kernel_rfl) (by kernel_rfl) (fun _ _ _ h => h) (Or.inl ⟨by rfl, ?_⟩) (by assumption) ?_
      rotate_left
      · intro w k0; go_simp; all_goals (with_reducible rfl)
      try simp only [Act.put, List.getElem_toArray, List.getElem_cons_zero, List.getElem_cons_succ, List.setIfInBounds_toArray, List.set_cons_zero, List.set_cons_succ]
      refine wpAnyH_take (i := 5) (oi := _) (v := ?_) rfl (by kernel_rfl) (by kernel_rfl) (by kernel_rfl) (fun _ _ _ h => h) (Or.inl ⟨by rfl, ?_⟩) (by assumption) ?_
      rotate_left
      · intro w k0; go_simp; all_goals (with_reducible rfl)
      try simp only [Act.put, List.getElem_toArray, List.getElem_cons_zero, List.getElem_cons_succ, List.setIfInBounds_toArray, List.set_cons_zero, List.set_cons_succ]
      refine wpAnyH_take (i := 6) (oi := _) (v := ?_) rfl (by kernel_rfl) (by kernel_rfl) (by kernel_rfl) (fun _ _ _ h => h) (Or.inl ⟨by rfl, ?_⟩) (by assumption) ?_
      rotate_left
      · intro w k0; go_simp; all_goals (with_reducible rfl)
      try simp only [Act.put, List.getElem_toArray, List.getElem_cons_zero, List.getElem_cons_succ, List.setIfInBounds_toArray, List.set_cons_zero, List.set_cons_succ]
      refine wpAnyH_take (i := 7) (oi := _) (v := ?_) rfl (by kernel_rfl) (by kernel_rfl) (by kernel_rfl) (fun _ _ _ h => h) (Or.inl ⟨by rfl, ?_⟩) (by assumption) ?_
      rotate_left
      · intro w k0; go_simp; all_goals (with_reducible rfl)
      try simp only [Act.put, List.getElem_toArray, List.getElem_cons_zero, List.getElem_cons_succ, List.setIfInBounds_toArray, List.set_cons_zero, List.set_cons_succ]
      refine wpAnyH_ready (rs := [4]) (by kernel_rfl) (by simp) ?_
      refine AllReadyH.cons (o := _) rfl (fun K9 hK9 => ?_) AllReadyH.nil
      go_simp
      go_at_call 66; refine (HIT.out _ B4.out).mono ?_; rintro e w5 ⟨E, hE, hEs, rfl, b5⟩
      have B5 := Lib.hid (B4.out.trans (b5.mono B4.out.size))
      have R5 := Lib.hid (R4.out.below b5)
      clear b5
      go_wp2_with fail
      refine hK9.out _ _ trivial (fun hHeld => ?_)
      clear hK9 K9
      try simp only [Act.put, List.getElem_toArray, List.getElem_cons_zero, List.getElem_cons_succ, List.setIfInBounds_toArray, List.set_cons_zero, List.set_cons_succ]
      by_cases heq : Lib.itoa n = l.take k
      case neg =>
        have hq : (E.toList == K.toList) = false := by
          rw [toListB, toListB, hE, HKB.out]; exact beq_eq_false_iff_ne.2 heq
        have hX := XO'.out (fun h => heq h.1)
        subst hX
        clear XO' XY' heq hE
        refine wpAnyH_take (i := 8) (oi := _) (v := ?_) rfl (by kernel_rfl) (by kernel_rfl) (by kernel_rfl) (fun _ _ _ h => h) (Or.inl ⟨by rfl, ?_⟩) (by assumption) ?_
        rotate_left
        · intro w k0; go_simp; all_goals (with_reducible rfl)
        try simp only [Act.put, List.getElem_toArray, List.getElem_cons_zero, List.getElem_cons_succ, List.setIfInBounds_toArray, List.set_cons_zero, List.set_cons_succ]
        refine wpAnyH_take (i := 9) (oi := _) (v := ?_) rfl (by kernel_rfl) (by kernel_rfl) (by kernel_rfl) (fun _ _ _ h => h) (Or.inl ⟨by rfl, ?_⟩) (by assumption) ?_
        rotate_left
        · intro w k0; go_simp; all_goals (with_reducible rfl)
        try simp only [Act.put, List.getElem_toArray, List.getElem_cons_zero, List.getElem_cons_succ, List.setIfInBounds_toArray, List.set_cons_zero, List.set_cons_succ]
        refine wpAnyH_take (i := 10) (oi := _) (v := ?_) rfl (by kernel_rfl) (by kernel_rfl) (by kernel_rfl) (fun _ _ _ h => h) (Or.inl ⟨by rfl, ?_⟩) (by assumption) ?_
        rotate_left
        · intro w k0; go_simp; all_goals (with_reducible rfl)
        try simp only [Act.put, List.getElem_toArray, List.getElem_cons_zero, List.getElem_cons_succ, List.setIfInBounds_toArray, List.set_cons_zero, List.set_cons_succ]
        refine wpAnyH_take (i := 11) (oi := _) (v := undef) rfl (by kernel_rfl) (by kernel_rfl) (by kernel_rfl) (fun _ _ _ h => h) (Or.inr ⟨by rfl, rfl⟩) (by assumption) ?_
        try simp only [Act.put, List.getElem_toArray, List.getElem_cons_zero, List.getElem_cons_succ, List.setIfInBounds_toArray, List.set_cons_zero, List.set_cons_succ]
        refine wpAnyH_take (i := 12) (oi := _) (v := undef) rfl (by kernel_rfl) (by kernel_rfl) (by kernel_rfl) (fun _ _ _ h => h) (Or.inr ⟨by rfl, rfl⟩) (by assumption) ?_
        try simp only [Act.put, List.getElem_toArray, List.getElem_cons_zero, List.getElem_cons_succ, List.setIfInBounds_toArray, List.set_cons_zero, List.set_cons_succ]
        refine wpAnyH_take (i := 13) (oi := _) (v := undef) rfl (by kernel_rfl) (by kernel_rfl) (by kernel_rfl) (fun _ _ _ h => h) (Or.inr ⟨by rfl, rfl⟩) (by assumption) ?_
        try simp only [Act.put, List.getElem_toArray, List.getElem_cons_zero, List.getElem_cons_succ, List.setIfInBounds_toArray, List.set_cons_zero, List.set_cons_succ]
        refine wpAnyH_take (i := 14) (oi := _) (v := ?_) rfl (by kernel_rfl) (by kernel_rfl) (by kernel_rfl) (fun _ _ _ h => h) (Or.inl ⟨by rfl, ?_⟩) (by assumption) ?_
        rotate_left
        · intro w k0; go_simp; all_goals (with_reducible rfl)
        try simp only [Act.put, List.getElem_toArray, List.getElem_cons_zero, List.getElem_cons_succ, List.setIfInBounds_toArray, List.set_cons_zero, List.set_cons_succ]
        refine wpAnyH_done (by kernel_rfl) ?_ _
        go_wp2_with fail
        go_at_call 104; refine (rdFail_any b D bad _ R5.out).mono ?_; rintro e w6 ⟨rfl, n6, r6⟩
        go_wp2_with fail
        go_ret
        exact ⟨rfl, (NB.of_below B5.out).trans n6, ⟨_, rfl, r6⟩⟩
      case pos =>
        have hEK : E = K := bs_inj (hE.trans (heq.trans HKB.out.symm))
        subst hEK
        refine wpAnyH_take (i := 8) (oi := _) (v := ?_) rfl (by kernel_rfl) (by kernel_rfl) (by kernel_rfl) (fun _ _ _ h => h) (Or.inl ⟨by rfl, ?_⟩) (by assumption) ?_
        rotate_left
        · intro w k0; go_simp; all_goals (with_reducible rfl)
        try simp only [Act.put, List.getElem_toArray, List.getElem_cons_zero, List.getElem_cons_succ, List.setIfInBounds_toArray, List.set_cons_zero, List.set_cons_succ]
        try simp only [bne_self_eq_false]
        refine wpAnyH_take (i := 9) (oi := _) (v := ?_) rfl (by kernel_rfl) (by kernel_rfl) (by kernel_rfl) (fun _ _ _ h => h) (Or.inl ⟨by rfl, ?_⟩) (by assumption) ?_
        rotate_left
        · intro w k0; go_simp; all_goals (with_reducible rfl)
        try simp only [Act.put, List.getElem_toArray, List.getElem_cons_zero, List.getElem_cons_succ, List.setIfInBounds_toArray, List.set_cons_zero, List.set_cons_succ]
        refine wpAnyH_take (i := 10) (oi := _) (v := ?_) rfl (by kernel_rfl) (by kernel_rfl) (by kernel_rfl) (fun _ _ _ h => h) (Or.inl ⟨by rfl, ?_⟩) (by assumption) ?_
        rotate_left
        · intro w k0; go_simp; all_goals (with_reducible rfl)
        try simp only [Act.put, List.getElem_toArray, List.getElem_cons_zero, List.getElem_cons_succ, List.setIfInBounds_toArray, List.set_cons_zero, List.set_cons_succ]
        by_cases hle9 : n < least
        · have hX := XO'.out (fun h => by omega)
          subst hX
          clear XO' XY' heq hE
          refine wpAnyH_take (i := 11) (oi := _) (v := ?_) rfl (by kernel_rfl) (by kernel_rfl) (by kernel_rfl) (fun _ _ _ h => h) (Or.inl ⟨by rfl, ?_⟩) (by assumption) ?_
          rotate_left
          · intro w k0; go_simp; all_goals (with_reducible rfl)
          try simp only [Act.put, List.getElem_toArray, List.getElem_cons_zero, List.getElem_cons_succ, List.setIfInBounds_toArray, List.set_cons_zero, List.set_cons_succ]
          refine wpAnyH_take (i := 12) (oi := _) (v := ?_) rfl (by kernel_rfl) (by kernel_rfl) (by kernel_rfl) (fun _ _ _ h => h) (Or.inl ⟨by rfl, ?_⟩) (by assumption) ?_
          rotate_left
          · intro w k0; go_simp; all_goals (with_reducible rfl)
          try simp only [Act.put, List.getElem_toArray, List.getElem_cons_zero, List.getElem_cons_succ, List.setIfInBounds_toArray, List.set_cons_zero, List.set_cons_succ]
          refine wpAnyH_take (i := 13) (oi := _) (v := ?_) rfl (by kernel_rfl) (by kernel_rfl) (by kernel_rfl) (fun _ _ _ h => h) (Or.inl ⟨by rfl, ?_⟩) (by assumption) ?_
          rotate_left
          · intro w k0; go_simp; all_goals (with_reducible rfl)
          try simp only [Act.put, List.getElem_toArray, List.getElem_cons_zero, List.getElem_cons_succ, List.setIfInBounds_toArray, List.set_cons_zero, List.set_cons_succ]
          refine wpAnyH_take (i := 14) (oi := _) (v := ?_) rfl (by kernel_rfl) (by kernel_rfl) (by kernel_rfl) (fun _ _ _ h => h) (Or.inl ⟨by rfl, ?_⟩) (by assumption) ?_
          rotate_left
          · intro w k0; go_simp; all_goals (with_reducible rfl)
          try simp only [Act.put, List.getElem_toArray, List.getElem_cons_zero, List.getElem_cons_succ, List.setIfInBounds_toArray, List.set_cons_zero, List.set_cons_succ]
          refine wpAnyH_done (by kernel_rfl) ?_ _
          go_wp2_with fail
          go_at_call 104; refine (rdFail_any b D bad _ R5.out).mono ?_; rintro e w6 ⟨rfl, n6, r6⟩
          go_wp2_with fail
          go_ret
          exact ⟨rfl, (NB.of_below B5.out).trans n6, ⟨_, rfl, r6⟩⟩
        · have hX := XY'.out ⟨heq, by omega⟩
          subst hX
          clear XO' XY' heq hE
          refine wpAnyH_take (i := 11) (oi := _) (v := ?_) rfl (by kernel_rfl) (by kernel_rfl) (by kernel_rfl) (fun _ _ _ h => h) (Or.inl ⟨by rfl, ?_⟩) (by assumption) ?_
          rotate_left
          · intro w k0; go_simp; all_goals (with_reducible rfl)
          try simp only [Act.put, List.getElem_toArray, List.getElem_cons_zero, List.getElem_cons_succ, List.setIfInBounds_toArray, List.set_cons_zero, List.set_cons_succ]
          refine wpAnyH_take (i := 12) (oi := _) (v := ?_) rfl (by kernel_rfl) (by kernel_rfl) (by kernel_rfl) (fun _ _ _ h => h) (Or.inl ⟨by rfl, ?_⟩) (by assumption) ?_
          rotate_left
          · intro w k0; go_simp; all_goals (with_reducible rfl)
          try simp only [Act.put, List.getElem_toArray, List.getElem_cons_zero, List.getElem_cons_succ, List.setIfInBounds_toArray, List.set_cons_zero, List.set_cons_succ]
          refine wpAnyH_take (i := 13) (oi := _) (v := ?_) rfl (by kernel_rfl) (by kernel_rfl) (by kernel_rfl) (fun _ _ _ h => h) (Or.inl ⟨by rfl, ?_⟩) (by assumption) ?_
          rotate_left
          · intro w k0; go_simp; all_goals (with_reducible rfl)
          try simp only [Act.put, List.getElem_toArray, List.getElem_cons_zero, List.getElem_cons_succ, List.setIfInBounds_toArray, List.set_cons_zero, List.set_cons_succ]
          refine wpAnyH_take (i := 14) (oi := _) (v := ?_) rfl (by kernel_rfl) (by kernel_rfl) (by kernel_rfl) (fun _ _ _ h => h) (Or.inl ⟨by rfl, ?_⟩) (by assumption) ?_
          rotate_left
          · intro w k0; go_simp; all_goals (with_reducible rfl)
          try simp only [Act.put, List.getElem_toArray, List.getElem_cons_zero, List.getElem_cons_succ, List.setIfInBounds_toArray, List.set_cons_zero, List.set_cons_succ]
          refine wpAnyH_done (by kernel_rfl) ?_ _
          have c0 : w5.cell? ⟨b, 0, none⟩ = some (.string D) := cell_of_heap R5.out 0 rfl
          have f0 : w5.frozen? ⟨b, 0, none⟩ = false := free_of_heap R5.out 0
          have hb5 := heap_lt R5.out
          have kd1 : (k : Int) + 1 ≤ (D.size : Int) := by omega
          have kd0 : (0 : Int) ≤ (k : Int) + 1 := by omega
          have kd2 : ((k : Int) + 1).toNat = k + 1 := by omega
          go_wp2_with fail
          go_ret
          exact ⟨rfl, (NB.of_below B5.out).set 0 _, ⟨_, by rw [bs_from, HDD.out], R5.out.set0⟩⟩
end Go.Proofs.YtcdfmgobokjcnaaGreatDoor
/- Walks of package wire: Open, Int, Num, Left, Done, Text. -/
namespace Go.Proofs.YtcdfmgobokjcnaaGreatDoor
set_option linter.unusedSimpArgs false
set_option linter.unusedVariables false
open Go.RowKit

set_option maxRecDepth 100000 in
set_option maxHeartbeats 4000000 in
theorem rdOpen_any (D : ByteArray) (w : World) :
    Calls Tryz.prog 29 #[.string D] w fun e w' => e = .returned (.pointer (some ⟨w.heap.size, 0, none⟩)) ∧ Below w.heap.size w w' ∧ w.heap.size < w'.heap.size ∧ Rd w' w.heap.size D false := by
  have H0 := Lib.hid (heap_alloc_new w (.cells #[.string D, .bool false] 95))
  have B0 : Hid (Below w.heap.size w (w.alloc (.cells #[.string D, .bool false] 95))) := Lib.hid ((Below.refl _ w).alloc (Nat.le_refl _) _)
  go_enter Tryz.func29, Tryz.ntmps29
  go_wp2_with fail
  go_ret
  exact ⟨rfl, B0.out, heap_lt H0.out, H0.out⟩
set_option maxRecDepth 100000 in
set_option maxHeartbeats 4000000 in
theorem rdInt_any (b : Nat) (s : Wr.St) (w : World) (h : RdS w b s) (hE : EnvR w) (hl : s.1.length ≤ 1000000000) :
    Calls Tryz.prog 30 #[.pointer (some ⟨b, 0, none⟩)] w fun r w' => r = .returned (.int .i64 (Wr.intS s).1) ∧ NB b w w' ∧ RdS w' b (Wr.intS s).2 := by
  have HC := Lib.hid (rdNumber_any b 59 59 (-9223372036854775808) rfl s w h hE hl (by omega))
  unfold Wr.intS
  clear h hE hl
  go_enter Tryz.func30, Tryz.ntmps30
  go_wp2_with fail
  go_at_call 58; refine HC.out.mono ?_; rintro e w1 ⟨rfl, n1, r1⟩
  go_wp2_with fail
  go_ret
  exact ⟨rfl, n1, r1⟩
set_option maxRecDepth 100000 in
set_option maxHeartbeats 4000000 in
theorem rdDone_any (b : Nat) (s : Wr.St) (w : World) (h : RdS w b s) :
    Calls Tryz.prog 31 #[.pointer (some ⟨b, 0, none⟩)] w fun r w' => r = .returned (.bool (decide (s = ([], false)))) ∧ w' = w := by
  obtain ⟨l, bad⟩ := s
  obtain ⟨D, hD, hR⟩ := h
  simp only at hD hR
  have c0 : w.cell? ⟨b, 0, none⟩ = some (.string D) := cell_of_heap hR 0 rfl
  have c1 : w.cell? ⟨b, 1, none⟩ = some (.bool bad) := cell_of_heap hR 1 rfl
  cases bad with
  | true =>
    rw [show decide ((l, true) = (([], false) : Wr.St)) = false by simp]
    clear hD hR
    go_enter Tryz.func31, Tryz.ntmps31
    go_wp2_with fail
    go_ret
    exact ⟨rfl, rfl⟩
  | false =>
    obtain ⟨x, hx⟩ : ∃ x, (D.toList == []) = x := ⟨_, rfl⟩
    have hd : decide ((l, false) = (([], false) : Wr.St)) = x := by
      rw [← hx, ← hD]
      have : D.toList = bs D := by
        obtain ⟨⟨m⟩⟩ := D
        simp [bs]
      rw [this]
      cases bs D <;> simp
    rw [hd]
    clear hD hR hd
    go_enter Tryz.func31, Tryz.ntmps31
    go_wp2_with fail
    go_ret
    exact ⟨rfl, rfl⟩
end Go.Proofs.YtcdfmgobokjcnaaGreatDoor
