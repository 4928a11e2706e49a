/- What the walks of package text ask of the world, and Int, Decimal, Lines, Fields. -/
import Derived.Test.YtdjiimblfhbcjaaDoorTxB
import Derived.Test.YtdjiimblfhbcjaaDoorQu
import Derived.WalkSmall
import Derived.ChangeBears2
import Derived.Lib.SmallJoins
namespace Go.Proofs.YtdjiimblfhbcjaaDoor
set_option linter.unusedSimpArgs false
open Go.RowKit

theorem Tryd.gMax : Tryd.prog.globalNamed "internal/bytealg.MaxLen" = some 0 := by kernel_rfl
theorem Tryd.gSyn : Tryd.prog.globalNamed "strconv.ErrSyntax" = some 1 := by kernel_rfl
theorem Tryd.gRan : Tryd.prog.globalNamed "strconv.ErrRange" = some 2 := by kernel_rfl
theorem Tryd.gPow : Tryd.prog.globalNamed "internal/strconv.uint64pow10" = some 3 := by kernel_rfl
structure Env (w : World) : Prop where
  mx : ∃ m, w.cell? ⟨0, 0, none⟩ = some (.int .i64 m)
  syn : ∃ ev, w.cell? ⟨1, 0, none⟩ = some ev ∧ (ev = .nilIface ∨ ∃ te pe, ev = .iface te pe)
  ran : ∃ ev, w.cell? ⟨2, 0, none⟩ = some ev ∧ (ev = .nilIface ∨ ∃ te pe, ev = .iface te pe)
  pow : Lib.TabIs Tryd.prog w "internal/strconv.uint64pow10" .u64 Lib.pow10Tab
theorem cell_lt {w : World} {a : Addr} {v : Value} (h : w.cell? a = some v) : a.block < w.heap.size := by
  rcases Nat.lt_or_ge a.block w.heap.size with h' | h'
  · exact h'
  · simp [World.cell?, Array.getElem?_eq_none h'] at h
theorem Env.below {w w' : World} (h : Env w) (hb : Below w.heap.size w w') : Env w' := by
  refine ⟨?_, ?_, ?_, ?_⟩
  · obtain ⟨m, hm⟩ := h.mx; exact ⟨m, (hb.cell (cell_lt hm)).trans hm⟩
  · obtain ⟨m, hm, hx⟩ := h.syn; exact ⟨m, (hb.cell (cell_lt hm)).trans hm, hx⟩
  · obtain ⟨m, hm, hx⟩ := h.ran; exact ⟨m, (hb.cell (cell_lt hm)).trans hm, hx⟩
  · have h0 : w.cell? ⟨3, 0, none⟩ = some (.int .u64 1) := by
      rw [World.var?_cell Tryd.gPow h.pow 0]; rfl
    exact var?_below hb Tryd.gPow (cell_lt h0) h.pow
theorem Env.drewN {w : World} (h : Env w) (k : Nat) : Env (w.drewN k) := h.below ⟨rfl, rfl, rfl, Nat.le_refl _, fun _ _ => rfl⟩

theorem below_drewN (B : Nat) (w : World) (k : Nat) : Below B w (w.drewN k) := ⟨rfl, rfl, rfl, Nat.le_refl _, fun _ _ => rfl⟩
theorem below_grow (w : World) (os : Array Obj) : Below w.heap.size w (Go.Sort.grow w os) :=
  ⟨rfl, rfl, rfl, by simp [Go.Sort.grow], fun k hk => by simp [Go.Sort.grow, Array.getElem?_append_left hk]⟩

theorem FormatInt_b (n : Int) (h0 : -9223372036854775808 ≤ n) (h1 : n ≤ 9223372036854775807) (w : World) (hE : Env w) :
    Calls Tryd.prog 55 #[.int .i64 n, .int .i64 10] w fun e w' => e = .returned (.string ⟨(Lib.itoa n).toArray⟩) ∧ Below w.heap.size w w' := by
  refine (Tryd.strconv_FormatInt_10 n h0 h1 w hE.pow).mono ?_
  rintro e w' ⟨rfl, k, os, rfl⟩
  exact ⟨rfl, (below_drewN _ _ _).trans (below_grow (w.drewN k) os)⟩

set_option maxHeartbeats 4000000 in
theorem Decimal_any (n : Int) (h0 : -9223372036854775808 ≤ n) (h1 : n ≤ 9223372036854775807) (w : World) (hE : Env w) :
    Calls Tryd.prog 21 #[.int .i64 n] w fun e w' => e = .returned (.string ⟨(Lib.itoa n).toArray⟩) ∧ Below w.heap.size w w' := by
  have HE := Lib.hid hE.pow
  clear hE
  go_enter Tryd.func21, Tryd.ntmps21
  go_wp2_with fail
  go_at_call 56; refine (Tryd.strconv_Itoa n h0 h1 _ HE.out).mono ?_; rintro e w' ⟨rfl, k, os, rfl⟩
  go_wp2_with fail
  go_ret
  exact ⟨rfl, (below_drewN _ _ _).trans (below_grow (w.drewN k) os)⟩

theorem ParseInt_ok (s : ByteArray) (hs : s.size ≤ 1073741824) (v : Int) (h : Lib.parseIntB 64 (bs s) = .ok v) (w : World) :
    Calls Tryd.prog 54 #[.string s, .int .i64 10, .int .i64 64] w fun e w' => e = .returned (.tuple #[.int .i64 v, .nilIface]) ∧ Below w.heap.size w w' := by
  refine (Tryd.strconv_ParseInt_10_at64_ok s (by omega) v h w).mono ?_
  rintro e w' ⟨rfl, rfl | ⟨t, rfl⟩⟩
  · exact ⟨rfl, Below.refl _ _⟩
  · exact ⟨rfl, Go.Joins.below_bytesWorld _ _ _ _ (Nat.le_refl _)⟩
theorem ParseInt_bad (s : ByteArray) (hs : s.size ≤ 1073741824) (h : ∀ v, Lib.parseIntB 64 (bs s) ≠ .ok v) (w : World) (hE : Env w) :
    Calls Tryd.prog 54 #[.string s, .int .i64 10, .int .i64 64] w fun e w' => ∃ x N, e = .returned (.tuple #[.int .i64 x, .iface 104 (.pointer (some ⟨N, 0, none⟩))]) ∧ Below w.heap.size w w' := by
  cases hp : Lib.parseIntB 64 (bs s) with
  | ok v => exact absurd hp (h v)
  | «syntax» =>
    obtain ⟨ev, hv, hev⟩ := hE.syn
    refine (Tryd.strconv_ParseInt_10_at64_syntax s (by omega) hp ev w hv hev).mono ?_
    rintro e w' ⟨N, rfl, -, -, hb⟩
    exact ⟨_, N, rfl, hb⟩
  | range =>
    obtain ⟨ev, hv, hev⟩ := hE.ran
    refine (Tryd.strconv_ParseInt_10_at64_range s (by omega) hp ev w hv hev).mono ?_
    rintro e w' ⟨N, rfl, -, -, hb⟩
    exact ⟨_, N, rfl, hb⟩

theorem toList_bs (s : ByteArray) : s.toList = bs s := by
  obtain ⟨⟨l⟩⟩ := s
  simp [bs]
set_option maxHeartbeats 4000000 in
theorem Int_any (s : ByteArray) (w : World) (hE : Env w) (hs : s.size ≤ 1073741824) :
    Calls Tryd.prog 20 #[.string s] w fun e w' => e = .returned (.tuple #[.int .i64 ((intOfB (bs s)).getD 0), .bool (intOfB (bs s)).isSome]) ∧ Below w.heap.size w w' := by
  obtain ⟨I, hI⟩ : ∃ I, I = intOfB (bs s) := ⟨_, rfl⟩
  rw [← hI]
  unfold intOfB at hI
  have HE := Lib.hid hE
  clear hE
  by_cases hp : ∃ v, Lib.parseIntB 64 (bs s) = .ok v
  · obtain ⟨v, hp⟩ := hp
    rw [hp] at hI
    have hC := fun w => ParseInt_ok s hs v hp w
    obtain ⟨v0, v1⟩ := parse_bd hp
    have HC := Lib.hid hC
    clear hC hp
    dsimp only at hI
    by_cases heq : Lib.itoa v = bs s
    · rw [if_pos heq] at hI
      have HI := Lib.hid hI
      have hq : (Lib.itoa v == s.toList) = true := by rw [toList_bs, heq]; exact beq_self_eq_true _
      clear hI heq
      go_enter Tryd.func20, Tryd.ntmps20
      go_wp2_with fail
      go_at_call 54; refine (HC.out _).mono ?_; rintro e w' ⟨rfl, hb⟩
      go_wp2_with fail
      go_at_call 55; refine (FormatInt_b v v0 v1 _ (HE.out.below hb)).mono ?_; rintro e w2 ⟨rfl, hb2⟩
      go_wp2_with fail
      go_ret2
      exact ⟨by rw [HI.out]; rfl, hb.trans (hb2.mono hb.size)⟩
    · rw [if_neg heq] at hI
      have HI := Lib.hid hI
      have hq : (Lib.itoa v == s.toList) = false := by rw [toList_bs]; exact beq_eq_false_iff_ne.2 heq
      clear hI heq
      go_enter Tryd.func20, Tryd.ntmps20
      go_wp2_with fail
      go_at_call 54; refine (HC.out _).mono ?_; rintro e w' ⟨rfl, hb⟩
      go_wp2_with fail
      go_at_call 55; refine (FormatInt_b v v0 v1 _ (HE.out.below hb)).mono ?_; rintro e w2 ⟨rfl, hb2⟩
      go_wp2_with fail
      go_ret2
      exact ⟨by rw [HI.out]; rfl, hb.trans (hb2.mono hb.size)⟩
  · have hp' : ∀ v, Lib.parseIntB 64 (bs s) ≠ .ok v := fun v h => hp ⟨v, h⟩
    have hI2 : I = none := by
      rw [hI]
      split
      · rename_i v h; exact absurd h (hp' v)
      · rfl
    have HI := Lib.hid hI2
    have HP := Lib.hid hp'
    clear hI hI2 hp hp'
    go_enter Tryd.func20, Tryd.ntmps20
    go_wp2_with fail
    go_at_call 54; refine (ParseInt_bad s hs HP.out _ HE.out).mono ?_; rintro e w' ⟨x, N, rfl, hb⟩
    go_wp2_with fail
    go_ret2
    exact ⟨by rw [HI.out]; rfl, hb⟩
end Go.Proofs.YtdjiimblfhbcjaaDoor
