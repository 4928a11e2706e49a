/- small of taquinlaw02. -/
import Derived.Test.YtdjiimblfhbcjaaDoorTxL
import Derived.Test.YtdjiimblfhbcjaaDoorTxP
import Derived.Test.YtdjiimblfhbcjaaDoorTxQ
namespace Go.Proofs.YtdjiimblfhbcjaaDoor
set_option linter.unusedSimpArgs false
open Go.RowKit

theorem int_m0 : intOfB [45, 48] = none := by decide +kernel
theorem int_007 : intOfB [48, 48, 55] = none := by decide +kernel
theorem int_min : intOfB [45, 57, 50, 50, 51, 51, 55, 50, 48, 51, 54, 56, 53, 52, 55, 55, 53, 56, 48, 56] = some (-9223372036854775808) := by decide +kernel
theorem lines_s : lines [97, 10, 10, 98] = [[97], [], [98]] := by decide +kernel
theorem fields_s : fieldsB ⟨#[32, 97, 32, 32, 98, 10]⟩ = [[97], [98]] := by decide +kernel
theorem quote_s : quote [97, 34, 10, 200] = [34, 97, 92, 34, 92, 110, 92, 120, 99, 56, 34] := by decide +kernel
theorem pat_1 : Pat.pat [97, 42, 91, 33, 120, 45, 122, 93, 63] [97, 98, 99, 100] = true := by decide +kernel
theorem pat_2 : Pat.pat [91, 93, 93] [93] = true := by decide +kernel
theorem pat_3 : Pat.pat [91, 97] [91, 97] = true := by decide +kernel
theorem pat_4 : Pat.pat [92, 42] [42] = true := by decide +kernel
theorem pat_5 : Pat.pat [92, 42] [97, 98] = false := by decide +kernel

theorem bs_lit (l : List UInt8) : bs ⟨l.toArray⟩ = l := by simp [bs]
theorem small_i0 (w : World) (hE : Env w) : Calls Tryd.prog 20 #[.string ⟨#[45, 48]⟩] w fun e w' => e = .returned (.tuple #[.int .i64 0, .bool false]) ∧ Below w.heap.size w w' := by
  have h := Int_any ⟨#[45, 48]⟩ w hE (by decide)
  rw [show bs ⟨#[45, 48]⟩ = [45, 48] from rfl, int_m0] at h; exact h
theorem small_i1 (w : World) (hE : Env w) : Calls Tryd.prog 20 #[.string ⟨#[48, 48, 55]⟩] w fun e w' => e = .returned (.tuple #[.int .i64 0, .bool false]) ∧ Below w.heap.size w w' := by
  have h := Int_any ⟨#[48, 48, 55]⟩ w hE (by decide)
  rw [show bs ⟨#[48, 48, 55]⟩ = [48, 48, 55] from rfl, int_007] at h; exact h
theorem small_i2 (w : World) (hE : Env w) : Calls Tryd.prog 20 #[.string ⟨#[45, 57, 50, 50, 51, 51, 55, 50, 48, 51, 54, 56, 53, 52, 55, 55, 53, 56, 48, 56]⟩] w fun e w' => e = .returned (.tuple #[.int .i64 (-9223372036854775808), .bool true]) ∧ Below w.heap.size w w' := by
  have h := Int_any ⟨#[45, 57, 50, 50, 51, 51, 55, 50, 48, 51, 54, 56, 53, 52, 55, 55, 53, 56, 48, 56]⟩ w hE (by decide)
  rw [show bs ⟨#[45, 57, 50, 50, 51, 51, 55, 50, 48, 51, 54, 56, 53, 52, 55, 55, 53, 56, 48, 56]⟩ = [45, 57, 50, 50, 51, 51, 55, 50, 48, 51, 54, 56, 53, 52, 55, 55, 53, 56, 48, 56] from rfl, int_min] at h; exact h
theorem small_p0 (w : World) : Calls Tryd.prog 18 #[.string ⟨#[97, 42, 91, 33, 120, 45, 122, 93, 63]⟩, .string ⟨#[97, 98, 99, 100]⟩] w fun e w' => e = .returned (.bool true) ∧ Below w.heap.size w w' := by
  have h := Pattern_any ⟨#[97, 42, 91, 33, 120, 45, 122, 93, 63]⟩ ⟨#[97, 98, 99, 100]⟩ w (by decide) (by decide)
  rw [show Pat.pat (bs ⟨#[97, 42, 91, 33, 120, 45, 122, 93, 63]⟩) (bs ⟨#[97, 98, 99, 100]⟩) = _ from pat_1] at h
  refine h.mono ?_
  rintro e w' ⟨rfl, k, rfl⟩; exact ⟨rfl, below_drewN _ _ _⟩
theorem small_p1 (w : World) : Calls Tryd.prog 18 #[.string ⟨#[91, 93, 93]⟩, .string ⟨#[93]⟩] w fun e w' => e = .returned (.bool true) ∧ Below w.heap.size w w' := by
  have h := Pattern_any ⟨#[91, 93, 93]⟩ ⟨#[93]⟩ w (by decide) (by decide)
  rw [show Pat.pat (bs ⟨#[91, 93, 93]⟩) (bs ⟨#[93]⟩) = _ from pat_2] at h
  refine h.mono ?_
  rintro e w' ⟨rfl, k, rfl⟩; exact ⟨rfl, below_drewN _ _ _⟩
theorem small_p2 (w : World) : Calls Tryd.prog 18 #[.string ⟨#[91, 97]⟩, .string ⟨#[91, 97]⟩] w fun e w' => e = .returned (.bool true) ∧ Below w.heap.size w w' := by
  have h := Pattern_any ⟨#[91, 97]⟩ ⟨#[91, 97]⟩ w (by decide) (by decide)
  rw [show Pat.pat (bs ⟨#[91, 97]⟩) (bs ⟨#[91, 97]⟩) = _ from pat_3] at h
  refine h.mono ?_
  rintro e w' ⟨rfl, k, rfl⟩; exact ⟨rfl, below_drewN _ _ _⟩
theorem small_p3 (w : World) : Calls Tryd.prog 18 #[.string ⟨#[92, 42]⟩, .string ⟨#[42]⟩] w fun e w' => e = .returned (.bool true) ∧ Below w.heap.size w w' := by
  have h := Pattern_any ⟨#[92, 42]⟩ ⟨#[42]⟩ w (by decide) (by decide)
  rw [show Pat.pat (bs ⟨#[92, 42]⟩) (bs ⟨#[42]⟩) = _ from pat_4] at h
  refine h.mono ?_
  rintro e w' ⟨rfl, k, rfl⟩; exact ⟨rfl, below_drewN _ _ _⟩
theorem small_p4 (w : World) : Calls Tryd.prog 18 #[.string ⟨#[92, 42]⟩, .string ⟨#[97, 98]⟩] w fun e w' => e = .returned (.bool false) ∧ Below w.heap.size w w' := by
  have h := Pattern_any ⟨#[92, 42]⟩ ⟨#[97, 98]⟩ w (by decide) (by decide)
  rw [show Pat.pat (bs ⟨#[92, 42]⟩) (bs ⟨#[97, 98]⟩) = _ from pat_5] at h
  refine h.mono ?_
  rintro e w' ⟨rfl, k, rfl⟩; exact ⟨rfl, below_drewN _ _ _⟩
theorem small_q (w : World) : Calls Tryd.prog 23 #[.string ⟨#[97, 34, 10, 200]⟩] w fun e w' => e = .returned (.string ⟨#[34, 97, 92, 34, 92, 110, 92, 120, 99, 56, 34]⟩) ∧ Below w.heap.size w w' := by
  have h := Quote_any ⟨#[97, 34, 10, 200]⟩ w (by decide)
  rw [show bs ⟨#[97, 34, 10, 200]⟩ = [97, 34, 10, 200] from rfl, quote_s] at h; exact h
theorem small_l (w : World) (hE : Env w) : Calls Tryd.prog 15 #[.string ⟨#[97, 10, 10, 98]⟩] w fun e w' => ∃ b off cap, e = .returned (.slice (some ⟨b, off, none⟩) 3 cap) ∧ w'.cell? ⟨b, off + 1, none⟩ = some (.string ⟨#[]⟩) ∧ w'.cell? ⟨b, off + 2, none⟩ = some (.string ⟨#[98]⟩) ∧ Below w.heap.size w w' := by
  have h := Lines_any ⟨#[97, 10, 10, 98]⟩ w hE (by decide)
  rw [show bs ⟨#[97, 10, 10, 98]⟩ = [97, 10, 10, 98] from rfl, lines_s] at h
  refine h.mono ?_
  rintro e w' ⟨v, rfl, ⟨a, cap, rfl, -, -, hc⟩, hb⟩
  obtain ⟨b, off, rfl, h1⟩ := hc 1 (by decide)
  obtain ⟨b', off', e2, h2⟩ := hc 2 (by decide)
  cases e2
  exact ⟨b, off, cap, rfl, h1, h2, hb⟩
theorem small_f (w : World) : Calls Tryd.prog 17 #[.string ⟨#[32, 97, 32, 32, 98, 10]⟩] w fun e w' => ∃ b cap, e = .returned (.slice (some ⟨b, 0, none⟩) 2 cap) ∧ w'.cell? ⟨b, 1, none⟩ = some (.string ⟨#[98]⟩) ∧ Below w.heap.size w w' := by
  have h := Fields_any ⟨#[32, 97, 32, 32, 98, 10]⟩ w (by decide)
  rw [fields_s] at h
  refine h.mono ?_
  rintro e w' ⟨v, rfl, ⟨A, n, rfl, hown, hn⟩, hb⟩
  obtain rfl : n = 2 := hn
  obtain ⟨a, cap, e1, -, -, hc⟩ := Sl.of_own hown (by unfold maxLen; omega)
  obtain ⟨b', off', e2, h2⟩ := hc 1 (by decide)
  cases e1
  cases e2
  simp only [Nat.zero_add] at h2
  exact ⟨A, 2, rfl, h2, hb⟩

set_option maxHeartbeats 4000000 in
theorem small_any (w : World) (hE : Env w) :
    Calls Tryd.prog 13 #[] w fun e w' => e = .returned (.bool true) ∧ Below w.heap.size w w' := by
  have HE := Lib.hid hE
  clear hE
  go_enter Tryd.func13, Tryd.ntmps13
  go_wp2_with fail
  go_at_call 20; refine (small_i0 _ HE.out).mono ?_; rintro e w1 ⟨rfl, hb⟩
  have HE1 := Lib.hid (HE.out.below hb)
  have B1 : Below w.heap.size w w1 := hb
  clear hb HE
  go_wp2_with fail
  go_at_call 20; refine (small_i1 _ HE1.out).mono ?_; rintro e w2 ⟨rfl, hb⟩
  have HE2 := Lib.hid (HE1.out.below hb)
  have B2 : Below w.heap.size w w2 := B1.trans (hb.mono B1.size)
  clear hb HE1 B1
  go_wp2_with fail
  go_at_call 20; refine (small_i2 _ HE2.out).mono ?_; rintro e w3 ⟨rfl, hb⟩
  have HE3 := Lib.hid (HE2.out.below hb)
  have B3 : Below w.heap.size w w3 := B2.trans (hb.mono B2.size)
  clear hb HE2 B2
  go_wp2_with fail
  go_at_call 15; refine (small_l _ HE3.out).mono ?_; rintro e w4 ⟨b, off, cap, rfl, l1, l2, hb⟩
  have B4 : Below w.heap.size w w4 := B3.trans (hb.mono B3.size)
  clear hb HE3 B3
  have L1 := Lib.hid l1
  have L2 := Lib.hid l2
  clear l1 l2
  go_wp2_with fail
  go_at_call 17; refine (small_f _).mono ?_; rintro e w5 ⟨f, fcap, rfl, f1, hb⟩
  have B5 : Below w.heap.size w w5 := B4.trans (hb.mono B4.size)
  have L1' := Lib.hid ((hb.cell (cell_lt L1.out)).trans L1.out)
  have L2' := Lib.hid ((hb.cell (cell_lt L2.out)).trans L2.out)
  have F1 := Lib.hid f1
  clear f1 hb L1 L2 B4
  go_wp2_with fail
  go_at_call 23; refine (small_q _).mono ?_; rintro e w6 ⟨rfl, hb⟩
  have B6 : Below w.heap.size w w6 := B5.trans (hb.mono B5.size)
  have l1 := (hb.cell (cell_lt L1'.out)).trans L1'.out
  have l2 := (hb.cell (cell_lt L2'.out)).trans L2'.out
  have f1 := (hb.cell (cell_lt F1.out)).trans F1.out
  clear hb L1' L2' F1 B5
  go_wp2_with fail
  go_at_call 18; refine (small_p0 _).mono ?_; rintro e w7 ⟨rfl, hb⟩
  have B7 : Below w.heap.size w w7 := B6.trans (hb.mono B6.size)
  clear hb B6 l1 l2 f1
  go_wp2_with fail
  go_at_call 18; refine (small_p1 _).mono ?_; rintro e w8 ⟨rfl, hb⟩
  have B8 : Below w.heap.size w w8 := B7.trans (hb.mono B7.size)
  clear hb B7
  go_wp2_with fail
  go_at_call 18; refine (small_p2 _).mono ?_; rintro e w9 ⟨rfl, hb⟩
  have B9 : Below w.heap.size w w9 := B8.trans (hb.mono B8.size)
  clear hb B8
  go_wp2_with fail
  go_at_call 18; refine (small_p3 _).mono ?_; rintro e w10 ⟨rfl, hb⟩
  have B10 : Below w.heap.size w w10 := B9.trans (hb.mono B9.size)
  clear hb B9
  go_wp2_with fail
  go_at_call 18; refine (small_p4 _).mono ?_; rintro e w11 ⟨rfl, hb⟩
  have B11 : Below w.heap.size w w11 := B10.trans (hb.mono B10.size)
  clear hb B10
  go_wp2_with fail
  go_ret
  exact ⟨rfl, B11⟩
end Go.Proofs.YtdjiimblfhbcjaaDoor
