/- Walks of package text: class, one. -/
import Derived.Test.YtdjiimblfhbcjaaDoorTxW
namespace Go.Proofs.YtdjiimblfhbcjaaDoor
open Go.RowKit

theorem Pat.cls_plain (a : UInt8) (l : List UInt8) (h : a ≠ 33) : cls (a :: l) = plainCls (a :: l) := by
  unfold cls; split
  · rename_i r e; exact absurd (List.cons.inj e).1 h
  · rfl
theorem clsVal_none (i : Nat) (a : ByteArray) : clsVal i a none = .tuple #[.int .i64 0, .bool false, .string ⟨#[]⟩, .bool false] := rfl

set_option maxHeartbeats 4000000 in
theorem class_any (p : ByteArray) (i : Nat) (w : World) (hp : p.size ≤ 140737488355328) (hi : i < p.size) :
    Calls Tryd.prog 62 #[.string p, .int .i64 i] w fun e w' => ∃ set, e = .returned (clsVal i set (Pat.cls ((bs p).drop (i + 1)))) ∧ (∀ x, Pat.cls ((bs p).drop (i + 1)) = some x → bs set = x.2.1) ∧ ∃ k, w' = w.drewN k := by
  by_cases h1 : i + 1 < p.size
  · by_cases h2 : p[i + 1] = 33
    · have hx : ((p[i + 1].toNat : Int) == 33) = true := u8_is (b := 33) h2
      have hd : Pat.cls ((bs p).drop (i + 1)) = match Pat.closing ((bs p).drop (i + 2)) with | some j => some (true, ((bs p).drop (i + 2)).take j, j + 3) | none => Pat.plainCls ((bs p).drop (i + 1)) := by
        rw [bs_drop p (i + 1) h1, h2]; rfl
      clear h2
      cases hc : Pat.closing ((bs p).drop (i + 2)) with
      | some j =>
        obtain ⟨hq, hlt⟩ := closing_some hc
        have hj := (Pat.closing_lt hc).1
        rw [hc] at hd
        have hC := fun w => closing_any p (i + 2) w hp (by omega)
        rw [hq] at hC
        have HC := Lib.hid hC
        have HD := Lib.hid hd
        clear hC hd hq hc
        go_enter Tryd.func62, Tryd.ntmps62
        go_wp2_with fail
        go_at_call 84; refine (HC.out _).mono ?_; rintro e w' ⟨rfl, rfl⟩
        go_wp2_with fail
        go_quiet (fail)
        go_wp2
        refine bodyPost_ret (v := .tuple #[.int .i64 ((i + 2 + j : Nat) : Int), .bool true, .string (p.extract (i + 2) (i + 2 + j)), .bool true]) (by simp [results, Tryd.results62, go_sem]) rfl ?_
        refine ⟨p.extract (i + 2) (i + 2 + j), ?_, ?_, _, rfl⟩
        · rw [HD.out]; simp only [clsVal, show i + (j + 3) - 1 = i + 2 + j by omega]
        · intro x hx; rw [HD.out] at hx; cases hx; rw [bs_extract, show i + 2 + j - (i + 2) = j by omega]
      | none =>
        have hq := closing_none hc
        rw [hc] at hd
        replace hd : Pat.cls ((bs p).drop (i + 1)) = Pat.plainCls ((bs p).drop (i + 1)) := hd
        have hC := fun w => closing_any p (i + 2) w hp (by omega)
        rw [hq] at hC
        have HC := Lib.hid hC
        clear hC hq hc
        cases hc1 : Pat.closing ((bs p).drop (i + 1)) with
        | some j =>
          obtain ⟨hq1, hlt1⟩ := closing_some hc1
          have hj1 := (Pat.closing_lt hc1).1
          have hd2 : Pat.cls ((bs p).drop (i + 1)) = some (false, ((bs p).drop (i + 1)).take j, j + 2) := by rw [hd, Pat.plainCls, hc1]; rfl
          have hE := fun w => closing_any p (i + 1) w hp (by omega)
          rw [hq1] at hE
          have HE := Lib.hid hE
          have HD := Lib.hid hd2
          clear hE hd hd2 hq1 hc1
          go_enter Tryd.func62, Tryd.ntmps62
          go_wp2_with fail
          go_at_call 84; refine (HC.out _).mono ?_; rintro e w' ⟨rfl, rfl⟩
          go_wp2_with fail
          go_at_call 84; refine (HE.out _).mono ?_; rintro e w' ⟨rfl, rfl⟩
          go_wp2_with fail
          go_quiet (fail)
          go_wp2
          refine bodyPost_ret (v := .tuple #[.int .i64 ((i + 1 + j : Nat) : Int), .bool false, .string (p.extract (i + 1) (i + 1 + j)), .bool true]) (by simp [results, Tryd.results62, go_sem]) rfl ?_
          refine ⟨p.extract (i + 1) (i + 1 + j), ?_, ?_, _, rfl⟩
          · rw [HD.out]; simp only [clsVal, show i + (j + 2) - 1 = i + 1 + j by omega]
          · intro x hx; rw [HD.out] at hx; cases hx; rw [bs_extract, show i + 1 + j - (i + 1) = j by omega]
        | none =>
          have hq1 := closing_none hc1
          have hd2 : Pat.cls ((bs p).drop (i + 1)) = none := by rw [hd, Pat.plainCls, hc1]; rfl
          have hE := fun w => closing_any p (i + 1) w hp (by omega)
          rw [hq1] at hE
          have HE := Lib.hid hE
          have HD := Lib.hid hd2
          clear hE hd hd2 hq1 hc1
          go_enter Tryd.func62, Tryd.ntmps62
          go_wp2_with fail
          go_at_call 84; refine (HC.out _).mono ?_; rintro e w' ⟨rfl, rfl⟩
          go_wp2_with fail
          go_at_call 84; refine (HE.out _).mono ?_; rintro e w' ⟨rfl, rfl⟩
          go_wp2_with fail
          refine bodyPost_ret (v := .tuple #[.int .i64 0, .bool false, .string ⟨#[]⟩, .bool false]) (by simp [results, Tryd.results62, go_sem]) rfl ?_
          refine ⟨⟨#[]⟩, ?_, ?_, 0, rfl⟩
          · rw [HD.out]; rfl
          · intro x hx; rw [HD.out] at hx; cases hx
    · have hx : ((p[i + 1].toNat : Int) == 33) = false := u8_ne (b := 33) h2
      have hd : Pat.cls ((bs p).drop (i + 1)) = Pat.plainCls ((bs p).drop (i + 1)) := by
        rw [bs_drop p (i + 1) h1]; exact Pat.cls_plain _ _ h2
      clear h2
      cases hc1 : Pat.closing ((bs p).drop (i + 1)) with
      | some j =>
        obtain ⟨hq1, hlt1⟩ := closing_some hc1
        have hj1 := (Pat.closing_lt hc1).1
        have hd2 : Pat.cls ((bs p).drop (i + 1)) = some (false, ((bs p).drop (i + 1)).take j, j + 2) := by rw [hd, Pat.plainCls, hc1]; rfl
        have hE := fun w => closing_any p (i + 1) w hp (by omega)
        rw [hq1] at hE
        have HC := Lib.hid hE
        have HD := Lib.hid hd2
        clear hE hd hd2 hq1 hc1
        go_enter Tryd.func62, Tryd.ntmps62
        go_wp2_with fail
        go_at_call 84; refine (HC.out _).mono ?_; rintro e w' ⟨rfl, rfl⟩
        go_wp2_with fail
        go_quiet (fail)
        go_wp2
        refine bodyPost_ret (v := .tuple #[.int .i64 ((i + 1 + j : Nat) : Int), .bool false, .string (p.extract (i + 1) (i + 1 + j)), .bool true]) (by simp [results, Tryd.results62, go_sem]) rfl ?_
        refine ⟨p.extract (i + 1) (i + 1 + j), ?_, ?_, _, rfl⟩
        · rw [HD.out]; simp only [clsVal, show i + (j + 2) - 1 = i + 1 + j by omega]
        · intro x hx; rw [HD.out] at hx; cases hx; rw [bs_extract, show i + 1 + j - (i + 1) = j by omega]
      | none =>
        have hq1 := closing_none hc1
        have hd2 : Pat.cls ((bs p).drop (i + 1)) = none := by rw [hd, Pat.plainCls, hc1]; rfl
        have hE := fun w => closing_any p (i + 1) w hp (by omega)
        rw [hq1] at hE
        have HC := Lib.hid hE
        have HD := Lib.hid hd2
        clear hE hd hd2 hq1 hc1
        go_enter Tryd.func62, Tryd.ntmps62
        go_wp2_with fail
        go_at_call 84; refine (HC.out _).mono ?_; rintro e w' ⟨rfl, rfl⟩
        go_wp2_with fail
        refine bodyPost_ret (v := .tuple #[.int .i64 0, .bool false, .string ⟨#[]⟩, .bool false]) (by simp [results, Tryd.results62, go_sem]) rfl ?_
        refine ⟨⟨#[]⟩, ?_, ?_, 0, rfl⟩
        · rw [HD.out]; rfl
        · intro x hx; rw [HD.out] at hx; cases hx
  · have hd : Pat.cls ((bs p).drop (i + 1)) = Pat.plainCls ((bs p).drop (i + 1)) := by
      rw [List.drop_eq_nil_of_le (by rw [bs_len]; omega)]; rfl
    cases hc1 : Pat.closing ((bs p).drop (i + 1)) with
    | some j =>
      exact absurd (closing_some hc1).2 (by omega)
    | none =>
      have hq1 := closing_none hc1
      have hd2 : Pat.cls ((bs p).drop (i + 1)) = none := by rw [hd, Pat.plainCls, hc1]; rfl
      have hE := fun w => closing_any p (i + 1) w hp (by omega)
      rw [hq1] at hE
      have HC := Lib.hid hE
      have HD := Lib.hid hd2
      clear hE hd hd2 hq1 hc1
      go_enter Tryd.func62, Tryd.ntmps62
      go_wp2_with fail
      go_at_call 84; refine (HC.out _).mono ?_; rintro e w' ⟨rfl, rfl⟩
      go_wp2_with fail
      refine bodyPost_ret (v := .tuple #[.int .i64 0, .bool false, .string ⟨#[]⟩, .bool false]) (by simp [results, Tryd.results62, go_sem]) rfl ?_
      refine ⟨⟨#[]⟩, ?_, ?_, 0, rfl⟩
      · rw [HD.out]; rfl
      · intro x hx; rw [HD.out] at hx; cases hx
end Go.Proofs.YtdjiimblfhbcjaaDoor
