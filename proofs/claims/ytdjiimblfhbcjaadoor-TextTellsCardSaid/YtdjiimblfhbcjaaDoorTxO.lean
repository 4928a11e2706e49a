/- Walks of package text: one. -/
import Derived.Test.YtdjiimblfhbcjaaDoorTxC
namespace Go.Proofs.YtdjiimblfhbcjaaDoor
set_option linter.unusedSimpArgs false
open Go.RowKit

theorem Pat.cls_set_len {r : List UInt8} {x : Bool × List UInt8 × Nat} (h : cls r = some x) : x.2.1.length ≤ r.length := by
  have hp : ∀ r x, plainCls r = some x → x.2.1.length ≤ r.length := by
    intro r x h
    obtain ⟨j, hj, rfl⟩ := Option.map_eq_some_iff.1 h
    simp; omega
  unfold cls at h
  split at h
  · rename_i r
    split at h
    · cases h
      simp; omega
    · exact hp _ _ h
  · exact hp _ _ h

set_option maxHeartbeats 4000000 in
theorem one_any (p : ByteArray) (i : Nat) (c : UInt8) (w : World) (hp : p.size ≤ 140737488355328) (hi : i < p.size) (hs : p[i] ≠ 42) :
    Calls Tryd.prog 52 #[.string p, .int .i64 i, .int .u8 c.toNat] w fun e w' => e = .returned (.tuple #[.int .i64 ((Pat.headPart ((bs p).drop i)).2 : Nat), .bool ((Pat.headPart ((bs p).drop i)).1.fits c)]) ∧ ∃ k, w' = w.drewN k := by
  have hd := Pat.headPart_cons p[i] ((bs p).drop (i + 1))
  rw [← bs_drop p i hi, if_neg hs] at hd
  have hw : IntKind.i64.wrap ((i : Int) + 1) = (i : Int) + 1 := IntWalk.i64_in _ (by omega)
  have ht : ((i : Int) + 1).toNat = i + 1 := by omega
  by_cases h1 : p[i] = 92
  · rw [if_pos h1] at hd
    have hx : ((p[i].toNat : Int) == 92) = true := u8_is (b := 92) h1
    by_cases h2 : i + 1 < p.size
    · rw [bs_drop p (i + 1) h2] at hd
      have hb1 : (0 : Int) ≤ (i : Int) + 1 := by omega
      have hb2 : (i : Int) + 1 < (p.size : Int) := by omega
      clear h1
      by_cases hq : p[i + 1] = c
      · have hy := u8_is hq
        have HQ := Lib.hid hq
        clear hq
        have HD := Lib.hid hd
        clear hd hs
        go_enter Tryd.func52, Tryd.ntmps52
        go_wp2_with fail
        go_quiet (fail)
        rename_i nq
        go_wp2
        refine bodyPost_ret (v := .tuple #[.int .i64 2, .bool (true)]) (by simp [results, Tryd.results52, go_sem]) rfl ?_
        exact ⟨by rw [HD.out]; simp [Pat.Part.fits, HQ.out], _, rfl⟩
      · have hy := u8_ne hq
        have HQ := Lib.hid hq
        clear hq
        have HD := Lib.hid hd
        clear hd hs
        go_enter Tryd.func52, Tryd.ntmps52
        go_wp2_with fail
        go_quiet (fail)
        rename_i nq
        go_wp2
        refine bodyPost_ret (v := .tuple #[.int .i64 2, .bool (false)]) (by simp [results, Tryd.results52, go_sem]) rfl ?_
        exact ⟨by rw [HD.out]; simp [Pat.Part.fits, Ne.symm HQ.out, HQ.out], _, rfl⟩
    · have hd2 : Pat.headPart ((bs p).drop i) = (.byte 92, 1) := by rw [hd, List.drop_eq_nil_of_le (by rw [bs_len]; omega)]
      rw [← h1] at hd2
      have hz : ((p[i].toNat : Int) == 63) = false := u8_ne (b := 63) (by rw [h1]; decide)
      have hv : ((p[i].toNat : Int) == 91) = false := u8_ne (b := 91) (by rw [h1]; decide)
      clear h1
      by_cases hq : p[i] = c
      · have hy := u8_is hq
        have HQ := Lib.hid hq
        clear hq
        have HD := Lib.hid hd2
        clear hd hd2 hs
        go_enter Tryd.func52, Tryd.ntmps52
        go_wp2_with fail
        go_quiet (fail)
        rename_i nq
        go_wp2
        refine bodyPost_ret (v := .tuple #[.int .i64 1, .bool (true)]) (by simp [results, Tryd.results52, go_sem]) rfl ?_
        exact ⟨by rw [HD.out]; simp [Pat.Part.fits, HQ.out], _, rfl⟩
      · have hy := u8_ne hq
        have HQ := Lib.hid hq
        clear hq
        have HD := Lib.hid hd2
        clear hd hd2 hs
        go_enter Tryd.func52, Tryd.ntmps52
        go_wp2_with fail
        go_quiet (fail)
        rename_i nq
        go_wp2
        refine bodyPost_ret (v := .tuple #[.int .i64 1, .bool (false)]) (by simp [results, Tryd.results52, go_sem]) rfl ?_
        exact ⟨by rw [HD.out]; simp [Pat.Part.fits, Ne.symm HQ.out, HQ.out], _, rfl⟩
  · rw [if_neg h1] at hd
    have hx : ((p[i].toNat : Int) == 92) = false := u8_ne (b := 92) h1
    by_cases h3 : p[i] = 63
    · rw [if_pos h3] at hd
      have hy : ((p[i].toNat : Int) == 63) = true := u8_is (b := 63) h3
      clear h1 h3
      have HD := Lib.hid hd
      clear hd hs
      go_enter Tryd.func52, Tryd.ntmps52
      go_wp2_with fail
      refine bodyPost_ret (v := .tuple #[.int .i64 1, .bool (true)]) (by simp [results, Tryd.results52, go_sem]) rfl ?_
      exact ⟨by rw [HD.out]; simp [Pat.Part.fits], 0, rfl⟩
    · rw [if_neg h3] at hd
      have hz : ((p[i].toNat : Int) == 63) = false := u8_ne (b := 63) h3
      by_cases h4 : p[i] = 91
      · rw [if_pos h4] at hd
        have hv : ((p[i].toNat : Int) == 91) = true := u8_is (b := 91) h4
        have hC := fun w => class_any p i w hp hi
        cases hc : Pat.cls ((bs p).drop (i + 1)) with
        | none =>
          rw [hc] at hd hC
          replace hd : Pat.headPart ((bs p).drop i) = (.byte 91, 1) := hd
          rw [← h4] at hd
          simp only [clsVal] at hC
          have HC := Lib.hid hC
          clear h1 h3 h4 hC
          by_cases hq : p[i] = c
          · have hy := u8_is hq
            have HQ := Lib.hid hq
            clear hq
            have HD := Lib.hid hd
            clear hd hs
            go_enter Tryd.func52, Tryd.ntmps52
            go_wp2_with fail
            go_at_call 62; refine (HC.out _).mono ?_; rintro e w' ⟨set, rfl, hset, k, rfl⟩
            go_wp2_with fail
            go_quiet (fail)
            rename_i nq
            go_wp2
            refine bodyPost_ret (v := .tuple #[.int .i64 1, .bool (true)]) (by simp [results, Tryd.results52, go_sem]) rfl ?_
            exact ⟨by rw [HD.out]; simp [Pat.Part.fits, HQ.out], k + nq, by rw [World.drewN_drewN]⟩
          · have hy := u8_ne hq
            have HQ := Lib.hid hq
            clear hq
            have HD := Lib.hid hd
            clear hd hs
            go_enter Tryd.func52, Tryd.ntmps52
            go_wp2_with fail
            go_at_call 62; refine (HC.out _).mono ?_; rintro e w' ⟨set, rfl, hset, k, rfl⟩
            go_wp2_with fail
            go_quiet (fail)
            rename_i nq
            go_wp2
            refine bodyPost_ret (v := .tuple #[.int .i64 1, .bool (false)]) (by simp [results, Tryd.results52, go_sem]) rfl ?_
            exact ⟨by rw [HD.out]; simp [Pat.Part.fits, Ne.symm HQ.out, HQ.out], k + nq, by rw [World.drewN_drewN]⟩
        | some x =>
          obtain ⟨neg, set0, n⟩ := x
          have hn := Pat.cls_len hc
          rw [List.length_drop, bs_len] at hn
          obtain ⟨hn1, hn2⟩ := hn
          have hl := Pat.cls_set_len hc
          rw [List.length_drop, bs_len] at hl
          dsimp only at hn1 hn2 hl
          rw [hc] at hd hC
          replace hd : Pat.headPart ((bs p).drop i) = (.cls neg set0, n) := hd
          simp only [clsVal] at hC
          have HC := Lib.hid hC
          clear h1 h3 h4 hC hc
          have HD := Lib.hid hd
          clear hd hs
          go_enter Tryd.func52, Tryd.ntmps52
          go_wp2_with fail
          go_at_call 62; refine (HC.out _).mono ?_; rintro e w' ⟨set, rfl, hset, k, rfl⟩
          have hset := hset _ rfl
          dsimp only at hset
          have hsz : set.size ≤ 140737488355328 := by rw [← bs_len, hset]; omega
          have HS := Lib.hid hset
          clear hset
          go_wp2_with fail
          go_at_call 72; refine (in_any _ _ _ hsz).mono ?_; rintro e w' ⟨rfl, rfl⟩
          go_wp2_with fail
          refine bodyPost_ret (v := .tuple #[.int .i64 (((i + n - 1 : Nat) : Int) + 1 - (i : Int)), .bool (!(Pat.inSet set0 c == neg))]) (by simp [results, Tryd.results52, go_sem]) rfl ?_
          refine ⟨?_, k, rfl⟩
          rw [HD.out, show ((i + n - 1 : Nat) : Int) + 1 - (i : Int) = (n : Int) by omega]
          show _ = Ending.returned (.tuple #[.int .i64 (n : Int), .bool (Pat.inSet set0 c != neg)])
          cases Pat.inSet set0 c <;> cases neg <;> rfl
      · rw [if_neg h4] at hd
        have hv : ((p[i].toNat : Int) == 91) = false := u8_ne (b := 91) h4
        replace hd : Pat.headPart ((bs p).drop i) = (.byte p[i], 1) := hd
        clear h1 h3 h4
        by_cases hq : p[i] = c
        · have hy := u8_is hq
          have HQ := Lib.hid hq
          clear hq
          have HD := Lib.hid hd
          clear hd hs
          go_enter Tryd.func52, Tryd.ntmps52
          go_wp2_with fail
          go_quiet (fail)
          rename_i nq
          go_wp2
          refine bodyPost_ret (v := .tuple #[.int .i64 1, .bool (true)]) (by simp [results, Tryd.results52, go_sem]) rfl ?_
          exact ⟨by rw [HD.out]; simp [Pat.Part.fits, HQ.out], _, rfl⟩
        · have hy := u8_ne hq
          have HQ := Lib.hid hq
          clear hq
          have HD := Lib.hid hd
          clear hd hs
          go_enter Tryd.func52, Tryd.ntmps52
          go_wp2_with fail
          go_quiet (fail)
          rename_i nq
          go_wp2
          refine bodyPost_ret (v := .tuple #[.int .i64 1, .bool (false)]) (by simp [results, Tryd.results52, go_sem]) rfl ?_
          exact ⟨by rw [HD.out]; simp [Pat.Part.fits, Ne.symm HQ.out, HQ.out], _, rfl⟩
end Go.Proofs.YtdjiimblfhbcjaaDoor
