/- Walks of taquinref09: word. -/
import Derived.Test.YtdjiimblfhbcjaaDoorR9a
import Derived.Test.YtdjiimblfhbcjaaDoorR2e
import Derived.Test.YtdjiimblfhbcjaaDoorLxV
namespace Go.Proofs.YtdjiimblfhbcjaaDoor
set_option linter.unusedSimpArgs false
open Go.RowKit

/-- A token without its line, as a value. -/
def tv (kd : Nat) (t : List UInt8) (n : Int) : Value := .agg #[.int .i64 kd, .string ⟨t.toArray⟩, .int .i64 n, .int .i64 0]
def tz : Value := .agg #[.int .i64 0, .string ⟨#[]⟩, .int .i64 0, .int .i64 0]
/-- What word comes to. -/
def R9Word (w : World) (r : Except Nat (Nat × List UInt8 × Int)) (e : Ending) (w' : World) : Prop :=
  match r with
  | .ok x => e = .returned (.tuple #[tv x.1 x.2.1 x.2.2, .int .i64 0]) ∧ Below w.heap.size w w'
  | .error z => e = .returned (.tuple #[tz, .int .i64 z]) ∧ Below w.heap.size w w'
theorem R9Word.fine {w w' : World} {r : Except Nat (Nat × List UInt8 × Int)} {kd : Nat} {s : ByteArray} {n kk : Int} (h : r = .ok (kd, bs s, n)) (hk : kk = (kd : Int)) (hb : Below w.heap.size w w') : R9Word w r (.returned (.tuple #[.agg #[.int .i64 kk, .string s, .int .i64 n, .int .i64 0], .int .i64 0])) w' := by
  subst h hk
  refine ⟨?_, hb⟩
  dsimp only [tv]
  rw [show (⟨(bs s).toArray⟩ : ByteArray) = s from mk_data s]
theorem R9Word.bad {w w' : World} {r : Except Nat (Nat × List UInt8 × Int)} {z : Nat} {zz : Int} (h : r = .error z) (hz : zz = (z : Int)) (hb : Below w.heap.size w w') : R9Word w r (.returned (.tuple #[.agg #[.int .i64 0, .string ⟨#[]⟩, .int .i64 0, .int .i64 0], .int .i64 zz])) w' := by
  subst h hz; exact ⟨rfl, hb⟩
theorem tokW_none {l : List UInt8} (ha : l.all Lx.digit = false) (hw : Lx.word l = false) : Lx.tokW l = .error 11 := by
  cases hd : Lx.digit (l.headD 0) with
  | true => exact tokW_mixed hd ha
  | false => exact tokW_noword hd hw
theorem rInt_some (s : ByteArray) (v : Int) (h : intOfB (bs s) = some v) (w : World) (hs : s.size ≤ 1073741824) :
    Calls Tryd.prog 34 #[.string s] w fun e w' => e = .returned (.tuple #[.int .i64 v, .bool true]) ∧ Below w.heap.size w w' := by
  have := rInt_any s w (by omega)
  unfold IntPost at this
  rw [h] at this; exact this
theorem rInt_none (s : ByteArray) (h : intOfB (bs s) = none) (w : World) (hs : s.size ≤ 1073741824) :
    Calls Tryd.prog 34 #[.string s] w fun e w' => e = .returned (.tuple #[.int .i64 0, .bool false]) ∧ Below w.heap.size w w' := by
  have := rInt_any s w (by omega)
  unfold IntPost at this
  rw [h] at this; exact this

set_option maxRecDepth 100000 in
set_option maxHeartbeats 8000000 in
theorem r9word_any (s : ByteArray) (w : World) (hs : s.size ≤ 1000000000) (hpos : 0 < s.size) :
    Calls Tryd.prog 87 #[.string s] w (R9Word w (Lx.tokW (bs s))) := by
  obtain ⟨R, hR⟩ : ∃ R, R = Lx.tokW (bs s) := ⟨_, rfl⟩
  rw [← hR]
  have HR := Lib.hid hR
  have HH : Hid ((bs s).headD 0 = s[0]) := Lib.hid (bs_head s hpos)
  clear hR
  go_enter Tryd.func87, Tryd.ntmps87
  go_wp2_with fail
  go_loop [4, 5] (fun dv i => ∃ (k : Nat) (d : Bool), k ≤ s.size ∧ Hid (d = ((bs s).take k).all Lx.digit) ∧ i = .int .i64 k ∧ dv = .bool d) (fun _ i => s.size - (intOf i).toNat)
  case atStart => exact ⟨0, true, by omega, Lib.hid (by rfl), rfl, rfl⟩
  case round =>
    obtain ⟨k, d, hk, HA, rfl, rfl⟩ := hrel
    by_cases hlt : k < s.size
    · have hst : ((bs s).take (k + 1)).all Lx.digit = (((bs s).take k).all Lx.digit && Lx.digit s[k]) := by
        rw [bs_take s k hlt, List.all_append]; simp
      cases d with
      | false =>
        have HN : Hid (false = ((bs s).take (k + 1)).all Lx.digit) := Lib.hid (by rw [hst, ← HA.out]; rfl)
        clear HA hst
        go_wp2_with fail
        go_round
        case rel => exact ⟨k + 1, false, by omega, HN, by go_num, rfl⟩
        case measure => simp [intOf]; omega
      | true =>
        obtain ⟨b, hb⟩ : ∃ b, Lx.digit s[k] = b := ⟨_, rfl⟩
        have HN : Hid (b = ((bs s).take (k + 1)).all Lx.digit) := Lib.hid (by rw [hst, ← HA.out, hb]; rfl)
        have HD := Lib.hid hb
        clear HA hst hb
        go_wp2_with fail
        go_at_call 86; refine (r9digit_any s[k] b HD.out _).mono ?_; rintro e w' ⟨rfl, hw'⟩
        subst hw'
        go_wp2_with fail
        go_round
        case rel => exact ⟨k + 1, b, by omega, HN, by go_num, rfl⟩
        case measure => simp [intOf]; omega
    · obtain rfl : k = s.size := by omega
      have HA2 : Hid (d = (bs s).all Lx.digit) := Lib.hid (by have := HA.out; rwa [← bs_len, List.take_length] at this)
      clear HA
      cases d with
      | false =>
        cases hw : Lx.word (bs s) with
        | true =>
          have HW := Lib.hid hw
          clear hw
          go_wp2_with fail
          go_at_call 33; refine (r9Word_any s true HW.out _ (by omega)).mono ?_; rintro e w' ⟨rfl, hw'⟩
          subst hw'
          go_wp2_with fail
          exact bodyPost_ret (v := .tuple #[.agg #[.int .i64 0, .string s, .int .i64 0, .int .i64 0], .int .i64 0]) (by simp [results, Tryd.results87, go_sem]) rfl (R9Word.fine (kd := 0) (HR.out.trans (Lx.tokW_word _ HW.out)) rfl ((Below.refl _ _).alloc (Nat.le_refl _) _))
        | false =>
          have HW := Lib.hid hw
          clear hw
          go_wp2_with fail
          go_at_call 33; refine (r9Word_any s false HW.out _ (by omega)).mono ?_; rintro e w' ⟨rfl, hw'⟩
          subst hw'
          go_wp2_with fail
          exact bodyPost_ret (v := .tuple #[.agg #[.int .i64 0, .string ⟨#[]⟩, .int .i64 0, .int .i64 0], .int .i64 11]) (by simp [results, Tryd.results87, go_sem]) rfl (R9Word.bad (z := 11) (HR.out.trans (tokW_none HA2.out.symm HW.out)) rfl ((Below.refl _ _).alloc (Nat.le_refl _) _))
      | true =>
        have HDG : Hid (Lx.digit ((bs s).headD 0) = true) := Lib.hid (by
          rw [HH.out]
          have h1 := bs_drop s 0 hpos
          rw [List.drop_zero] at h1
          have h2 := HA2.out.symm
          rw [h1, List.all_cons, Bool.and_eq_true] at h2
          exact h2.1)
        by_cases hz : 1 < s.size ∧ s[0] = 48
        · obtain ⟨z1, z2⟩ := hz
          have z1' : (1 : Int) < (s.size : Int) := by omega
          have e48 : ((s[0].toNat : Int) == 48) = true := u8_is (b := 48) z2
          have HZ : Hid (1 < (bs s).length ∧ (bs s).headD 0 = 48) := Lib.hid ⟨by rw [bs_len]; exact z1, by rw [HH.out]; exact z2⟩
          clear z2
          go_wp2_with fail
          exact bodyPost_ret (v := .tuple #[.agg #[.int .i64 0, .string ⟨#[]⟩, .int .i64 0, .int .i64 0], .int .i64 11]) (by simp [results, Tryd.results87, go_sem]) rfl (R9Word.bad (z := 11) (HR.out.trans (tokW_zero HDG.out HZ.out)) rfl ((Below.refl _ _).alloc (Nat.le_refl _) _))
        · have HZ : Hid (¬ (1 < (bs s).length ∧ (bs s).headD 0 = 48)) := Lib.hid (fun h => hz ⟨by rw [← bs_len]; exact h.1, by rw [← HH.out]; exact h.2⟩)
          have hz2 : ((1 : Int) < (s.size : Int) ∧ ((s[0].toNat : Int) == 48) = false) ∨ decide ((1 : Int) < (s.size : Int)) = false := by
            by_cases h1 : 1 < s.size
            · exact .inl ⟨by omega, u8_ne (b := 48) (fun h => hz ⟨h1, h⟩)⟩
            · exact .inr (decide_eq_false (by omega))
          clear hz
          cases hi : intOfB (bs s) with
          | some v =>
            have HI := Lib.hid hi
            clear hi
            rcases hz2 with ⟨z1, z2⟩ | z1
            all_goals
              go_wp2_with fail
              go_at_call 34; refine (rInt_some s v HI.out _ (by omega)).mono ?_; rintro e w3 ⟨rfl, b3⟩
              have d0 := tok_cell (i := 0) (v := .int .i64 0) b3 (World.cell?_alloc_new _ _ _ _)
              have d1 := tok_cell (i := 1) (v := .string ⟨#[]⟩) b3 (World.cell?_alloc_new _ _ _ _)
              have d2 := tok_cell (i := 2) (v := .int .i64 0) b3 (World.cell?_alloc_new _ _ _ _)
              have d3 := tok_cell (i := 3) (v := .int .i64 0) b3 (World.cell?_alloc_new _ _ _ _)
              have f0 := tok_free 0 b3
              have f1 := tok_free 1 b3
              have f2 := tok_free 2 b3
              have f3 := tok_free 3 b3
              have HB3 := Lib.hid (((Below.refl _ w).alloc (Nat.le_refl _) _).trans (b3.mono (by simp)))
              clear b3
              go_wp2_with fail
              exact bodyPost_ret (v := .tuple #[.agg #[.int .i64 1, .string s, .int .i64 v, .int .i64 0], .int .i64 0]) (by simp [results, Tryd.results87, go_sem, *]) rfl (R9Word.fine (kd := 1) (HR.out.trans (tokW_yes HDG.out HA2.out.symm HZ.out HI.out)) rfl ((((HB3.out.setCell (p := ⟨w.heap.size, 0, none⟩) (Nat.le_refl _) _).setCell (p := ⟨w.heap.size, 1, none⟩) (Nat.le_refl _) _).setCell (p := ⟨w.heap.size, 2, none⟩) (Nat.le_refl _) _).setCell (p := ⟨w.heap.size, 3, none⟩) (Nat.le_refl _) _))
          | none =>
            have HI := Lib.hid hi
            clear hi
            rcases hz2 with ⟨z1, z2⟩ | z1
            all_goals
              go_wp2_with fail
              go_at_call 34; refine (rInt_none s HI.out _ (by omega)).mono ?_; rintro e w3 ⟨rfl, b3⟩
              have d0 := tok_cell (i := 0) (v := .int .i64 0) b3 (World.cell?_alloc_new _ _ _ _)
              have d1 := tok_cell (i := 1) (v := .string ⟨#[]⟩) b3 (World.cell?_alloc_new _ _ _ _)
              have d2 := tok_cell (i := 2) (v := .int .i64 0) b3 (World.cell?_alloc_new _ _ _ _)
              have d3 := tok_cell (i := 3) (v := .int .i64 0) b3 (World.cell?_alloc_new _ _ _ _)
              have f0 := tok_free 0 b3
              have f1 := tok_free 1 b3
              have f2 := tok_free 2 b3
              have f3 := tok_free 3 b3
              have HB3 := Lib.hid (((Below.refl _ w).alloc (Nat.le_refl _) _).trans (b3.mono (by simp)))
              clear b3
              go_wp2_with fail
              exact bodyPost_ret (v := .tuple #[.agg #[.int .i64 0, .string ⟨#[]⟩, .int .i64 0, .int .i64 0], .int .i64 3]) (by simp [results, Tryd.results87, go_sem, *]) rfl (R9Word.bad (z := 3) (HR.out.trans (tokW_range HDG.out HA2.out.symm HZ.out HI.out)) rfl ((((HB3.out.setCell (p := ⟨w.heap.size, 0, none⟩) (Nat.le_refl _) _).setCell (p := ⟨w.heap.size, 1, none⟩) (Nat.le_refl _) _).setCell (p := ⟨w.heap.size, 2, none⟩) (Nat.le_refl _) _).setCell (p := ⟨w.heap.size, 3, none⟩) (Nat.le_refl _) _))
end Go.Proofs.YtdjiimblfhbcjaaDoor
