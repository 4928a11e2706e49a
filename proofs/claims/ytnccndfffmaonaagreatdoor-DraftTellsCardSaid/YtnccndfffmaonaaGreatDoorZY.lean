/- Parts R9b, R9c, R9d, R9e, DtM of this claim, laid one behind the other: walks and the plain laws behind them; each contract states its own conditions. -/
import Derived.Test.YtnccndfffmaonaaGreatDoorZS
import Derived.Test.YtnccndfffmaonaaGreatDoorZD
import Derived.Test.YtnccndfffmaonaaGreatDoorZE
import Derived.Test.YtnccndfffmaonaaGreatDoorZXa
import Derived.Test.YtnccndfffmaonaaGreatDoorZT
/- Walks of taquinref09: word. -/
namespace Go.Proofs.YtnccndfffmaonaaGreatDoor
set_option linter.unusedSimpArgs false
open Go.RowKit

/-- A token without its line, as a value. -/
def tv (kd : Nat) (t : List UInt8) (n : Int) : Value := .agg #[.int .i64 kd, .string ⟨t.toArray⟩, .int .i64 n, .int .i64 0]
def tz : Value := .agg #[.int .i64 0, .string ⟨#[]⟩, .int .i64 0, .int .i64 0]
/-- What word comes to. -/
def R9Word (w : World) (r : Except Nat (Nat × List UInt8 × Int)) (e : Ending) (w' : World) : Prop :=
  match r with
  | .ok x => e = .returned (.tuple #[tv x.1 x.2.1 x.2.2, .int .i64 0]) ∧ Below w.heap.size w w'
  | .error z => e = .returned (.tuple #[tz, .int .i64 z]) ∧ Below w.heap.size w w'
theorem R9Word.fine {w w' : World} {r : Except Nat (Nat × List UInt8 × Int)} {kd : Nat} {s : ByteArray} {n kk : Int} (h : r = .ok (kd, bs s, n)) (hk : kk = (kd : Int)) (hb : Below w.heap.size w w') : R9Word w r (.returned (.tuple #[.agg #[.int .i64 kk, .string s, .int .i64 n, .int .i64 0], .int .i64 0])) w' := by
  subst h hk
  refine ⟨?_, hb⟩
  dsimp only [tv]
  rw [show (⟨(bs s).toArray⟩ : ByteArray) = s from mk_data s]
theorem R9Word.bad {w w' : World} {r : Except Nat (Nat × List UInt8 × Int)} {z : Nat} {zz : Int} (h : r = .error z) (hz : zz = (z : Int)) (hb : Below w.heap.size w w') : R9Word w r (.returned (.tuple #[.agg #[.int .i64 0, .string ⟨#[]⟩, .int .i64 0, .int .i64 0], .int .i64 zz])) w' := by
  subst h hz; exact ⟨rfl, hb⟩
theorem tokW_none {l : List UInt8} (ha : l.all Lx.digit = false) (hw : Lx.word l = false) : Lx.tokW l = .error 11 := by
  cases hd : Lx.digit (l.headD 0) with
  | true => exact tokW_mixed hd ha
  | false => exact tokW_noword hd hw
theorem rInt_some (s : ByteArray) (v : Int) (h : intOfB (bs s) = some v) (w : World) (hs : s.size ≤ 1073741824) :
    Calls Tryz.prog 98 #[.string s] w fun e w' => e = .returned (.tuple #[.int .i64 v, .bool true]) ∧ Below w.heap.size w w' := by
  have := rInt_any s w (by omega)
  unfold IntPost at this
  rw [h] at this; exact this
theorem rInt_none (s : ByteArray) (h : intOfB (bs s) = none) (w : World) (hs : s.size ≤ 1073741824) :
    Calls Tryz.prog 98 #[.string s] w fun e w' => e = .returned (.tuple #[.int .i64 0, .bool false]) ∧ Below w.heap.size w w' := by
  have := rInt_any s w (by omega)
  unfold IntPost at this
  rw [h] at this; exact this

set_option maxRecDepth 100000 in
set_option maxHeartbeats 8000000 in
theorem r9word_any (s : ByteArray) (w : World) (hs : s.size ≤ 1000000000) (hpos : 0 < s.size) :
    Calls Tryz.prog 83 #[.string s] w (R9Word w (Lx.tokW (bs s))) := by
  obtain ⟨R, hR⟩ : ∃ R, R = Lx.tokW (bs s) := ⟨_, rfl⟩
  rw [← hR]
  have HR := Lib.hid hR
  have HH : Hid ((bs s).headD 0 = s[0]) := Lib.hid (bs_head s hpos)
  clear hR
  go_enter Tryz.func83, Tryz.ntmps83
  go_wp2_with fail
  go_loop [4, 5] (fun dv i => ∃ (k : Nat) (d : Bool), k ≤ s.size ∧ Hid (d = ((bs s).take k).all Lx.digit) ∧ i = .int .i64 k ∧ dv = .bool d) (fun _ i => s.size - (intOf i).toNat)
  case atStart => exact ⟨0, true, by omega, Lib.hid (by rfl), rfl, rfl⟩
  case round =>
    obtain ⟨k, d, hk, HA, rfl, rfl⟩ := hrel
    by_cases hlt : k < s.size
    · have hst : ((bs s).take (k + 1)).all Lx.digit = (((bs s).take k).all Lx.digit && Lx.digit s[k]) := by
        rw [bs_take s k hlt, List.all_append]; simp
      cases d with
      | false =>
        have HN : Hid (false = ((bs s).take (k + 1)).all Lx.digit) := Lib.hid (by rw [hst, ← HA.out]; rfl)
        clear HA hst
        go_wp2_with fail
        go_round
        case rel => exact ⟨k + 1, false, by omega, HN, by go_num, rfl⟩
        case measure => simp [intOf]; omega
      | true =>
        obtain ⟨b, hb⟩ : ∃ b, Lx.digit s[k] = b := ⟨_, rfl⟩
        have HN : Hid (b = ((bs s).take (k + 1)).all Lx.digit) := Lib.hid (by rw [hst, ← HA.out, hb]; rfl)
        have HD := Lib.hid hb
        clear HA hst hb
        go_wp2_with fail
        go_at_call 81; refine (r9digit_any s[k] b HD.out _).mono ?_; rintro e w' ⟨rfl, hw'⟩
        subst hw'
        go_wp2_with fail
        go_round
        case rel => exact ⟨k + 1, b, by omega, HN, by go_num, rfl⟩
        case measure => simp [intOf]; omega
    · obtain rfl : k = s.size := by omega
      have HA2 : Hid (d = (bs s).all Lx.digit) := Lib.hid (by have := HA.out; rwa [← bs_len, List.take_length] at this)
      clear HA
      cases d with
      | false =>
        cases hw : Lx.word (bs s) with
        | true =>
          have HW := Lib.hid hw
          clear hw
          go_wp2_with fail
          go_at_call 62; refine (r9Word_any s true HW.out _ (by omega)).mono ?_; rintro e w' ⟨rfl, hw'⟩
          subst hw'
          go_wp2_with fail
          exact bodyPost_ret (v := .tuple #[.agg #[.int .i64 0, .string s, .int .i64 0, .int .i64 0], .int .i64 0]) (by simp [results, Tryz.results83, go_sem]) rfl (R9Word.fine (kd := 0) (HR.out.trans (Lx.tokW_word _ HW.out)) rfl ((Below.refl _ _).alloc (Nat.le_refl _) _))
        | false =>
          have HW := Lib.hid hw
          clear hw
          go_wp2_with fail
          go_at_call 62; refine (r9Word_any s false HW.out _ (by omega)).mono ?_; rintro e w' ⟨rfl, hw'⟩
          subst hw'
          go_wp2_with fail
          exact bodyPost_ret (v := .tuple #[.agg #[.int .i64 0, .string ⟨#[]⟩, .int .i64 0, .int .i64 0], .int .i64 11]) (by simp [results, Tryz.results83, go_sem]) rfl (R9Word.bad (z := 11) (HR.out.trans (tokW_none HA2.out.symm HW.out)) rfl ((Below.refl _ _).alloc (Nat.le_refl _) _))
      | true =>
        have HDG : Hid (Lx.digit ((bs s).headD 0) = true) := Lib.hid (by
          rw [HH.out]
          have h1 := bs_drop s 0 hpos
          rw [List.drop_zero] at h1
          have h2 := HA2.out.symm
          rw [h1, List.all_cons, Bool.and_eq_true] at h2
          exact h2.1)
        by_cases hz : 1 < s.size ∧ s[0] = 48
        · obtain ⟨z1, z2⟩ := hz
          have z1' : (1 : Int) < (s.size : Int) := by omega
          have e48 : ((s[0].toNat : Int) == 48) = true := u8_is (b := 48) z2
          have HZ : Hid (1 < (bs s).length ∧ (bs s).headD 0 = 48) := Lib.hid ⟨by rw [bs_len]; exact z1, by rw [HH.out]; exact z2⟩
          clear z2
          go_wp2_with fail
          exact bodyPost_ret (v := .tuple #[.agg #[.int .i64 0, .string ⟨#[]⟩, .int .i64 0, .int .i64 0], .int .i64 11]) (by simp [results, Tryz.results83, go_sem]) rfl (R9Word.bad (z := 11) (HR.out.trans (tokW_zero HDG.out HZ.out)) rfl ((Below.refl _ _).alloc (Nat.le_refl _) _))
        · have HZ : Hid (¬ (1 < (bs s).length ∧ (bs s).headD 0 = 48)) := Lib.hid (fun h => hz ⟨by rw [← bs_len]; exact h.1, by rw [← HH.out]; exact h.2⟩)
          have hz2 : ((1 : Int) < (s.size : Int) ∧ ((s[0].toNat : Int) == 48) = false) ∨ decide ((1 : Int) < (s.size : Int)) = false := by
            by_cases h1 : 1 < s.size
            · exact .inl ⟨by omega, u8_ne (b := 48) (fun h => hz ⟨h1, h⟩)⟩
            · exact .inr (decide_eq_false (by omega))
          clear hz
          cases hi : intOfB (bs s) with
          | some v =>
            have HI := Lib.hid hi
            clear hi
            rcases hz2 with ⟨z1, z2⟩ | z1
            all_goals
              go_wp2_with fail
              go_at_call 98; refine (rInt_some s v HI.out _ (by omega)).mono ?_; rintro e w3 ⟨rfl, b3⟩
              have d0 := tok_cell (i := 0) (v := .int .i64 0) b3 (World.cell?_alloc_new _ _ _ _)
              have d1 := tok_cell (i := 1) (v := .string ⟨#[]⟩) b3 (World.cell?_alloc_new _ _ _ _)
              have d2 := tok_cell (i := 2) (v := .int .i64 0) b3 (World.cell?_alloc_new _ _ _ _)
              have d3 := tok_cell (i := 3) (v := .int .i64 0) b3 (World.cell?_alloc_new _ _ _ _)
              have f0 := tok_free 0 b3
              have f1 := tok_free 1 b3
              have f2 := tok_free 2 b3
              have f3 := tok_free 3 b3
              have HB3 := Lib.hid (((Below.refl _ w).alloc (Nat.le_refl _) _).trans (b3.mono (by simp)))
              clear b3
              go_wp2_with fail
              exact bodyPost_ret (v := .tuple #[.agg #[.int .i64 1, .string s, .int .i64 v, .int .i64 0], .int .i64 0]) (by simp [results, Tryz.results83, go_sem, *]) rfl (R9Word.fine (kd := 1) (HR.out.trans (tokW_yes HDG.out HA2.out.symm HZ.out HI.out)) rfl ((((HB3.out.setCell (p := ⟨w.heap.size, 0, none⟩) (Nat.le_refl _) _).setCell (p := ⟨w.heap.size, 1, none⟩) (Nat.le_refl _) _).setCell (p := ⟨w.heap.size, 2, none⟩) (Nat.le_refl _) _).setCell (p := ⟨w.heap.size, 3, none⟩) (Nat.le_refl _) _))
          | none =>
            have HI := Lib.hid hi
            clear hi
            rcases hz2 with ⟨z1, z2⟩ | z1
            all_goals
              go_wp2_with fail
              go_at_call 98; refine (rInt_none s HI.out _ (by omega)).mono ?_; rintro e w3 ⟨rfl, b3⟩
              have d0 := tok_cell (i := 0) (v := .int .i64 0) b3 (World.cell?_alloc_new _ _ _ _)
              have d1 := tok_cell (i := 1) (v := .string ⟨#[]⟩) b3 (World.cell?_alloc_new _ _ _ _)
              have d2 := tok_cell (i := 2) (v := .int .i64 0) b3 (World.cell?_alloc_new _ _ _ _)
              have d3 := tok_cell (i := 3) (v := .int .i64 0) b3 (World.cell?_alloc_new _ _ _ _)
              have f0 := tok_free 0 b3
              have f1 := tok_free 1 b3
              have f2 := tok_free 2 b3
              have f3 := tok_free 3 b3
              have HB3 := Lib.hid (((Below.refl _ w).alloc (Nat.le_refl _) _).trans (b3.mono (by simp)))
              clear b3
              go_wp2_with fail
              exact bodyPost_ret (v := .tuple #[.agg #[.int .i64 0, .string ⟨#[]⟩, .int .i64 0, .int .i64 0], .int .i64 3]) (by simp [results, Tryz.results83, go_sem, *]) rfl (R9Word.bad (z := 3) (HR.out.trans (tokW_range HDG.out HA2.out.symm HZ.out HI.out)) rfl ((((HB3.out.setCell (p := ⟨w.heap.size, 0, none⟩) (Nat.le_refl _) _).setCell (p := ⟨w.heap.size, 1, none⟩) (Nat.le_refl _) _).setCell (p := ⟨w.heap.size, 2, none⟩) (Nat.le_refl _) _).setCell (p := ⟨w.heap.size, 3, none⟩) (Nat.le_refl _) _))
end Go.Proofs.YtnccndfffmaonaaGreatDoor
/- Walks of taquinref09: quoted. -/
namespace Go.Proofs.YtnccndfffmaonaaGreatDoor
set_option linter.unusedSimpArgs false
open Go.RowKit

/-- The scan behind a backslash (true), or not. -/
def qs (p : Bool) (l : List UInt8) : Option (List UInt8 × List UInt8) :=
  if p then (match l with | [] => none | c :: r => (Lx.qscan r).map fun x => (c :: x.1, x.2)) else Lx.qscan l
theorem qs_back (l : List UInt8) : Lx.qscan (92 :: l) = (qs true l).map fun x => (92 :: x.1, x.2) := by
  cases l with
  | nil => rfl
  | cons c r =>
    rw [Lx.q_back]; unfold qs
    simp only [if_true]
    cases Lx.qscan r <;> rfl
theorem qs_slash (src : ByteArray) (k m : Nat) (hk : k + 1 ≤ m) (hm : m < src.size) (h2 : src[m] = 92) :
    addTo (mid src k m) (qs false ((bs src).drop m)) = addTo (mid src k (m + 1)) (qs true ((bs src).drop (m + 1))) := by
  rw [bs_drop src m hm, h2, mid_snoc src k m hk hm, h2]
  show addTo (mid src k m) (Lx.qscan (92 :: (bs src).drop (m + 1))) = _
  rw [qs_back]
  exact addTo_map _ [92] _
theorem qs_esc (src : ByteArray) (k m : Nat) (hk : k + 1 ≤ m) (hm : m < src.size) :
    addTo (mid src k m) (qs true ((bs src).drop m)) = addTo (mid src k (m + 1)) (qs false ((bs src).drop (m + 1))) := by
  rw [bs_drop src m hm, mid_snoc src k m hk hm]
  exact addTo_map _ [src[m]] _
theorem qs_none (src : ByteArray) (k m : Nat) (p : Bool) (hm : src.size ≤ m) : addTo (mid src k m) (qs p ((bs src).drop m)) = none := by
  rw [List.drop_eq_nil_of_le (by rw [bs_len]; exact hm)]
  cases p <;> rfl
theorem rUnquote_yes (s : ByteArray) (h : quote (unq (bs s)) = bs s) (hs : s.size ≤ 20000000) (w : World) :
    Calls Tryz.prog 97 #[.string s] w fun e w' => e = .returned (.tuple #[.string ⟨(unq (bs s)).toArray⟩, .bool true]) ∧ Below w.heap.size w w' := by
  have := rUnquote_any s w hs
  unfold UnqPost at this
  rw [if_pos h, decide_eq_true h] at this; exact this
theorem rUnquote_no (s : ByteArray) (h : ¬ quote (unq (bs s)) = bs s) (hs : s.size ≤ 20000000) (w : World) :
    Calls Tryz.prog 97 #[.string s] w fun e w' => e = .returned (.tuple #[.string ⟨#[]⟩, .bool false]) ∧ Below w.heap.size w w' := by
  have := rUnquote_any s w hs
  unfold UnqPost at this
  rw [if_neg h, decide_eq_false h] at this; exact this
/-- What a call that reads a token comes to. -/
def R9Tok (src : ByteArray) (w : World) (r : Except Nat (Nat × List UInt8 × Int)) (rest : List UInt8) (e : Ending) (w' : World) : Prop :=
  match r with
  | .ok x => ∃ m, m ≤ src.size ∧ rest = (bs src).drop m ∧ e = .returned (.tuple #[tv x.1 x.2.1 x.2.2, .int .i64 (m : Nat), .int .i64 0]) ∧ Below w.heap.size w w'
  | .error z => ∃ en : Int, e = .returned (.tuple #[tz, .int .i64 en, .int .i64 z]) ∧ Below w.heap.size w w'
theorem R9Tok.fine {src : ByteArray} {w w' : World} {r : Except Nat (Nat × List UInt8 × Int)} {rest t : List UInt8} {kd m : Nat} {n kk mm : Int} {s : ByteArray} (h : r = .ok (kd, t, n)) (ht : s = ⟨t.toArray⟩) (hk : kk = (kd : Int)) (hmm : mm = (m : Int)) (hm : m ≤ src.size) (hr : rest = (bs src).drop m) (hb : Below w.heap.size w w') : R9Tok src w r rest (.returned (.tuple #[.agg #[.int .i64 kk, .string s, .int .i64 n, .int .i64 0], .int .i64 mm, .int .i64 0])) w' := by
  subst h hk hmm ht
  exact ⟨m, hm, hr, rfl, hb⟩
theorem R9Tok.bad {src : ByteArray} {w w' : World} {r : Except Nat (Nat × List UInt8 × Int)} {rest : List UInt8} {z : Nat} {zz en : Int} (h : r = .error z) (hz : zz = (z : Int)) (hb : Below w.heap.size w w') : R9Tok src w r rest (.returned (.tuple #[.agg #[.int .i64 0, .string ⟨#[]⟩, .int .i64 0, .int .i64 0], .int .i64 en, .int .i64 zz])) w' := by
  subst h hz; exact ⟨en, rfl, hb⟩

set_option maxRecDepth 100000 in
set_option maxHeartbeats 8000000 in
theorem r9quoted_any (src : ByteArray) (k : Nat) (w : World) (hlt : k < src.size) (hs : src.size ≤ 10000000) (hp : src[k] = 34) :
    Calls Tryz.prog 79 #[.string src, .int .i64 k] w (R9Tok src w (qres (Lx.qscan ((bs src).drop (k + 1)))) (qrest (Lx.qscan ((bs src).drop (k + 1))))) := by
  obtain ⟨R, hR⟩ : ∃ R, R = Lx.qscan ((bs src).drop (k + 1)) := ⟨_, rfl⟩
  rw [← hR]
  have HR := Lib.hid hR
  have HP := Lib.hid hp
  clear hR hp
  go_enter Tryz.func79, Tryz.ntmps79
  go_wp2_with fail
  go_loop [7, 8] (fun bv i => ∃ (m b : Nat) (p : Bool), k + 1 ≤ m ∧ m ≤ src.size ∧ b ≤ m ∧ Hid (p = decide (b % 2 = 1)) ∧ Hid (R = addTo (mid src k m) (qs p ((bs src).drop m))) ∧ i = .int .i64 m ∧ bv = .int .i64 b) (fun _ i => src.size - (intOf i).toNat)
  case atStart => exact ⟨k + 1, 0, false, by omega, by omega, by omega, Lib.hid (by rfl), Lib.hid (HR.out.trans (q_start src k)), by go_num, rfl⟩
  case round =>
    obtain ⟨m, b, p, hkm, hm, hbm, HPA, HA, rfl, rfl⟩ := hrel
    clear HR
    by_cases hms : m < src.size
    · cases p with
      | true =>
        have hb1 : b % 2 = 1 := by have := HPA.out; simpa using this.symm
        have m2 : (((b : Int) % 2) == 0) = false := beq_eq_false_iff_ne.2 (by omega)
        have HN := Lib.hid (HA.out.trans (qs_esc src k m hkm hms))
        by_cases h92 : src[m] = 92
        · have e92 : ((src[m].toNat : Int) == 92) = true := u8_is (b := 92) h92
          have e34 : ((src[m].toNat : Int) == 34) = false := u8_ne (b := 34) (by rw [h92]; decide)
          have HPN : Hid (false = decide ((b + 1) % 2 = 1)) := Lib.hid (by rw [decide_eq_false]; omega)
          clear HA HPA hb1 h92
          go_wp2_with fail
          go_round
          case rel => exact ⟨m + 1, b + 1, false, by omega, by omega, by omega, HPN, HN, by go_num, by go_num⟩
          case measure => simp [intOf]; omega
        · have e92 : ((src[m].toNat : Int) == 92) = false := u8_ne (b := 92) h92
          clear HA HPA hb1 h92
          by_cases h34 : src[m] = 34
          · have e34 : ((src[m].toNat : Int) == 34) = true := u8_is (b := 34) h34
            clear h34
            go_wp2_with fail
            go_round
            case rel => exact ⟨m + 1, 0, false, by omega, by omega, by omega, Lib.hid (by rfl), HN, by go_num, rfl⟩
            case measure => simp [intOf]; omega
          · have e34 : ((src[m].toNat : Int) == 34) = false := u8_ne (b := 34) h34
            clear h34
            go_wp2_with fail
            go_round
            case rel => exact ⟨m + 1, 0, false, by omega, by omega, by omega, Lib.hid (by rfl), HN, by go_num, rfl⟩
            case measure => simp [intOf]; omega
      | false =>
        have hb1 : b % 2 = 0 := by have := HPA.out; simp at this; omega
        have m2 : (((b : Int) % 2) == 0) = true := beq_iff_eq.2 (by omega)
        by_cases h34 : src[m] = 34
        · have e34 : ((src[m].toNat : Int) == 34) = true := u8_is (b := 34) h34
          have HQ : Hid (R = some (mid src k m, (bs src).drop (m + 1))) := Lib.hid (HA.out.trans (q_end src k m hms h34))
          have HM : Hid (bs (src.extract k (m + 1)) = 34 :: (mid src k m ++ [34])) := Lib.hid (bs_mid src k m hkm hms HP.out h34)
          clear HA h34 HPA hb1
          have hb1 : (k : Int) ≤ (m : Int) + 1 := by omega
          have hb2 : (m : Int) + 1 ≤ (src.size : Int) := by omega
          have hb3 : (0 : Int) ≤ (k : Int) := by omega
          have hb4 : (k : Int).toNat = k := by omega
          have hb5 : ((m : Int) + 1).toNat = m + 1 := by omega
          have hWs : (src.extract k (m + 1)).size ≤ 10000000 := by rw [← bs_len, bs_extract, List.length_take, List.length_drop, bs_len]; omega
          by_cases hq : quote (raw (mid src k m)) = 34 :: (mid src k m ++ [34])
          · have HU : Hid (quote (unq (bs (src.extract k (m + 1)))) = bs (src.extract k (m + 1))) := Lib.hid (by rw [HM.out, unq_mid]; exact hq)
            have HV : Hid (raw (mid src k m) = unq (bs (src.extract k (m + 1)))) := Lib.hid (by rw [HM.out, unq_mid])
            have HX := Lib.hid hq
            clear hq
            go_wp2_with fail
            go_at_call 97; refine (rUnquote_yes _ HU.out (by omega) _).mono ?_; rintro e w3 ⟨rfl, b3⟩
            have d0 := tok_cell (i := 0) (v := .int .i64 0) b3 (World.cell?_alloc_new _ _ _ _)
            have d1 := tok_cell (i := 1) (v := .string ⟨#[]⟩) b3 (World.cell?_alloc_new _ _ _ _)
            have d2 := tok_cell (i := 2) (v := .int .i64 0) b3 (World.cell?_alloc_new _ _ _ _)
            have d3 := tok_cell (i := 3) (v := .int .i64 0) b3 (World.cell?_alloc_new _ _ _ _)
            have f0 := tok_free 0 b3
            have f1 := tok_free 1 b3
            have f2 := tok_free 2 b3
            have f3 := tok_free 3 b3
            have HB3 := Lib.hid (((Below.refl _ w).alloc (Nat.le_refl _) _).trans (b3.mono (by simp)))
            clear b3
            go_wp2_with fail
            exact bodyPost_ret (v := .tuple #[.agg #[.int .i64 2, .string ⟨(unq (bs (src.extract k (m + 1)))).toArray⟩, .int .i64 0, .int .i64 0], .int .i64 ((m : Int) + 1), .int .i64 0]) (by simp [results, Tryz.results79, go_sem, *]) rfl (R9Tok.fine (kd := 2) (m := m + 1) (by rw [HQ.out, qres, if_pos HX.out, HV.out]) rfl rfl (by omega) (by omega) (by rw [HQ.out, qrest]) ((((HB3.out.setCell (p := ⟨w.heap.size, 0, none⟩) (Nat.le_refl _) _).setCell (p := ⟨w.heap.size, 1, none⟩) (Nat.le_refl _) _).setCell (p := ⟨w.heap.size, 2, none⟩) (Nat.le_refl _) _).setCell (p := ⟨w.heap.size, 3, none⟩) (Nat.le_refl _) _))
          · have HU : Hid (¬ quote (unq (bs (src.extract k (m + 1)))) = bs (src.extract k (m + 1))) := Lib.hid (by rw [HM.out, unq_mid]; exact hq)
            have HX := Lib.hid hq
            clear hq
            go_wp2_with fail
            go_at_call 97; refine (rUnquote_no _ HU.out (by omega) _).mono ?_; rintro e w3 ⟨rfl, b3⟩
            have d0 := tok_cell (i := 0) (v := .int .i64 0) b3 (World.cell?_alloc_new _ _ _ _)
            have d1 := tok_cell (i := 1) (v := .string ⟨#[]⟩) b3 (World.cell?_alloc_new _ _ _ _)
            have d2 := tok_cell (i := 2) (v := .int .i64 0) b3 (World.cell?_alloc_new _ _ _ _)
            have d3 := tok_cell (i := 3) (v := .int .i64 0) b3 (World.cell?_alloc_new _ _ _ _)
            have f0 := tok_free 0 b3
            have f1 := tok_free 1 b3
            have f2 := tok_free 2 b3
            have f3 := tok_free 3 b3
            have HB3 := Lib.hid (((Below.refl _ w).alloc (Nat.le_refl _) _).trans (b3.mono (by simp)))
            clear b3
            go_wp2_with fail
            exact bodyPost_ret (v := .tuple #[.agg #[.int .i64 0, .string ⟨#[]⟩, .int .i64 0, .int .i64 0], .int .i64 0, .int .i64 11]) (by simp [results, Tryz.results79, go_sem, *]) rfl (R9Tok.bad (z := 11) (by rw [HQ.out, qres, if_neg HX.out]) rfl ((((HB3.out.setCell (p := ⟨w.heap.size, 0, none⟩) (Nat.le_refl _) _).setCell (p := ⟨w.heap.size, 1, none⟩) (Nat.le_refl _) _).setCell (p := ⟨w.heap.size, 2, none⟩) (Nat.le_refl _) _).setCell (p := ⟨w.heap.size, 3, none⟩) (Nat.le_refl _) _))
        · have e34 : ((src[m].toNat : Int) == 34) = false := u8_ne (b := 34) h34
          by_cases h92 : src[m] = 92
          · have e92 : ((src[m].toNat : Int) == 92) = true := u8_is (b := 92) h92
            have HN := Lib.hid (HA.out.trans (qs_slash src k m hkm hms h92))
            have HPN : Hid (true = decide ((b + 1) % 2 = 1)) := Lib.hid (by rw [decide_eq_true]; omega)
            clear HA h34 h92 HPA hb1
            go_wp2_with fail
            go_round
            case rel => exact ⟨m + 1, b + 1, true, by omega, by omega, by omega, HPN, HN, by go_num, by go_num⟩
            case measure => simp [intOf]; omega
          · have e92 : ((src[m].toNat : Int) == 92) = false := u8_ne (b := 92) h92
            have HN : Hid (R = addTo (mid src k (m + 1)) (qs false ((bs src).drop (m + 1)))) := Lib.hid (HA.out.trans (q_plain src k m hkm hms h34 h92))
            clear HA h34 h92 HPA hb1
            go_wp2_with fail
            go_round
            case rel => exact ⟨m + 1, 0, false, by omega, by omega, by omega, Lib.hid (by rfl), HN, by go_num, rfl⟩
            case measure => simp [intOf]; omega
    · have HQ : Hid (R = none) := Lib.hid (HA.out.trans (qs_none src k m p (by omega)))
      clear HA HPA
      go_wp2_with fail
      exact bodyPost_ret (v := .tuple #[.agg #[.int .i64 0, .string ⟨#[]⟩, .int .i64 0, .int .i64 0], .int .i64 0, .int .i64 11]) (by simp [results, Tryz.results79, go_sem]) rfl (R9Tok.bad (z := 11) (by rw [HQ.out, qres]) rfl ((Below.refl _ _).alloc (Nat.le_refl _) _))
end Go.Proofs.YtnccndfffmaonaaGreatDoor
/- Walks of taquinref09: token. -/
namespace Go.Proofs.YtnccndfffmaonaaGreatDoor
set_option linter.unusedSimpArgs false
open Go.RowKit

/-- What token comes to. -/
def R9Step (src : ByteArray) (k : Nat) (w : World) (st : Lx.Step) (e : Ending) (w' : World) : Prop :=
  match st with
  | .done => e = .returned (.tuple #[tv 4 [] 0, .int .i64 k, .int .i64 0]) ∧ Below w.heap.size w w'
  | .bad z => ∃ en : Int, e = .returned (.tuple #[tz, .int .i64 en, .int .i64 z]) ∧ Below w.heap.size w w'
  | .tok kd t n rest => ∃ m, m ≤ src.size ∧ rest = (bs src).drop m ∧ e = .returned (.tuple #[tv kd t n, .int .i64 (m : Nat), .int .i64 0]) ∧ Below w.heap.size w w'
theorem R9Step.tok {src : ByteArray} {k : Nat} {w w' : World} {st : Lx.Step} {rest t : List UInt8} {kd m : Nat} {n kk mm : Int} {s : ByteArray} (h : st = .tok kd t n rest) (ht : s = ⟨t.toArray⟩) (hk : kk = (kd : Int)) (hmm : mm = (m : Int)) (hm : m ≤ src.size) (hr : rest = (bs src).drop m) (hb : Below w.heap.size w w') : R9Step src k w st (.returned (.tuple #[.agg #[.int .i64 kk, .string s, .int .i64 n, .int .i64 0], .int .i64 mm, .int .i64 0])) w' := by
  subst h hk hmm ht
  exact ⟨m, hm, hr, rfl, hb⟩
theorem R9Step.bad {src : ByteArray} {k : Nat} {w w' : World} {st : Lx.Step} {z : Nat} {zz en : Int} (h : st = .bad z) (hz : zz = (z : Int)) (hb : Below w.heap.size w w') : R9Step src k w st (.returned (.tuple #[.agg #[.int .i64 0, .string ⟨#[]⟩, .int .i64 0, .int .i64 0], .int .i64 en, .int .i64 zz])) w' := by
  subst h hz; exact ⟨en, rfl, hb⟩
theorem R9Step.done {src : ByteArray} {k : Nat} {w w' : World} {st : Lx.Step} {kk : Int} (h : st = .done) (hk : kk = (k : Int)) (hb : Below w.heap.size w w') : R9Step src k w st (.returned (.tuple #[.agg #[.int .i64 4, .string ⟨#[]⟩, .int .i64 0, .int .i64 0], .int .i64 kk, .int .i64 0])) w' := by
  subst h hk; exact ⟨rfl, hb⟩

set_option maxRecDepth 100000 in
set_option maxHeartbeats 16000000 in
theorem r9token_any (src : ByteArray) (k : Nat) (w : World) (hk : k ≤ src.size) (hs : src.size ≤ 10000000) :
    Calls Tryz.prog 53 #[.string src, .int .i64 k] w (R9Step src k w (Lx.step ((bs src).drop k))) := by
  obtain ⟨S, hS⟩ : ∃ S, S = Lx.step ((bs src).drop k) := ⟨_, rfl⟩
  rw [← hS]
  by_cases hlt : k < src.size
  · have hd := bs_drop src k hlt
    have hS2 := hS.trans ((congrArg Lx.step hd).trans (Lx.step.eq_2 src[k] ((bs src).drop (k + 1))))
    have hkI : (k : Int) < (src.size : Int) := by omega
    have hk0 : (0 : Int) ≤ (k : Int) := by omega
    have hkn : (k : Int).toNat = k := by omega
    by_cases h10 : src[k] = 10
    · have e10 : ((src[k].toNat : Int) == 10) = true := u8_is (b := 10) h10
      have HS : Hid (S = .tok 3 [] 0 ((bs src).drop (k + 1))) := Lib.hid (by rw [hS2, h10]; rfl)
      clear hS2 hd hS h10
      go_enter Tryz.func53, Tryz.ntmps53
      go_wp2_with fail
      exact bodyPost_ret (v := .tuple #[.agg #[.int .i64 3, .string ⟨#[]⟩, .int .i64 0, .int .i64 0], .int .i64 ((k : Int) + 1), .int .i64 0]) (by simp [results, Tryz.results53, go_sem]) rfl (R9Step.tok (kd := 3) (m := k + 1) HS.out rfl rfl (by omega) (by omega) rfl ((Below.refl _ _).alloc (Nat.le_refl _) _))
    · have e10 : ((src[k].toNat : Int) == 10) = false := u8_ne (b := 10) h10
      by_cases h34 : src[k] = 34
      · have e34 : ((src[k].toNat : Int) == 34) = true := u8_is (b := 34) h34
        have hq := fun W => r9quoted_any src k W hlt hs h34
        have hS3 : S = match Lx.qscan ((bs src).drop (k + 1)) with | none => .bad 11 | some x => if quote (raw x.1) = 34 :: (x.1 ++ [34]) then .tok 2 (raw x.1) 0 x.2 else .bad 11 := by
          rw [hS2, h34]; rfl
        have HQ := Lib.hid hq
        clear hq hS2 hS hd h34 h10
        cases hsc : Lx.qscan ((bs src).drop (k + 1)) with
        | none =>
          rw [hsc] at HQ hS3
          have HS := Lib.hid hS3
          clear hS3 hsc
          go_enter Tryz.func53, Tryz.ntmps53
          go_wp2_with fail
          go_at_call 79; refine (HQ.out _).mono ?_; rintro e w3 ⟨en, rfl, b3⟩
          dsimp only [tz]
          have d0 := tok_cell (i := 0) (v := .int .i64 0) b3 (World.cell?_alloc_new _ _ _ _)
          have d1 := tok_cell (i := 1) (v := .string ⟨#[]⟩) b3 (World.cell?_alloc_new _ _ _ _)
          have d2 := tok_cell (i := 2) (v := .int .i64 0) b3 (World.cell?_alloc_new _ _ _ _)
          have d3 := tok_cell (i := 3) (v := .int .i64 0) b3 (World.cell?_alloc_new _ _ _ _)
          have f0 := tok_free 0 b3
          have f1 := tok_free 1 b3
          have f2 := tok_free 2 b3
          have f3 := tok_free 3 b3
          have HB3 := Lib.hid (((Below.refl _ w).alloc (Nat.le_refl _) _).trans (b3.mono (by simp)))
          clear b3
          go_wp2_with fail
          exact bodyPost_ret (v := .tuple #[.agg #[.int .i64 0, .string ⟨#[]⟩, .int .i64 0, .int .i64 0], .int .i64 en, .int .i64 11]) (by simp [results, Tryz.results53, go_sem, *]) rfl (R9Step.bad (z := 11) HS.out rfl ((((HB3.out.setCell (p := ⟨w.heap.size, 0, none⟩) (Nat.le_refl _) _).setCell (p := ⟨w.heap.size, 1, none⟩) (Nat.le_refl _) _).setCell (p := ⟨w.heap.size, 2, none⟩) (Nat.le_refl _) _).setCell (p := ⟨w.heap.size, 3, none⟩) (Nat.le_refl _) _))
        | some x =>
          rw [hsc] at HQ hS3
          dsimp only at hS3
          by_cases hx : quote (raw x.1) = 34 :: (x.1 ++ [34])
          · rw [if_pos hx] at hS3
            have HQ2 : Hid (∀ W, Calls Tryz.prog 79 #[.string src, .int .i64 k] W (R9Tok src W (.ok (2, raw x.1, 0)) x.2)) := Lib.hid (fun W => by have := HQ.out W; simp only [qres, qrest] at this; rw [if_pos hx] at this; exact this)
            have HS := Lib.hid hS3
            clear hS3 hsc HQ hx
            go_enter Tryz.func53, Tryz.ntmps53
            go_wp2_with fail
            go_at_call 79; refine (HQ2.out _).mono ?_; rintro e w3 ⟨m, hm, hr, rfl, b3⟩
            dsimp only [tv]
            have HR := Lib.hid hr
            clear hr
            have d0 := tok_cell (i := 0) (v := .int .i64 0) b3 (World.cell?_alloc_new _ _ _ _)
            have d1 := tok_cell (i := 1) (v := .string ⟨#[]⟩) b3 (World.cell?_alloc_new _ _ _ _)
            have d2 := tok_cell (i := 2) (v := .int .i64 0) b3 (World.cell?_alloc_new _ _ _ _)
            have d3 := tok_cell (i := 3) (v := .int .i64 0) b3 (World.cell?_alloc_new _ _ _ _)
            have f0 := tok_free 0 b3
            have f1 := tok_free 1 b3
            have f2 := tok_free 2 b3
            have f3 := tok_free 3 b3
            have HB3 := Lib.hid (((Below.refl _ w).alloc (Nat.le_refl _) _).trans (b3.mono (by simp)))
            clear b3
            go_wp2_with fail
            exact bodyPost_ret (v := .tuple #[.agg #[.int .i64 2, .string ⟨(raw x.1).toArray⟩, .int .i64 0, .int .i64 0], .int .i64 m, .int .i64 0]) (by simp [results, Tryz.results53, go_sem, *]) rfl (R9Step.tok (kd := 2) (m := m) HS.out rfl rfl rfl hm HR.out ((((HB3.out.setCell (p := ⟨w.heap.size, 0, none⟩) (Nat.le_refl _) _).setCell (p := ⟨w.heap.size, 1, none⟩) (Nat.le_refl _) _).setCell (p := ⟨w.heap.size, 2, none⟩) (Nat.le_refl _) _).setCell (p := ⟨w.heap.size, 3, none⟩) (Nat.le_refl _) _))
          · rw [if_neg hx] at hS3
            have HQ2 : Hid (∀ W, Calls Tryz.prog 79 #[.string src, .int .i64 k] W (R9Tok src W (.error 11) x.2)) := Lib.hid (fun W => by have := HQ.out W; simp only [qres, qrest] at this; rw [if_neg hx] at this; exact this)
            have HS := Lib.hid hS3
            clear hS3 hsc HQ hx
            go_enter Tryz.func53, Tryz.ntmps53
            go_wp2_with fail
            go_at_call 79; refine (HQ2.out _).mono ?_; rintro e w3 ⟨en, rfl, b3⟩
            dsimp only [tz]
            have d0 := tok_cell (i := 0) (v := .int .i64 0) b3 (World.cell?_alloc_new _ _ _ _)
            have d1 := tok_cell (i := 1) (v := .string ⟨#[]⟩) b3 (World.cell?_alloc_new _ _ _ _)
            have d2 := tok_cell (i := 2) (v := .int .i64 0) b3 (World.cell?_alloc_new _ _ _ _)
            have d3 := tok_cell (i := 3) (v := .int .i64 0) b3 (World.cell?_alloc_new _ _ _ _)
            have f0 := tok_free 0 b3
            have f1 := tok_free 1 b3
            have f2 := tok_free 2 b3
            have f3 := tok_free 3 b3
            have HB3 := Lib.hid (((Below.refl _ w).alloc (Nat.le_refl _) _).trans (b3.mono (by simp)))
            clear b3
            go_wp2_with fail
            exact bodyPost_ret (v := .tuple #[.agg #[.int .i64 0, .string ⟨#[]⟩, .int .i64 0, .int .i64 0], .int .i64 en, .int .i64 11]) (by simp [results, Tryz.results53, go_sem, *]) rfl (R9Step.bad (z := 11) HS.out rfl ((((HB3.out.setCell (p := ⟨w.heap.size, 0, none⟩) (Nat.le_refl _) _).setCell (p := ⟨w.heap.size, 1, none⟩) (Nat.le_refl _) _).setCell (p := ⟨w.heap.size, 2, none⟩) (Nat.le_refl _) _).setCell (p := ⟨w.heap.size, 3, none⟩) (Nat.le_refl _) _))
      · have e34 : ((src[k].toNat : Int) == 34) = false := u8_ne (b := 34) h34
        cases hl : (Lx.letter src[k] || Lx.digit src[k]) with
        | false =>
          rw [hl, if_neg (by simp), if_neg h34, if_neg h10] at hS2
          have hll : Lx.letter src[k] = false ∧ Lx.digit src[k] = false := by simpa using hl
          have HS := Lib.hid hS2
          have HL := Lib.hid hll.1
          have HD := Lib.hid hll.2
          clear hS2 hS hd h34 h10 hl hll
          go_enter Tryz.func53, Tryz.ntmps53
          go_wp2_with fail
          go_at_call 80; refine (r9letter_any src[k] false HL.out _).mono ?_; rintro e w' ⟨rfl, hw'⟩
          subst hw'
          go_wp2_with fail
          go_at_call 81; refine (r9digit_any src[k] false HD.out _).mono ?_; rintro e w' ⟨rfl, hw'⟩
          subst hw'
          go_wp2_with fail
          exact bodyPost_ret (v := .tuple #[.agg #[.int .i64 0, .string ⟨#[]⟩, .int .i64 0, .int .i64 0], .int .i64 0, .int .i64 11]) (by simp [results, Tryz.results53, go_sem]) rfl (R9Step.bad (z := 11) HS.out rfl ((Below.refl _ _).alloc (Nat.le_refl _) _))
        | true =>
          rw [hl, if_pos rfl] at hS2
          have hp : Lx.part src[k] = true := by
            rcases Bool.or_eq_true .. ▸ hl with h | h
            · exact Lx.letter_part h
            · exact Lx.digit_part h
          have HS : Hid (S = match Lx.tokW (((bs src).drop k).takeWhile Lx.part) with | .error e => .bad e | .ok x => .tok x.1 x.2.1 x.2.2 (((bs src).drop k).dropWhile Lx.part)) := Lib.hid (by rw [hS2, hd]; rfl)
          have HP := Lib.hid hp
          have hld : (Lx.letter src[k] = true) ∨ (Lx.letter src[k] = false ∧ Lx.digit src[k] = true) := by
            cases h : Lx.letter src[k] with
            | true => exact .inl rfl
            | false => rw [h] at hl; exact .inr ⟨rfl, by simpa using hl⟩
          have HLD := Lib.hid hld
          clear hS2 hS hd h34 h10 hl hp hld
          go_enter Tryz.func53, Tryz.ntmps53
          go_wp2_with fail
          rcases HLD.out with hl | ⟨hl, hdg⟩
          · have HL := Lib.hid hl
            clear hl
            go_at_call 80; refine (r9letter_any src[k] true HL.out _).mono ?_; rintro e w' ⟨rfl, hw'⟩
            subst hw'
            go_wp2_with fail
            go_loop [8] (fun i => ∃ m : Nat, k ≤ m ∧ m ≤ src.size ∧ Hid ((((bs src).drop k).take (m - k)).all Lx.part = true) ∧ i = .int .i64 m) (fun i => src.size - (intOf i).toNat)
            case atStart => exact ⟨k, by omega, by omega, Lib.hid (by rw [Nat.sub_self]; rfl), rfl⟩
            case round =>
              obtain ⟨m, hkm, hm, HA, rfl⟩ := hrel
              by_cases hms : m < src.size
              · cases hpm : Lx.part src[m] with
                | true =>
                  have HPM := Lib.hid hpm
                  have HA2 : Hid ((((bs src).drop k).take (m + 1 - k)).all Lx.part = true) := Lib.hid (by
                    have e : m + 1 - k = (m - k) + 1 := by omega
                    have e3 : ((bs src).drop k)[m - k]? = some src[m] := by
                      rw [List.getElem?_drop, show k + (m - k) = m by omega]; exact bs_get src m hms
                    rw [e, List.take_add_one, e3, List.all_append, HA.out]; simp [hpm])
                  clear hpm HA
                  go_wp2_with fail
                  go_at_call 82; refine (r9part_any src[m] true HPM.out _).mono ?_; rintro e w' ⟨rfl, hw'⟩
                  subst hw'
                  go_wp2_with fail
                  go_round
                  case rel => exact ⟨m + 1, by omega, by omega, HA2, by go_num⟩
                  case measure => simp [intOf]; omega
                | false =>
                  have HPM := Lib.hid hpm
                  have hwe := word_end src k m hkm hm HA.out (.inr ⟨hms, hpm⟩)
                  have hkm2 : k < m := by
                    rcases Nat.lt_or_ge k m with h | h
                    · exact h
                    · obtain rfl : k = m := by omega
                      rw [HP.out] at hpm; cases hpm
                  clear hpm HA
                  have hb1 : (k : Int) ≤ (m : Int) := by omega
                  have hb2 : (m : Int) ≤ (src.size : Int) := by omega
                  have hb5 : (m : Int).toNat = m := by omega
                  have hWpos : 0 < (src.extract k m).size := by rw [← bs_len, bs_extract, List.length_take, List.length_drop, bs_len]; omega
                  have hWs : (src.extract k m).size ≤ 1000000000 := by rw [← bs_len, bs_extract, List.length_take, List.length_drop, bs_len]; omega
                  have HT : Hid (S = match Lx.tokW (bs (src.extract k m)) with | .error e => .bad e | .ok x => .tok x.1 x.2.1 x.2.2 ((bs src).drop m)) := Lib.hid (by rw [HS.out, hwe.1, hwe.2])
                  clear hwe
                  go_wp2_with fail
                  go_at_call 82; refine (r9part_any src[m] false HPM.out _).mono ?_; rintro e w' ⟨rfl, hw'⟩
                  subst hw'
                  go_wp2_with fail
                  go_at_call 83; refine (r9word_any _ _ (by omega) hWpos).mono ?_; intro e w3 hpost
                  cases htk : Lx.tokW (bs (src.extract k m)) with
                  | error z =>
                    rw [htk] at hpost HT
                    obtain ⟨rfl, b3⟩ := hpost
                    dsimp only [tz]
                    have hws : w.heap.size < w3.heap.size := by have := b3.size; simp at this; omega
                    have d0 := tok_cell (i := 0) (v := .int .i64 0) b3 (World.cell?_alloc_new _ _ _ _)
                    have d1 := tok_cell (i := 1) (v := .string ⟨#[]⟩) b3 (World.cell?_alloc_new _ _ _ _)
                    have d2 := tok_cell (i := 2) (v := .int .i64 0) b3 (World.cell?_alloc_new _ _ _ _)
                    have d3 := tok_cell (i := 3) (v := .int .i64 0) b3 (World.cell?_alloc_new _ _ _ _)
                    have f0 := tok_free 0 b3
                    have f1 := tok_free 1 b3
                    have f2 := tok_free 2 b3
                    have f3 := tok_free 3 b3
                    have HB3 := Lib.hid (((Below.refl _ w).alloc (Nat.le_refl _) _).trans (b3.mono (by simp)))
                    clear b3
                    go_wp2_with fail
                    exact bodyPost_ret (v := .tuple #[.agg #[.int .i64 0, .string ⟨#[]⟩, .int .i64 0, .int .i64 0], .int .i64 m, .int .i64 z]) (by simp [results, Tryz.results53, go_sem, *]) rfl (R9Step.bad (z := z) HT.out rfl (Below.alloc ((((HB3.out.setCell (p := ⟨w.heap.size, 0, none⟩) (Nat.le_refl _) _).setCell (p := ⟨w.heap.size, 1, none⟩) (Nat.le_refl _) _).setCell (p := ⟨w.heap.size, 2, none⟩) (Nat.le_refl _) _).setCell (p := ⟨w.heap.size, 3, none⟩) (Nat.le_refl _) _) (Below.size ((((HB3.out.setCell (p := ⟨w.heap.size, 0, none⟩) (Nat.le_refl _) _).setCell (p := ⟨w.heap.size, 1, none⟩) (Nat.le_refl _) _).setCell (p := ⟨w.heap.size, 2, none⟩) (Nat.le_refl _) _).setCell (p := ⟨w.heap.size, 3, none⟩) (Nat.le_refl _) _)) _))
                  | ok x =>
                    rw [htk] at hpost HT
                    obtain ⟨rfl, b3⟩ := hpost
                    dsimp only [tv]
                    have hws : w.heap.size < w3.heap.size := by have := b3.size; simp at this; omega
                    have d0 := tok_cell (i := 0) (v := .int .i64 0) b3 (World.cell?_alloc_new _ _ _ _)
                    have d1 := tok_cell (i := 1) (v := .string ⟨#[]⟩) b3 (World.cell?_alloc_new _ _ _ _)
                    have d2 := tok_cell (i := 2) (v := .int .i64 0) b3 (World.cell?_alloc_new _ _ _ _)
                    have d3 := tok_cell (i := 3) (v := .int .i64 0) b3 (World.cell?_alloc_new _ _ _ _)
                    have f0 := tok_free 0 b3
                    have f1 := tok_free 1 b3
                    have f2 := tok_free 2 b3
                    have f3 := tok_free 3 b3
                    have HB3 := Lib.hid (((Below.refl _ w).alloc (Nat.le_refl _) _).trans (b3.mono (by simp)))
                    clear b3
                    go_wp2_with fail
                    exact bodyPost_ret (v := .tuple #[.agg #[.int .i64 x.1, .string ⟨x.2.1.toArray⟩, .int .i64 x.2.2, .int .i64 0], .int .i64 m, .int .i64 0]) (by simp [results, Tryz.results53, go_sem, *]) rfl (R9Step.tok (kd := x.1) (m := m) HT.out rfl rfl rfl hm rfl (Below.alloc ((((HB3.out.setCell (p := ⟨w.heap.size, 0, none⟩) (Nat.le_refl _) _).setCell (p := ⟨w.heap.size, 1, none⟩) (Nat.le_refl _) _).setCell (p := ⟨w.heap.size, 2, none⟩) (Nat.le_refl _) _).setCell (p := ⟨w.heap.size, 3, none⟩) (Nat.le_refl _) _) (Below.size ((((HB3.out.setCell (p := ⟨w.heap.size, 0, none⟩) (Nat.le_refl _) _).setCell (p := ⟨w.heap.size, 1, none⟩) (Nat.le_refl _) _).setCell (p := ⟨w.heap.size, 2, none⟩) (Nat.le_refl _) _).setCell (p := ⟨w.heap.size, 3, none⟩) (Nat.le_refl _) _)) _))
              · have hwe := word_end src k m hkm hm HA.out (.inl (by omega))
                have hkm2 : k < m := by omega
                clear HA
                have hb1 : (k : Int) ≤ (m : Int) := by omega
                have hb2 : (m : Int) ≤ (src.size : Int) := by omega
                have hb5 : (m : Int).toNat = m := by omega
                have hWpos : 0 < (src.extract k m).size := by rw [← bs_len, bs_extract, List.length_take, List.length_drop, bs_len]; omega
                have hWs : (src.extract k m).size ≤ 1000000000 := by rw [← bs_len, bs_extract, List.length_take, List.length_drop, bs_len]; omega
                have HT : Hid (S = match Lx.tokW (bs (src.extract k m)) with | .error e => .bad e | .ok x => .tok x.1 x.2.1 x.2.2 ((bs src).drop m)) := Lib.hid (by rw [HS.out, hwe.1, hwe.2])
                clear hwe
                go_wp2_with fail
                go_at_call 83; refine (r9word_any _ _ (by omega) hWpos).mono ?_; intro e w3 hpost
                cases htk : Lx.tokW (bs (src.extract k m)) with
                | error z =>
                  rw [htk] at hpost HT
                  obtain ⟨rfl, b3⟩ := hpost
                  dsimp only [tz]
                  have hws : w.heap.size < w3.heap.size := by have := b3.size; simp at this; omega
                  have d0 := tok_cell (i := 0) (v := .int .i64 0) b3 (World.cell?_alloc_new _ _ _ _)
                  have d1 := tok_cell (i := 1) (v := .string ⟨#[]⟩) b3 (World.cell?_alloc_new _ _ _ _)
                  have d2 := tok_cell (i := 2) (v := .int .i64 0) b3 (World.cell?_alloc_new _ _ _ _)
                  have d3 := tok_cell (i := 3) (v := .int .i64 0) b3 (World.cell?_alloc_new _ _ _ _)
                  have f0 := tok_free 0 b3
                  have f1 := tok_free 1 b3
                  have f2 := tok_free 2 b3
                  have f3 := tok_free 3 b3
                  have HB3 := Lib.hid (((Below.refl _ w).alloc (Nat.le_refl _) _).trans (b3.mono (by simp)))
                  clear b3
                  go_wp2_with fail
                  exact bodyPost_ret (v := .tuple #[.agg #[.int .i64 0, .string ⟨#[]⟩, .int .i64 0, .int .i64 0], .int .i64 m, .int .i64 z]) (by simp [results, Tryz.results53, go_sem, *]) rfl (R9Step.bad (z := z) HT.out rfl (Below.alloc ((((HB3.out.setCell (p := ⟨w.heap.size, 0, none⟩) (Nat.le_refl _) _).setCell (p := ⟨w.heap.size, 1, none⟩) (Nat.le_refl _) _).setCell (p := ⟨w.heap.size, 2, none⟩) (Nat.le_refl _) _).setCell (p := ⟨w.heap.size, 3, none⟩) (Nat.le_refl _) _) (Below.size ((((HB3.out.setCell (p := ⟨w.heap.size, 0, none⟩) (Nat.le_refl _) _).setCell (p := ⟨w.heap.size, 1, none⟩) (Nat.le_refl _) _).setCell (p := ⟨w.heap.size, 2, none⟩) (Nat.le_refl _) _).setCell (p := ⟨w.heap.size, 3, none⟩) (Nat.le_refl _) _)) _))
                | ok x =>
                  rw [htk] at hpost HT
                  obtain ⟨rfl, b3⟩ := hpost
                  dsimp only [tv]
                  have hws : w.heap.size < w3.heap.size := by have := b3.size; simp at this; omega
                  have d0 := tok_cell (i := 0) (v := .int .i64 0) b3 (World.cell?_alloc_new _ _ _ _)
                  have d1 := tok_cell (i := 1) (v := .string ⟨#[]⟩) b3 (World.cell?_alloc_new _ _ _ _)
                  have d2 := tok_cell (i := 2) (v := .int .i64 0) b3 (World.cell?_alloc_new _ _ _ _)
                  have d3 := tok_cell (i := 3) (v := .int .i64 0) b3 (World.cell?_alloc_new _ _ _ _)
                  have f0 := tok_free 0 b3
                  have f1 := tok_free 1 b3
                  have f2 := tok_free 2 b3
                  have f3 := tok_free 3 b3
                  have HB3 := Lib.hid (((Below.refl _ w).alloc (Nat.le_refl _) _).trans (b3.mono (by simp)))
                  clear b3
                  go_wp2_with fail
                  exact bodyPost_ret (v := .tuple #[.agg #[.int .i64 x.1, .string ⟨x.2.1.toArray⟩, .int .i64 x.2.2, .int .i64 0], .int .i64 m, .int .i64 0]) (by simp [results, Tryz.results53, go_sem, *]) rfl (R9Step.tok (kd := x.1) (m := m) HT.out rfl rfl rfl hm rfl (Below.alloc ((((HB3.out.setCell (p := ⟨w.heap.size, 0, none⟩) (Nat.le_refl _) _).setCell (p := ⟨w.heap.size, 1, none⟩) (Nat.le_refl _) _).setCell (p := ⟨w.heap.size, 2, none⟩) (Nat.le_refl _) _).setCell (p := ⟨w.heap.size, 3, none⟩) (Nat.le_refl _) _) (Below.size ((((HB3.out.setCell (p := ⟨w.heap.size, 0, none⟩) (Nat.le_refl _) _).setCell (p := ⟨w.heap.size, 1, none⟩) (Nat.le_refl _) _).setCell (p := ⟨w.heap.size, 2, none⟩) (Nat.le_refl _) _).setCell (p := ⟨w.heap.size, 3, none⟩) (Nat.le_refl _) _)) _))
          · have HL := Lib.hid hl
            have HD := Lib.hid hdg
            clear hl hdg
            go_at_call 80; refine (r9letter_any src[k] false HL.out _).mono ?_; rintro e w' ⟨rfl, hw'⟩
            subst hw'
            go_wp2_with fail
            go_at_call 81; refine (r9digit_any src[k] true HD.out _).mono ?_; rintro e w' ⟨rfl, hw'⟩
            subst hw'
            go_wp2_with fail
            go_loop [8] (fun i => ∃ m : Nat, k ≤ m ∧ m ≤ src.size ∧ Hid ((((bs src).drop k).take (m - k)).all Lx.part = true) ∧ i = .int .i64 m) (fun i => src.size - (intOf i).toNat)
            case atStart => exact ⟨k, by omega, by omega, Lib.hid (by rw [Nat.sub_self]; rfl), rfl⟩
            case round =>
              obtain ⟨m, hkm, hm, HA, rfl⟩ := hrel
              by_cases hms : m < src.size
              · cases hpm : Lx.part src[m] with
                | true =>
                  have HPM := Lib.hid hpm
                  have HA2 : Hid ((((bs src).drop k).take (m + 1 - k)).all Lx.part = true) := Lib.hid (by
                    have e : m + 1 - k = (m - k) + 1 := by omega
                    have e3 : ((bs src).drop k)[m - k]? = some src[m] := by
                      rw [List.getElem?_drop, show k + (m - k) = m by omega]; exact bs_get src m hms
                    rw [e, List.take_add_one, e3, List.all_append, HA.out]; simp [hpm])
                  clear hpm HA
                  go_wp2_with fail
                  go_at_call 82; refine (r9part_any src[m] true HPM.out _).mono ?_; rintro e w' ⟨rfl, hw'⟩
                  subst hw'
                  go_wp2_with fail
                  go_round
                  case rel => exact ⟨m + 1, by omega, by omega, HA2, by go_num⟩
                  case measure => simp [intOf]; omega
                | false =>
                  have HPM := Lib.hid hpm
                  have hwe := word_end src k m hkm hm HA.out (.inr ⟨hms, hpm⟩)
                  have hkm2 : k < m := by
                    rcases Nat.lt_or_ge k m with h | h
                    · exact h
                    · obtain rfl : k = m := by omega
                      rw [HP.out] at hpm; cases hpm
                  clear hpm HA
                  have hb1 : (k : Int) ≤ (m : Int) := by omega
                  have hb2 : (m : Int) ≤ (src.size : Int) := by omega
                  have hb5 : (m : Int).toNat = m := by omega
                  have hWpos : 0 < (src.extract k m).size := by rw [← bs_len, bs_extract, List.length_take, List.length_drop, bs_len]; omega
                  have hWs : (src.extract k m).size ≤ 1000000000 := by rw [← bs_len, bs_extract, List.length_take, List.length_drop, bs_len]; omega
                  have HT : Hid (S = match Lx.tokW (bs (src.extract k m)) with | .error e => .bad e | .ok x => .tok x.1 x.2.1 x.2.2 ((bs src).drop m)) := Lib.hid (by rw [HS.out, hwe.1, hwe.2])
                  clear hwe
                  go_wp2_with fail
                  go_at_call 82; refine (r9part_any src[m] false HPM.out _).mono ?_; rintro e w' ⟨rfl, hw'⟩
                  subst hw'
                  go_wp2_with fail
                  go_at_call 83; refine (r9word_any _ _ (by omega) hWpos).mono ?_; intro e w3 hpost
                  cases htk : Lx.tokW (bs (src.extract k m)) with
                  | error z =>
                    rw [htk] at hpost HT
                    obtain ⟨rfl, b3⟩ := hpost
                    dsimp only [tz]
                    have hws : w.heap.size < w3.heap.size := by have := b3.size; simp at this; omega
                    have d0 := tok_cell (i := 0) (v := .int .i64 0) b3 (World.cell?_alloc_new _ _ _ _)
                    have d1 := tok_cell (i := 1) (v := .string ⟨#[]⟩) b3 (World.cell?_alloc_new _ _ _ _)
                    have d2 := tok_cell (i := 2) (v := .int .i64 0) b3 (World.cell?_alloc_new _ _ _ _)
                    have d3 := tok_cell (i := 3) (v := .int .i64 0) b3 (World.cell?_alloc_new _ _ _ _)
                    have f0 := tok_free 0 b3
                    have f1 := tok_free 1 b3
                    have f2 := tok_free 2 b3
                    have f3 := tok_free 3 b3
                    have HB3 := Lib.hid (((Below.refl _ w).alloc (Nat.le_refl _) _).trans (b3.mono (by simp)))
                    clear b3
                    go_wp2_with fail
                    exact bodyPost_ret (v := .tuple #[.agg #[.int .i64 0, .string ⟨#[]⟩, .int .i64 0, .int .i64 0], .int .i64 m, .int .i64 z]) (by simp [results, Tryz.results53, go_sem, *]) rfl (R9Step.bad (z := z) HT.out rfl (Below.alloc ((((HB3.out.setCell (p := ⟨w.heap.size, 0, none⟩) (Nat.le_refl _) _).setCell (p := ⟨w.heap.size, 1, none⟩) (Nat.le_refl _) _).setCell (p := ⟨w.heap.size, 2, none⟩) (Nat.le_refl _) _).setCell (p := ⟨w.heap.size, 3, none⟩) (Nat.le_refl _) _) (Below.size ((((HB3.out.setCell (p := ⟨w.heap.size, 0, none⟩) (Nat.le_refl _) _).setCell (p := ⟨w.heap.size, 1, none⟩) (Nat.le_refl _) _).setCell (p := ⟨w.heap.size, 2, none⟩) (Nat.le_refl _) _).setCell (p := ⟨w.heap.size, 3, none⟩) (Nat.le_refl _) _)) _))
                  | ok x =>
                    rw [htk] at hpost HT
                    obtain ⟨rfl, b3⟩ := hpost
                    dsimp only [tv]
                    have hws : w.heap.size < w3.heap.size := by have := b3.size; simp at this; omega
                    have d0 := tok_cell (i := 0) (v := .int .i64 0) b3 (World.cell?_alloc_new _ _ _ _)
                    have d1 := tok_cell (i := 1) (v := .string ⟨#[]⟩) b3 (World.cell?_alloc_new _ _ _ _)
                    have d2 := tok_cell (i := 2) (v := .int .i64 0) b3 (World.cell?_alloc_new _ _ _ _)
                    have d3 := tok_cell (i := 3) (v := .int .i64 0) b3 (World.cell?_alloc_new _ _ _ _)
                    have f0 := tok_free 0 b3
                    have f1 := tok_free 1 b3
                    have f2 := tok_free 2 b3
                    have f3 := tok_free 3 b3
                    have HB3 := Lib.hid (((Below.refl _ w).alloc (Nat.le_refl _) _).trans (b3.mono (by simp)))
                    clear b3
                    go_wp2_with fail
                    exact bodyPost_ret (v := .tuple #[.agg #[.int .i64 x.1, .string ⟨x.2.1.toArray⟩, .int .i64 x.2.2, .int .i64 0], .int .i64 m, .int .i64 0]) (by simp [results, Tryz.results53, go_sem, *]) rfl (R9Step.tok (kd := x.1) (m := m) HT.out rfl rfl rfl hm rfl (Below.alloc ((((HB3.out.setCell (p := ⟨w.heap.size, 0, none⟩) (Nat.le_refl _) _).setCell (p := ⟨w.heap.size, 1, none⟩) (Nat.le_refl _) _).setCell (p := ⟨w.heap.size, 2, none⟩) (Nat.le_refl _) _).setCell (p := ⟨w.heap.size, 3, none⟩) (Nat.le_refl _) _) (Below.size ((((HB3.out.setCell (p := ⟨w.heap.size, 0, none⟩) (Nat.le_refl _) _).setCell (p := ⟨w.heap.size, 1, none⟩) (Nat.le_refl _) _).setCell (p := ⟨w.heap.size, 2, none⟩) (Nat.le_refl _) _).setCell (p := ⟨w.heap.size, 3, none⟩) (Nat.le_refl _) _)) _))
              · have hwe := word_end src k m hkm hm HA.out (.inl (by omega))
                have hkm2 : k < m := by omega
                clear HA
                have hb1 : (k : Int) ≤ (m : Int) := by omega
                have hb2 : (m : Int) ≤ (src.size : Int) := by omega
                have hb5 : (m : Int).toNat = m := by omega
                have hWpos : 0 < (src.extract k m).size := by rw [← bs_len, bs_extract, List.length_take, List.length_drop, bs_len]; omega
                have hWs : (src.extract k m).size ≤ 1000000000 := by rw [← bs_len, bs_extract, List.length_take, List.length_drop, bs_len]; omega
                have HT : Hid (S = match Lx.tokW (bs (src.extract k m)) with | .error e => .bad e | .ok x => .tok x.1 x.2.1 x.2.2 ((bs src).drop m)) := Lib.hid (by rw [HS.out, hwe.1, hwe.2])
                clear hwe
                go_wp2_with fail
                go_at_call 83; refine (r9word_any _ _ (by omega) hWpos).mono ?_; intro e w3 hpost
                cases htk : Lx.tokW (bs (src.extract k m)) with
                | error z =>
                  rw [htk] at hpost HT
                  obtain ⟨rfl, b3⟩ := hpost
                  dsimp only [tz]
                  have hws : w.heap.size < w3.heap.size := by have := b3.size; simp at this; omega
                  have d0 := tok_cell (i := 0) (v := .int .i64 0) b3 (World.cell?_alloc_new _ _ _ _)
                  have d1 := tok_cell (i := 1) (v := .string ⟨#[]⟩) b3 (World.cell?_alloc_new _ _ _ _)
                  have d2 := tok_cell (i := 2) (v := .int .i64 0) b3 (World.cell?_alloc_new _ _ _ _)
                  have d3 := tok_cell (i := 3) (v := .int .i64 0) b3 (World.cell?_alloc_new _ _ _ _)
                  have f0 := tok_free 0 b3
                  have f1 := tok_free 1 b3
                  have f2 := tok_free 2 b3
                  have f3 := tok_free 3 b3
                  have HB3 := Lib.hid (((Below.refl _ w).alloc (Nat.le_refl _) _).trans (b3.mono (by simp)))
                  clear b3
                  go_wp2_with fail
                  exact bodyPost_ret (v := .tuple #[.agg #[.int .i64 0, .string ⟨#[]⟩, .int .i64 0, .int .i64 0], .int .i64 m, .int .i64 z]) (by simp [results, Tryz.results53, go_sem, *]) rfl (R9Step.bad (z := z) HT.out rfl (Below.alloc ((((HB3.out.setCell (p := ⟨w.heap.size, 0, none⟩) (Nat.le_refl _) _).setCell (p := ⟨w.heap.size, 1, none⟩) (Nat.le_refl _) _).setCell (p := ⟨w.heap.size, 2, none⟩) (Nat.le_refl _) _).setCell (p := ⟨w.heap.size, 3, none⟩) (Nat.le_refl _) _) (Below.size ((((HB3.out.setCell (p := ⟨w.heap.size, 0, none⟩) (Nat.le_refl _) _).setCell (p := ⟨w.heap.size, 1, none⟩) (Nat.le_refl _) _).setCell (p := ⟨w.heap.size, 2, none⟩) (Nat.le_refl _) _).setCell (p := ⟨w.heap.size, 3, none⟩) (Nat.le_refl _) _)) _))
                | ok x =>
                  rw [htk] at hpost HT
                  obtain ⟨rfl, b3⟩ := hpost
                  dsimp only [tv]
                  have hws : w.heap.size < w3.heap.size := by have := b3.size; simp at this; omega
                  have d0 := tok_cell (i := 0) (v := .int .i64 0) b3 (World.cell?_alloc_new _ _ _ _)
                  have d1 := tok_cell (i := 1) (v := .string ⟨#[]⟩) b3 (World.cell?_alloc_new _ _ _ _)
                  have d2 := tok_cell (i := 2) (v := .int .i64 0) b3 (World.cell?_alloc_new _ _ _ _)
                  have d3 := tok_cell (i := 3) (v := .int .i64 0) b3 (World.cell?_alloc_new _ _ _ _)
                  have f0 := tok_free 0 b3
                  have f1 := tok_free 1 b3
                  have f2 := tok_free 2 b3
                  have f3 := tok_free 3 b3
                  have HB3 := Lib.hid (((Below.refl _ w).alloc (Nat.le_refl _) _).trans (b3.mono (by simp)))
                  clear b3
                  go_wp2_with fail
                  exact bodyPost_ret (v := .tuple #[.agg #[.int .i64 x.1, .string ⟨x.2.1.toArray⟩, .int .i64 x.2.2, .int .i64 0], .int .i64 m, .int .i64 0]) (by simp [results, Tryz.results53, go_sem, *]) rfl (R9Step.tok (kd := x.1) (m := m) HT.out rfl rfl rfl hm rfl (Below.alloc ((((HB3.out.setCell (p := ⟨w.heap.size, 0, none⟩) (Nat.le_refl _) _).setCell (p := ⟨w.heap.size, 1, none⟩) (Nat.le_refl _) _).setCell (p := ⟨w.heap.size, 2, none⟩) (Nat.le_refl _) _).setCell (p := ⟨w.heap.size, 3, none⟩) (Nat.le_refl _) _) (Below.size ((((HB3.out.setCell (p := ⟨w.heap.size, 0, none⟩) (Nat.le_refl _) _).setCell (p := ⟨w.heap.size, 1, none⟩) (Nat.le_refl _) _).setCell (p := ⟨w.heap.size, 2, none⟩) (Nat.le_refl _) _).setCell (p := ⟨w.heap.size, 3, none⟩) (Nat.le_refl _) _)) _))
  · obtain rfl : k = src.size := by omega
    have HS : Hid (S = .done) := Lib.hid (by rw [hS, List.drop_eq_nil_of_le (by rw [bs_len]; exact Nat.le_refl _)]; rfl)
    clear hS
    go_enter Tryz.func53, Tryz.ntmps53
    go_wp2_with fail
    exact bodyPost_ret (v := .tuple #[.agg #[.int .i64 4, .string ⟨#[]⟩, .int .i64 0, .int .i64 0], .int .i64 src.size, .int .i64 0]) (by simp [results, Tryz.results53, go_sem]) rfl (R9Step.done HS.out rfl ((Below.refl _ _).alloc (Nat.le_refl _) _))
end Go.Proofs.YtnccndfffmaonaaGreatDoor
/- Walks of taquinref09: Lex. -/
namespace Go.Proofs.YtnccndfffmaonaaGreatDoor
set_option linter.unusedSimpArgs false
open Go.RowKit

/-- A call's own list of tokens. -/
def OT (base : Nat) (w : World) (v : Value) (ts : List Lx.Tok) : Prop := w.ownsRow base 42 4 v ts.length (toksC ts)
theorem OT.nil (base : Nat) (w : World) : OT base w (.slice none 0 0) [] := ⟨rfl, .inl ⟨rfl, rfl⟩⟩
theorem OT.keep {base : Nat} {w W : World} {v : Value} {ts : List Lx.Tok} (h : OT base w v ts) (hb : Below w.heap.size w W) : OT base W v ts :=
  World.ownsRow.kept (row := none) h ⟨hb.os, hb.tape, hb.output, hb.size, fun k hk _ => hb.block k hk⟩ (Classical.em _)
theorem OT.z0 {base : Nat} {w : World} {v : Value} {ts : List Lx.Tok} (h : OT base w v ts) : Z0 v := by
  rintro b off sp n cap rfl
  rcases h.2 with ⟨h, _⟩ | ⟨g, cap, cur, h, _⟩
  · cases h
  · cases h; exact ⟨rfl, rfl⟩
theorem wpList_app_tok {w : World} {ops : Array Oper} {rest : List Oper} {o : Oper} {a : Act} {Q : Exit → Act → World → Prop} (hgd : o.guard = none) (s x : Operand)
    (ho : o.op = .call { callee := .builtin .append, args := #[s, x], argTypes := #[38, 38] })
    (base : Nat) (v : Value) (ts : List Lx.Tok) (hs : a.eval s = v) (hown : OT base w v ts)
    (g c : Nat) (t : Lx.Tok) (cs : Array Value) (hx : a.eval x = .slice (some ⟨g, 0, none⟩) 1 c) (hg : w.heap[g]? = some (.cells cs 42 (0, 0))) (hcs : cs.toList = tokC t)
    (hsz : ts.length ≤ 1000000000) (hbase : base ≤ w.heap.size)
    (h : ∀ v' w', OT base w' v' (ts ++ [t]) → Below base w w' → w.grownBy w' v.ownBlock → wpList Tryz.prog ops Q rest (a.put o.dst v') w') : wpList Tryz.prog ops Q (o :: rest) a w := by
  obtain ⟨i, hi, hz, hsize, hby⟩ := info_parts Tryz.tokInfo
  have hlt := hown
  refine wpList_append_own w hgd s x _ ho base 42 i _ 4 40 Tryz.underlying38 hi hz hsize hby rfl (by decide) v ts.length (toksC ts) hs hown ⟨g, 0, none⟩ 1 c (tokC t) hx (by simp [tokC]) ?_ ?_ (by unfold maxLen; omega) (by omega) hbase ?_
  · intro j u hj
    have e2 : ((⟨g, 0, none⟩ : Addr).add j) = ⟨g, 0 + j, none⟩ := by unfold Addr.add; split <;> simp_all
    rw [e2, Nat.zero_add]
    have : cs[j]? = some u := by rw [← hj, ← hcs]; simp
    simp [World.cell?, hg, this]
  · intro u hu
    simp only [tokC, List.mem_cons, List.not_mem_nil, or_false] at hu
    rcases hu with rfl | rfl | rfl | rfl <;> rfl
  · intro v' w' h2 h3 _
    refine h v' w' ?_ ((Below.refl _ _).grown h3 hbase (fun k hk => (World.ownsRow.lt hlt k hk).1)) h3
    unfold OT
    rw [List.length_append, toksC_append]
    have e : toksC [t] = tokC t := by simp [toksC]
    rw [e]; exact h2
theorem lex_same {l l' : List UInt8} (ln : Nat) (h : Lx.skip false l = Lx.skip false l') : Lx.lex l ln = Lx.lex l' ln := by rw [Lx.lex_eq, h, ← Lx.lex_eq]
def R9Rel (src : ByteArray) (G : Except (Nat × Nat) (List Lx.Tok)) (k ln : Nat) (ts : List Lx.Tok) : Prop := G = joinT ts (Lx.lex ((bs src).drop k) ln)
theorem r9_white {src : ByteArray} {G : Except (Nat × Nat) (List Lx.Tok)} {k ln : Nat} {ts : List Lx.Tok} (h : R9Rel src G k ln ts) (hlt : k < src.size) (hw : Lx.white src[k] = true) : R9Rel src G (k + 1) ln ts := by
  unfold R9Rel at *
  rw [h]; congr 1
  apply lex_same
  rw [bs_drop src k hlt, Lx.skip, if_pos hw]
theorem r9_hash {src : ByteArray} {G : Except (Nat × Nat) (List Lx.Tok)} {k m ln : Nat} {ts : List Lx.Tok} (h : R9Rel src G k ln ts) (hs : Lx.skip false ((bs src).drop k) = Lx.skip false ((bs src).drop m)) : R9Rel src G m ln ts := by
  unfold R9Rel at *
  rw [h]; congr 1
  exact lex_same ln hs
theorem heap_two (w : World) (A B : Obj) : ((w.alloc A).alloc B).heap[w.heap.size + 1]? = some B := by
  have := heap_alloc_new (w.alloc A) B
  rwa [show (w.alloc A).heap.size = w.heap.size + 1 by simp] at this
theorem two_cell (w : World) (cs : Array Value) (t : TypeId) (fr : Nat × Nat) (B : Obj) (i : Nat) {v : Value} (h : cs[i]? = some v) : ((w.alloc (.cells cs t fr)).alloc B).cell? ⟨w.heap.size, i, none⟩ = some v := by
  have e : ((w.alloc (.cells cs t fr)).alloc B).heap[w.heap.size]? = some (.cells cs t fr) := by
    rw [heap_alloc_old _ _ (by simp), heap_alloc_new]
  simp [World.cell?, e, h]
theorem step_pos {l : List UInt8} {z : Nat} (h : Lx.step l = .bad z) : 0 < z := by
  rcases Lx.step_code h with rfl | rfl <;> decide
theorem sk_step {src : ByteArray} {m : Nat} (h : m < src.size) (hc : src[m] ≠ 10) : Lx.skip true ((bs src).drop m) = Lx.skip true ((bs src).drop (m + 1)) := by
  rw [bs_drop src m h, Lx.skip, if_neg hc]
theorem sk_stop {src : ByteArray} {m : Nat} (h : m < src.size) (hc : src[m] = 10) : Lx.skip true ((bs src).drop m) = Lx.skip false ((bs src).drop m) := by
  rw [bs_drop src m h, hc, Lx.skip, if_pos rfl, Lx.skip, if_neg (by decide), if_neg (by decide)]
theorem sk_end (src : ByteArray) : Lx.skip true ((bs src).drop src.size) = Lx.skip false ((bs src).drop src.size) := by
  rw [List.drop_eq_nil_of_le (by rw [bs_len]; exact Nat.le_refl _)]; rfl
theorem skip_id {src : ByteArray} {k : Nat} (h : (∃ h : k < src.size, Lx.white src[k] = false ∧ src[k] ≠ 35) ∨ k = src.size) : Lx.skip false ((bs src).drop k) = (bs src).drop k := by
  rcases h with ⟨hlt, h1, h2⟩ | rfl
  · exact skip_stop src k hlt h1 h2
  · rw [List.drop_eq_nil_of_le (by rw [bs_len]; exact Nat.le_refl _)]; rfl
theorem r9_done {src : ByteArray} {G : Except (Nat × Nat) (List Lx.Tok)} {k ln : Nat} {ts : List Lx.Tok} (h : R9Rel src G k ln ts) (hs : Lx.skip false ((bs src).drop k) = (bs src).drop k) (hst : Lx.step ((bs src).drop k) = .done) : G = .ok (ts ++ [⟨4, [], 0, ln⟩]) := by
  unfold R9Rel at h
  rw [h, Lx.lex_done ln (by rw [hs, hst])]; rfl
theorem r9_bad {src : ByteArray} {G : Except (Nat × Nat) (List Lx.Tok)} {k ln n : Nat} {ts : List Lx.Tok} (h : R9Rel src G k ln ts) (hs : Lx.skip false ((bs src).drop k) = (bs src).drop k) (hst : Lx.step ((bs src).drop k) = .bad n) : G = .error (n, ln) := by
  unfold R9Rel at h
  rw [h, Lx.lex_bad ln (by rw [hs, hst])]; rfl
theorem r9_tok {src : ByteArray} {G : Except (Nat × Nat) (List Lx.Tok)} {k m ln kd : Nat} {t rest : List UInt8} {n : Int} {ts : List Lx.Tok} (h : R9Rel src G k ln ts) (hs : Lx.skip false ((bs src).drop k) = (bs src).drop k) (hst : Lx.step ((bs src).drop k) = .tok kd t n rest) (hr : rest = (bs src).drop m) : R9Rel src G m (Lx.nl kd ln) (ts ++ [⟨kd, t, n, ln⟩]) := by
  unfold R9Rel at *
  rw [h, Lx.lex_tok ln (by rw [hs, hst]), joinT_pre, hr]
theorem step_kind {l : List UInt8} {kd : Nat} {t rest : List UInt8} {n : Int} (h : Lx.step l = .tok kd t n rest) : kd < 4 := by
  have := (Lx.step_good h).1 0
  rcases this with ⟨h, _⟩ | ⟨h, _⟩ | ⟨h, _⟩ | ⟨h, _⟩ <;> dsimp only at h <;> omega

set_option maxRecDepth 100000 in
set_option maxHeartbeats 64000000 in
theorem r9Lex_any (src : ByteArray) (w : World) (hs : src.size ≤ 20000) :
    Calls Tryz.prog 23 #[.string src] w (LexPost (Lx.lex (bs src) 1) w) := by
  obtain ⟨G, hG⟩ : ∃ G, G = Lx.lex (bs src) 1 := ⟨_, rfl⟩
  rw [← hG]
  have HG := Lib.hid hG
  have h20 : decide ((20000 : Int) < (src.size : Int)) = false := decide_eq_false (by omega)
  clear hG
  go_enter Tryz.func23, Tryz.ntmps23
  go_wp2_with fail
  go_loopw [5, 6, 7] (fun v lv i wr => ∃ (k ln : Nat) (ts : List Lx.Tok), k ≤ src.size ∧ ln ≤ k + 1 ∧ ts.length ≤ k ∧ i = .int .i64 k ∧ lv = .int .i64 ln ∧ Hid (OT w.heap.size wr v ts) ∧ Hid (Below w.heap.size w wr) ∧ Hid (R9Rel src G k ln ts)) (fun _ _ i _ => src.size + 1 - (intOf i).toNat)
  case atStart => exact ⟨0, 1, [], by omega, by omega, by simp, rfl, rfl, Lib.hid (OT.nil _ _), Lib.hid (Below.refl _ _), Lib.hid (by rw [R9Rel, HG.out, List.drop_zero]; cases Lx.lex (bs src) 1 <;> rfl)⟩
  case round =>
    obtain ⟨k, ln, ts, hk, hln, htl, rfl, rfl, HO, HB, HR⟩ := hrel
    clear HG
    have hwb : w.heap.size ≤ wr.heap.size := HB.out.size
    have hkI : (k : Int) ≤ (src.size : Int) := by omega
    by_cases hlt : k < src.size
    · have hltI : (k : Int) < (src.size : Int) := by omega
      by_cases hw32 : src[k] = 32
      · have e32 : ((src[k].toNat : Int) == 32) = true := u8_is (b := 32) hw32
        have HN := Lib.hid (r9_white HR.out hlt (by rw [hw32]; rfl))
        clear HR hw32
        go_wp2_with fail
        go_roundw
        case rel => exact ⟨k + 1, ln, ts, by omega, by omega, by omega, by go_num, rfl, HO, HB, HN⟩
        case measure => simp [intOf]; omega
      · have e32 : ((src[k].toNat : Int) == 32) = false := u8_ne (b := 32) hw32
        by_cases hw9 : src[k] = 9
        · have e9 : ((src[k].toNat : Int) == 9) = true := u8_is (b := 9) hw9
          have HN := Lib.hid (r9_white HR.out hlt (by rw [hw9]; rfl))
          clear HR hw32 hw9
          go_wp2_with fail
          go_roundw
          case rel => exact ⟨k + 1, ln, ts, by omega, by omega, by omega, by go_num, rfl, HO, HB, HN⟩
          case measure => simp [intOf]; omega
        · have e9 : ((src[k].toNat : Int) == 9) = false := u8_ne (b := 9) hw9
          by_cases hw13 : src[k] = 13
          · have e13 : ((src[k].toNat : Int) == 13) = true := u8_is (b := 13) hw13
            have HN := Lib.hid (r9_white HR.out hlt (by rw [hw13]; rfl))
            clear HR hw32 hw9 hw13
            go_wp2_with fail
            go_roundw
            case rel => exact ⟨k + 1, ln, ts, by omega, by omega, by omega, by go_num, rfl, HO, HB, HN⟩
            case measure => simp [intOf]; omega
          · have e13 : ((src[k].toNat : Int) == 13) = false := u8_ne (b := 13) hw13
            by_cases hw35 : src[k] = 35
            · have e35 : ((src[k].toNat : Int) == 35) = true := u8_is (b := 35) hw35
              have hsk : Lx.skip false ((bs src).drop k) = Lx.skip true ((bs src).drop (k + 1)) := by
                rw [bs_drop src k hlt, hw35, Lx.skip, if_neg (by decide), if_pos rfl]
              have HSK := Lib.hid hsk
              have e10 : ((src[k].toNat : Int) != 10) = true := by
                have : ((src[k].toNat : Int) == 10) = false := u8_ne (b := 10) (by rw [hw35]; decide)
                rw [bne, this]; rfl
              have HC := Lib.hid hw35
              clear hw32 hw9 hw13 hw35 hsk
              go_wp2_with fail
              go_loop [7] (fun i => ∃ m : Nat, k ≤ m ∧ m ≤ src.size ∧ Hid (Lx.skip false ((bs src).drop k) = Lx.skip true ((bs src).drop m)) ∧ i = .int .i64 m) (fun i => src.size - (intOf i).toNat)
              case atStart => exact ⟨k, Nat.le_refl _, hk, Lib.hid (HSK.out.trans (sk_step hlt (by rw [HC.out]; decide)).symm), rfl⟩
              case round =>
                obtain ⟨m, hkm, hm, HM, rfl⟩ := hrel
                clear HSK e10
                by_cases hms : m < src.size
                · have hmsI : (m : Int) < (src.size : Int) := by omega
                  by_cases h10 : src[m] = 10
                  · have e10 : ((src[m].toNat : Int) != 10) = false := by
                      have : ((src[m].toNat : Int) == 10) = true := u8_is (b := 10) h10
                      rw [bne, this]; rfl
                    have hne : k < m := Nat.lt_of_le_of_ne hkm (by rintro rfl; rw [HC.out] at h10; exact absurd h10 (by decide))
                    have HN := Lib.hid (r9_hash HR.out (HM.out.trans (sk_stop hms h10)))
                    clear h10 HM HR HC e32 e9 e13 e35 hkm
                    go_wp2_with fail
                    go_roundw
                    case rel => exact ⟨m, ln, ts, by omega, by omega, by omega, rfl, rfl, HO, HB, HN⟩
                    case measure => simp [intOf]; omega
                  · have e10 : ((src[m].toNat : Int) != 10) = true := by
                      have : ((src[m].toNat : Int) == 10) = false := u8_ne (b := 10) h10
                      rw [bne, this]; rfl
                    have HN := Lib.hid (HM.out.trans (sk_step hms h10))
                    clear h10 HM
                    go_wp2_with fail
                    go_round
                    case rel => exact ⟨m + 1, by omega, by omega, HN, by go_num⟩
                    case measure => simp [intOf]; omega
                · obtain rfl : m = src.size := by omega
                  have HN := Lib.hid (r9_hash HR.out (HM.out.trans (sk_end src)))
                  clear HM HR HC e32 e9 e13 e35
                  go_wp2_with fail
                  go_roundw
                  case rel => exact ⟨src.size, ln, ts, by omega, by omega, by omega, rfl, rfl, HO, HB, HN⟩
                  case measure => simp [intOf]; omega
            · have e35 : ((src[k].toNat : Int) == 35) = false := u8_ne (b := 35) hw35
              have hid := skip_id (src := src) (k := k) (.inl ⟨hlt, by simp [Lx.white, hw32, hw9, hw13], hw35⟩)
              clear hw32 hw9 hw13 hw35
              cases hst : Lx.step ((bs src).drop k) with
              | done =>
                have HT := Lib.hid (fun W => (hst ▸ r9token_any src k W hk (by omega)))
                have HX := Lib.hid (r9_done HR.out hid hst)
                clear hst hid HR
                go_wp2_with fail
                refine (HT.out _).mono ?_; rintro e w1 ⟨rfl, b⟩
                dsimp only [tv, tz]
                have HO1 := Lib.hid (HO.out.keep b)
                have HB1 := Lib.hid (HB.out.trans (b.mono HB.out.size))
                have hs1 := HB1.out.size
                clear b HO HB HT
                go_wp2_with (at_builtin; refine wpList_app_tok rfl _ _ rfl w.heap.size _ ts rfl (HO1.out.keep (((Below.refl _ _).alloc (Nat.le_refl _) _).alloc (by simp) _)) (w1.heap.size + 1) 1 ⟨4, [], 0, ln⟩ #[.int .i64 4, .string ⟨#[]⟩, .int .i64 0, .int .i64 ln] rfl (heap_two _ _ _) (by rfl) (by omega) (by simp; omega) ?_)
                intro v' w2 h1 h2 hgrow
                have k8 := (hgrow.cell_far ⟨w1.heap.size, 0, none⟩ (by simp; omega) (own_new HO1.out)).trans (two_cell (v := .int .i64 4) _ _ _ _ _ 0 rfl)
                have HO2 := Lib.hid h1
                have HB2 := Lib.hid ((((HB1.out.alloc hs1 _).alloc (by simp; omega) _)).trans h2)
                clear h1 h2 hgrow HO1 HB1
                go_wp2_with fail
                go_ret3
                exact LexPost.fine HX.out (TS.of_own HO2.out (by simp [maxLen]; omega)) HO2.out.z0 HB2.out
              | bad z =>
                have HT := Lib.hid (fun W => (hst ▸ r9token_any src k W hk (by omega)))
                have HX := Lib.hid (r9_bad HR.out hid hst)
                have hz := step_pos hst
                have z0 : ((z : Int) != 0) = true := by simp; omega
                clear hst hid HR
                go_wp2_with fail
                refine (HT.out _).mono ?_; rintro e w1 ⟨en, rfl, b⟩
                dsimp only [tv, tz]
                have HO1 := Lib.hid (HO.out.keep b)
                have HB1 := Lib.hid (HB.out.trans (b.mono HB.out.size))
                have hs1 := HB1.out.size
                clear b HO HB HT
                go_wp2_with fail
                go_ret3
                exact LexPost.bad HX.out rfl (HB1.out.alloc hs1 _)
              | tok kd t n rest =>
                have HT := Lib.hid (fun W => (hst ▸ r9token_any src k W hk (by omega)))
                have hk4 := step_kind hst
                have k4 : ((kd : Int) == 4) = false := beq_eq_false_iff_ne.2 (by omega)
                have HY := Lib.hid (fun m h => r9_tok (m := m) HR.out hid hst h)
                have HL := Lib.hid (fun m hm h => tok_lt (m := m) hk hm hst h)
                clear hst hid HR
                go_wp2_with fail
                refine (HT.out _).mono ?_; rintro e w1 ⟨m, hm, hr, rfl, b⟩
                dsimp only [tv, tz]
                have HO1 := Lib.hid (HO.out.keep b)
                have HB1 := Lib.hid (HB.out.trans (b.mono HB.out.size))
                have hs1 := HB1.out.size
                clear b HO HB HT
                have hkm := HL.out m hm hr
                have HX := Lib.hid (HY.out m hr)
                clear HL HY hr
                go_wp2_with (at_builtin; refine wpList_app_tok rfl _ _ rfl w.heap.size _ ts rfl (HO1.out.keep (((Below.refl _ _).alloc (Nat.le_refl _) _).alloc (by simp) _)) (w1.heap.size + 1) 1 ⟨kd, t, n, ln⟩ #[.int .i64 kd, .string ⟨t.toArray⟩, .int .i64 n, .int .i64 ln] rfl (heap_two _ _ _) (by rfl) (by omega) (by simp; omega) ?_)
                intro v' w2 h1 h2 hgrow
                have k8 := (hgrow.cell_far ⟨w1.heap.size, 0, none⟩ (by simp; omega) (own_new HO1.out)).trans (two_cell (v := .int .i64 kd) _ _ _ _ _ 0 rfl)
                have HO2 := Lib.hid h1
                have HB2 := Lib.hid ((((HB1.out.alloc hs1 _).alloc (by simp; omega) _)).trans h2)
                clear h1 h2 hgrow HO1 HB1
                by_cases hk3 : kd = 3
                · have k3 : ((kd : Int) == 3) = true := beq_iff_eq.2 (by omega)
                  go_wp2_with fail
                  go_roundw
                  case rel => exact ⟨m, ln + 1, _, by omega, by omega, by simp; omega, rfl, by go_num, HO2, HB2, Lib.hid (by have := HX.out; simpa [Lx.nl, hk3] using this)⟩
                  case measure => simp [intOf]; omega
                · have k3 : ((kd : Int) == 3) = false := beq_eq_false_iff_ne.2 (by omega)
                  go_wp2_with fail
                  go_roundw
                  case rel => exact ⟨m, ln, _, by omega, by omega, by simp; omega, rfl, by go_num, HO2, HB2, Lib.hid (by have := HX.out; simpa [Lx.nl, hk3] using this)⟩
                  case measure => simp [intOf]; omega
    · obtain rfl : k = src.size := by omega
      have hid := skip_id (src := src) (k := src.size) (.inr rfl)
      have hst : Lx.step ((bs src).drop src.size) = .done := by rw [List.drop_eq_nil_of_le (by rw [bs_len]; exact Nat.le_refl _)]; rfl
      have HT := Lib.hid (fun W => (hst ▸ r9token_any src src.size W hk (by omega)))
      have HX := Lib.hid (r9_done HR.out hid hst)
      clear hst hid HR
      go_wp2_with fail
      refine (HT.out _).mono ?_; rintro e w1 ⟨rfl, b⟩
      dsimp only [tv, tz]
      have HO1 := Lib.hid (HO.out.keep b)
      have HB1 := Lib.hid (HB.out.trans (b.mono HB.out.size))
      have hs1 := HB1.out.size
      clear b HO HB HT
      go_wp2_with (at_builtin; refine wpList_app_tok rfl _ _ rfl w.heap.size _ ts rfl (HO1.out.keep (((Below.refl _ _).alloc (Nat.le_refl _) _).alloc (by simp) _)) (w1.heap.size + 1) 1 ⟨4, [], 0, ln⟩ #[.int .i64 4, .string ⟨#[]⟩, .int .i64 0, .int .i64 ln] rfl (heap_two _ _ _) (by rfl) (by omega) (by simp; omega) ?_)
      intro v' w2 h1 h2 hgrow
      have k8 := (hgrow.cell_far ⟨w1.heap.size, 0, none⟩ (by simp; omega) (own_new HO1.out)).trans (two_cell (v := .int .i64 4) _ _ _ _ _ 0 rfl)
      have HO2 := Lib.hid h1
      have HB2 := Lib.hid ((((HB1.out.alloc hs1 _).alloc (by simp; omega) _)).trans h2)
      clear h1 h2 hgrow HO1 HB1
      go_wp2_with fail
      go_ret3
      exact LexPost.fine HX.out (TS.of_own HO2.out (by simp [maxLen]; omega)) HO2.out.z0 HB2.out
end Go.Proofs.YtnccndfffmaonaaGreatDoor
/- The reference of layer 10: Parse. -/
namespace Go.Proofs.YtnccndfffmaonaaGreatDoor
set_option linter.unusedSimpArgs false
set_option linter.unusedVariables false
open Go.RowKit

theorem rLex_ok (src : ByteArray) (ts : List Lx.Tok) (h : Lx.lex (bs src) 1 = .ok ts) (w : World) (hs : src.size ≤ 20000) :
    Calls Tryz.prog 23 #[.string src] w fun e w' => ∃ g cap, e = .returned (.tuple #[.slice (some ⟨g, 0, none⟩) ts.length cap, .int .i64 0, .int .i64 0]) ∧ TK w' g ts ∧ ts.length ≤ cap ∧ cap ≤ maxLen ∧ Below w.heap.size w w' := by
  have hL := r9Lex_any src w hs
  rw [h] at hL
  refine hL.mono ?_
  rintro e w' ⟨v, rfl, ⟨a, cap, rfl, hm, hn, hc1, hc2, hc⟩, hz, hb⟩
  have hpos : 0 < ts.length := by
    cases ts with
    | nil =>
      have := (Lx.lex_back _ _ h).1
      cases this
    | cons _ _ => simp
  obtain ⟨b, off, rfl, -⟩ := hc 0 hpos
  obtain ⟨rfl, -⟩ := hz _ _ _ _ _ rfl
  refine ⟨b, cap, rfl, ?_, hc1, hc2, hb⟩
  intro i hi
  obtain ⟨b', off', e1, h2, h3, h4, h5⟩ := hc i hi
  cases e1
  simp only [Nat.zero_add] at h2 h3 h4 h5
  exact ⟨h2, h3, h4, h5⟩
theorem rLex_err (src : ByteArray) (z ln : Nat) (h : Lx.lex (bs src) 1 = .error (z, ln)) (w : World) (hs : src.size ≤ 20000) :
    Calls Tryz.prog 23 #[.string src] w fun e w' => e = .returned (.tuple #[.slice none 0 0, .int .i64 z, .int .i64 ln]) ∧ Below w.heap.size w w' := by
  have hL := r9Lex_any src w hs
  rw [h] at hL
  exact hL
theorem RP.start {w : World} {g cap : Nat} {ts : List Lx.Tok} {G : Except (Nat × Nat) Dr.Draft} (h : TK w g ts) (h1 : 1 ≤ ts.length) (hm : ts.length ≤ 100000) (hc : ts.length ≤ cap) (hx : cap ≤ maxLen) (hG : G = Dr.parse .none ts) :
    RP (w.heap.size + 1) w.heap.size ts G w ((w.alloc (.cells #[.slice none 0 0, .slice none 0 0] 25)).alloc (.cells #[.slice (some ⟨g, 0, none⟩) ts.length cap, .int .i64 0, .bool false] 55)) .none 0 := by
  have hg : g < w.heap.size := cell_lt (h 0 (by omega)).1
  have hb := ((Below.refl _ w).alloc (Nat.le_refl _) (.cells #[.slice none 0 0, .slice none 0 0] 25)).alloc (by simp) (.cells #[.slice (some ⟨g, 0, none⟩) ts.length cap, .int .i64 0, .bool false] 55)
  refine ⟨⟨g, cap, heap_two3 w _ _, h.keep hb, by omega, hc, hx, hm⟩, ⟨_, _, ?_, ⟨[], w.heap.size + 2, own_none _ _ _ _, rfl, by omega, by simp, fun i hi => by simp [Dr.Draft.none] at hi⟩, ⟨[], rfl, own_none _ _ _ _, fun x hx => by cases hx⟩⟩, by omega, by rw [hG, List.drop_zero], hb, by simp [Dr.Draft.none]⟩
  rw [heap_alloc_old _ _ (by simp)]; exact heap_alloc_new _ _
set_option maxRecDepth 100000 in
set_option maxHeartbeats 64000000 in
theorem rParse_err (src : ByteArray) (w : World) (hs : src.size ≤ 20000) (x : Nat × Nat) (hl : Lx.lex (bs src) 1 = .error x) :
    Calls Tryz.prog 10 #[.string src] w (ParsePost (Dr.read (bs src)) w) := by
  obtain ⟨G, hG⟩ : ∃ G, G = Dr.read (bs src) := ⟨_, rfl⟩
  rw [← hG]
  unfold Dr.read at hG
  rw [hl] at hG
  have HG := Lib.hid hG
  obtain ⟨z, ln⟩ := x
  have HL := Lib.hid (fun W => rLex_err src z ln hl W hs)
  have hzc := (Lx.lex_codes _ _ 1 _ (Nat.lt_succ_self _) hl).1
  have hz0 : ((z : Int) != 0) = true := by rcases hzc with rfl | rfl <;> rfl
  clear hG hl hzc
  go_enter Tryz.func10, Tryz.ntmps10
  go_wp2_with fail
  go_at_call 23; refine (HL.out _).mono ?_; rintro e w2 ⟨rfl, b2⟩
  have B2 := Lib.hid b2
  have hsz : w.heap.size < w2.heap.size := by have := b2.size; simp at this; omega
  have r0 : w2.heap[w.heap.size]? = some (.cells #[.slice none 0 0, .slice none 0 0] 25 (0, 0)) := (b2.block w.heap.size (by simp)).trans (heap_alloc_new _ _)
  have c0 : w2.cell? ⟨w.heap.size, 0, none⟩ = some (.slice none 0 0) := cell_of_heap r0 0 rfl
  have c1 : w2.cell? ⟨w.heap.size, 1, none⟩ = some (.slice none 0 0) := cell_of_heap r0 1 rfl
  have f0 : w2.frozen? ⟨w.heap.size, 0, none⟩ = false := free_of_heap r0 0
  have f1 : w2.frozen? ⟨w.heap.size, 1, none⟩ = false := free_of_heap r0 1
  clear b2 r0
  go_wp2_with fail
  refine bodyPost_ret (v := .tuple #[.agg #[.slice none 0 0, .slice none 0 0], .int .i64 z, .int .i64 ln]) (by simp [results, Tryz.results10, go_sem, *]) rfl (.bad HG.out rfl rfl ?_)
  exact ((((Below.refl _ w).alloc (Nat.le_refl _) _).trans (B2.out.mono (by simp))).setCell (Nat.le_refl _) _).setCell (Nat.le_refl _) _
end Go.Proofs.YtnccndfffmaonaaGreatDoor
