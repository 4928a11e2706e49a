/- Walks of taquinref09: quoted. -/
import Derived.Test.YtdjiimblfhbcjaaDoorR9b
import Derived.Test.YtdjiimblfhbcjaaDoorLxQ
namespace Go.Proofs.YtdjiimblfhbcjaaDoor
set_option linter.unusedSimpArgs false
open Go.RowKit

/-- The scan behind a backslash (true), or not. -/
def qs (p : Bool) (l : List UInt8) : Option (List UInt8 × List UInt8) :=
  if p then (match l with | [] => none | c :: r => (Lx.qscan r).map fun x => (c :: x.1, x.2)) else Lx.qscan l
theorem qs_back (l : List UInt8) : Lx.qscan (92 :: l) = (qs true l).map fun x => (92 :: x.1, x.2) := by
  cases l with
  | nil => rfl
  | cons c r =>
    rw [Lx.q_back]; unfold qs
    simp only [if_true]
    cases Lx.qscan r <;> rfl
theorem qs_slash (src : ByteArray) (k m : Nat) (hk : k + 1 ≤ m) (hm : m < src.size) (h2 : src[m] = 92) :
    addTo (mid src k m) (qs false ((bs src).drop m)) = addTo (mid src k (m + 1)) (qs true ((bs src).drop (m + 1))) := by
  rw [bs_drop src m hm, h2, mid_snoc src k m hk hm, h2]
  show addTo (mid src k m) (Lx.qscan (92 :: (bs src).drop (m + 1))) = _
  rw [qs_back]
  exact addTo_map _ [92] _
theorem qs_esc (src : ByteArray) (k m : Nat) (hk : k + 1 ≤ m) (hm : m < src.size) :
    addTo (mid src k m) (qs true ((bs src).drop m)) = addTo (mid src k (m + 1)) (qs false ((bs src).drop (m + 1))) := by
  rw [bs_drop src m hm, mid_snoc src k m hk hm]
  exact addTo_map _ [src[m]] _
theorem qs_none (src : ByteArray) (k m : Nat) (p : Bool) (hm : src.size ≤ m) : addTo (mid src k m) (qs p ((bs src).drop m)) = none := by
  rw [List.drop_eq_nil_of_le (by rw [bs_len]; exact hm)]
  cases p <;> rfl
theorem rUnquote_yes (s : ByteArray) (h : quote (unq (bs s)) = bs s) (hs : s.size ≤ 20000000) (w : World) :
    Calls Tryd.prog 35 #[.string s] w fun e w' => e = .returned (.tuple #[.string ⟨(unq (bs s)).toArray⟩, .bool true]) ∧ Below w.heap.size w w' := by
  have := rUnquote_any s w hs
  unfold UnqPost at this
  rw [if_pos h, decide_eq_true h] at this; exact this
theorem rUnquote_no (s : ByteArray) (h : ¬ quote (unq (bs s)) = bs s) (hs : s.size ≤ 20000000) (w : World) :
    Calls Tryd.prog 35 #[.string s] w fun e w' => e = .returned (.tuple #[.string ⟨#[]⟩, .bool false]) ∧ Below w.heap.size w w' := by
  have := rUnquote_any s w hs
  unfold UnqPost at this
  rw [if_neg h, decide_eq_false h] at this; exact this
/-- What a call that reads a token comes to. -/
def R9Tok (src : ByteArray) (w : World) (r : Except Nat (Nat × List UInt8 × Int)) (rest : List UInt8) (e : Ending) (w' : World) : Prop :=
  match r with
  | .ok x => ∃ m, m ≤ src.size ∧ rest = (bs src).drop m ∧ e = .returned (.tuple #[tv x.1 x.2.1 x.2.2, .int .i64 (m : Nat), .int .i64 0]) ∧ Below w.heap.size w w'
  | .error z => ∃ en : Int, e = .returned (.tuple #[tz, .int .i64 en, .int .i64 z]) ∧ Below w.heap.size w w'
theorem R9Tok.fine {src : ByteArray} {w w' : World} {r : Except Nat (Nat × List UInt8 × Int)} {rest t : List UInt8} {kd m : Nat} {n kk mm : Int} {s : ByteArray} (h : r = .ok (kd, t, n)) (ht : s = ⟨t.toArray⟩) (hk : kk = (kd : Int)) (hmm : mm = (m : Int)) (hm : m ≤ src.size) (hr : rest = (bs src).drop m) (hb : Below w.heap.size w w') : R9Tok src w r rest (.returned (.tuple #[.agg #[.int .i64 kk, .string s, .int .i64 n, .int .i64 0], .int .i64 mm, .int .i64 0])) w' := by
  subst h hk hmm ht
  exact ⟨m, hm, hr, rfl, hb⟩
theorem R9Tok.bad {src : ByteArray} {w w' : World} {r : Except Nat (Nat × List UInt8 × Int)} {rest : List UInt8} {z : Nat} {zz en : Int} (h : r = .error z) (hz : zz = (z : Int)) (hb : Below w.heap.size w w') : R9Tok src w r rest (.returned (.tuple #[.agg #[.int .i64 0, .string ⟨#[]⟩, .int .i64 0, .int .i64 0], .int .i64 en, .int .i64 zz])) w' := by
  subst h hz; exact ⟨en, rfl, hb⟩

set_option maxRecDepth 100000 in
set_option maxHeartbeats 8000000 in
theorem r9quoted_any (src : ByteArray) (k : Nat) (w : World) (hlt : k < src.size) (hs : src.size ≤ 10000000) (hp : src[k] = 34) :
    Calls Tryd.prog 85 #[.string src, .int .i64 k] w (R9Tok src w (qres (Lx.qscan ((bs src).drop (k + 1)))) (qrest (Lx.qscan ((bs src).drop (k + 1))))) := by
  obtain ⟨R, hR⟩ : ∃ R, R = Lx.qscan ((bs src).drop (k + 1)) := ⟨_, rfl⟩
  rw [← hR]
  have HR := Lib.hid hR
  have HP := Lib.hid hp
  clear hR hp
  go_enter Tryd.func85, Tryd.ntmps85
  go_wp2_with fail
  go_loop [7, 8] (fun bv i => ∃ (m b : Nat) (p : Bool), k + 1 ≤ m ∧ m ≤ src.size ∧ b ≤ m ∧ Hid (p = decide (b % 2 = 1)) ∧ Hid (R = addTo (mid src k m) (qs p ((bs src).drop m))) ∧ i = .int .i64 m ∧ bv = .int .i64 b) (fun _ i => src.size - (intOf i).toNat)
  case atStart => exact ⟨k + 1, 0, false, by omega, by omega, by omega, Lib.hid (by rfl), Lib.hid (HR.out.trans (q_start src k)), by go_num, rfl⟩
  case round =>
    obtain ⟨m, b, p, hkm, hm, hbm, HPA, HA, rfl, rfl⟩ := hrel
    clear HR
    by_cases hms : m < src.size
    · cases p with
      | true =>
        have hb1 : b % 2 = 1 := by have := HPA.out; simpa using this.symm
        have m2 : (((b : Int) % 2) == 0) = false := beq_eq_false_iff_ne.2 (by omega)
        have HN := Lib.hid (HA.out.trans (qs_esc src k m hkm hms))
        by_cases h92 : src[m] = 92
        · have e92 : ((src[m].toNat : Int) == 92) = true := u8_is (b := 92) h92
          have e34 : ((src[m].toNat : Int) == 34) = false := u8_ne (b := 34) (by rw [h92]; decide)
          have HPN : Hid (false = decide ((b + 1) % 2 = 1)) := Lib.hid (by rw [decide_eq_false]; omega)
          clear HA HPA hb1 h92
          go_wp2_with fail
          go_round
          case rel => exact ⟨m + 1, b + 1, false, by omega, by omega, by omega, HPN, HN, by go_num, by go_num⟩
          case measure => simp [intOf]; omega
        · have e92 : ((src[m].toNat : Int) == 92) = false := u8_ne (b := 92) h92
          clear HA HPA hb1 h92
          by_cases h34 : src[m] = 34
          · have e34 : ((src[m].toNat : Int) == 34) = true := u8_is (b := 34) h34
            clear h34
            go_wp2_with fail
            go_round
            case rel => exact ⟨m + 1, 0, false, by omega, by omega, by omega, Lib.hid (by rfl), HN, by go_num, rfl⟩
            case measure => simp [intOf]; omega
          · have e34 : ((src[m].toNat : Int) == 34) = false := u8_ne (b := 34) h34
            clear h34
            go_wp2_with fail
            go_round
            case rel => exact ⟨m + 1, 0, false, by omega, by omega, by omega, Lib.hid (by rfl), HN, by go_num, rfl⟩
            case measure => simp [intOf]; omega
      | false =>
        have hb1 : b % 2 = 0 := by have := HPA.out; simp at this; omega
        have m2 : (((b : Int) % 2) == 0) = true := beq_iff_eq.2 (by omega)
        by_cases h34 : src[m] = 34
        · have e34 : ((src[m].toNat : Int) == 34) = true := u8_is (b := 34) h34
          have HQ : Hid (R = some (mid src k m, (bs src).drop (m + 1))) := Lib.hid (HA.out.trans (q_end src k m hms h34))
          have HM : Hid (bs (src.extract k (m + 1)) = 34 :: (mid src k m ++ [34])) := Lib.hid (bs_mid src k m hkm hms HP.out h34)
          clear HA h34 HPA hb1
          have hb1 : (k : Int) ≤ (m : Int) + 1 := by omega
          have hb2 : (m : Int) + 1 ≤ (src.size : Int) := by omega
          have hb3 : (0 : Int) ≤ (k : Int) := by omega
          have hb4 : (k : Int).toNat = k := by omega
          have hb5 : ((m : Int) + 1).toNat = m + 1 := by omega
          have hWs : (src.extract k (m + 1)).size ≤ 10000000 := by rw [← bs_len, bs_extract, List.length_take, List.length_drop, bs_len]; omega
          by_cases hq : quote (raw (mid src k m)) = 34 :: (mid src k m ++ [34])
          · have HU : Hid (quote (unq (bs (src.extract k (m + 1)))) = bs (src.extract k (m + 1))) := Lib.hid (by rw [HM.out, unq_mid]; exact hq)
            have HV : Hid (raw (mid src k m) = unq (bs (src.extract k (m + 1)))) := Lib.hid (by rw [HM.out, unq_mid])
            have HX := Lib.hid hq
            clear hq
            go_wp2_with fail
            go_at_call 35; refine (rUnquote_yes _ HU.out (by omega) _).mono ?_; rintro e w3 ⟨rfl, b3⟩
            have d0 := tok_cell (i := 0) (v := .int .i64 0) b3 (World.cell?_alloc_new _ _ _ _)
            have d1 := tok_cell (i := 1) (v := .string ⟨#[]⟩) b3 (World.cell?_alloc_new _ _ _ _)
            have d2 := tok_cell (i := 2) (v := .int .i64 0) b3 (World.cell?_alloc_new _ _ _ _)
            have d3 := tok_cell (i := 3) (v := .int .i64 0) b3 (World.cell?_alloc_new _ _ _ _)
            have f0 := tok_free 0 b3
            have f1 := tok_free 1 b3
            have f2 := tok_free 2 b3
            have f3 := tok_free 3 b3
            have HB3 := Lib.hid (((Below.refl _ w).alloc (Nat.le_refl _) _).trans (b3.mono (by simp)))
            clear b3
            go_wp2_with fail
            exact bodyPost_ret (v := .tuple #[.agg #[.int .i64 2, .string ⟨(unq (bs (src.extract k (m + 1)))).toArray⟩, .int .i64 0, .int .i64 0], .int .i64 ((m : Int) + 1), .int .i64 0]) (by simp [results, Tryd.results85, go_sem, *]) rfl (R9Tok.fine (kd := 2) (m := m + 1) (by rw [HQ.out, qres, if_pos HX.out, HV.out]) rfl rfl (by omega) (by omega) (by rw [HQ.out, qrest]) ((((HB3.out.setCell (p := ⟨w.heap.size, 0, none⟩) (Nat.le_refl _) _).setCell (p := ⟨w.heap.size, 1, none⟩) (Nat.le_refl _) _).setCell (p := ⟨w.heap.size, 2, none⟩) (Nat.le_refl _) _).setCell (p := ⟨w.heap.size, 3, none⟩) (Nat.le_refl _) _))
          · have HU : Hid (¬ quote (unq (bs (src.extract k (m + 1)))) = bs (src.extract k (m + 1))) := Lib.hid (by rw [HM.out, unq_mid]; exact hq)
            have HX := Lib.hid hq
            clear hq
            go_wp2_with fail
            go_at_call 35; refine (rUnquote_no _ HU.out (by omega) _).mono ?_; rintro e w3 ⟨rfl, b3⟩
            have d0 := tok_cell (i := 0) (v := .int .i64 0) b3 (World.cell?_alloc_new _ _ _ _)
            have d1 := tok_cell (i := 1) (v := .string ⟨#[]⟩) b3 (World.cell?_alloc_new _ _ _ _)
            have d2 := tok_cell (i := 2) (v := .int .i64 0) b3 (World.cell?_alloc_new _ _ _ _)
            have d3 := tok_cell (i := 3) (v := .int .i64 0) b3 (World.cell?_alloc_new _ _ _ _)
            have f0 := tok_free 0 b3
            have f1 := tok_free 1 b3
            have f2 := tok_free 2 b3
            have f3 := tok_free 3 b3
            have HB3 := Lib.hid (((Below.refl _ w).alloc (Nat.le_refl _) _).trans (b3.mono (by simp)))
            clear b3
            go_wp2_with fail
            exact bodyPost_ret (v := .tuple #[.agg #[.int .i64 0, .string ⟨#[]⟩, .int .i64 0, .int .i64 0], .int .i64 0, .int .i64 11]) (by simp [results, Tryd.results85, go_sem, *]) rfl (R9Tok.bad (z := 11) (by rw [HQ.out, qres, if_neg HX.out]) rfl ((((HB3.out.setCell (p := ⟨w.heap.size, 0, none⟩) (Nat.le_refl _) _).setCell (p := ⟨w.heap.size, 1, none⟩) (Nat.le_refl _) _).setCell (p := ⟨w.heap.size, 2, none⟩) (Nat.le_refl _) _).setCell (p := ⟨w.heap.size, 3, none⟩) (Nat.le_refl _) _))
        · have e34 : ((src[m].toNat : Int) == 34) = false := u8_ne (b := 34) h34
          by_cases h92 : src[m] = 92
          · have e92 : ((src[m].toNat : Int) == 92) = true := u8_is (b := 92) h92
            have HN := Lib.hid (HA.out.trans (qs_slash src k m hkm hms h92))
            have HPN : Hid (true = decide ((b + 1) % 2 = 1)) := Lib.hid (by rw [decide_eq_true]; omega)
            clear HA h34 h92 HPA hb1
            go_wp2_with fail
            go_round
            case rel => exact ⟨m + 1, b + 1, true, by omega, by omega, by omega, HPN, HN, by go_num, by go_num⟩
            case measure => simp [intOf]; omega
          · have e92 : ((src[m].toNat : Int) == 92) = false := u8_ne (b := 92) h92
            have HN : Hid (R = addTo (mid src k (m + 1)) (qs false ((bs src).drop (m + 1)))) := Lib.hid (HA.out.trans (q_plain src k m hkm hms h34 h92))
            clear HA h34 h92 HPA hb1
            go_wp2_with fail
            go_round
            case rel => exact ⟨m + 1, 0, false, by omega, by omega, by omega, Lib.hid (by rfl), HN, by go_num, rfl⟩
            case measure => simp [intOf]; omega
    · have HQ : Hid (R = none) := Lib.hid (HA.out.trans (qs_none src k m p (by omega)))
      clear HA HPA
      go_wp2_with fail
      exact bodyPost_ret (v := .tuple #[.agg #[.int .i64 0, .string ⟨#[]⟩, .int .i64 0, .int .i64 0], .int .i64 0, .int .i64 11]) (by simp [results, Tryd.results85, go_sem]) rfl (R9Tok.bad (z := 11) (by rw [HQ.out, qres]) rfl ((Below.refl _ _).alloc (Nat.le_refl _) _))
end Go.Proofs.YtdjiimblfhbcjaaDoor
