/- Walks of package lex: quoted, next. -/
import Derived.Test.YtdjiimblfhbcjaaDoorLxV
namespace Go.Proofs.YtdjiimblfhbcjaaDoor
set_option linter.unusedSimpArgs false
open Go.RowKit

/-- What is between the places k + 1 and m. -/
def mid (src : ByteArray) (k m : Nat) : List UInt8 := ((bs src).drop (k + 1)).take (m - (k + 1))
theorem mid_snoc (src : ByteArray) (k m : Nat) (hk : k + 1 ≤ m) (hm : m < src.size) : mid src k (m + 1) = mid src k m ++ [src[m]] := by
  unfold mid
  have e : m + 1 - (k + 1) = (m - (k + 1)) + 1 := by omega
  have e3 : ((bs src).drop (k + 1))[m - (k + 1)]? = some src[m] := by
    rw [List.getElem?_drop, show k + 1 + (m - (k + 1)) = m by omega]; exact bs_get src m hm
  rw [e, List.take_add_one, e3]; rfl
def addTo (p : List UInt8) (q : Option (List UInt8 × List UInt8)) : Option (List UInt8 × List UInt8) := q.map fun x => (p ++ x.1, x.2)
theorem addTo_map (p d : List UInt8) (q : Option (List UInt8 × List UInt8)) : addTo p (q.map fun x => (d ++ x.1, x.2)) = addTo (p ++ d) q := by
  cases q <;> simp [addTo]
theorem q_start (src : ByteArray) (k : Nat) : Lx.qscan ((bs src).drop (k + 1)) = addTo (mid src k (k + 1)) (Lx.qscan ((bs src).drop (k + 1))) := by
  unfold mid addTo; rw [Nat.sub_self]; cases Lx.qscan ((bs src).drop (k + 1)) <;> rfl
theorem q_plain (src : ByteArray) (k m : Nat) (hk : k + 1 ≤ m) (hm : m < src.size) (h1 : src[m] ≠ 34) (h2 : src[m] ≠ 92) :
    addTo (mid src k m) (Lx.qscan ((bs src).drop m)) = addTo (mid src k (m + 1)) (Lx.qscan ((bs src).drop (m + 1))) := by
  rw [bs_drop src m hm, Lx.q_else _ _ h1 h2, mid_snoc src k m hk hm]
  exact addTo_map _ [src[m]] _
theorem q_skip (src : ByteArray) (k m : Nat) (hk : k + 1 ≤ m) (hm : m < src.size) (h2 : src[m] = 92) :
    addTo (mid src k m) (Lx.qscan ((bs src).drop m)) = addTo (mid src k (m + 2)) (Lx.qscan ((bs src).drop (m + 2))) := by
  by_cases hm2 : m + 1 < src.size
  · rw [bs_drop src m hm, bs_drop src (m + 1) hm2, h2, Lx.q_back, mid_snoc src k (m + 1) (by omega) hm2, mid_snoc src k m hk hm, h2, List.append_assoc]
    exact addTo_map _ [92, src[m + 1]] _
  · have e1 : (bs src).drop (m + 1) = [] := List.drop_eq_nil_of_le (by rw [bs_len]; omega)
    have e2 : (bs src).drop (m + 2) = [] := List.drop_eq_nil_of_le (by rw [bs_len]; omega)
    rw [bs_drop src m hm, e1, e2, h2, Lx.q_last]; rfl
theorem q_end (src : ByteArray) (k m : Nat) (hm : m < src.size) (h2 : src[m] = 34) :
    addTo (mid src k m) (Lx.qscan ((bs src).drop m)) = some (mid src k m, (bs src).drop (m + 1)) := by
  rw [bs_drop src m hm, h2, Lx.q_quote]; simp [addTo]
theorem q_none (src : ByteArray) (k m : Nat) (hm : src.size ≤ m) : addTo (mid src k m) (Lx.qscan ((bs src).drop m)) = none := by
  rw [List.drop_eq_nil_of_le (by rw [bs_len]; exact hm)]; rfl
theorem bs_mid (src : ByteArray) (k m : Nat) (hk : k + 1 ≤ m) (hm : m < src.size) (h1 : src[k] = 34) (h2 : src[m] = 34) : bs (src.extract k (m + 1)) = 34 :: (mid src k m ++ [34]) := by
  have e := mid_snoc src k m hk hm
  rw [h2] at e
  rw [← e, bs_extract, bs_drop src k (by omega), h1, show m + 1 - k = (m + 1 - (k + 1)) + 1 by omega, List.take_succ_cons]; rfl
theorem unq_mid (b : List UInt8) : unq (34 :: (b ++ [34])) = raw b := by
  unfold unq; simp
theorem keep_cell {w w3 : World} {b o : Nat} {v : Value} (h : Below w.drew.heap.size w.drew w3) (hb : b < w.heap.size) (hc : w.cell? ⟨b, o, none⟩ = some v) : w3.cell? ⟨b, o, none⟩ = some v :=
  (h.cell (p := ⟨b, o, none⟩) hb).trans hc
/-- What the scan comes to. -/
def qres : Option (List UInt8 × List UInt8) → Except Nat (Nat × List UInt8 × Int)
  | none => .error 11
  | some x => if quote (raw x.1) = 34 :: (x.1 ++ [34]) then .ok (2, raw x.1, 0) else .error 11
def qrest : Option (List UInt8 × List UInt8) → List UInt8
  | none => []
  | some x => x.2

set_option maxRecDepth 100000 in
set_option maxHeartbeats 16000000 in
theorem quoted_any (b : Nat) (src : ByteArray) (k ln : Nat) (ts : List Lx.Tok) (w : World) (h : Scn b src k ln ts w) (hlt : k < src.size) (hs : src.size ≤ 100000000) (hl : ts.length ≤ 1000000000) (hp : src[k] = 34) :
    Calls Tryd.prog 81 #[.pointer (some ⟨b, 0, none⟩)] w (WordPost b src k ln ts w (qres (Lx.qscan ((bs src).drop (k + 1)))) (qrest (Lx.qscan ((bs src).drop (k + 1))))) := by
  obtain ⟨R, hR⟩ : ∃ R, R = Lx.qscan ((bs src).drop (k + 1)) := ⟨_, rfl⟩
  rw [← hR]
  have HR := Lib.hid hR
  have HP := Lib.hid hp
  have c0 := h.c0
  have c1 := h.c1
  have H := Lib.hid h
  clear h hR hp
  go_enter Tryd.func81, Tryd.ntmps81
  go_wp2_with fail
  go_loop [3] (fun i => ∃ m : Nat, k + 1 ≤ m ∧ m ≤ src.size + 1 ∧ Hid (R = addTo (mid src k m) (Lx.qscan ((bs src).drop m))) ∧ i = .int .i64 m) (fun i => src.size + 1 - (intOf i).toNat)
  case atStart => exact ⟨k + 1, by omega, by omega, Lib.hid (HR.out.trans (q_start src k)), by go_num⟩
  case round =>
    obtain ⟨m, hkm, hm, HA, rfl⟩ := hrel
    clear HR
    by_cases hms : m < src.size
    · by_cases h34 : src[m] = 34
      · have e34 : ((src[m].toNat : Int) == 34) = true := u8_is (b := 34) h34
        have n34 : ((src[m].toNat : Int) != 34) = false := by rw [bne, e34]; rfl
        have HQ : Hid (R = some (mid src k m, (bs src).drop (m + 1))) := Lib.hid (HA.out.trans (q_end src k m hms h34))
        have HM : Hid (bs (src.extract k (m + 1)) = 34 :: (mid src k m ++ [34])) := Lib.hid (bs_mid src k m hkm hms HP.out h34)
        clear HA h34
        have hw1 : IntKind.i64.wrap ((m : Int) + 1) = (m : Int) + 1 := by rw [IntWalk.i64_in _ (by omega)]
        have hb1 : (k : Int) ≤ (m : Int) + 1 := by omega
        have hb2 : (m : Int) + 1 ≤ (src.size : Int) := by omega
        have hb3 : (0 : Int) ≤ (k : Int) := by omega
        have hb4 : (k : Int).toNat = k := by omega
        have hb5 : ((m : Int) + 1).toNat = m + 1 := by omega
        have hWs : (src.extract k (m + 1)).size ≤ 100000000 := by rw [← bs_len, bs_extract, List.length_take, List.length_drop, bs_len]; omega
        have hbw : b < w.heap.size := H.out.lt
        by_cases hq : quote (raw (mid src k m)) = 34 :: (mid src k m ++ [34])
        · have HU : Hid (quote (unq (bs (src.extract k (m + 1)))) = bs (src.extract k (m + 1))) := Lib.hid (by rw [HM.out, unq_mid]; exact hq)
          have HV : Hid (raw (mid src k m) = unq (bs (src.extract k (m + 1)))) := Lib.hid (by rw [HM.out, unq_mid])
          have HX := Lib.hid hq
          clear hq
          go_wp2_with fail
          go_region_held3 (fun w' => w'.cell? ⟨b, 0, none⟩ = some (.string src) ∧ w'.cell? ⟨b, 1, none⟩ = some (.int .i64 k)) (go_keep)
            ((go_at_call 22; refine (Unquote_yes _ HU.out (by omega) _).mono ?_; rintro e w3 ⟨rfl, b3⟩; have q0 := keep_cell b3 hbw c0; have q1 := keep_cell b3 hbw c1))
          generalize hU : unq (bs (src.extract k (m + 1))) = U at *
          go_wp2_with fail
          go_at_call 105; refine (take_any b src k ln ts 2 _ 0 0 (m + 1) _ _ rfl (by omega) _ (H.out.drew.keep b3) hl).mono ?_; rintro e w5 ⟨rfl, s5, b5⟩
          have S5 := Lib.hid s5
          clear s5
          go_wp2_with fail
          go_ret
          exact WordPost.fine (m := m + 1) (kd := 2) (n := 0) (t := U) (by rw [HQ.out, qres, if_pos HX.out, HV.out]) (by omega) (by rw [HQ.out, qrest]) (by have := S5.out; rw [bs_lit0] at this; exact this) (((Below.refl b w).drew.trans (b3.mono (Nat.le_of_lt hbw))).trans b5)
        · have HU : Hid (¬ quote (unq (bs (src.extract k (m + 1)))) = bs (src.extract k (m + 1))) := Lib.hid (by rw [HM.out, unq_mid]; exact hq)
          have HX := Lib.hid hq
          clear hq
          go_wp2_with fail
          go_region_held3 (fun w' => w'.cell? ⟨b, 0, none⟩ = some (.string src) ∧ w'.cell? ⟨b, 1, none⟩ = some (.int .i64 k)) (go_keep)
            ((go_at_call 22; refine (Unquote_no _ HU.out (by omega) _).mono ?_; rintro e w3 ⟨rfl, b3⟩; have q0 := keep_cell b3 hbw c0; have q1 := keep_cell b3 hbw c1))
          go_wp2_with fail
          go_ret
          exact WordPost.bad (n := 11) (by rw [HQ.out, qres, if_neg HX.out]) rfl (H.out.drew.keep b3) ((Below.refl b w).drew.trans (b3.mono (Nat.le_of_lt hbw)))
      · have e34 : ((src[m].toNat : Int) == 34) = false := u8_ne (b := 34) h34
        have n34 : ((src[m].toNat : Int) != 34) = true := by rw [bne, e34]; rfl
        by_cases h92 : src[m] = 92
        · have e92 : ((src[m].toNat : Int) == 92) = true := u8_is (b := 92) h92
          have HN := Lib.hid (HA.out.trans (q_skip src k m hkm hms h92))
          clear HA h34 h92
          go_wp2_with fail
          go_round
          case rel => exact ⟨m + 2, by omega, by omega, HN, by go_num⟩
          case measure => simp [intOf]; omega
        · have e92 : ((src[m].toNat : Int) == 92) = false := u8_ne (b := 92) h92
          have HN := Lib.hid (HA.out.trans (q_plain src k m hkm hms h34 h92))
          clear HA h34 h92
          go_wp2_with fail
          go_round
          case rel => exact ⟨m + 1, by omega, by omega, HN, by go_num⟩
          case measure => simp [intOf]; omega
    · have HQ : Hid (R = none) := Lib.hid (HA.out.trans (q_none src k m (by omega)))
      clear HA
      go_wp2_with fail
      go_ret
      exact WordPost.bad (n := 11) (by rw [HQ.out, qres]) rfl H.out (Below.refl _ _)
end Go.Proofs.YtdjiimblfhbcjaaDoor
