/- TextLines. -/
import Derived.Test.YtdjiimblfhbcjaaDoorTxG
import Derived.Test.YtdjiimblfhbcjaaDoorTxLaw3
namespace Go.Proofs.YtdjiimblfhbcjaaDoor
set_option linter.unusedSimpArgs false
open Go.RowKit

def noF (p : List UInt8) : Bool := p.all (· != 10)
theorem noF_iff {p : List UInt8} : noF p = true ↔ ∀ c ∈ p, c ≠ 10 := by simp [noF]
theorem noF_next (t : List UInt8) (m : Nat) (h : m < t.length) : noF (t.take (m + 1)) = (noF (t.take m) && t[m] != 10) := by
  rw [List.take_succ_eq_append_getElem h]; simp only [noF, List.all_append, List.all_cons, List.all_nil, Bool.and_true]
theorem noF_all (ls : List (List UInt8)) (k : Nat) (h : k < ls.length) : (ls.take (k + 1)).all noF = ((ls.take k).all noF && noF ls[k]) := by
  rw [List.take_succ_eq_append_getElem h]; simp only [List.all_append, List.all_cons, List.all_nil, Bool.and_true]
theorem unl_len_le {ls : List (List UInt8)} : ∀ t ∈ ls, t.length + 1 ≤ (unl ls).length := by
  intro t ht
  induction ls with
  | nil => cases ht
  | cons p l ih =>
    show _ ≤ ((p ++ [10]) ++ unl l).length
    rw [List.length_append, List.length_append, List.length_singleton]
    rcases List.mem_cons.1 ht with rfl | ht
    · omega
    · have := ih ht; omega
theorem unl_count (ls : List (List UInt8)) : ls.length ≤ (unl ls).length := by
  induction ls with
  | nil => simp
  | cons p l ih =>
    show _ ≤ ((p ++ [10]) ++ unl l).length
    rw [List.length_append, List.length_append, List.length_singleton, List.length_cons]; omega
theorem fd_count : ∀ (l now : List UInt8), (fd now l).length ≤ l.length + 1
  | [], now => by rw [fd]; split <;> simp
  | c :: r, now => by
    rw [fd]; split
    · split
      · have := fd_count r []; simp; omega
      · have := fd_count r []; simp; omega
    · have := fd_count r (now ++ [c]); simp; omega
theorem fd_len : ∀ (l now : List UInt8), ∀ p ∈ fd now l, p.length ≤ now.length + l.length
  | [], now => by
    rw [fd]; split
    · intro p hp; cases hp
    · intro p hp; obtain rfl := List.mem_singleton.1 hp; simp
  | c :: r, now => by
    rw [fd]; split
    · split
      · intro p hp; have := fd_len r [] p hp; simp at this ⊢; omega
      · intro p hp
        rcases List.mem_cons.1 hp with rfl | hp
        · omega
        · have := fd_len r [] p hp; simp at this ⊢; omega
    · intro p hp; have := fd_len r _ p hp; simp at this ⊢; omega
theorem fm_take (ls : List (List UInt8)) (k : Nat) (h : k < ls.length) : (ls.take (k + 1)).flatMap (fd []) = (ls.take k).flatMap (fd []) ++ fd [] ls[k] := by
  rw [List.take_succ_eq_append_getElem h, List.flatMap_append]; congr 1; exact List.append_nil _
theorem fm_le (ls : List (List UInt8)) (k : Nat) : ((ls.take k).flatMap (fd [])).length ≤ (ls.flatMap (fd [])).length := by
  have h : ls.flatMap (fd []) = (ls.take k).flatMap (fd []) ++ (ls.drop k).flatMap (fd []) := by
    conv => lhs; rw [← List.take_append_drop k ls]
    exact List.flatMap_append
  rw [h, List.length_append]; omega
theorem strs_append (a b : List (List UInt8)) : strs (a ++ b) = strs a ++ strs b := by simp [strs]
theorem strs_one (a : List (List UInt8)) : ∀ u ∈ strs a, u.oneCell' = true := by
  intro u hu
  simp only [strs, List.mem_map] at hu
  obtain ⟨x, _, rfl⟩ := hu; rfl
theorem Tryd.infoStr : (Tryd.prog.info? 9).map (fun i => (i.zero, i.size, i.bytes)) = some (some (.string ⟨#[]⟩), 1, 16) := by kernel_rfl
theorem own_below {b : Nat} {w W : World} {e : TypeId} {sz : Nat} {v : Value} {n : Nat} {xs : List Value} (h : w.ownsRow b e sz v n xs) (hb : Below w.heap.size w W) : W.ownsRow b e sz v n xs :=
  World.ownsRow.kept (row := none) h ⟨hb.os, hb.tape, hb.output, hb.size, fun k hk _ => hb.block k hk⟩ (Classical.em _)
theorem want_cases (s : ByteArray) : (s.size = 0 ∧ unl (lines (bs s)) = bs s) ∨ (∃ h : s.size - 1 < s.size, s[s.size - 1] = 10 ∧ unl (lines (bs s)) = bs s) ∨ (∃ h : s.size - 1 < s.size, s[s.size - 1] ≠ 10 ∧ unl (lines (bs s)) = bs s ++ [10]) := by
  rw [unl_lines]
  by_cases h0 : s.size = 0
  · left
    have : bs s = [] := List.eq_nil_of_length_eq_zero (by rw [bs_len]; exact h0)
    exact ⟨h0, by rw [this]; simp⟩
  · right
    have hne : bs s ≠ [] := fun e => h0 (by rw [← bs_len, e]; rfl)
    have hlt : s.size - 1 < s.size := by omega
    have hg : (bs s).getLast? = some s[s.size - 1] := by
      rw [List.getLast?_eq_getElem?, bs_len, bs_get s _ hlt]
    by_cases h10 : s[s.size - 1] = 10
    · left
      refine ⟨hlt, h10, ?_⟩
      rw [if_neg (by rw [hg, h10]; simp)]; simp
    · right
      refine ⟨hlt, h10, ?_⟩
      rw [if_pos ⟨hne, by rw [hg]; simpa using h10⟩]
theorem wh_not {c : UInt8} (h : wh c = false) : c ≠ 32 ∧ c ≠ 9 ∧ c ≠ 10 := by
  unfold wh at h; simp at h; exact ⟨h.1.1, h.1.2, h.2⟩
theorem lit_size (t : List UInt8) : (⟨t.toArray⟩ : ByteArray).size = t.length := by rw [← bs_len, bs_lit0]
theorem lit_get (t : List UInt8) (m : Nat) (h : m < (⟨t.toArray⟩ : ByteArray).size) : (⟨t.toArray⟩ : ByteArray)[m] = t[m]'(by rw [lit_size] at h; exact h) := rfl
def bigB (ls : List (List UInt8)) : Bool := ls.any fun t => decide (100 < t.length)

theorem bs_app (a b : ByteArray) : bs (a ++ b) = bs a ++ bs b := by simp [bs]
theorem Unlines_is (v : Value) (ls : List (List UInt8)) (W : ByteArray) (hW : unl ls = bs W) (w : World) (h : Sl w v (strs ls)) (hs : (unl ls).length ≤ 1000000) :
    Calls Tryd.prog 16 #[v] w fun e w' => e = .returned (.string W) ∧ Below w.heap.size w w' := by
  refine (Unlines_any v ls w h hs).mono ?_
  rintro e w' ⟨rfl, hb⟩
  exact ⟨by rw [bs_inj' (bs_lit0 (unl ls) |>.trans hW)], hb⟩
set_option maxRecDepth 100000 in
set_option maxHeartbeats 64000000 in
theorem TextLines_any (v : Value) (ls : List (List UInt8)) (s : ByteArray) (w : World) (hE : Env w) (hv : Sl w v (strs ls)) :
    Calls Tryd.prog 3 #[v, .string s] w fun e w' => e = .returned (.bool true) ∧ Below w.heap.size w w' := by
  have HE := Lib.hid hE
  obtain ⟨a, ca, rfl, hla⟩ := hv.len
  rw [strs_len] at hv hla ⊢
  obtain ⟨n, hn⟩ : ∃ n, n = ls.length := ⟨_, rfl⟩
  rw [← hn] at hv hla ⊢
  have HT := Lib.hid hv
  have HN := Lib.hid hn
  clear hE hv hn
  by_cases h30 : n ≤ 30
  · by_cases h300 : s.size ≤ 300
    · have hwant := want_cases s
      obtain ⟨LS, hLS⟩ : ∃ LS, LS = lines (bs s) := ⟨_, rfl⟩
      have HLS := Lib.hid hLS
      have hul2 : (unl LS).length ≤ 301 := by rw [hLS, unl_lines, List.length_append, bs_len]; split <;> simp <;> omega
      have HFD : Hid (LS.flatMap (fd []) = fd [] (bs s)) := Lib.hid (by rw [hLS]; exact fd_lines _)
      have HCL : Hid (∀ p ∈ LS, ∀ c ∈ p, c ≠ 10) := Lib.hid (by rw [hLS, lines_eq]; exact lnA_clean _ [] (by simp))
      have HSZ : Hid (∀ p ∈ LS, p.length + 1 ≤ (unl LS).length) := Lib.hid unl_len_le
      have hq2 := unl_count LS
      obtain ⟨q, hq⟩ : ∃ q, q = LS.length := ⟨_, rfl⟩
      rw [← hq] at hq2
      have HQN := Lib.hid hq
      have hfc : (fd [] (bs s)).length ≤ 301 := by have := fd_count (bs s) []; rw [bs_len] at this; omega
      have HFG : Hid (∀ p ∈ fd [] (bs s), p ≠ [] ∧ ∀ c ∈ p, wh c = false) := Lib.hid (fd_good _ [] (by simp))
      rw [← hLS] at hwant
      have HW := Lib.hid hwant
      clear hLS hq hwant
      go_enter Tryd.func3, Tryd.ntmps3
      go_wp2_with fail
      go_at_call 13; refine (small_any _ HE.out).mono ?_; rintro e w1 ⟨rfl, B⟩
      go_wp2_with fail
      go_loop [6, 7] (fun p i => ∃ k : Nat, k ≤ n ∧ i = .int .i64 k ∧ p = .bool ((ls.take k).all noF) ∧ (unl (ls.take k)).length ≤ 101 * k) (fun _ i => n - (intOf i).toNat)
      case atStart => exact ⟨0, by omega, rfl, rfl, by simp [unl]⟩
      case round =>
        obtain ⟨k, hk, rfl, rfl, hul⟩ := hrel
        by_cases hlt : k < n
        · have hkt : k < ls.length := by rw [← HN.out]; exact hlt
          obtain ⟨b, off, cb, e1, q0⟩ := (HT.out.below B).str n HN.out k hkt
          cases e1
          have kI0 : (0 : Int) ≤ (k : Int) := by omega
          have kI1 : (k : Int) < (n : Int) := by omega
          have kI2 : (k : Int).toNat = k := by omega
          have hnx := Lib.hid (noF_all ls k hkt)
          have hsz := lit_size ls[k]
          have hun := congrArg List.length (unl_take ls k hkt)
          rw [List.length_append, List.length_append, List.length_singleton] at hun
          generalize ls[k] = t at *
          generalize (ls.take k).all noF = P at *
          by_cases ht : t.length ≤ 100
          · have t1 : (t.length : Int) ≤ 100 := by omega
            go_wp2_with fail
            go_loop [6, 8] (fun p j => ∃ m : Nat, m ≤ t.length ∧ j = .int .i64 m ∧ p = .bool (P && noF (t.take m))) (fun _ j => t.length - (intOf j).toNat)
            case atStart => exact ⟨0, by omega, rfl, by simp [noF]⟩
            case round =>
              obtain ⟨m, hm, rfl, rfl⟩ := hrel
              by_cases hmt : m < t.length
              · have mI0 : (0 : Int) ≤ (m : Int) := by omega
                have mI1 : (m : Int) < (t.length : Int) := by omega
                have mI2 : (m : Int).toNat = m := by omega
                have hnn := Lib.hid (noF_next t m hmt)
                generalize hQ : (P && noF (t.take m)) = Q
                have HQ : Hid ((P && noF (t.take (m + 1))) = (Q && t[m] != 10)) := Lib.hid (by rw [hnn.out, ← hQ, Bool.and_assoc])
                clear hQ hnn
                cases Q with
                | false =>
                  go_wp2_with fail
                  go_round
                  case rel => exact ⟨m + 1, by omega, by go_num, by rw [HQ.out]; rfl⟩
                  case measure => simp [intOf]; omega
                | true =>
                  by_cases h10 : t[m] = 10
                  · have e10 : ((t[m].toNat : Int) != 10) = false := by
                      have : ((t[m].toNat : Int) == 10) = true := u8_is (b := 10) h10
                      rw [bne, this]; rfl
                    have HQ2 : Hid ((P && noF (t.take (m + 1))) = false) := Lib.hid (by rw [HQ.out, h10]; rfl)
                    clear h10 HQ
                    go_wp2_with fail
                    go_round
                    case rel => exact ⟨m + 1, by omega, by go_num, by rw [HQ2.out]; exact congrArg Value.bool e10⟩
                    case measure => simp [intOf]; omega
                  · have e10 : ((t[m].toNat : Int) != 10) = true := by
                      have : ((t[m].toNat : Int) == 10) = false := u8_ne (b := 10) h10
                      rw [bne, this]; rfl
                    have HQ2 : Hid ((P && noF (t.take (m + 1))) = true) := Lib.hid (by rw [HQ.out]; simpa using h10)
                    clear h10 HQ
                    go_wp2_with fail
                    go_round
                    case rel => exact ⟨m + 1, by omega, by go_num, by rw [HQ2.out]; exact congrArg Value.bool e10⟩
                    case measure => simp [intOf]; omega
              · obtain rfl : m = t.length := by omega
                have HQ : Hid ((P && noF (t.take t.length)) = (P && noF t)) := Lib.hid (by rw [List.take_length])
                generalize (P && noF (t.take t.length)) = Q at *
                go_wp2_with fail
                go_round
                case rel => exact ⟨k + 1, by omega, by go_num, by rw [hnx.out, HQ.out], by omega⟩
                case measure => simp [intOf]; omega
          · have t1 : (100 : Int) < (t.length : Int) := by omega
            go_wp2_with fail
            go_ret
            exact ⟨rfl, B⟩
        · have hkn : ls.take k = ls := List.take_of_length_le (by rw [← HN.out]; omega)
          rw [hkn] at hul ⊢
          clear hkn
          obtain ⟨P, hP⟩ : ∃ P, P = ls.all noF := ⟨_, rfl⟩
          rw [← hP]
          cases P with
          | true =>
            have HLU : Hid (lines (bs ⟨(unl ls).toArray⟩) = ls) := Lib.hid (by rw [bs_lit0]; exact lines_unl ls (fun p hp => noF_iff.1 (List.all_eq_true.1 hP.symm p hp)))
            clear hP
            go_wp2_with fail
            go_at_call 16; refine (Unlines_any _ ls _ (HT.out.below B) (by omega)).mono ?_; rintro e w2 ⟨rfl, b⟩
            replace B := B.trans (b.mono B.size)
            clear b
            go_wp2_with fail
            go_at_call 15; refine (Lines_any _ _ (HE.out.below B) (by rw [lit_size]; omega)).mono ?_; rintro e w3 ⟨vl, rfl, t3, b⟩
            rw [HLU.out] at t3
            have T3 := Lib.hid t3
            replace B := B.trans (b.mono B.size)
            clear b t3
            go_wp2_with fail
            go_at_call 14; refine (r2Same_k _ _ ls T3.out (HT.out.below B)).mono ?_; rintro e w4 ⟨rfl, b⟩
            replace B := B.trans (b.mono B.size)
            clear b T3
            go_wp2_with fail
            go_at_call 15; refine (Lines_any _ _ (HE.out.below B) (by omega)).mono ?_; rintro e w5 ⟨v9, rfl, t9, b⟩
            replace B := B.trans (b.mono B.size)
            rw [← HLS.out] at t9
            obtain ⟨a9, c9, rfl, hl9⟩ := t9.len
            rw [strs_len, ← HQN.out] at t9 hl9 ⊢
            have T9 := Lib.hid t9
            clear b t9
            rcases HW.out with ⟨hz, hu⟩ | ⟨hz, h10, hu⟩ | ⟨hz, h10, hu⟩
            · have HU : Hid (unl LS = bs s) := Lib.hid hu
              have hq1 : s.toList = [] := by rw [toList_bs]; exact List.eq_nil_of_length_eq_zero (by rw [bs_len]; exact hz)
              clear hu hz
              go_wp2_with fail
              replace B := Lib.hid B
              go_loopw [11, 12] (fun f i wr => ∃ k : Nat, k ≤ q ∧ i = .int .i64 k ∧ Hid (wr.ownsRow w5.heap.size 9 1 f ((LS.take k).flatMap (fd [])).length (strs ((LS.take k).flatMap (fd [])))) ∧ Hid (Below w5.heap.size w5 wr)) (fun _ i _ => q - (intOf i).toNat)
              case atStart => exact ⟨0, by omega, rfl, Lib.hid ⟨rfl, .inl ⟨rfl, rfl⟩⟩, Lib.hid (Below.refl _ _)⟩
              case round =>
                obtain ⟨k3, hk3, rfl, HO, HB⟩ := hrel
                by_cases hlt3 : k3 < q
                · have hkt3 : k3 < LS.length := by rw [← HQN.out]; exact hlt3
                  obtain ⟨b9, off9, cb9, e9, q9⟩ := (T9.out.below HB.out).str q HQN.out k3 hkt3
                  cases e9
                  have kI0 : (0 : Int) ≤ (k3 : Int) := by omega
                  have kI1 : (k3 : Int) < (q : Int) := by omega
                  have kI2 : (k3 : Int).toNat = k3 := by omega
                  have hcl := Lib.hid (HCL.out _ (List.getElem_mem hkt3))
                  have hsz := HSZ.out _ (List.getElem_mem hkt3)
                  have hft := Lib.hid (fm_take LS k3 hkt3)
                  have hfl := fm_le LS (k3 + 1)
                  rw [hft.out, List.length_append, HFD.out] at hfl
                  generalize LS[k3] = t at *
                  generalize (LS.take k3).flatMap (fd []) = F at *
                  go_wp2_with fail
                  go_loop [13] (fun j => ∃ m : Nat, m ≤ t.length ∧ j = .int .i64 m) (fun j => t.length - (intOf j).toNat)
                  case atStart => exact ⟨0, by omega, rfl⟩
                  case round =>
                    obtain ⟨m, hm, rfl⟩ := hrel
                    by_cases hmt : m < t.length
                    · have mI0 : (0 : Int) ≤ (m : Int) := by omega
                      have mI1 : (m : Int) < (t.length : Int) := by omega
                      have mI2 : (m : Int).toNat = m := by omega
                      have e11 : ((((⟨t.toArray⟩ : ByteArray)[m]'(by rw [lit_size]; exact hmt)).toNat : Int) == 10) = false := u8_ne (b := 10) (hcl.out _ (List.getElem_mem hmt))
                      go_wp2_with fail
                      go_round
                      case rel => exact ⟨m + 1, by omega, by go_num⟩
                      case measure => simp [intOf]; omega
                    · obtain rfl : m = t.length := by omega
                      go_wp2_with fail
                      go_at_call 17; refine (Fields_any _ _ (by rw [lit_size]; omega)).mono ?_; rintro e w6 ⟨vf, rfl, ⟨A, nf, rfl, hof, hnf⟩, b⟩
                      rw [fields_eq, bs_lit0] at hof hnf
                      have HF := Lib.hid (Sl.of_own hof (by unfold maxLen; omega))
                      have HO6 := Lib.hid (own_below HO.out b)
                      have HB6 := Lib.hid (HB.out.trans (b.mono HB.out.size))
                      have hsl := strs_len (fd [] t)
                      have hs6 := HB6.out.size
                      clear b hof HO HB hnf
                      go_wp2_with (at_builtin; refine wpList_append_sl rfl (.tmp 105) (.tmp 110) 22 rfl w5.heap.size 9 _ 16 Tryd.underlying22 Tryd.infoStr rfl _ F.length (strs F) rfl HO6.out _ (strs (fd [] t)) rfl HF.out (strs_one _) (by rw [hsl]; unfold maxLen; omega) (by rw [hsl]; omega) hs6 ?_; intro v7 w7 ho7 hg7)
                      have HO7 : Hid (w7.ownsRow w5.heap.size 9 1 v7 ((LS.take (k3 + 1)).flatMap (fd [])).length (strs ((LS.take (k3 + 1)).flatMap (fd [])))) := Lib.hid (by rw [hft.out, List.length_append, strs_append, ← hsl]; exact ho7)
                      have HB7 := Lib.hid (HB6.out.grown hg7 hs6 (fun k e => World.ownsRow.lt HO6.out k e |>.1))
                      clear ho7 hg7 HO6 HB6
                      go_wp2_with fail
                      go_roundw
                      case rel => exact ⟨k3 + 1, by omega, by go_num, HO7, HB7⟩
                      case measure => simp [intOf]; omega
                · have hkn3 : LS.take k3 = LS := List.take_of_length_le (by rw [← HQN.out]; omega)
                  rw [hkn3, HFD.out] at HO
                  clear hkn3
                  obtain ⟨FS, hFS⟩ : ∃ FS, FS = fd [] (bs s) := ⟨_, rfl⟩
                  have HFS := Lib.hid hFS
                  have HG5 : Hid (∀ p ∈ FS, p ≠ [] ∧ ∀ c ∈ p, wh c = false) := Lib.hid (by rw [hFS]; exact HFG.out)
                  have HL5 : Hid (∀ p ∈ FS, p.length ≤ 300) := Lib.hid (by rw [hFS]; intro p hp; have := fd_len _ _ p hp; rw [bs_len] at this; simp at this; omega)
                  rw [← hFS] at HO hfc
                  have hsf := Sl.of_own HO.out (by unfold maxLen; omega)
                  clear hFS HO
                  obtain ⟨a11, c11, rfl, hl11⟩ := hsf.len
                  rw [strs_len] at hsf hl11 ⊢
                  obtain ⟨r, hr⟩ : ∃ r, r = FS.length := ⟨_, rfl⟩
                  rw [← hr] at hsf hl11 hfc ⊢
                  have HS5 := Lib.hid hsf
                  have HRN := Lib.hid hr
                  clear hsf hr
                  go_wp2_with fail
                  go_loop [14] (fun i => ∃ k : Nat, k ≤ r ∧ i = .int .i64 k) (fun i => r - (intOf i).toNat)
                  case atStart => exact ⟨0, by omega, rfl⟩
                  case round =>
                    obtain ⟨k5, hk5, rfl⟩ := hrel
                    by_cases hlt5 : k5 < r
                    · have hkt5 : k5 < FS.length := by rw [← HRN.out]; exact hlt5
                      obtain ⟨b5, off5, cb5, e5, q5⟩ := HS5.out.str r HRN.out k5 hkt5
                      cases e5
                      have kI0 : (0 : Int) ≤ (k5 : Int) := by omega
                      have kI1 : (k5 : Int) < (r : Int) := by omega
                      have kI2 : (k5 : Int).toNat = k5 := by omega
                      obtain ⟨hne5, hg5⟩ := HG5.out _ (List.getElem_mem hkt5)
                      have hcl5 := Lib.hid hg5
                      have hln5 := HL5.out _ (List.getElem_mem hkt5)
                      clear hg5
                      generalize FS[k5] = t at *
                      go_wp2_with fail
                      go_loop [15] (fun j => ∃ m : Nat, m ≤ t.length ∧ j = .int .i64 m) (fun j => t.length - (intOf j).toNat)
                      case atStart => exact ⟨0, by omega, rfl⟩
                      case round =>
                        obtain ⟨m, hm, rfl⟩ := hrel
                        by_cases hmt : m < t.length
                        · have mI0 : (0 : Int) ≤ (m : Int) := by omega
                          have mI1 : (m : Int) < (t.length : Int) := by omega
                          have mI2 : (m : Int).toNat = m := by omega
                          obtain ⟨w1, w2, w3⟩ := wh_not (hcl5.out _ (List.getElem_mem hmt))
                          have e1 : ((((⟨t.toArray⟩ : ByteArray)[m]'(by rw [lit_size]; exact hmt)).toNat : Int) == 32) = false := u8_ne (b := 32) w1
                          have e2 : ((((⟨t.toArray⟩ : ByteArray)[m]'(by rw [lit_size]; exact hmt)).toNat : Int) == 9) = false := u8_ne (b := 9) w2
                          have e3 : ((((⟨t.toArray⟩ : ByteArray)[m]'(by rw [lit_size]; exact hmt)).toNat : Int) == 10) = false := u8_ne (b := 10) w3
                          clear w1 w2 w3
                          go_wp2_with fail
                          go_round
                          case rel => exact ⟨m + 1, by omega, by go_num⟩
                          case measure => simp [intOf]; omega
                        · obtain rfl : m = t.length := by omega
                          have hne6 : t.isEmpty = false := by cases t with | nil => exact absurd rfl hne5 | cons _ _ => rfl
                          go_wp2_with fail
                          go_round
                          case rel => exact ⟨k5 + 1, by omega, by go_num⟩
                          case measure => simp [intOf]; omega
                    · go_wp2_with fail
                      go_at_call 16; refine (Unlines_is _ LS s HU.out _ (T9.out.below HB.out) (by omega)).mono ?_; rintro e w8 ⟨rfl, b⟩
                      have HB8 := Lib.hid (HB.out.trans (b.mono HB.out.size))
                      have HS8 := Lib.hid (HS5.out.below b)
                      clear b HB HS5
                      go_wp2_with fail
                      go_at_call 17; refine (Fields_any s _ (by omega)).mono ?_; rintro e w9 ⟨vf, rfl, ⟨A, nf, rfl, hof, hnf⟩, b⟩
                      rw [fields_eq, ← HFS.out] at hof hnf
                      have HF := Lib.hid (Sl.of_own hof (by have := HRN.out; unfold maxLen; omega))
                      have HB9 := Lib.hid (HB8.out.trans (b.mono HB8.out.size))
                      have HS9 := Lib.hid (HS8.out.below b)
                      clear b HB8 HS8 hof hnf
                      go_wp2_with fail
                      go_at_call 14; refine (r2Same_k _ _ FS HF.out HS9.out).mono ?_; rintro e w10 ⟨rfl, b⟩
                      have HB10 := Lib.hid (HB9.out.trans (b.mono HB9.out.size))
                      clear b HB9 HS9 HF
                      go_wp2_with fail
                      go_ret
                      exact ⟨rfl, B.out.trans (HB10.out.mono B.out.size)⟩
            · have HU : Hid (unl LS = bs s) := Lib.hid hu
              have e10 : ((s[s.size - 1].toNat : Int) != 10) = false := by
                have : ((s[s.size - 1].toNat : Int) == 10) = true := u8_is (b := 10) h10
                rw [bne, this]; rfl
              have hq1 : ¬ s.toList = [] := by rw [toList_bs]; exact fun e => by have := bs_len s; rw [e] at this; simp at this; omega
              have hq3 : s.toList.isEmpty = false := by cases h : s.toList with | nil => exact absurd h hq1 | cons _ _ => rfl
              have hz1 : (1 : Int) ≤ (s.size : Int) := by omega
              have hz3 : (s.size : Int) - 1 < (s.size : Int) := by omega
              have hz2 : ((s.size : Int) - 1).toNat = s.size - 1 := by omega
              clear hu h10
              go_wp2_with fail
              replace B := Lib.hid B
              go_loopw [11, 12] (fun f i wr => ∃ k : Nat, k ≤ q ∧ i = .int .i64 k ∧ Hid (wr.ownsRow w5.heap.size 9 1 f ((LS.take k).flatMap (fd [])).length (strs ((LS.take k).flatMap (fd [])))) ∧ Hid (Below w5.heap.size w5 wr)) (fun _ i _ => q - (intOf i).toNat)
              case atStart => exact ⟨0, by omega, rfl, Lib.hid ⟨rfl, .inl ⟨rfl, rfl⟩⟩, Lib.hid (Below.refl _ _)⟩
              case round =>
                obtain ⟨k3, hk3, rfl, HO, HB⟩ := hrel
                by_cases hlt3 : k3 < q
                · have hkt3 : k3 < LS.length := by rw [← HQN.out]; exact hlt3
                  obtain ⟨b9, off9, cb9, e9, q9⟩ := (T9.out.below HB.out).str q HQN.out k3 hkt3
                  cases e9
                  have kI0 : (0 : Int) ≤ (k3 : Int) := by omega
                  have kI1 : (k3 : Int) < (q : Int) := by omega
                  have kI2 : (k3 : Int).toNat = k3 := by omega
                  have hcl := Lib.hid (HCL.out _ (List.getElem_mem hkt3))
                  have hsz := HSZ.out _ (List.getElem_mem hkt3)
                  have hft := Lib.hid (fm_take LS k3 hkt3)
                  have hfl := fm_le LS (k3 + 1)
                  rw [hft.out, List.length_append, HFD.out] at hfl
                  generalize LS[k3] = t at *
                  generalize (LS.take k3).flatMap (fd []) = F at *
                  go_wp2_with fail
                  go_loop [13] (fun j => ∃ m : Nat, m ≤ t.length ∧ j = .int .i64 m) (fun j => t.length - (intOf j).toNat)
                  case atStart => exact ⟨0, by omega, rfl⟩
                  case round =>
                    obtain ⟨m, hm, rfl⟩ := hrel
                    by_cases hmt : m < t.length
                    · have mI0 : (0 : Int) ≤ (m : Int) := by omega
                      have mI1 : (m : Int) < (t.length : Int) := by omega
                      have mI2 : (m : Int).toNat = m := by omega
                      have e11 : ((((⟨t.toArray⟩ : ByteArray)[m]'(by rw [lit_size]; exact hmt)).toNat : Int) == 10) = false := u8_ne (b := 10) (hcl.out _ (List.getElem_mem hmt))
                      go_wp2_with fail
                      go_round
                      case rel => exact ⟨m + 1, by omega, by go_num⟩
                      case measure => simp [intOf]; omega
                    · obtain rfl : m = t.length := by omega
                      go_wp2_with fail
                      go_at_call 17; refine (Fields_any _ _ (by rw [lit_size]; omega)).mono ?_; rintro e w6 ⟨vf, rfl, ⟨A, nf, rfl, hof, hnf⟩, b⟩
                      rw [fields_eq, bs_lit0] at hof hnf
                      have HF := Lib.hid (Sl.of_own hof (by unfold maxLen; omega))
                      have HO6 := Lib.hid (own_below HO.out b)
                      have HB6 := Lib.hid (HB.out.trans (b.mono HB.out.size))
                      have hsl := strs_len (fd [] t)
                      have hs6 := HB6.out.size
                      clear b hof HO HB hnf
                      go_wp2_with (at_builtin; refine wpList_append_sl rfl (.tmp 105) (.tmp 110) 22 rfl w5.heap.size 9 _ 16 Tryd.underlying22 Tryd.infoStr rfl _ F.length (strs F) rfl HO6.out _ (strs (fd [] t)) rfl HF.out (strs_one _) (by rw [hsl]; unfold maxLen; omega) (by rw [hsl]; omega) hs6 ?_; intro v7 w7 ho7 hg7)
                      have HO7 : Hid (w7.ownsRow w5.heap.size 9 1 v7 ((LS.take (k3 + 1)).flatMap (fd [])).length (strs ((LS.take (k3 + 1)).flatMap (fd [])))) := Lib.hid (by rw [hft.out, List.length_append, strs_append, ← hsl]; exact ho7)
                      have HB7 := Lib.hid (HB6.out.grown hg7 hs6 (fun k e => World.ownsRow.lt HO6.out k e |>.1))
                      clear ho7 hg7 HO6 HB6
                      go_wp2_with fail
                      go_roundw
                      case rel => exact ⟨k3 + 1, by omega, by go_num, HO7, HB7⟩
                      case measure => simp [intOf]; omega
                · have hkn3 : LS.take k3 = LS := List.take_of_length_le (by rw [← HQN.out]; omega)
                  rw [hkn3, HFD.out] at HO
                  clear hkn3
                  obtain ⟨FS, hFS⟩ : ∃ FS, FS = fd [] (bs s) := ⟨_, rfl⟩
                  have HFS := Lib.hid hFS
                  have HG5 : Hid (∀ p ∈ FS, p ≠ [] ∧ ∀ c ∈ p, wh c = false) := Lib.hid (by rw [hFS]; exact HFG.out)
                  have HL5 : Hid (∀ p ∈ FS, p.length ≤ 300) := Lib.hid (by rw [hFS]; intro p hp; have := fd_len _ _ p hp; rw [bs_len] at this; simp at this; omega)
                  rw [← hFS] at HO hfc
                  have hsf := Sl.of_own HO.out (by unfold maxLen; omega)
                  clear hFS HO
                  obtain ⟨a11, c11, rfl, hl11⟩ := hsf.len
                  rw [strs_len] at hsf hl11 ⊢
                  obtain ⟨r, hr⟩ : ∃ r, r = FS.length := ⟨_, rfl⟩
                  rw [← hr] at hsf hl11 hfc ⊢
                  have HS5 := Lib.hid hsf
                  have HRN := Lib.hid hr
                  clear hsf hr
                  go_wp2_with fail
                  go_loop [14] (fun i => ∃ k : Nat, k ≤ r ∧ i = .int .i64 k) (fun i => r - (intOf i).toNat)
                  case atStart => exact ⟨0, by omega, rfl⟩
                  case round =>
                    obtain ⟨k5, hk5, rfl⟩ := hrel
                    by_cases hlt5 : k5 < r
                    · have hkt5 : k5 < FS.length := by rw [← HRN.out]; exact hlt5
                      obtain ⟨b5, off5, cb5, e5, q5⟩ := HS5.out.str r HRN.out k5 hkt5
                      cases e5
                      have kI0 : (0 : Int) ≤ (k5 : Int) := by omega
                      have kI1 : (k5 : Int) < (r : Int) := by omega
                      have kI2 : (k5 : Int).toNat = k5 := by omega
                      obtain ⟨hne5, hg5⟩ := HG5.out _ (List.getElem_mem hkt5)
                      have hcl5 := Lib.hid hg5
                      have hln5 := HL5.out _ (List.getElem_mem hkt5)
                      clear hg5
                      generalize FS[k5] = t at *
                      go_wp2_with fail
                      go_loop [15] (fun j => ∃ m : Nat, m ≤ t.length ∧ j = .int .i64 m) (fun j => t.length - (intOf j).toNat)
                      case atStart => exact ⟨0, by omega, rfl⟩
                      case round =>
                        obtain ⟨m, hm, rfl⟩ := hrel
                        by_cases hmt : m < t.length
                        · have mI0 : (0 : Int) ≤ (m : Int) := by omega
                          have mI1 : (m : Int) < (t.length : Int) := by omega
                          have mI2 : (m : Int).toNat = m := by omega
                          obtain ⟨w1, w2, w3⟩ := wh_not (hcl5.out _ (List.getElem_mem hmt))
                          have e1 : ((((⟨t.toArray⟩ : ByteArray)[m]'(by rw [lit_size]; exact hmt)).toNat : Int) == 32) = false := u8_ne (b := 32) w1
                          have e2 : ((((⟨t.toArray⟩ : ByteArray)[m]'(by rw [lit_size]; exact hmt)).toNat : Int) == 9) = false := u8_ne (b := 9) w2
                          have e3 : ((((⟨t.toArray⟩ : ByteArray)[m]'(by rw [lit_size]; exact hmt)).toNat : Int) == 10) = false := u8_ne (b := 10) w3
                          clear w1 w2 w3
                          go_wp2_with fail
                          go_round
                          case rel => exact ⟨m + 1, by omega, by go_num⟩
                          case measure => simp [intOf]; omega
                        · obtain rfl : m = t.length := by omega
                          have hne6 : t.isEmpty = false := by cases t with | nil => exact absurd rfl hne5 | cons _ _ => rfl
                          go_wp2_with fail
                          go_round
                          case rel => exact ⟨k5 + 1, by omega, by go_num⟩
                          case measure => simp [intOf]; omega
                    · go_wp2_with fail
                      go_at_call 16; refine (Unlines_is _ LS s HU.out _ (T9.out.below HB.out) (by omega)).mono ?_; rintro e w8 ⟨rfl, b⟩
                      have HB8 := Lib.hid (HB.out.trans (b.mono HB.out.size))
                      have HS8 := Lib.hid (HS5.out.below b)
                      clear b HB HS5
                      go_wp2_with fail
                      go_at_call 17; refine (Fields_any s _ (by omega)).mono ?_; rintro e w9 ⟨vf, rfl, ⟨A, nf, rfl, hof, hnf⟩, b⟩
                      rw [fields_eq, ← HFS.out] at hof hnf
                      have HF := Lib.hid (Sl.of_own hof (by have := HRN.out; unfold maxLen; omega))
                      have HB9 := Lib.hid (HB8.out.trans (b.mono HB8.out.size))
                      have HS9 := Lib.hid (HS8.out.below b)
                      clear b HB8 HS8 hof hnf
                      go_wp2_with fail
                      go_at_call 14; refine (r2Same_k _ _ FS HF.out HS9.out).mono ?_; rintro e w10 ⟨rfl, b⟩
                      have HB10 := Lib.hid (HB9.out.trans (b.mono HB9.out.size))
                      clear b HB9 HS9 HF
                      go_wp2_with fail
                      go_ret
                      exact ⟨rfl, B.out.trans (HB10.out.mono B.out.size)⟩
            · have HU : Hid (unl LS = bs (s ++ ⟨#[10]⟩)) := Lib.hid (by rw [hu, bs_app]; rfl)
              have e10 : ((s[s.size - 1].toNat : Int) != 10) = true := by
                have : ((s[s.size - 1].toNat : Int) == 10) = false := u8_ne (b := 10) h10
                rw [bne, this]; rfl
              have hq1 : ¬ s.toList = [] := by rw [toList_bs]; exact fun e => by have := bs_len s; rw [e] at this; simp at this; omega
              have hq3 : s.toList.isEmpty = false := by cases h : s.toList with | nil => exact absurd h hq1 | cons _ _ => rfl
              have hz1 : (1 : Int) ≤ (s.size : Int) := by omega
              have hz3 : (s.size : Int) - 1 < (s.size : Int) := by omega
              have hz2 : ((s.size : Int) - 1).toNat = s.size - 1 := by omega
              clear hu h10
              go_wp2_with fail
              replace B := Lib.hid B
              go_loopw [11, 12] (fun f i wr => ∃ k : Nat, k ≤ q ∧ i = .int .i64 k ∧ Hid (wr.ownsRow w5.heap.size 9 1 f ((LS.take k).flatMap (fd [])).length (strs ((LS.take k).flatMap (fd [])))) ∧ Hid (Below w5.heap.size w5 wr)) (fun _ i _ => q - (intOf i).toNat)
              case atStart => exact ⟨0, by omega, rfl, Lib.hid ⟨rfl, .inl ⟨rfl, rfl⟩⟩, Lib.hid (Below.refl _ _)⟩
              case round =>
                obtain ⟨k3, hk3, rfl, HO, HB⟩ := hrel
                by_cases hlt3 : k3 < q
                · have hkt3 : k3 < LS.length := by rw [← HQN.out]; exact hlt3
                  obtain ⟨b9, off9, cb9, e9, q9⟩ := (T9.out.below HB.out).str q HQN.out k3 hkt3
                  cases e9
                  have kI0 : (0 : Int) ≤ (k3 : Int) := by omega
                  have kI1 : (k3 : Int) < (q : Int) := by omega
                  have kI2 : (k3 : Int).toNat = k3 := by omega
                  have hcl := Lib.hid (HCL.out _ (List.getElem_mem hkt3))
                  have hsz := HSZ.out _ (List.getElem_mem hkt3)
                  have hft := Lib.hid (fm_take LS k3 hkt3)
                  have hfl := fm_le LS (k3 + 1)
                  rw [hft.out, List.length_append, HFD.out] at hfl
                  generalize LS[k3] = t at *
                  generalize (LS.take k3).flatMap (fd []) = F at *
                  go_wp2_with fail
                  go_loop [13] (fun j => ∃ m : Nat, m ≤ t.length ∧ j = .int .i64 m) (fun j => t.length - (intOf j).toNat)
                  case atStart => exact ⟨0, by omega, rfl⟩
                  case round =>
                    obtain ⟨m, hm, rfl⟩ := hrel
                    by_cases hmt : m < t.length
                    · have mI0 : (0 : Int) ≤ (m : Int) := by omega
                      have mI1 : (m : Int) < (t.length : Int) := by omega
                      have mI2 : (m : Int).toNat = m := by omega
                      have e11 : ((((⟨t.toArray⟩ : ByteArray)[m]'(by rw [lit_size]; exact hmt)).toNat : Int) == 10) = false := u8_ne (b := 10) (hcl.out _ (List.getElem_mem hmt))
                      go_wp2_with fail
                      go_round
                      case rel => exact ⟨m + 1, by omega, by go_num⟩
                      case measure => simp [intOf]; omega
                    · obtain rfl : m = t.length := by omega
                      go_wp2_with fail
                      go_at_call 17; refine (Fields_any _ _ (by rw [lit_size]; omega)).mono ?_; rintro e w6 ⟨vf, rfl, ⟨A, nf, rfl, hof, hnf⟩, b⟩
                      rw [fields_eq, bs_lit0] at hof hnf
                      have HF := Lib.hid (Sl.of_own hof (by unfold maxLen; omega))
                      have HO6 := Lib.hid (own_below HO.out b)
                      have HB6 := Lib.hid (HB.out.trans (b.mono HB.out.size))
                      have hsl := strs_len (fd [] t)
                      have hs6 := HB6.out.size
                      clear b hof HO HB hnf
                      go_wp2_with (at_builtin; refine wpList_append_sl rfl (.tmp 105) (.tmp 110) 22 rfl w5.heap.size 9 _ 16 Tryd.underlying22 Tryd.infoStr rfl _ F.length (strs F) rfl HO6.out _ (strs (fd [] t)) rfl HF.out (strs_one _) (by rw [hsl]; unfold maxLen; omega) (by rw [hsl]; omega) hs6 ?_; intro v7 w7 ho7 hg7)
                      have HO7 : Hid (w7.ownsRow w5.heap.size 9 1 v7 ((LS.take (k3 + 1)).flatMap (fd [])).length (strs ((LS.take (k3 + 1)).flatMap (fd [])))) := Lib.hid (by rw [hft.out, List.length_append, strs_append, ← hsl]; exact ho7)
                      have HB7 := Lib.hid (HB6.out.grown hg7 hs6 (fun k e => World.ownsRow.lt HO6.out k e |>.1))
                      clear ho7 hg7 HO6 HB6
                      go_wp2_with fail
                      go_roundw
                      case rel => exact ⟨k3 + 1, by omega, by go_num, HO7, HB7⟩
                      case measure => simp [intOf]; omega
                · have hkn3 : LS.take k3 = LS := List.take_of_length_le (by rw [← HQN.out]; omega)
                  rw [hkn3, HFD.out] at HO
                  clear hkn3
                  obtain ⟨FS, hFS⟩ : ∃ FS, FS = fd [] (bs s) := ⟨_, rfl⟩
                  have HFS := Lib.hid hFS
                  have HG5 : Hid (∀ p ∈ FS, p ≠ [] ∧ ∀ c ∈ p, wh c = false) := Lib.hid (by rw [hFS]; exact HFG.out)
                  have HL5 : Hid (∀ p ∈ FS, p.length ≤ 300) := Lib.hid (by rw [hFS]; intro p hp; have := fd_len _ _ p hp; rw [bs_len] at this; simp at this; omega)
                  rw [← hFS] at HO hfc
                  have hsf := Sl.of_own HO.out (by unfold maxLen; omega)
                  clear hFS HO
                  obtain ⟨a11, c11, rfl, hl11⟩ := hsf.len
                  rw [strs_len] at hsf hl11 ⊢
                  obtain ⟨r, hr⟩ : ∃ r, r = FS.length := ⟨_, rfl⟩
                  rw [← hr] at hsf hl11 hfc ⊢
                  have HS5 := Lib.hid hsf
                  have HRN := Lib.hid hr
                  clear hsf hr
                  go_wp2_with fail
                  go_loop [14] (fun i => ∃ k : Nat, k ≤ r ∧ i = .int .i64 k) (fun i => r - (intOf i).toNat)
                  case atStart => exact ⟨0, by omega, rfl⟩
                  case round =>
                    obtain ⟨k5, hk5, rfl⟩ := hrel
                    by_cases hlt5 : k5 < r
                    · have hkt5 : k5 < FS.length := by rw [← HRN.out]; exact hlt5
                      obtain ⟨b5, off5, cb5, e5, q5⟩ := HS5.out.str r HRN.out k5 hkt5
                      cases e5
                      have kI0 : (0 : Int) ≤ (k5 : Int) := by omega
                      have kI1 : (k5 : Int) < (r : Int) := by omega
                      have kI2 : (k5 : Int).toNat = k5 := by omega
                      obtain ⟨hne5, hg5⟩ := HG5.out _ (List.getElem_mem hkt5)
                      have hcl5 := Lib.hid hg5
                      have hln5 := HL5.out _ (List.getElem_mem hkt5)
                      clear hg5
                      generalize FS[k5] = t at *
                      go_wp2_with fail
                      go_loop [15] (fun j => ∃ m : Nat, m ≤ t.length ∧ j = .int .i64 m) (fun j => t.length - (intOf j).toNat)
                      case atStart => exact ⟨0, by omega, rfl⟩
                      case round =>
                        obtain ⟨m, hm, rfl⟩ := hrel
                        by_cases hmt : m < t.length
                        · have mI0 : (0 : Int) ≤ (m : Int) := by omega
                          have mI1 : (m : Int) < (t.length : Int) := by omega
                          have mI2 : (m : Int).toNat = m := by omega
                          obtain ⟨w1, w2, w3⟩ := wh_not (hcl5.out _ (List.getElem_mem hmt))
                          have e1 : ((((⟨t.toArray⟩ : ByteArray)[m]'(by rw [lit_size]; exact hmt)).toNat : Int) == 32) = false := u8_ne (b := 32) w1
                          have e2 : ((((⟨t.toArray⟩ : ByteArray)[m]'(by rw [lit_size]; exact hmt)).toNat : Int) == 9) = false := u8_ne (b := 9) w2
                          have e3 : ((((⟨t.toArray⟩ : ByteArray)[m]'(by rw [lit_size]; exact hmt)).toNat : Int) == 10) = false := u8_ne (b := 10) w3
                          clear w1 w2 w3
                          go_wp2_with fail
                          go_round
                          case rel => exact ⟨m + 1, by omega, by go_num⟩
                          case measure => simp [intOf]; omega
                        · obtain rfl : m = t.length := by omega
                          have hne6 : t.isEmpty = false := by cases t with | nil => exact absurd rfl hne5 | cons _ _ => rfl
                          go_wp2_with fail
                          go_round
                          case rel => exact ⟨k5 + 1, by omega, by go_num⟩
                          case measure => simp [intOf]; omega
                    · go_wp2_with fail
                      go_at_call 16; refine (Unlines_is _ LS (s ++ ⟨#[10]⟩) HU.out _ (T9.out.below HB.out) (by omega)).mono ?_; rintro e w8 ⟨rfl, b⟩
                      have HB8 := Lib.hid (HB.out.trans (b.mono HB.out.size))
                      have HS8 := Lib.hid (HS5.out.below b)
                      clear b HB HS5
                      go_wp2_with fail
                      go_at_call 17; refine (Fields_any s _ (by omega)).mono ?_; rintro e w9 ⟨vf, rfl, ⟨A, nf, rfl, hof, hnf⟩, b⟩
                      rw [fields_eq, ← HFS.out] at hof hnf
                      have HF := Lib.hid (Sl.of_own hof (by have := HRN.out; unfold maxLen; omega))
                      have HB9 := Lib.hid (HB8.out.trans (b.mono HB8.out.size))
                      have HS9 := Lib.hid (HS8.out.below b)
                      clear b HB8 HS8 hof hnf
                      go_wp2_with fail
                      go_at_call 14; refine (r2Same_k _ _ FS HF.out HS9.out).mono ?_; rintro e w10 ⟨rfl, b⟩
                      have HB10 := Lib.hid (HB9.out.trans (b.mono HB9.out.size))
                      clear b HB9 HS9 HF
                      go_wp2_with fail
                      go_ret
                      exact ⟨rfl, B.out.trans (HB10.out.mono B.out.size)⟩
          | false =>
            clear hP
            go_wp2_with fail
            go_at_call 15; refine (Lines_any _ _ (HE.out.below B) (by omega)).mono ?_; rintro e w5 ⟨v9, rfl, t9, b⟩
            replace B := B.trans (b.mono B.size)
            rw [← HLS.out] at t9
            obtain ⟨a9, c9, rfl, hl9⟩ := t9.len
            rw [strs_len, ← HQN.out] at t9 hl9 ⊢
            have T9 := Lib.hid t9
            clear b t9
            rcases HW.out with ⟨hz, hu⟩ | ⟨hz, h10, hu⟩ | ⟨hz, h10, hu⟩
            · have HU : Hid (unl LS = bs s) := Lib.hid hu
              have hq1 : s.toList = [] := by rw [toList_bs]; exact List.eq_nil_of_length_eq_zero (by rw [bs_len]; exact hz)
              clear hu hz
              go_wp2_with fail
              replace B := Lib.hid B
              go_loopw [11, 12] (fun f i wr => ∃ k : Nat, k ≤ q ∧ i = .int .i64 k ∧ Hid (wr.ownsRow w5.heap.size 9 1 f ((LS.take k).flatMap (fd [])).length (strs ((LS.take k).flatMap (fd [])))) ∧ Hid (Below w5.heap.size w5 wr)) (fun _ i _ => q - (intOf i).toNat)
              case atStart => exact ⟨0, by omega, rfl, Lib.hid ⟨rfl, .inl ⟨rfl, rfl⟩⟩, Lib.hid (Below.refl _ _)⟩
              case round =>
                obtain ⟨k3, hk3, rfl, HO, HB⟩ := hrel
                by_cases hlt3 : k3 < q
                · have hkt3 : k3 < LS.length := by rw [← HQN.out]; exact hlt3
                  obtain ⟨b9, off9, cb9, e9, q9⟩ := (T9.out.below HB.out).str q HQN.out k3 hkt3
                  cases e9
                  have kI0 : (0 : Int) ≤ (k3 : Int) := by omega
                  have kI1 : (k3 : Int) < (q : Int) := by omega
                  have kI2 : (k3 : Int).toNat = k3 := by omega
                  have hcl := Lib.hid (HCL.out _ (List.getElem_mem hkt3))
                  have hsz := HSZ.out _ (List.getElem_mem hkt3)
                  have hft := Lib.hid (fm_take LS k3 hkt3)
                  have hfl := fm_le LS (k3 + 1)
                  rw [hft.out, List.length_append, HFD.out] at hfl
                  generalize LS[k3] = t at *
                  generalize (LS.take k3).flatMap (fd []) = F at *
                  go_wp2_with fail
                  go_loop [13] (fun j => ∃ m : Nat, m ≤ t.length ∧ j = .int .i64 m) (fun j => t.length - (intOf j).toNat)
                  case atStart => exact ⟨0, by omega, rfl⟩
                  case round =>
                    obtain ⟨m, hm, rfl⟩ := hrel
                    by_cases hmt : m < t.length
                    · have mI0 : (0 : Int) ≤ (m : Int) := by omega
                      have mI1 : (m : Int) < (t.length : Int) := by omega
                      have mI2 : (m : Int).toNat = m := by omega
                      have e11 : ((((⟨t.toArray⟩ : ByteArray)[m]'(by rw [lit_size]; exact hmt)).toNat : Int) == 10) = false := u8_ne (b := 10) (hcl.out _ (List.getElem_mem hmt))
                      go_wp2_with fail
                      go_round
                      case rel => exact ⟨m + 1, by omega, by go_num⟩
                      case measure => simp [intOf]; omega
                    · obtain rfl : m = t.length := by omega
                      go_wp2_with fail
                      go_at_call 17; refine (Fields_any _ _ (by rw [lit_size]; omega)).mono ?_; rintro e w6 ⟨vf, rfl, ⟨A, nf, rfl, hof, hnf⟩, b⟩
                      rw [fields_eq, bs_lit0] at hof hnf
                      have HF := Lib.hid (Sl.of_own hof (by unfold maxLen; omega))
                      have HO6 := Lib.hid (own_below HO.out b)
                      have HB6 := Lib.hid (HB.out.trans (b.mono HB.out.size))
                      have hsl := strs_len (fd [] t)
                      have hs6 := HB6.out.size
                      clear b hof HO HB hnf
                      go_wp2_with (at_builtin; refine wpList_append_sl rfl (.tmp 105) (.tmp 110) 22 rfl w5.heap.size 9 _ 16 Tryd.underlying22 Tryd.infoStr rfl _ F.length (strs F) rfl HO6.out _ (strs (fd [] t)) rfl HF.out (strs_one _) (by rw [hsl]; unfold maxLen; omega) (by rw [hsl]; omega) hs6 ?_; intro v7 w7 ho7 hg7)
                      have HO7 : Hid (w7.ownsRow w5.heap.size 9 1 v7 ((LS.take (k3 + 1)).flatMap (fd [])).length (strs ((LS.take (k3 + 1)).flatMap (fd [])))) := Lib.hid (by rw [hft.out, List.length_append, strs_append, ← hsl]; exact ho7)
                      have HB7 := Lib.hid (HB6.out.grown hg7 hs6 (fun k e => World.ownsRow.lt HO6.out k e |>.1))
                      clear ho7 hg7 HO6 HB6
                      go_wp2_with fail
                      go_roundw
                      case rel => exact ⟨k3 + 1, by omega, by go_num, HO7, HB7⟩
                      case measure => simp [intOf]; omega
                · have hkn3 : LS.take k3 = LS := List.take_of_length_le (by rw [← HQN.out]; omega)
                  rw [hkn3, HFD.out] at HO
                  clear hkn3
                  obtain ⟨FS, hFS⟩ : ∃ FS, FS = fd [] (bs s) := ⟨_, rfl⟩
                  have HFS := Lib.hid hFS
                  have HG5 : Hid (∀ p ∈ FS, p ≠ [] ∧ ∀ c ∈ p, wh c = false) := Lib.hid (by rw [hFS]; exact HFG.out)
                  have HL5 : Hid (∀ p ∈ FS, p.length ≤ 300) := Lib.hid (by rw [hFS]; intro p hp; have := fd_len _ _ p hp; rw [bs_len] at this; simp at this; omega)
                  rw [← hFS] at HO hfc
                  have hsf := Sl.of_own HO.out (by unfold maxLen; omega)
                  clear hFS HO
                  obtain ⟨a11, c11, rfl, hl11⟩ := hsf.len
                  rw [strs_len] at hsf hl11 ⊢
                  obtain ⟨r, hr⟩ : ∃ r, r = FS.length := ⟨_, rfl⟩
                  rw [← hr] at hsf hl11 hfc ⊢
                  have HS5 := Lib.hid hsf
                  have HRN := Lib.hid hr
                  clear hsf hr
                  go_wp2_with fail
                  go_loop [14] (fun i => ∃ k : Nat, k ≤ r ∧ i = .int .i64 k) (fun i => r - (intOf i).toNat)
                  case atStart => exact ⟨0, by omega, rfl⟩
                  case round =>
                    obtain ⟨k5, hk5, rfl⟩ := hrel
                    by_cases hlt5 : k5 < r
                    · have hkt5 : k5 < FS.length := by rw [← HRN.out]; exact hlt5
                      obtain ⟨b5, off5, cb5, e5, q5⟩ := HS5.out.str r HRN.out k5 hkt5
                      cases e5
                      have kI0 : (0 : Int) ≤ (k5 : Int) := by omega
                      have kI1 : (k5 : Int) < (r : Int) := by omega
                      have kI2 : (k5 : Int).toNat = k5 := by omega
                      obtain ⟨hne5, hg5⟩ := HG5.out _ (List.getElem_mem hkt5)
                      have hcl5 := Lib.hid hg5
                      have hln5 := HL5.out _ (List.getElem_mem hkt5)
                      clear hg5
                      generalize FS[k5] = t at *
                      go_wp2_with fail
                      go_loop [15] (fun j => ∃ m : Nat, m ≤ t.length ∧ j = .int .i64 m) (fun j => t.length - (intOf j).toNat)
                      case atStart => exact ⟨0, by omega, rfl⟩
                      case round =>
                        obtain ⟨m, hm, rfl⟩ := hrel
                        by_cases hmt : m < t.length
                        · have mI0 : (0 : Int) ≤ (m : Int) := by omega
                          have mI1 : (m : Int) < (t.length : Int) := by omega
                          have mI2 : (m : Int).toNat = m := by omega
                          obtain ⟨w1, w2, w3⟩ := wh_not (hcl5.out _ (List.getElem_mem hmt))
                          have e1 : ((((⟨t.toArray⟩ : ByteArray)[m]'(by rw [lit_size]; exact hmt)).toNat : Int) == 32) = false := u8_ne (b := 32) w1
                          have e2 : ((((⟨t.toArray⟩ : ByteArray)[m]'(by rw [lit_size]; exact hmt)).toNat : Int) == 9) = false := u8_ne (b := 9) w2
                          have e3 : ((((⟨t.toArray⟩ : ByteArray)[m]'(by rw [lit_size]; exact hmt)).toNat : Int) == 10) = false := u8_ne (b := 10) w3
                          clear w1 w2 w3
                          go_wp2_with fail
                          go_round
                          case rel => exact ⟨m + 1, by omega, by go_num⟩
                          case measure => simp [intOf]; omega
                        · obtain rfl : m = t.length := by omega
                          have hne6 : t.isEmpty = false := by cases t with | nil => exact absurd rfl hne5 | cons _ _ => rfl
                          go_wp2_with fail
                          go_round
                          case rel => exact ⟨k5 + 1, by omega, by go_num⟩
                          case measure => simp [intOf]; omega
                    · go_wp2_with fail
                      go_at_call 16; refine (Unlines_is _ LS s HU.out _ (T9.out.below HB.out) (by omega)).mono ?_; rintro e w8 ⟨rfl, b⟩
                      have HB8 := Lib.hid (HB.out.trans (b.mono HB.out.size))
                      have HS8 := Lib.hid (HS5.out.below b)
                      clear b HB HS5
                      go_wp2_with fail
                      go_at_call 17; refine (Fields_any s _ (by omega)).mono ?_; rintro e w9 ⟨vf, rfl, ⟨A, nf, rfl, hof, hnf⟩, b⟩
                      rw [fields_eq, ← HFS.out] at hof hnf
                      have HF := Lib.hid (Sl.of_own hof (by have := HRN.out; unfold maxLen; omega))
                      have HB9 := Lib.hid (HB8.out.trans (b.mono HB8.out.size))
                      have HS9 := Lib.hid (HS8.out.below b)
                      clear b HB8 HS8 hof hnf
                      go_wp2_with fail
                      go_at_call 14; refine (r2Same_k _ _ FS HF.out HS9.out).mono ?_; rintro e w10 ⟨rfl, b⟩
                      have HB10 := Lib.hid (HB9.out.trans (b.mono HB9.out.size))
                      clear b HB9 HS9 HF
                      go_wp2_with fail
                      go_ret
                      exact ⟨rfl, B.out.trans (HB10.out.mono B.out.size)⟩
            · have HU : Hid (unl LS = bs s) := Lib.hid hu
              have e10 : ((s[s.size - 1].toNat : Int) != 10) = false := by
                have : ((s[s.size - 1].toNat : Int) == 10) = true := u8_is (b := 10) h10
                rw [bne, this]; rfl
              have hq1 : ¬ s.toList = [] := by rw [toList_bs]; exact fun e => by have := bs_len s; rw [e] at this; simp at this; omega
              have hq3 : s.toList.isEmpty = false := by cases h : s.toList with | nil => exact absurd h hq1 | cons _ _ => rfl
              have hz1 : (1 : Int) ≤ (s.size : Int) := by omega
              have hz3 : (s.size : Int) - 1 < (s.size : Int) := by omega
              have hz2 : ((s.size : Int) - 1).toNat = s.size - 1 := by omega
              clear hu h10
              go_wp2_with fail
              replace B := Lib.hid B
              go_loopw [11, 12] (fun f i wr => ∃ k : Nat, k ≤ q ∧ i = .int .i64 k ∧ Hid (wr.ownsRow w5.heap.size 9 1 f ((LS.take k).flatMap (fd [])).length (strs ((LS.take k).flatMap (fd [])))) ∧ Hid (Below w5.heap.size w5 wr)) (fun _ i _ => q - (intOf i).toNat)
              case atStart => exact ⟨0, by omega, rfl, Lib.hid ⟨rfl, .inl ⟨rfl, rfl⟩⟩, Lib.hid (Below.refl _ _)⟩
              case round =>
                obtain ⟨k3, hk3, rfl, HO, HB⟩ := hrel
                by_cases hlt3 : k3 < q
                · have hkt3 : k3 < LS.length := by rw [← HQN.out]; exact hlt3
                  obtain ⟨b9, off9, cb9, e9, q9⟩ := (T9.out.below HB.out).str q HQN.out k3 hkt3
                  cases e9
                  have kI0 : (0 : Int) ≤ (k3 : Int) := by omega
                  have kI1 : (k3 : Int) < (q : Int) := by omega
                  have kI2 : (k3 : Int).toNat = k3 := by omega
                  have hcl := Lib.hid (HCL.out _ (List.getElem_mem hkt3))
                  have hsz := HSZ.out _ (List.getElem_mem hkt3)
                  have hft := Lib.hid (fm_take LS k3 hkt3)
                  have hfl := fm_le LS (k3 + 1)
                  rw [hft.out, List.length_append, HFD.out] at hfl
                  generalize LS[k3] = t at *
                  generalize (LS.take k3).flatMap (fd []) = F at *
                  go_wp2_with fail
                  go_loop [13] (fun j => ∃ m : Nat, m ≤ t.length ∧ j = .int .i64 m) (fun j => t.length - (intOf j).toNat)
                  case atStart => exact ⟨0, by omega, rfl⟩
                  case round =>
                    obtain ⟨m, hm, rfl⟩ := hrel
                    by_cases hmt : m < t.length
                    · have mI0 : (0 : Int) ≤ (m : Int) := by omega
                      have mI1 : (m : Int) < (t.length : Int) := by omega
                      have mI2 : (m : Int).toNat = m := by omega
                      have e11 : ((((⟨t.toArray⟩ : ByteArray)[m]'(by rw [lit_size]; exact hmt)).toNat : Int) == 10) = false := u8_ne (b := 10) (hcl.out _ (List.getElem_mem hmt))
                      go_wp2_with fail
                      go_round
                      case rel => exact ⟨m + 1, by omega, by go_num⟩
                      case measure => simp [intOf]; omega
                    · obtain rfl : m = t.length := by omega
                      go_wp2_with fail
                      go_at_call 17; refine (Fields_any _ _ (by rw [lit_size]; omega)).mono ?_; rintro e w6 ⟨vf, rfl, ⟨A, nf, rfl, hof, hnf⟩, b⟩
                      rw [fields_eq, bs_lit0] at hof hnf
                      have HF := Lib.hid (Sl.of_own hof (by unfold maxLen; omega))
                      have HO6 := Lib.hid (own_below HO.out b)
                      have HB6 := Lib.hid (HB.out.trans (b.mono HB.out.size))
                      have hsl := strs_len (fd [] t)
                      have hs6 := HB6.out.size
                      clear b hof HO HB hnf
                      go_wp2_with (at_builtin; refine wpList_append_sl rfl (.tmp 105) (.tmp 110) 22 rfl w5.heap.size 9 _ 16 Tryd.underlying22 Tryd.infoStr rfl _ F.length (strs F) rfl HO6.out _ (strs (fd [] t)) rfl HF.out (strs_one _) (by rw [hsl]; unfold maxLen; omega) (by rw [hsl]; omega) hs6 ?_; intro v7 w7 ho7 hg7)
                      have HO7 : Hid (w7.ownsRow w5.heap.size 9 1 v7 ((LS.take (k3 + 1)).flatMap (fd [])).length (strs ((LS.take (k3 + 1)).flatMap (fd [])))) := Lib.hid (by rw [hft.out, List.length_append, strs_append, ← hsl]; exact ho7)
                      have HB7 := Lib.hid (HB6.out.grown hg7 hs6 (fun k e => World.ownsRow.lt HO6.out k e |>.1))
                      clear ho7 hg7 HO6 HB6
                      go_wp2_with fail
                      go_roundw
                      case rel => exact ⟨k3 + 1, by omega, by go_num, HO7, HB7⟩
                      case measure => simp [intOf]; omega
                · have hkn3 : LS.take k3 = LS := List.take_of_length_le (by rw [← HQN.out]; omega)
                  rw [hkn3, HFD.out] at HO
                  clear hkn3
                  obtain ⟨FS, hFS⟩ : ∃ FS, FS = fd [] (bs s) := ⟨_, rfl⟩
                  have HFS := Lib.hid hFS
                  have HG5 : Hid (∀ p ∈ FS, p ≠ [] ∧ ∀ c ∈ p, wh c = false) := Lib.hid (by rw [hFS]; exact HFG.out)
                  have HL5 : Hid (∀ p ∈ FS, p.length ≤ 300) := Lib.hid (by rw [hFS]; intro p hp; have := fd_len _ _ p hp; rw [bs_len] at this; simp at this; omega)
                  rw [← hFS] at HO hfc
                  have hsf := Sl.of_own HO.out (by unfold maxLen; omega)
                  clear hFS HO
                  obtain ⟨a11, c11, rfl, hl11⟩ := hsf.len
                  rw [strs_len] at hsf hl11 ⊢
                  obtain ⟨r, hr⟩ : ∃ r, r = FS.length := ⟨_, rfl⟩
                  rw [← hr] at hsf hl11 hfc ⊢
                  have HS5 := Lib.hid hsf
                  have HRN := Lib.hid hr
                  clear hsf hr
                  go_wp2_with fail
                  go_loop [14] (fun i => ∃ k : Nat, k ≤ r ∧ i = .int .i64 k) (fun i => r - (intOf i).toNat)
                  case atStart => exact ⟨0, by omega, rfl⟩
                  case round =>
                    obtain ⟨k5, hk5, rfl⟩ := hrel
                    by_cases hlt5 : k5 < r
                    · have hkt5 : k5 < FS.length := by rw [← HRN.out]; exact hlt5
                      obtain ⟨b5, off5, cb5, e5, q5⟩ := HS5.out.str r HRN.out k5 hkt5
                      cases e5
                      have kI0 : (0 : Int) ≤ (k5 : Int) := by omega
                      have kI1 : (k5 : Int) < (r : Int) := by omega
                      have kI2 : (k5 : Int).toNat = k5 := by omega
                      obtain ⟨hne5, hg5⟩ := HG5.out _ (List.getElem_mem hkt5)
                      have hcl5 := Lib.hid hg5
                      have hln5 := HL5.out _ (List.getElem_mem hkt5)
                      clear hg5
                      generalize FS[k5] = t at *
                      go_wp2_with fail
                      go_loop [15] (fun j => ∃ m : Nat, m ≤ t.length ∧ j = .int .i64 m) (fun j => t.length - (intOf j).toNat)
                      case atStart => exact ⟨0, by omega, rfl⟩
                      case round =>
                        obtain ⟨m, hm, rfl⟩ := hrel
                        by_cases hmt : m < t.length
                        · have mI0 : (0 : Int) ≤ (m : Int) := by omega
                          have mI1 : (m : Int) < (t.length : Int) := by omega
                          have mI2 : (m : Int).toNat = m := by omega
                          obtain ⟨w1, w2, w3⟩ := wh_not (hcl5.out _ (List.getElem_mem hmt))
                          have e1 : ((((⟨t.toArray⟩ : ByteArray)[m]'(by rw [lit_size]; exact hmt)).toNat : Int) == 32) = false := u8_ne (b := 32) w1
                          have e2 : ((((⟨t.toArray⟩ : ByteArray)[m]'(by rw [lit_size]; exact hmt)).toNat : Int) == 9) = false := u8_ne (b := 9) w2
                          have e3 : ((((⟨t.toArray⟩ : ByteArray)[m]'(by rw [lit_size]; exact hmt)).toNat : Int) == 10) = false := u8_ne (b := 10) w3
                          clear w1 w2 w3
                          go_wp2_with fail
                          go_round
                          case rel => exact ⟨m + 1, by omega, by go_num⟩
                          case measure => simp [intOf]; omega
                        · obtain rfl : m = t.length := by omega
                          have hne6 : t.isEmpty = false := by cases t with | nil => exact absurd rfl hne5 | cons _ _ => rfl
                          go_wp2_with fail
                          go_round
                          case rel => exact ⟨k5 + 1, by omega, by go_num⟩
                          case measure => simp [intOf]; omega
                    · go_wp2_with fail
                      go_at_call 16; refine (Unlines_is _ LS s HU.out _ (T9.out.below HB.out) (by omega)).mono ?_; rintro e w8 ⟨rfl, b⟩
                      have HB8 := Lib.hid (HB.out.trans (b.mono HB.out.size))
                      have HS8 := Lib.hid (HS5.out.below b)
                      clear b HB HS5
                      go_wp2_with fail
                      go_at_call 17; refine (Fields_any s _ (by omega)).mono ?_; rintro e w9 ⟨vf, rfl, ⟨A, nf, rfl, hof, hnf⟩, b⟩
                      rw [fields_eq, ← HFS.out] at hof hnf
                      have HF := Lib.hid (Sl.of_own hof (by have := HRN.out; unfold maxLen; omega))
                      have HB9 := Lib.hid (HB8.out.trans (b.mono HB8.out.size))
                      have HS9 := Lib.hid (HS8.out.below b)
                      clear b HB8 HS8 hof hnf
                      go_wp2_with fail
                      go_at_call 14; refine (r2Same_k _ _ FS HF.out HS9.out).mono ?_; rintro e w10 ⟨rfl, b⟩
                      have HB10 := Lib.hid (HB9.out.trans (b.mono HB9.out.size))
                      clear b HB9 HS9 HF
                      go_wp2_with fail
                      go_ret
                      exact ⟨rfl, B.out.trans (HB10.out.mono B.out.size)⟩
            · have HU : Hid (unl LS = bs (s ++ ⟨#[10]⟩)) := Lib.hid (by rw [hu, bs_app]; rfl)
              have e10 : ((s[s.size - 1].toNat : Int) != 10) = true := by
                have : ((s[s.size - 1].toNat : Int) == 10) = false := u8_ne (b := 10) h10
                rw [bne, this]; rfl
              have hq1 : ¬ s.toList = [] := by rw [toList_bs]; exact fun e => by have := bs_len s; rw [e] at this; simp at this; omega
              have hq3 : s.toList.isEmpty = false := by cases h : s.toList with | nil => exact absurd h hq1 | cons _ _ => rfl
              have hz1 : (1 : Int) ≤ (s.size : Int) := by omega
              have hz3 : (s.size : Int) - 1 < (s.size : Int) := by omega
              have hz2 : ((s.size : Int) - 1).toNat = s.size - 1 := by omega
              clear hu h10
              go_wp2_with fail
              replace B := Lib.hid B
              go_loopw [11, 12] (fun f i wr => ∃ k : Nat, k ≤ q ∧ i = .int .i64 k ∧ Hid (wr.ownsRow w5.heap.size 9 1 f ((LS.take k).flatMap (fd [])).length (strs ((LS.take k).flatMap (fd [])))) ∧ Hid (Below w5.heap.size w5 wr)) (fun _ i _ => q - (intOf i).toNat)
              case atStart => exact ⟨0, by omega, rfl, Lib.hid ⟨rfl, .inl ⟨rfl, rfl⟩⟩, Lib.hid (Below.refl _ _)⟩
              case round =>
                obtain ⟨k3, hk3, rfl, HO, HB⟩ := hrel
                by_cases hlt3 : k3 < q
                · have hkt3 : k3 < LS.length := by rw [← HQN.out]; exact hlt3
                  obtain ⟨b9, off9, cb9, e9, q9⟩ := (T9.out.below HB.out).str q HQN.out k3 hkt3
                  cases e9
                  have kI0 : (0 : Int) ≤ (k3 : Int) := by omega
                  have kI1 : (k3 : Int) < (q : Int) := by omega
                  have kI2 : (k3 : Int).toNat = k3 := by omega
                  have hcl := Lib.hid (HCL.out _ (List.getElem_mem hkt3))
                  have hsz := HSZ.out _ (List.getElem_mem hkt3)
                  have hft := Lib.hid (fm_take LS k3 hkt3)
                  have hfl := fm_le LS (k3 + 1)
                  rw [hft.out, List.length_append, HFD.out] at hfl
                  generalize LS[k3] = t at *
                  generalize (LS.take k3).flatMap (fd []) = F at *
                  go_wp2_with fail
                  go_loop [13] (fun j => ∃ m : Nat, m ≤ t.length ∧ j = .int .i64 m) (fun j => t.length - (intOf j).toNat)
                  case atStart => exact ⟨0, by omega, rfl⟩
                  case round =>
                    obtain ⟨m, hm, rfl⟩ := hrel
                    by_cases hmt : m < t.length
                    · have mI0 : (0 : Int) ≤ (m : Int) := by omega
                      have mI1 : (m : Int) < (t.length : Int) := by omega
                      have mI2 : (m : Int).toNat = m := by omega
                      have e11 : ((((⟨t.toArray⟩ : ByteArray)[m]'(by rw [lit_size]; exact hmt)).toNat : Int) == 10) = false := u8_ne (b := 10) (hcl.out _ (List.getElem_mem hmt))
                      go_wp2_with fail
                      go_round
                      case rel => exact ⟨m + 1, by omega, by go_num⟩
                      case measure => simp [intOf]; omega
                    · obtain rfl : m = t.length := by omega
                      go_wp2_with fail
                      go_at_call 17; refine (Fields_any _ _ (by rw [lit_size]; omega)).mono ?_; rintro e w6 ⟨vf, rfl, ⟨A, nf, rfl, hof, hnf⟩, b⟩
                      rw [fields_eq, bs_lit0] at hof hnf
                      have HF := Lib.hid (Sl.of_own hof (by unfold maxLen; omega))
                      have HO6 := Lib.hid (own_below HO.out b)
                      have HB6 := Lib.hid (HB.out.trans (b.mono HB.out.size))
                      have hsl := strs_len (fd [] t)
                      have hs6 := HB6.out.size
                      clear b hof HO HB hnf
                      go_wp2_with (at_builtin; refine wpList_append_sl rfl (.tmp 105) (.tmp 110) 22 rfl w5.heap.size 9 _ 16 Tryd.underlying22 Tryd.infoStr rfl _ F.length (strs F) rfl HO6.out _ (strs (fd [] t)) rfl HF.out (strs_one _) (by rw [hsl]; unfold maxLen; omega) (by rw [hsl]; omega) hs6 ?_; intro v7 w7 ho7 hg7)
                      have HO7 : Hid (w7.ownsRow w5.heap.size 9 1 v7 ((LS.take (k3 + 1)).flatMap (fd [])).length (strs ((LS.take (k3 + 1)).flatMap (fd [])))) := Lib.hid (by rw [hft.out, List.length_append, strs_append, ← hsl]; exact ho7)
                      have HB7 := Lib.hid (HB6.out.grown hg7 hs6 (fun k e => World.ownsRow.lt HO6.out k e |>.1))
                      clear ho7 hg7 HO6 HB6
                      go_wp2_with fail
                      go_roundw
                      case rel => exact ⟨k3 + 1, by omega, by go_num, HO7, HB7⟩
                      case measure => simp [intOf]; omega
                · have hkn3 : LS.take k3 = LS := List.take_of_length_le (by rw [← HQN.out]; omega)
                  rw [hkn3, HFD.out] at HO
                  clear hkn3
                  obtain ⟨FS, hFS⟩ : ∃ FS, FS = fd [] (bs s) := ⟨_, rfl⟩
                  have HFS := Lib.hid hFS
                  have HG5 : Hid (∀ p ∈ FS, p ≠ [] ∧ ∀ c ∈ p, wh c = false) := Lib.hid (by rw [hFS]; exact HFG.out)
                  have HL5 : Hid (∀ p ∈ FS, p.length ≤ 300) := Lib.hid (by rw [hFS]; intro p hp; have := fd_len _ _ p hp; rw [bs_len] at this; simp at this; omega)
                  rw [← hFS] at HO hfc
                  have hsf := Sl.of_own HO.out (by unfold maxLen; omega)
                  clear hFS HO
                  obtain ⟨a11, c11, rfl, hl11⟩ := hsf.len
                  rw [strs_len] at hsf hl11 ⊢
                  obtain ⟨r, hr⟩ : ∃ r, r = FS.length := ⟨_, rfl⟩
                  rw [← hr] at hsf hl11 hfc ⊢
                  have HS5 := Lib.hid hsf
                  have HRN := Lib.hid hr
                  clear hsf hr
                  go_wp2_with fail
                  go_loop [14] (fun i => ∃ k : Nat, k ≤ r ∧ i = .int .i64 k) (fun i => r - (intOf i).toNat)
                  case atStart => exact ⟨0, by omega, rfl⟩
                  case round =>
                    obtain ⟨k5, hk5, rfl⟩ := hrel
                    by_cases hlt5 : k5 < r
                    · have hkt5 : k5 < FS.length := by rw [← HRN.out]; exact hlt5
                      obtain ⟨b5, off5, cb5, e5, q5⟩ := HS5.out.str r HRN.out k5 hkt5
                      cases e5
                      have kI0 : (0 : Int) ≤ (k5 : Int) := by omega
                      have kI1 : (k5 : Int) < (r : Int) := by omega
                      have kI2 : (k5 : Int).toNat = k5 := by omega
                      obtain ⟨hne5, hg5⟩ := HG5.out _ (List.getElem_mem hkt5)
                      have hcl5 := Lib.hid hg5
                      have hln5 := HL5.out _ (List.getElem_mem hkt5)
                      clear hg5
                      generalize FS[k5] = t at *
                      go_wp2_with fail
                      go_loop [15] (fun j => ∃ m : Nat, m ≤ t.length ∧ j = .int .i64 m) (fun j => t.length - (intOf j).toNat)
                      case atStart => exact ⟨0, by omega, rfl⟩
                      case round =>
                        obtain ⟨m, hm, rfl⟩ := hrel
                        by_cases hmt : m < t.length
                        · have mI0 : (0 : Int) ≤ (m : Int) := by omega
                          have mI1 : (m : Int) < (t.length : Int) := by omega
                          have mI2 : (m : Int).toNat = m := by omega
                          obtain ⟨w1, w2, w3⟩ := wh_not (hcl5.out _ (List.getElem_mem hmt))
                          have e1 : ((((⟨t.toArray⟩ : ByteArray)[m]'(by rw [lit_size]; exact hmt)).toNat : Int) == 32) = false := u8_ne (b := 32) w1
                          have e2 : ((((⟨t.toArray⟩ : ByteArray)[m]'(by rw [lit_size]; exact hmt)).toNat : Int) == 9) = false := u8_ne (b := 9) w2
                          have e3 : ((((⟨t.toArray⟩ : ByteArray)[m]'(by rw [lit_size]; exact hmt)).toNat : Int) == 10) = false := u8_ne (b := 10) w3
                          clear w1 w2 w3
                          go_wp2_with fail
                          go_round
                          case rel => exact ⟨m + 1, by omega, by go_num⟩
                          case measure => simp [intOf]; omega
                        · obtain rfl : m = t.length := by omega
                          have hne6 : t.isEmpty = false := by cases t with | nil => exact absurd rfl hne5 | cons _ _ => rfl
                          go_wp2_with fail
                          go_round
                          case rel => exact ⟨k5 + 1, by omega, by go_num⟩
                          case measure => simp [intOf]; omega
                    · go_wp2_with fail
                      go_at_call 16; refine (Unlines_is _ LS (s ++ ⟨#[10]⟩) HU.out _ (T9.out.below HB.out) (by omega)).mono ?_; rintro e w8 ⟨rfl, b⟩
                      have HB8 := Lib.hid (HB.out.trans (b.mono HB.out.size))
                      have HS8 := Lib.hid (HS5.out.below b)
                      clear b HB HS5
                      go_wp2_with fail
                      go_at_call 17; refine (Fields_any s _ (by omega)).mono ?_; rintro e w9 ⟨vf, rfl, ⟨A, nf, rfl, hof, hnf⟩, b⟩
                      rw [fields_eq, ← HFS.out] at hof hnf
                      have HF := Lib.hid (Sl.of_own hof (by have := HRN.out; unfold maxLen; omega))
                      have HB9 := Lib.hid (HB8.out.trans (b.mono HB8.out.size))
                      have HS9 := Lib.hid (HS8.out.below b)
                      clear b HB8 HS8 hof hnf
                      go_wp2_with fail
                      go_at_call 14; refine (r2Same_k _ _ FS HF.out HS9.out).mono ?_; rintro e w10 ⟨rfl, b⟩
                      have HB10 := Lib.hid (HB9.out.trans (b.mono HB9.out.size))
                      clear b HB9 HS9 HF
                      go_wp2_with fail
                      go_ret
                      exact ⟨rfl, B.out.trans (HB10.out.mono B.out.size)⟩
    · have h300' : (300 : Int) < (s.size : Int) := by omega
      go_enter Tryd.func3, Tryd.ntmps3
      go_wp2_with fail
      go_at_call 13; refine (small_any _ HE.out).mono ?_; rintro e w1 ⟨rfl, B⟩
      go_wp2_with fail
      go_ret
      exact ⟨rfl, B⟩
  · have h30' : (30 : Int) < (n : Int) := by omega
    go_enter Tryd.func3, Tryd.ntmps3
    go_wp2_with fail
    go_at_call 13; refine (small_any _ HE.out).mono ?_; rintro e w1 ⟨rfl, B⟩
    go_wp2_with fail
    go_ret
    exact ⟨rfl, B⟩
end Go.Proofs.YtdjiimblfhbcjaaDoor
