/- Parts LxV, LxQ of this claim, laid one behind the other: walks and the plain laws behind them; each contract states its own conditions. -/
import Derived.Test.YtnccndfffmaonaaGreatDoorZC
import Derived.Test.YtnccndfffmaonaaGreatDoorZB
import Derived.Shelf.Strings.SlTrimAscii
/- Walks of package lex: word. -/
namespace Go.Proofs.YtnccndfffmaonaaGreatDoor
set_option linter.unusedSimpArgs false
open Go.RowKit

theorem mem_dw {p : UInt8 → Bool} {c : UInt8} {l : List UInt8} (h : c ∈ l) (hp : p c = false) : c ∈ l.dropWhile p := by
  induction l with
  | nil => cases h
  | cons a l ih =>
    rw [List.dropWhile_cons]
    split
    · rename_i ha
      rcases List.mem_cons.1 h with h | h
      · subst h; rw [hp] at ha; cases ha
      · exact ih h
    · exact h
theorem dw_all {p : UInt8 → Bool} {l : List UInt8} (h : l.all p = true) : l.dropWhile p = [] := (Lx.tw_all l h).2
theorem trim_all {l cs : List UInt8} (h : l.all (cs.contains ·) = true) : Lib.trimS l cs = [] := by
  unfold Lib.trimS Lib.trimRightS Lib.trimLeftS
  have h2 : (l.reverse.dropWhile (cs.contains ·)) = [] := dw_all (by rw [List.all_reverse]; exact h)
  rw [h2]; rfl
theorem trim_some {l cs : List UInt8} (h : l.all (cs.contains ·) = false) : Lib.trimS l cs ≠ [] := by
  rw [List.all_eq_false] at h
  obtain ⟨c, hc, hp⟩ := h
  have hp' : cs.contains c = false := by simpa using hp
  have h1 : c ∈ Lib.trimRightS l cs := by
    unfold Lib.trimRightS
    rw [List.mem_reverse]
    exact mem_dw (by rw [List.mem_reverse]; exact hc) hp'
  intro e
  have h2 : c ∈ Lib.trimS l cs := mem_dw h1 hp'
  rw [e] at h2; cases h2
theorem digit_in (c : UInt8) : [48, 49, 50, 51, 52, 53, 54, 55, 56, 57].contains c = Lx.digit c := by
  have h : (List.range 256).all (fun n => [48, 49, 50, 51, 52, 53, 54, 55, 56, 57].contains (UInt8.ofNat n) == Lx.digit (UInt8.ofNat n)) = true := by decide +kernel
  have h2 := List.all_eq_true.1 h c.toNat (List.mem_range.2 c.toNat_lt)
  rw [beq_iff_eq, UInt8.ofNat_toNat] at h2
  exact h2
theorem Trim_raw (s : ByteArray) (w : World) (hs : s.size ≤ 1073741824) :
    Calls Tryz.prog 94 #[.string s, .string ⟨#[48, 49, 50, 51, 52, 53, 54, 55, 56, 57]⟩] w fun e w' => e = .returned (.string ⟨(Lib.trimS (bs s) [48, 49, 50, 51, 52, 53, 54, 55, 56, 57]).toArray⟩) ∧ Below w.heap.size w w' :=
  Any.strings_Trim_laid Tryz.lays160 (by kernel_rfl) s ⟨#[48, 49, 50, 51, 52, 53, 54, 55, 56, 57]⟩ w (by omega) (by decide) (ascii_of_all (by decide))
theorem Trim_none (s : ByteArray) (h : (bs s).all Lx.digit = true) (w : World) (hs : s.size ≤ 1073741824) :
    Calls Tryz.prog 94 #[.string s, .string ⟨#[48, 49, 50, 51, 52, 53, 54, 55, 56, 57]⟩] w fun e w' => e = .returned (.string ⟨#[]⟩) ∧ Below w.heap.size w w' := by
  have := Trim_raw s w hs
  rw [trim_all (by rw [← h]; congr 1; funext c; exact digit_in c)] at this
  exact this
theorem Trim_some (s : ByteArray) (h : (bs s).all Lx.digit = false) (w : World) (hs : s.size ≤ 1073741824) :
    Calls Tryz.prog 94 #[.string s, .string ⟨#[48, 49, 50, 51, 52, 53, 54, 55, 56, 57]⟩] w fun e w' => ∃ T : ByteArray, (T.toList == []) = false ∧ (T.toList != []) = true ∧ e = .returned (.string T) ∧ Below w.heap.size w w' := by
  refine (Trim_raw s w hs).mono ?_
  rintro e w' ⟨rfl, hb⟩
  have hne := trim_some (l := bs s) (cs := [48, 49, 50, 51, 52, 53, 54, 55, 56, 57]) (by rw [← h]; congr 1; funext c; exact digit_in c)
  have e1 : ((⟨(Lib.trimS (bs s) [48, 49, 50, 51, 52, 53, 54, 55, 56, 57]).toArray⟩ : ByteArray).toList == []) = false := by
    rw [toList_bs, bs_lit0]; exact beq_eq_false_iff_ne.2 hne
  exact ⟨_, e1, by rw [bne, e1]; rfl, rfl, hb⟩

/-- Where the word that begins at k ends. -/
theorem word_end (src : ByteArray) (k m : Nat) (hk : k ≤ m) (hm : m ≤ src.size) (ha : (((bs src).drop k).take (m - k)).all Lx.part = true) (he : m = src.size ∨ ∃ h : m < src.size, Lx.part src[m] = false) :
    ((bs src).drop k).takeWhile Lx.part = bs (src.extract k m) ∧ ((bs src).drop k).dropWhile Lx.part = (bs src).drop m := by
  have e1 : bs (src.extract k m) = ((bs src).drop k).take (m - k) := Lib.extract_data src k m
  have e2 : (bs src).drop m = ((bs src).drop k).drop (m - k) := by rw [List.drop_drop]; congr 1; omega
  rw [e1, e2]
  rcases he with he | ⟨h, hp⟩
  · subst he
    have hl : ((bs src).drop k).length ≤ src.size - k := by rw [List.length_drop, bs_len]; exact Nat.le_refl _
    rw [List.take_of_length_le hl] at ha ⊢
    rw [List.drop_eq_nil_of_le hl]
    exact Lx.tw_all _ ha
  · have hc : ((bs src).drop k).drop (m - k) = src[m] :: (bs src).drop (m + 1) := by rw [← e2]; exact bs_drop src m h
    have hs : (bs src).drop k = ((bs src).drop k).take (m - k) ++ src[m] :: (bs src).drop (m + 1) := by
      rw [← hc, List.take_append_drop]
    generalize hA : ((bs src).drop k).take (m - k) = A at *
    rw [hs, Lx.tw_append _ _ _ hp, Lx.dw_append _ _ _ hp, (Lx.tw_all A ha).1, (Lx.tw_all A ha).2]
    refine ⟨rfl, ?_⟩
    rw [← hs, hc]; rfl

/-- What word comes to. -/
def WordPost (b : Nat) (src : ByteArray) (k ln : Nat) (ts : List Lx.Tok) (w : World) (r : Except Nat (Nat × List UInt8 × Int)) (rest : List UInt8) (e : Ending) (w' : World) : Prop :=
  match r with
  | .ok x => e = .returned (.int .i64 0) ∧ ∃ m, m ≤ src.size ∧ rest = (bs src).drop m ∧ Scn b src m ln (ts ++ [⟨x.1, x.2.1, x.2.2, ln⟩]) w' ∧ Below b w w'
  | .error n => e = .returned (.int .i64 n) ∧ Scn b src k ln ts w' ∧ Below b w w'

theorem WordPost.fine {b : Nat} {src : ByteArray} {k ln m : Nat} {ts : List Lx.Tok} {w w' : World} {r : Except Nat (Nat × List UInt8 × Int)} {rest t : List UInt8} {kd : Nat} {n : Int} (hr : r = .ok (kd, t, n)) (hm : m ≤ src.size) (hd : rest = (bs src).drop m) (h1 : Scn b src m ln (ts ++ [⟨kd, t, n, ln⟩]) w') (h2 : Below b w w') : WordPost b src k ln ts w r rest (.returned (.int .i64 0)) w' := by
  subst hr; exact ⟨rfl, m, hm, hd, h1, h2⟩
theorem WordPost.bad {b : Nat} {src : ByteArray} {k ln : Nat} {ts : List Lx.Tok} {w w' : World} {r : Except Nat (Nat × List UInt8 × Int)} {rest : List UInt8} {n : Nat} {z : Int} (hr : r = .error n) (hz : z = (n : Int)) (h1 : Scn b src k ln ts w') (h2 : Below b w w') : WordPost b src k ln ts w r rest (.returned (.int .i64 z)) w' := by
  subst hr hz; exact ⟨rfl, h1, h2⟩
theorem tok_cell {w W : World} {X : Obj} {i : Nat} {v : Value} (hb : Below (w.alloc X).heap.size (w.alloc X) W) (hc : (w.alloc X).cell? ⟨w.heap.size, i, none⟩ = some v) : W.cell? ⟨w.heap.size, i, none⟩ = some v :=
  (hb.cell (p := ⟨w.heap.size, i, none⟩) (by simp)).trans hc
theorem tok_free {w W : World} {cs : Array Value} {t : TypeId} (i : Nat) (hb : Below (w.alloc (.cells cs t)).heap.size (w.alloc (.cells cs t)) W) : W.frozen? ⟨w.heap.size, i, none⟩ = false :=
  (hb.frozen (p := ⟨w.heap.size, i, none⟩) (by simp)).trans (World.frozen?_alloc_new _ _ _ _)
theorem tokW_yes {l : List UInt8} {v : Int} (h : Lx.digit (l.headD 0) = true) (ha : l.all Lx.digit = true) (hn : ¬ (1 < l.length ∧ l.headD 0 = 48)) (hi : intOfB l = some v) : Lx.tokW l = .ok (1, l, v) := by
  unfold Lx.tokW; rw [if_pos h, if_pos ha, if_neg hn, hi]
theorem tokW_range {l : List UInt8} (h : Lx.digit (l.headD 0) = true) (ha : l.all Lx.digit = true) (hn : ¬ (1 < l.length ∧ l.headD 0 = 48)) (hi : intOfB l = none) : Lx.tokW l = .error 3 := by
  unfold Lx.tokW; rw [if_pos h, if_pos ha, if_neg hn, hi]
theorem tokW_zero {l : List UInt8} (h : Lx.digit (l.headD 0) = true) (hn : 1 < l.length ∧ l.headD 0 = 48) : Lx.tokW l = .error 11 := by
  unfold Lx.tokW; rw [if_pos h, if_pos hn]; split <;> rfl
theorem tokW_mixed {l : List UInt8} (h : Lx.digit (l.headD 0) = true) (ha : l.all Lx.digit = false) : Lx.tokW l = .error 11 := by
  unfold Lx.tokW; rw [if_pos h, if_neg (by rw [ha]; simp)]
theorem tokW_noword {l : List UInt8} (h : Lx.digit (l.headD 0) = false) (ha : Lx.word l = false) : Lx.tokW l = .error 11 := by
  unfold Lx.tokW; rw [if_neg (by rw [h]; simp), if_neg (by rw [ha]; simp)]

set_option maxRecDepth 100000 in
set_option maxHeartbeats 16000000 in
theorem word_any (b : Nat) (src : ByteArray) (k ln : Nat) (ts : List Lx.Tok) (w : World) (hE : Env w) (h : Scn b src k ln ts w) (hlt : k < src.size) (hs : src.size ≤ 1000000000) (hl : ts.length ≤ 1000000000) (hp : Lx.part src[k] = true) :
    Calls Tryz.prog 74 #[.pointer (some ⟨b, 0, none⟩)] w (WordPost b src k ln ts w (Lx.tokW (((bs src).drop k).takeWhile Lx.part)) (((bs src).drop k).dropWhile Lx.part)) := by
  obtain ⟨R, hR⟩ : ∃ R, R = Lx.tokW (((bs src).drop k).takeWhile Lx.part) := ⟨_, rfl⟩
  obtain ⟨D, hD⟩ : ∃ D, D = ((bs src).drop k).dropWhile Lx.part := ⟨_, rfl⟩
  rw [← hR, ← hD]
  have HR := Lib.hid hR
  have HD := Lib.hid hD
  have HP := Lib.hid hp
  have HE := Lib.hid hE
  have c0 := h.c0
  have c1 := h.c1
  have hlt0 := h.lt
  have H := Lib.hid h
  clear h hR hD hp hE
  go_enter Tryz.func74, Tryz.ntmps74
  go_wp2_with fail
  go_loop [3] (fun i => ∃ m : Nat, k ≤ m ∧ m ≤ src.size ∧ Hid ((((bs src).drop k).take (m - k)).all Lx.part = true) ∧ i = .int .i64 m) (fun i => src.size - (intOf i).toNat)
  case atStart => exact ⟨k, by omega, by omega, Lib.hid (by rw [Nat.sub_self]; rfl), rfl⟩
  case round =>
    obtain ⟨m, hkm, hm, HA, rfl⟩ := hrel
    by_cases hms : m < src.size
    · cases hpm : Lx.part src[m] with
      | true =>
        have HPM := Lib.hid hpm
        have HA2 : Hid ((((bs src).drop k).take (m + 1 - k)).all Lx.part = true) := Lib.hid (by
          have e : m + 1 - k = (m - k) + 1 := by omega
          have e3 : ((bs src).drop k)[m - k]? = some src[m] := by
            rw [List.getElem?_drop, show k + (m - k) = m by omega]; exact bs_get src m hms
          rw [e, List.take_add_one, e3, List.all_append, HA.out]; simp [hpm])
        clear hpm HA
        go_wp2_with fail
        go_at_call 88; refine (part_any src[m] true HPM.out _).mono ?_; rintro e w' ⟨rfl, rfl⟩
        go_wp2_with fail
        go_round
        case rel => exact ⟨m + 1, by omega, by omega, HA2, by go_num⟩
        case measure => simp [intOf]; omega
      | false =>
        have HPM := Lib.hid hpm
        have hwe := word_end src k m hkm hm HA.out (.inr ⟨hms, hpm⟩)
        have hkm2 : k < m := by
          rcases Nat.lt_or_ge k m with h | h
          · exact h
          · obtain rfl : k = m := by omega
            rw [HP.out] at hpm; cases hpm
        clear hpm HA
        have hb1 : (k : Int) ≤ (m : Int) := by omega
        have hb2 : (m : Int) ≤ (src.size : Int) := by omega
        have hb3 : (0 : Int) ≤ (k : Int) := by omega
        have hb4 : (k : Int).toNat = k := by omega
        have hb5 : (m : Int).toNat = m := by omega
        have HWE := Lib.hid hwe
        clear hwe
        go_wp2_with fail
        go_at_call 88; refine (part_any src[m] false HPM.out _).mono ?_; rintro e w' ⟨rfl, rfl⟩
        go_wp2_with fail
        go_quiet (fail)
        generalize hw2 : w.drewN nq = w2
        have H2 : Hid (Scn b src k ln ts w2) := Lib.hid (hw2 ▸ H.out)
        have B2 : Hid (Below b w w2) := Lib.hid (hw2 ▸ below_drewN b w nq)
        have HE2 : Hid (Env w2) := Lib.hid (hw2 ▸ HE.out.drewN nq)
        have hbw : b ≤ w2.heap.size := Nat.le_of_lt H2.out.lt
        have hWpos : 0 < (src.extract k m).size := by rw [← bs_len, bs_extract, List.length_take, List.length_drop, bs_len]; omega
        have hWs : (src.extract k m).size ≤ 1000000000 := by rw [← bs_len, bs_extract, List.length_take, List.length_drop, bs_len]; omega
        generalize hWW : src.extract k m = W at *
        have HR2 : Hid (R = Lx.tokW (bs W)) := Lib.hid (by rw [HR.out, HWE.out.1])
        have HD2 : Hid (D = (bs src).drop m) := Lib.hid (by rw [HD.out, HWE.out.2])
        have HH : Hid ((bs W).headD 0 = W[0]) := Lib.hid (bs_head W hWpos)
        clear hw2 hWW HWE c0 c1
        cases hd : Lx.digit W[0] with
        | true =>
          have HG := Lib.hid hd
          clear hd
          cases hall : (bs W).all Lx.digit with
          | false =>
            have HAL := Lib.hid hall
            clear hall
            go_wp2_with fail
            go_at_call 73; refine (digit_any W[0] true HG.out _).mono ?_; rintro e w3 ⟨rfl, rfl⟩
            go_wp2_with fail
            go_at_call 94; refine (Trim_some W HAL.out _ (by omega)).mono ?_; rintro e w3 ⟨T, t1, t2, rfl, b3⟩
            have B3 : Below w2.heap.size w2 w3 := ((Below.refl _ _).alloc (Nat.le_refl _) _).trans (b3.mono (by simp))
            clear b3
            go_wp2_with fail
            go_ret
            exact WordPost.bad (n := 11) (HR2.out.trans (tokW_mixed (HH.out ▸ HG.out) HAL.out)) rfl (H2.out.keep B3) (B2.out.trans (B3.mono hbw))
          | true =>
            have HAL := Lib.hid hall
            clear hall
            by_cases hlen : 1 < W.size
            · by_cases h48 : W[0] = 48
              · have e48 : ((W[0].toNat : Int) == 48) = true := u8_is (b := 48) h48
                have HN : Hid (1 < (bs W).length ∧ (bs W).headD 0 = 48) := Lib.hid ⟨by rw [bs_len]; exact hlen, by rw [HH.out]; exact h48⟩
                clear h48
                go_wp2_with fail
                go_at_call 73; refine (digit_any W[0] true HG.out _).mono ?_; rintro e w3 ⟨rfl, rfl⟩
                go_wp2_with fail
                go_at_call 94; refine (Trim_none W HAL.out _ (by omega)).mono ?_; rintro e w3 ⟨rfl, b3⟩
                have B3 : Below w2.heap.size w2 w3 := ((Below.refl _ _).alloc (Nat.le_refl _) _).trans (b3.mono (by simp))
                clear b3
                go_wp2_with fail
                go_ret
                exact WordPost.bad (n := 11) (HR2.out.trans (tokW_zero (HH.out ▸ HG.out) HN.out)) rfl (H2.out.keep B3) (B2.out.trans (B3.mono hbw))
              · have e48 : ((W[0].toNat : Int) == 48) = false := u8_ne (b := 48) h48
                have HN : Hid (¬ (1 < (bs W).length ∧ (bs W).headD 0 = 48)) := Lib.hid (fun h => h48 (HH.out ▸ h.2))
                clear h48
                cases hi : intOfB (bs W) with
                | some v =>
                  have HI := Lib.hid hi
                  clear hi
                  go_wp2_with fail
                  go_at_call 73; refine (digit_any W[0] true HG.out _).mono ?_; rintro e w3 ⟨rfl, rfl⟩
                  go_wp2_with fail
                  go_at_call 94; refine (Trim_none W HAL.out _ (by omega)).mono ?_; rintro e w3 ⟨rfl, b3⟩
                  have B3 : Below w2.heap.size w2 w3 := ((Below.refl _ _).alloc (Nat.le_refl _) _).trans (b3.mono (by simp))
                  have HE3 := HE2.out.below B3
                  have HB3 := Lib.hid b3
                  replace HE3 := Lib.hid HE3
                  clear b3
                  go_wp2_with fail
                  go_at_call 95; refine (Int_some W v HI.out _ HE3.out (by omega)).mono ?_; rintro e w4 ⟨rfl, b4⟩
                  have HB4 := Lib.hid (HB3.out.trans (b4.mono HB3.out.size))
                  have B4 := B3.trans (b4.mono B3.size)
                  have d0 := tok_cell (i := 0) (v := .int .i64 0) HB4.out (World.cell?_alloc_new _ _ _ _)
                  have d1 := tok_cell (i := 1) (v := .string W) HB4.out (World.cell?_alloc_new _ _ _ _)
                  have d2 := tok_cell (i := 2) (v := .int .i64 0) HB4.out (World.cell?_alloc_new _ _ _ _)
                  have d3 := tok_cell (i := 3) (v := .int .i64 0) HB4.out (World.cell?_alloc_new _ _ _ _)
                  have f0 := tok_free 0 HB4.out
                  have f2 := tok_free 2 HB4.out
                  clear b4 B3
                  go_wp2_with fail
                  go_at_call 93; refine (take_any b src k ln ts 1 W v 0 m _ _ rfl rfl _ (H2.out.keep ((B4.setCell (p := ⟨w2.heap.size, 0, none⟩) (Nat.le_refl _) _).setCell (p := ⟨w2.heap.size, 2, none⟩) (Nat.le_refl _) _)) hl).mono ?_; rintro e w5 ⟨rfl, s5, b5⟩
                  have S5 := Lib.hid s5
                  clear s5
                  go_wp2_with fail
                  go_ret
                  exact WordPost.fine (HR2.out.trans (tokW_yes (HH.out ▸ HG.out) HAL.out HN.out HI.out)) hm HD2.out S5.out (B2.out.trans ((((B4.setCell (p := ⟨w2.heap.size, 0, none⟩) (Nat.le_refl _) _).setCell (p := ⟨w2.heap.size, 2, none⟩) (Nat.le_refl _) _).mono hbw).trans b5))
                | none =>
                  have HI := Lib.hid hi
                  clear hi
                  go_wp2_with fail
                  go_at_call 73; refine (digit_any W[0] true HG.out _).mono ?_; rintro e w3 ⟨rfl, rfl⟩
                  go_wp2_with fail
                  go_at_call 94; refine (Trim_none W HAL.out _ (by omega)).mono ?_; rintro e w3 ⟨rfl, b3⟩
                  have B3 : Below w2.heap.size w2 w3 := ((Below.refl _ _).alloc (Nat.le_refl _) _).trans (b3.mono (by simp))
                  have HE3 := HE2.out.below B3
                  replace HE3 := Lib.hid HE3
                  clear b3
                  go_wp2_with fail
                  go_at_call 95; refine (Int_none W HI.out _ HE3.out (by omega)).mono ?_; rintro e w4 ⟨rfl, b4⟩
                  have B4 := B3.trans (b4.mono B3.size)
                  clear b4 B3
                  go_wp2_with fail
                  go_ret
                  exact WordPost.bad (n := 3) (HR2.out.trans (tokW_range (HH.out ▸ HG.out) HAL.out HN.out HI.out)) rfl (H2.out.keep B4) (B2.out.trans (B4.mono hbw))
            · have HN : Hid (¬ (1 < (bs W).length ∧ (bs W).headD 0 = 48)) := Lib.hid (fun h => hlen (by rw [← bs_len]; exact h.1))
              cases hi : intOfB (bs W) with
              | some v =>
                have HI := Lib.hid hi
                clear hi
                go_wp2_with fail
                go_at_call 73; refine (digit_any W[0] true HG.out _).mono ?_; rintro e w3 ⟨rfl, rfl⟩
                go_wp2_with fail
                go_at_call 94; refine (Trim_none W HAL.out _ (by omega)).mono ?_; rintro e w3 ⟨rfl, b3⟩
                have B3 : Below w2.heap.size w2 w3 := ((Below.refl _ _).alloc (Nat.le_refl _) _).trans (b3.mono (by simp))
                have HE3 := HE2.out.below B3
                have HB3 := Lib.hid b3
                replace HE3 := Lib.hid HE3
                clear b3
                go_wp2_with fail
                go_at_call 95; refine (Int_some W v HI.out _ HE3.out (by omega)).mono ?_; rintro e w4 ⟨rfl, b4⟩
                have HB4 := Lib.hid (HB3.out.trans (b4.mono HB3.out.size))
                have B4 := B3.trans (b4.mono B3.size)
                have d0 := tok_cell (i := 0) (v := .int .i64 0) HB4.out (World.cell?_alloc_new _ _ _ _)
                have d1 := tok_cell (i := 1) (v := .string W) HB4.out (World.cell?_alloc_new _ _ _ _)
                have d2 := tok_cell (i := 2) (v := .int .i64 0) HB4.out (World.cell?_alloc_new _ _ _ _)
                have d3 := tok_cell (i := 3) (v := .int .i64 0) HB4.out (World.cell?_alloc_new _ _ _ _)
                have f0 := tok_free 0 HB4.out
                have f2 := tok_free 2 HB4.out
                clear b4 B3
                go_wp2_with fail
                go_at_call 93; refine (take_any b src k ln ts 1 W v 0 m _ _ rfl rfl _ (H2.out.keep ((B4.setCell (p := ⟨w2.heap.size, 0, none⟩) (Nat.le_refl _) _).setCell (p := ⟨w2.heap.size, 2, none⟩) (Nat.le_refl _) _)) hl).mono ?_; rintro e w5 ⟨rfl, s5, b5⟩
                have S5 := Lib.hid s5
                clear s5
                go_wp2_with fail
                go_ret
                exact WordPost.fine (HR2.out.trans (tokW_yes (HH.out ▸ HG.out) HAL.out HN.out HI.out)) hm HD2.out S5.out (B2.out.trans ((((B4.setCell (p := ⟨w2.heap.size, 0, none⟩) (Nat.le_refl _) _).setCell (p := ⟨w2.heap.size, 2, none⟩) (Nat.le_refl _) _).mono hbw).trans b5))
              | none =>
                have HI := Lib.hid hi
                clear hi
                go_wp2_with fail
                go_at_call 73; refine (digit_any W[0] true HG.out _).mono ?_; rintro e w3 ⟨rfl, rfl⟩
                go_wp2_with fail
                go_at_call 94; refine (Trim_none W HAL.out _ (by omega)).mono ?_; rintro e w3 ⟨rfl, b3⟩
                have B3 : Below w2.heap.size w2 w3 := ((Below.refl _ _).alloc (Nat.le_refl _) _).trans (b3.mono (by simp))
                have HE3 := HE2.out.below B3
                replace HE3 := Lib.hid HE3
                clear b3
                go_wp2_with fail
                go_at_call 95; refine (Int_none W HI.out _ HE3.out (by omega)).mono ?_; rintro e w4 ⟨rfl, b4⟩
                have B4 := B3.trans (b4.mono B3.size)
                clear b4 B3
                go_wp2_with fail
                go_ret
                exact WordPost.bad (n := 3) (HR2.out.trans (tokW_range (HH.out ▸ HG.out) HAL.out HN.out HI.out)) rfl (H2.out.keep B4) (B2.out.trans (B4.mono hbw))
        | false =>
          have HG := Lib.hid hd
          clear hd
          cases hw : Lx.word (bs W) with
          | true =>
            have HW := Lib.hid hw
            clear hw
            go_wp2_with fail
            go_at_call 73; refine (digit_any W[0] false HG.out _).mono ?_; rintro e w3 ⟨rfl, rfl⟩
            go_wp2_with fail
            go_at_call 60; refine (Word_any W true HW.out _ (by omega)).mono ?_; rintro e w3 ⟨rfl, rfl⟩
            go_wp2_with fail
            go_at_call 93; refine (take_any b src k ln ts 0 W 0 0 m _ _ rfl rfl _ (H2.out.keep ((Below.refl _ _).alloc (Nat.le_refl _) _)) hl).mono ?_; rintro e w5 ⟨rfl, s5, b5⟩
            have S5 := Lib.hid s5
            clear s5
            go_wp2_with fail
            go_ret
            exact WordPost.fine (HR2.out.trans (Lx.tokW_word _ HW.out)) hm HD2.out S5.out (B2.out.trans ((((Below.refl _ _).alloc (Nat.le_refl _) _).mono hbw).trans b5))
          | false =>
            have HW := Lib.hid hw
            clear hw
            go_wp2_with fail
            go_at_call 73; refine (digit_any W[0] false HG.out _).mono ?_; rintro e w3 ⟨rfl, rfl⟩
            go_wp2_with fail
            go_at_call 60; refine (Word_any W false HW.out _ (by omega)).mono ?_; rintro e w3 ⟨rfl, rfl⟩
            go_wp2_with fail
            go_ret
            exact WordPost.bad (n := 11) (HR2.out.trans (tokW_noword (HH.out ▸ HG.out) HW.out)) rfl (H2.out.keep ((Below.refl _ _).alloc (Nat.le_refl _) _)) (B2.out.trans (((Below.refl _ _).alloc (Nat.le_refl _) _).mono hbw))
    · have hwe := word_end src k m hkm hm HA.out (.inl (by omega))
      have hkm2 : k < m := by omega
      clear HA
      have hb1 : (k : Int) ≤ (m : Int) := by omega
      have hb2 : (m : Int) ≤ (src.size : Int) := by omega
      have hb3 : (0 : Int) ≤ (k : Int) := by omega
      have hb4 : (k : Int).toNat = k := by omega
      have hb5 : (m : Int).toNat = m := by omega
      have HWE := Lib.hid hwe
      clear hwe
      go_wp2_with fail
      go_quiet (fail)
      generalize hw2 : w.drewN nq = w2
      have H2 : Hid (Scn b src k ln ts w2) := Lib.hid (hw2 ▸ H.out)
      have B2 : Hid (Below b w w2) := Lib.hid (hw2 ▸ below_drewN b w nq)
      have HE2 : Hid (Env w2) := Lib.hid (hw2 ▸ HE.out.drewN nq)
      have hbw : b ≤ w2.heap.size := Nat.le_of_lt H2.out.lt
      have hWpos : 0 < (src.extract k m).size := by rw [← bs_len, bs_extract, List.length_take, List.length_drop, bs_len]; omega
      have hWs : (src.extract k m).size ≤ 1000000000 := by rw [← bs_len, bs_extract, List.length_take, List.length_drop, bs_len]; omega
      generalize hWW : src.extract k m = W at *
      have HR2 : Hid (R = Lx.tokW (bs W)) := Lib.hid (by rw [HR.out, HWE.out.1])
      have HD2 : Hid (D = (bs src).drop m) := Lib.hid (by rw [HD.out, HWE.out.2])
      have HH : Hid ((bs W).headD 0 = W[0]) := Lib.hid (bs_head W hWpos)
      clear hw2 hWW HWE c0 c1
      cases hd : Lx.digit W[0] with
      | true =>
        have HG := Lib.hid hd
        clear hd
        cases hall : (bs W).all Lx.digit with
        | false =>
          have HAL := Lib.hid hall
          clear hall
          go_wp2_with fail
          go_at_call 73; refine (digit_any W[0] true HG.out _).mono ?_; rintro e w3 ⟨rfl, rfl⟩
          go_wp2_with fail
          go_at_call 94; refine (Trim_some W HAL.out _ (by omega)).mono ?_; rintro e w3 ⟨T, t1, t2, rfl, b3⟩
          have B3 : Below w2.heap.size w2 w3 := ((Below.refl _ _).alloc (Nat.le_refl _) _).trans (b3.mono (by simp))
          clear b3
          go_wp2_with fail
          go_ret
          exact WordPost.bad (n := 11) (HR2.out.trans (tokW_mixed (HH.out ▸ HG.out) HAL.out)) rfl (H2.out.keep B3) (B2.out.trans (B3.mono hbw))
        | true =>
          have HAL := Lib.hid hall
          clear hall
          by_cases hlen : 1 < W.size
          · by_cases h48 : W[0] = 48
            · have e48 : ((W[0].toNat : Int) == 48) = true := u8_is (b := 48) h48
              have HN : Hid (1 < (bs W).length ∧ (bs W).headD 0 = 48) := Lib.hid ⟨by rw [bs_len]; exact hlen, by rw [HH.out]; exact h48⟩
              clear h48
              go_wp2_with fail
              go_at_call 73; refine (digit_any W[0] true HG.out _).mono ?_; rintro e w3 ⟨rfl, rfl⟩
              go_wp2_with fail
              go_at_call 94; refine (Trim_none W HAL.out _ (by omega)).mono ?_; rintro e w3 ⟨rfl, b3⟩
              have B3 : Below w2.heap.size w2 w3 := ((Below.refl _ _).alloc (Nat.le_refl _) _).trans (b3.mono (by simp))
              clear b3
              go_wp2_with fail
              go_ret
              exact WordPost.bad (n := 11) (HR2.out.trans (tokW_zero (HH.out ▸ HG.out) HN.out)) rfl (H2.out.keep B3) (B2.out.trans (B3.mono hbw))
            · have e48 : ((W[0].toNat : Int) == 48) = false := u8_ne (b := 48) h48
              have HN : Hid (¬ (1 < (bs W).length ∧ (bs W).headD 0 = 48)) := Lib.hid (fun h => h48 (HH.out ▸ h.2))
              clear h48
              cases hi : intOfB (bs W) with
              | some v =>
                have HI := Lib.hid hi
                clear hi
                go_wp2_with fail
                go_at_call 73; refine (digit_any W[0] true HG.out _).mono ?_; rintro e w3 ⟨rfl, rfl⟩
                go_wp2_with fail
                go_at_call 94; refine (Trim_none W HAL.out _ (by omega)).mono ?_; rintro e w3 ⟨rfl, b3⟩
                have B3 : Below w2.heap.size w2 w3 := ((Below.refl _ _).alloc (Nat.le_refl _) _).trans (b3.mono (by simp))
                have HE3 := HE2.out.below B3
                have HB3 := Lib.hid b3
                replace HE3 := Lib.hid HE3
                clear b3
                go_wp2_with fail
                go_at_call 95; refine (Int_some W v HI.out _ HE3.out (by omega)).mono ?_; rintro e w4 ⟨rfl, b4⟩
                have HB4 := Lib.hid (HB3.out.trans (b4.mono HB3.out.size))
                have B4 := B3.trans (b4.mono B3.size)
                have d0 := tok_cell (i := 0) (v := .int .i64 0) HB4.out (World.cell?_alloc_new _ _ _ _)
                have d1 := tok_cell (i := 1) (v := .string W) HB4.out (World.cell?_alloc_new _ _ _ _)
                have d2 := tok_cell (i := 2) (v := .int .i64 0) HB4.out (World.cell?_alloc_new _ _ _ _)
                have d3 := tok_cell (i := 3) (v := .int .i64 0) HB4.out (World.cell?_alloc_new _ _ _ _)
                have f0 := tok_free 0 HB4.out
                have f2 := tok_free 2 HB4.out
                clear b4 B3
                go_wp2_with fail
                go_at_call 93; refine (take_any b src k ln ts 1 W v 0 m _ _ rfl rfl _ (H2.out.keep ((B4.setCell (p := ⟨w2.heap.size, 0, none⟩) (Nat.le_refl _) _).setCell (p := ⟨w2.heap.size, 2, none⟩) (Nat.le_refl _) _)) hl).mono ?_; rintro e w5 ⟨rfl, s5, b5⟩
                have S5 := Lib.hid s5
                clear s5
                go_wp2_with fail
                go_ret
                exact WordPost.fine (HR2.out.trans (tokW_yes (HH.out ▸ HG.out) HAL.out HN.out HI.out)) hm HD2.out S5.out (B2.out.trans ((((B4.setCell (p := ⟨w2.heap.size, 0, none⟩) (Nat.le_refl _) _).setCell (p := ⟨w2.heap.size, 2, none⟩) (Nat.le_refl _) _).mono hbw).trans b5))
              | none =>
                have HI := Lib.hid hi
                clear hi
                go_wp2_with fail
                go_at_call 73; refine (digit_any W[0] true HG.out _).mono ?_; rintro e w3 ⟨rfl, rfl⟩
                go_wp2_with fail
                go_at_call 94; refine (Trim_none W HAL.out _ (by omega)).mono ?_; rintro e w3 ⟨rfl, b3⟩
                have B3 : Below w2.heap.size w2 w3 := ((Below.refl _ _).alloc (Nat.le_refl _) _).trans (b3.mono (by simp))
                have HE3 := HE2.out.below B3
                replace HE3 := Lib.hid HE3
                clear b3
                go_wp2_with fail
                go_at_call 95; refine (Int_none W HI.out _ HE3.out (by omega)).mono ?_; rintro e w4 ⟨rfl, b4⟩
                have B4 := B3.trans (b4.mono B3.size)
                clear b4 B3
                go_wp2_with fail
                go_ret
                exact WordPost.bad (n := 3) (HR2.out.trans (tokW_range (HH.out ▸ HG.out) HAL.out HN.out HI.out)) rfl (H2.out.keep B4) (B2.out.trans (B4.mono hbw))
          · have HN : Hid (¬ (1 < (bs W).length ∧ (bs W).headD 0 = 48)) := Lib.hid (fun h => hlen (by rw [← bs_len]; exact h.1))
            cases hi : intOfB (bs W) with
            | some v =>
              have HI := Lib.hid hi
              clear hi
              go_wp2_with fail
              go_at_call 73; refine (digit_any W[0] true HG.out _).mono ?_; rintro e w3 ⟨rfl, rfl⟩
              go_wp2_with fail
              go_at_call 94; refine (Trim_none W HAL.out _ (by omega)).mono ?_; rintro e w3 ⟨rfl, b3⟩
              have B3 : Below w2.heap.size w2 w3 := ((Below.refl _ _).alloc (Nat.le_refl _) _).trans (b3.mono (by simp))
              have HE3 := HE2.out.below B3
              have HB3 := Lib.hid b3
              replace HE3 := Lib.hid HE3
              clear b3
              go_wp2_with fail
              go_at_call 95; refine (Int_some W v HI.out _ HE3.out (by omega)).mono ?_; rintro e w4 ⟨rfl, b4⟩
              have HB4 := Lib.hid (HB3.out.trans (b4.mono HB3.out.size))
              have B4 := B3.trans (b4.mono B3.size)
              have d0 := tok_cell (i := 0) (v := .int .i64 0) HB4.out (World.cell?_alloc_new _ _ _ _)
              have d1 := tok_cell (i := 1) (v := .string W) HB4.out (World.cell?_alloc_new _ _ _ _)
              have d2 := tok_cell (i := 2) (v := .int .i64 0) HB4.out (World.cell?_alloc_new _ _ _ _)
              have d3 := tok_cell (i := 3) (v := .int .i64 0) HB4.out (World.cell?_alloc_new _ _ _ _)
              have f0 := tok_free 0 HB4.out
              have f2 := tok_free 2 HB4.out
              clear b4 B3
              go_wp2_with fail
              go_at_call 93; refine (take_any b src k ln ts 1 W v 0 m _ _ rfl rfl _ (H2.out.keep ((B4.setCell (p := ⟨w2.heap.size, 0, none⟩) (Nat.le_refl _) _).setCell (p := ⟨w2.heap.size, 2, none⟩) (Nat.le_refl _) _)) hl).mono ?_; rintro e w5 ⟨rfl, s5, b5⟩
              have S5 := Lib.hid s5
              clear s5
              go_wp2_with fail
              go_ret
              exact WordPost.fine (HR2.out.trans (tokW_yes (HH.out ▸ HG.out) HAL.out HN.out HI.out)) hm HD2.out S5.out (B2.out.trans ((((B4.setCell (p := ⟨w2.heap.size, 0, none⟩) (Nat.le_refl _) _).setCell (p := ⟨w2.heap.size, 2, none⟩) (Nat.le_refl _) _).mono hbw).trans b5))
            | none =>
              have HI := Lib.hid hi
              clear hi
              go_wp2_with fail
              go_at_call 73; refine (digit_any W[0] true HG.out _).mono ?_; rintro e w3 ⟨rfl, rfl⟩
              go_wp2_with fail
              go_at_call 94; refine (Trim_none W HAL.out _ (by omega)).mono ?_; rintro e w3 ⟨rfl, b3⟩
              have B3 : Below w2.heap.size w2 w3 := ((Below.refl _ _).alloc (Nat.le_refl _) _).trans (b3.mono (by simp))
              have HE3 := HE2.out.below B3
              replace HE3 := Lib.hid HE3
              clear b3
              go_wp2_with fail
              go_at_call 95; refine (Int_none W HI.out _ HE3.out (by omega)).mono ?_; rintro e w4 ⟨rfl, b4⟩
              have B4 := B3.trans (b4.mono B3.size)
              clear b4 B3
              go_wp2_with fail
              go_ret
              exact WordPost.bad (n := 3) (HR2.out.trans (tokW_range (HH.out ▸ HG.out) HAL.out HN.out HI.out)) rfl (H2.out.keep B4) (B2.out.trans (B4.mono hbw))
      | false =>
        have HG := Lib.hid hd
        clear hd
        cases hw : Lx.word (bs W) with
        | true =>
          have HW := Lib.hid hw
          clear hw
          go_wp2_with fail
          go_at_call 73; refine (digit_any W[0] false HG.out _).mono ?_; rintro e w3 ⟨rfl, rfl⟩
          go_wp2_with fail
          go_at_call 60; refine (Word_any W true HW.out _ (by omega)).mono ?_; rintro e w3 ⟨rfl, rfl⟩
          go_wp2_with fail
          go_at_call 93; refine (take_any b src k ln ts 0 W 0 0 m _ _ rfl rfl _ (H2.out.keep ((Below.refl _ _).alloc (Nat.le_refl _) _)) hl).mono ?_; rintro e w5 ⟨rfl, s5, b5⟩
          have S5 := Lib.hid s5
          clear s5
          go_wp2_with fail
          go_ret
          exact WordPost.fine (HR2.out.trans (Lx.tokW_word _ HW.out)) hm HD2.out S5.out (B2.out.trans ((((Below.refl _ _).alloc (Nat.le_refl _) _).mono hbw).trans b5))
        | false =>
          have HW := Lib.hid hw
          clear hw
          go_wp2_with fail
          go_at_call 73; refine (digit_any W[0] false HG.out _).mono ?_; rintro e w3 ⟨rfl, rfl⟩
          go_wp2_with fail
          go_at_call 60; refine (Word_any W false HW.out _ (by omega)).mono ?_; rintro e w3 ⟨rfl, rfl⟩
          go_wp2_with fail
          go_ret
          exact WordPost.bad (n := 11) (HR2.out.trans (tokW_noword (HH.out ▸ HG.out) HW.out)) rfl (H2.out.keep ((Below.refl _ _).alloc (Nat.le_refl _) _)) (B2.out.trans (((Below.refl _ _).alloc (Nat.le_refl _) _).mono hbw))
end Go.Proofs.YtnccndfffmaonaaGreatDoor
/- Walks of package lex: quoted, next. -/
namespace Go.Proofs.YtnccndfffmaonaaGreatDoor
set_option linter.unusedSimpArgs false
open Go.RowKit

/-- What is between the places k + 1 and m. -/
def mid (src : ByteArray) (k m : Nat) : List UInt8 := ((bs src).drop (k + 1)).take (m - (k + 1))
theorem mid_snoc (src : ByteArray) (k m : Nat) (hk : k + 1 ≤ m) (hm : m < src.size) : mid src k (m + 1) = mid src k m ++ [src[m]] := by
  unfold mid
  have e : m + 1 - (k + 1) = (m - (k + 1)) + 1 := by omega
  have e3 : ((bs src).drop (k + 1))[m - (k + 1)]? = some src[m] := by
    rw [List.getElem?_drop, show k + 1 + (m - (k + 1)) = m by omega]; exact bs_get src m hm
  rw [e, List.take_add_one, e3]; rfl
def addTo (p : List UInt8) (q : Option (List UInt8 × List UInt8)) : Option (List UInt8 × List UInt8) := q.map fun x => (p ++ x.1, x.2)
theorem addTo_map (p d : List UInt8) (q : Option (List UInt8 × List UInt8)) : addTo p (q.map fun x => (d ++ x.1, x.2)) = addTo (p ++ d) q := by
  cases q <;> simp [addTo]
theorem q_start (src : ByteArray) (k : Nat) : Lx.qscan ((bs src).drop (k + 1)) = addTo (mid src k (k + 1)) (Lx.qscan ((bs src).drop (k + 1))) := by
  unfold mid addTo; rw [Nat.sub_self]; cases Lx.qscan ((bs src).drop (k + 1)) <;> rfl
theorem q_plain (src : ByteArray) (k m : Nat) (hk : k + 1 ≤ m) (hm : m < src.size) (h1 : src[m] ≠ 34) (h2 : src[m] ≠ 92) :
    addTo (mid src k m) (Lx.qscan ((bs src).drop m)) = addTo (mid src k (m + 1)) (Lx.qscan ((bs src).drop (m + 1))) := by
  rw [bs_drop src m hm, Lx.q_else _ _ h1 h2, mid_snoc src k m hk hm]
  exact addTo_map _ [src[m]] _
theorem q_skip (src : ByteArray) (k m : Nat) (hk : k + 1 ≤ m) (hm : m < src.size) (h2 : src[m] = 92) :
    addTo (mid src k m) (Lx.qscan ((bs src).drop m)) = addTo (mid src k (m + 2)) (Lx.qscan ((bs src).drop (m + 2))) := by
  by_cases hm2 : m + 1 < src.size
  · rw [bs_drop src m hm, bs_drop src (m + 1) hm2, h2, Lx.q_back, mid_snoc src k (m + 1) (by omega) hm2, mid_snoc src k m hk hm, h2, List.append_assoc]
    exact addTo_map _ [92, src[m + 1]] _
  · have e1 : (bs src).drop (m + 1) = [] := List.drop_eq_nil_of_le (by rw [bs_len]; omega)
    have e2 : (bs src).drop (m + 2) = [] := List.drop_eq_nil_of_le (by rw [bs_len]; omega)
    rw [bs_drop src m hm, e1, e2, h2, Lx.q_last]; rfl
theorem q_end (src : ByteArray) (k m : Nat) (hm : m < src.size) (h2 : src[m] = 34) :
    addTo (mid src k m) (Lx.qscan ((bs src).drop m)) = some (mid src k m, (bs src).drop (m + 1)) := by
  rw [bs_drop src m hm, h2, Lx.q_quote]; simp [addTo]
theorem q_none (src : ByteArray) (k m : Nat) (hm : src.size ≤ m) : addTo (mid src k m) (Lx.qscan ((bs src).drop m)) = none := by
  rw [List.drop_eq_nil_of_le (by rw [bs_len]; exact hm)]; rfl
theorem bs_mid (src : ByteArray) (k m : Nat) (hk : k + 1 ≤ m) (hm : m < src.size) (h1 : src[k] = 34) (h2 : src[m] = 34) : bs (src.extract k (m + 1)) = 34 :: (mid src k m ++ [34]) := by
  have e := mid_snoc src k m hk hm
  rw [h2] at e
  rw [← e, bs_extract, bs_drop src k (by omega), h1, show m + 1 - k = (m + 1 - (k + 1)) + 1 by omega, List.take_succ_cons]; rfl
theorem unq_mid (b : List UInt8) : unq (34 :: (b ++ [34])) = raw b := by
  unfold unq; simp
theorem keep_cell {w w3 : World} {b o : Nat} {v : Value} (h : Below w.drew.heap.size w.drew w3) (hb : b < w.heap.size) (hc : w.cell? ⟨b, o, none⟩ = some v) : w3.cell? ⟨b, o, none⟩ = some v :=
  (h.cell (p := ⟨b, o, none⟩) hb).trans hc
/-- What the scan comes to. -/
def qres : Option (List UInt8 × List UInt8) → Except Nat (Nat × List UInt8 × Int)
  | none => .error 11
  | some x => if quote (raw x.1) = 34 :: (x.1 ++ [34]) then .ok (2, raw x.1, 0) else .error 11
def qrest : Option (List UInt8 × List UInt8) → List UInt8
  | none => []
  | some x => x.2

set_option maxRecDepth 100000 in
set_option maxHeartbeats 16000000 in
theorem quoted_any (b : Nat) (src : ByteArray) (k ln : Nat) (ts : List Lx.Tok) (w : World) (h : Scn b src k ln ts w) (hlt : k < src.size) (hs : src.size ≤ 100000000) (hl : ts.length ≤ 1000000000) (hp : src[k] = 34) :
    Calls Tryz.prog 75 #[.pointer (some ⟨b, 0, none⟩)] w (WordPost b src k ln ts w (qres (Lx.qscan ((bs src).drop (k + 1)))) (qrest (Lx.qscan ((bs src).drop (k + 1))))) := by
  obtain ⟨R, hR⟩ : ∃ R, R = Lx.qscan ((bs src).drop (k + 1)) := ⟨_, rfl⟩
  rw [← hR]
  have HR := Lib.hid hR
  have HP := Lib.hid hp
  have c0 := h.c0
  have c1 := h.c1
  have H := Lib.hid h
  clear h hR hp
  go_enter Tryz.func75, Tryz.ntmps75
  go_wp2_with fail
  go_loop [3] (fun i => ∃ m : Nat, k + 1 ≤ m ∧ m ≤ src.size + 1 ∧ Hid (R = addTo (mid src k m) (Lx.qscan ((bs src).drop m))) ∧ i = .int .i64 m) (fun i => src.size + 1 - (intOf i).toNat)
  case atStart => exact ⟨k + 1, by omega, by omega, Lib.hid (HR.out.trans (q_start src k)), by go_num⟩
  case round =>
    obtain ⟨m, hkm, hm, HA, rfl⟩ := hrel
    clear HR
    by_cases hms : m < src.size
    · by_cases h34 : src[m] = 34
      · have e34 : ((src[m].toNat : Int) == 34) = true := u8_is (b := 34) h34
        have n34 : ((src[m].toNat : Int) != 34) = false := by rw [bne, e34]; rfl
        have HQ : Hid (R = some (mid src k m, (bs src).drop (m + 1))) := Lib.hid (HA.out.trans (q_end src k m hms h34))
        have HM : Hid (bs (src.extract k (m + 1)) = 34 :: (mid src k m ++ [34])) := Lib.hid (bs_mid src k m hkm hms HP.out h34)
        clear HA h34
        have hw1 : IntKind.i64.wrap ((m : Int) + 1) = (m : Int) + 1 := by rw [IntWalk.i64_in _ (by omega)]
        have hb1 : (k : Int) ≤ (m : Int) + 1 := by omega
        have hb2 : (m : Int) + 1 ≤ (src.size : Int) := by omega
        have hb3 : (0 : Int) ≤ (k : Int) := by omega
        have hb4 : (k : Int).toNat = k := by omega
        have hb5 : ((m : Int) + 1).toNat = m + 1 := by omega
        have hWs : (src.extract k (m + 1)).size ≤ 100000000 := by rw [← bs_len, bs_extract, List.length_take, List.length_drop, bs_len]; omega
        have hbw : b < w.heap.size := H.out.lt
        by_cases hq : quote (raw (mid src k m)) = 34 :: (mid src k m ++ [34])
        · have HU : Hid (quote (unq (bs (src.extract k (m + 1)))) = bs (src.extract k (m + 1))) := Lib.hid (by rw [HM.out, unq_mid]; exact hq)
          have HV : Hid (raw (mid src k m) = unq (bs (src.extract k (m + 1)))) := Lib.hid (by rw [HM.out, unq_mid])
          have HX := Lib.hid hq
          clear hq
          go_wp2_with fail
          go_region_held3 (fun w' => w'.cell? ⟨b, 0, none⟩ = some (.string src) ∧ w'.cell? ⟨b, 1, none⟩ = some (.int .i64 k)) (go_keep)
            ((go_at_call 96; refine (Unquote_yes _ HU.out (by omega) _).mono ?_; rintro e w3 ⟨rfl, b3⟩; have q0 := keep_cell b3 hbw c0; have q1 := keep_cell b3 hbw c1))
          generalize hU : unq (bs (src.extract k (m + 1))) = U at *
          go_wp2_with fail
          go_at_call 93; refine (take_any b src k ln ts 2 _ 0 0 (m + 1) _ _ rfl (by omega) _ (H.out.drew.keep b3) hl).mono ?_; rintro e w5 ⟨rfl, s5, b5⟩
          have S5 := Lib.hid s5
          clear s5
          go_wp2_with fail
          go_ret
          exact WordPost.fine (m := m + 1) (kd := 2) (n := 0) (t := U) (by rw [HQ.out, qres, if_pos HX.out, HV.out]) (by omega) (by rw [HQ.out, qrest]) (by have := S5.out; rw [bs_lit0] at this; exact this) (((Below.refl b w).drew.trans (b3.mono (Nat.le_of_lt hbw))).trans b5)
        · have HU : Hid (¬ quote (unq (bs (src.extract k (m + 1)))) = bs (src.extract k (m + 1))) := Lib.hid (by rw [HM.out, unq_mid]; exact hq)
          have HX := Lib.hid hq
          clear hq
          go_wp2_with fail
          go_region_held3 (fun w' => w'.cell? ⟨b, 0, none⟩ = some (.string src) ∧ w'.cell? ⟨b, 1, none⟩ = some (.int .i64 k)) (go_keep)
            ((go_at_call 96; refine (Unquote_no _ HU.out (by omega) _).mono ?_; rintro e w3 ⟨rfl, b3⟩; have q0 := keep_cell b3 hbw c0; have q1 := keep_cell b3 hbw c1))
          go_wp2_with fail
          go_ret
          exact WordPost.bad (n := 11) (by rw [HQ.out, qres, if_neg HX.out]) rfl (H.out.drew.keep b3) ((Below.refl b w).drew.trans (b3.mono (Nat.le_of_lt hbw)))
      · have e34 : ((src[m].toNat : Int) == 34) = false := u8_ne (b := 34) h34
        have n34 : ((src[m].toNat : Int) != 34) = true := by rw [bne, e34]; rfl
        by_cases h92 : src[m] = 92
        · have e92 : ((src[m].toNat : Int) == 92) = true := u8_is (b := 92) h92
          have HN := Lib.hid (HA.out.trans (q_skip src k m hkm hms h92))
          clear HA h34 h92
          go_wp2_with fail
          go_round
          case rel => exact ⟨m + 2, by omega, by omega, HN, by go_num⟩
          case measure => simp [intOf]; omega
        · have e92 : ((src[m].toNat : Int) == 92) = false := u8_ne (b := 92) h92
          have HN := Lib.hid (HA.out.trans (q_plain src k m hkm hms h34 h92))
          clear HA h34 h92
          go_wp2_with fail
          go_round
          case rel => exact ⟨m + 1, by omega, by omega, HN, by go_num⟩
          case measure => simp [intOf]; omega
    · have HQ : Hid (R = none) := Lib.hid (HA.out.trans (q_none src k m (by omega)))
      clear HA
      go_wp2_with fail
      go_ret
      exact WordPost.bad (n := 11) (by rw [HQ.out, qres]) rfl H.out (Below.refl _ _)
end Go.Proofs.YtnccndfffmaonaaGreatDoor
