/- Walks of package lex: Lex. -/
import Derived.Test.YtdjiimblfhbcjaaDoorLxY
namespace Go.Proofs.YtdjiimblfhbcjaaDoor
set_option linter.unusedSimpArgs false
open Go.RowKit

theorem skip_le {src : ByteArray} {k k1 : Nat} (hk : k ≤ src.size) (hk1 : k1 ≤ src.size) (h : Lx.skip false ((bs src).drop k) = (bs src).drop k1) : k ≤ k1 := by
  have := Lx.skip_len false ((bs src).drop k)
  rw [h, List.length_drop, List.length_drop, bs_len] at this; omega
theorem tok_lt {src : ByteArray} {k1 m kd : Nat} {t rest : List UInt8} {n : Int} (hk1 : k1 ≤ src.size) (hm : m ≤ src.size) (h : Lx.step ((bs src).drop k1) = .tok kd t n rest) (hr : rest = (bs src).drop m) : k1 < m := by
  have := Lx.step_len h
  rw [hr, List.length_drop, List.length_drop, bs_len] at this; omega
theorem open_done {src : ByteArray} {G : Except (Nat × Nat) (List Lx.Tok)} {k k1 ln : Nat} {ts : List Lx.Tok} (h : Open src G k ln ts) (hk : k ≤ k1) (hs : Lx.skip false ((bs src).drop k) = (bs src).drop k1) (hst : Lx.step ((bs src).drop k1) = .done) : Shut2 G k1 ln (ts ++ [⟨4, [], 0, ln⟩]) := by
  obtain ⟨h1, h2, h3⟩ := h
  refine ⟨by simp; omega, ?_, ts, rfl⟩
  rw [h3, Lx.lex_done ln (by rw [hs, hst])]; rfl
theorem open_bad {src : ByteArray} {G : Except (Nat × Nat) (List Lx.Tok)} {k k1 ln n : Nat} {ts : List Lx.Tok} (h : Open src G k ln ts) (hs : Lx.skip false ((bs src).drop k) = (bs src).drop k1) (hst : Lx.step ((bs src).drop k1) = .bad n) : G = .error (n, ln) := by
  rw [h.2.2, Lx.lex_bad ln (by rw [hs, hst])]; rfl
theorem open_tok {src : ByteArray} {G : Except (Nat × Nat) (List Lx.Tok)} {k k1 m ln kd : Nat} {t rest : List UInt8} {n : Int} {ts : List Lx.Tok} (h : Open src G k ln ts) (hk : k ≤ k1) (hm : k1 < m) (hkd : kd < 4) (hs : Lx.skip false ((bs src).drop k) = (bs src).drop k1) (hst : Lx.step ((bs src).drop k1) = .tok kd t n rest) (hr : rest = (bs src).drop m) : Open src G m (Lx.nl kd ln) (ts ++ [⟨kd, t, n, ln⟩]) := by
  obtain ⟨h1, h2, h3⟩ := h
  refine ⟨by simp; omega, ?_, ?_⟩
  · intro x hx
    rcases List.mem_append.1 hx with hx | hx
    · exact h2 x hx
    · obtain rfl := List.mem_singleton.1 hx; exact hkd
  · rw [h3, Lx.lex_tok ln (by rw [hs, hst]), joinT_pre, hr]
theorem nl_le {kd ln k m : Nat} (h : ln ≤ k + 1) (hm : k < m) : Lx.nl kd ln ≤ m + 1 := by unfold Lx.nl; split <;> omega
theorem lex_round {b : Nat} {src : ByteArray} {k k' ln ln' : Nat} {ts : List Lx.Tok} {t : Lx.Tok} {w w' : World} (h : Scn b src k ln ts w) (h' : Scn b src k' ln' (ts ++ [t]) w') (hl : ts.length ≤ src.size) (hs : src.size ≤ 20000) : src.size + 2 - countOf b w' < src.size + 2 - countOf b w := by
  rw [h.count (by unfold maxLen; omega), h'.count (by rw [List.length_append, List.length_singleton]; unfold maxLen; omega), List.length_append, List.length_singleton]; omega
theorem LexPost.fine {G : Except (Nat × Nat) (List Lx.Tok)} {w w' : World} {v : Value} {ts : List Lx.Tok} (hG : G = .ok ts) (h1 : TS w' v ts) (hz : Z0 v) (h2 : Below w.heap.size w w') : LexPost G w (.returned (.tuple #[v, .int .i64 0, .int .i64 0])) w' := by
  subst hG; exact ⟨v, rfl, h1, hz, h2⟩
theorem LexPost.bad {G : Except (Nat × Nat) (List Lx.Tok)} {w w' : World} {n ln : Nat} {z : Int} (hG : G = .error (n, ln)) (hz : z = (n : Int)) (h2 : Below w.heap.size w w') : LexPost G w (.returned (.tuple #[.slice none 0 0, .int .i64 z, .int .i64 ln])) w' := by
  subst hG hz; exact ⟨rfl, h2⟩

set_option maxRecDepth 100000 in
set_option maxHeartbeats 64000000 in
theorem Lex_any (src : ByteArray) (w : World) (hE : Env w) (hs : src.size ≤ 20000) :
    Calls Tryd.prog 25 #[.string src] w (LexPost (Lx.lex (bs src) 1) w) := by
  obtain ⟨G, hG⟩ : ∃ G, G = Lx.lex (bs src) 1 := ⟨_, rfl⟩
  rw [← hG]
  have HG := Lib.hid hG
  have HE := Lib.hid hE
  have H0 := Lib.hid (Scn.start src w)
  have h20 : decide ((20000 : Int) < (src.size : Int)) = false := decide_eq_false (by omega)
  clear hG hE
  go_enter Tryd.func25, Tryd.ntmps25
  go_wp2_with fail
  go_loopw [] (fun wr => ∃ (k ln : Nat) (ts : List Lx.Tok), k ≤ src.size ∧ ln ≤ k + 1 ∧ Hid (Scn w.heap.size src k ln ts wr) ∧ Hid (Below w.heap.size w wr) ∧ Hid (Open src G k ln ts ∨ Shut2 G k ln ts)) (fun wr => src.size + 2 - countOf w.heap.size wr)
  case atStart => exact ⟨0, 1, [], by omega, by omega, H0, Lib.hid ((Below.refl _ w).alloc (Nat.le_refl _) _), Lib.hid (.inl (open_start src HG.out))⟩
  case round =>
    obtain ⟨k, ln, ts, hk, hln, HS, HB, HD⟩ := hrel
    clear H0 HG
    rcases HD.out with ho | hsh
    · have hlen : ts.length ≤ src.size := Nat.le_trans ho.1 hk
      have hlen2 : ts.length ≤ 20000 := Nat.le_trans hlen hs
      by_cases hz : ts.length = 0
      · obtain ⟨v, c3, ⟨a, cap, rfl, -, -, hnc, hcm, -⟩, -⟩ := HS.out.out (by unfold maxLen; omega)
        rw [hz] at c3
        have HO := Lib.hid ho
        clear ho HD hz
        go_wp2_with fail
        go_quiet (fail)
        go_wp2_with fail
        go_at_call 58; refine (skip_any w.heap.size src k ln ts _ (HS.out.drewN _) hk (by omega)).mono ?_; rintro e w1 ⟨rfl, k1, hk1, hsk, s1, b1⟩
        have S1 := Lib.hid s1
        have B1 := Lib.hid ((HB.out.trans (below_drewN _ _ _)).trans b1)
        have hkk := skip_le hk hk1 hsk
        have HSK := Lib.hid hsk
        clear s1 b1 hsk
        have hnx := nx_of w.heap.size src k1 ln ts w hk1 (by omega) (by omega) (by omega)
        have hnext := fun W h => next_any w.heap.size src k1 ln ts W h hk1
        simp only [meth] at hnext
        generalize nextFn src k1 = f at hnx hnext
        cases hnx with
        | done hst hf =>
          subst hf
          have HX := Lib.hid hnext
          have HDN := Lib.hid (open_done HO.out hkk HSK.out hst)
          clear hnext hst
          go_wp2_with fail
          go_at_call 59; refine (HX.out _ S1.out).mono ?_; rintro e w2 ⟨rfl, hm2⟩
          have S2 := Lib.hid (S1.out.same hm2)
          have B2 := Lib.hid (below_same B1.out hm2)
          have HE2 := Lib.hid (HE.out.below B2.out)
          clear hm2
          go_wp2_with fail
          refine (end_any w.heap.size src k1 ln ts _ S2.out (by omega)).mono ?_; rintro e w3 ⟨rfl, s3, b3⟩
          have S3 := Lib.hid s3
          have B3 := Lib.hid (B2.out.trans b3)
          clear s3 b3
          go_wp2_with fail
          go_roundw
          case rel => exact ⟨k1, ln, _, hk1, by omega, S3, B3, Lib.hid (.inr HDN.out)⟩
          case measure => exact lex_round HS.out S3.out hlen hs
        | bad z hst hz hc hf =>
          have HDN := Lib.hid (open_bad HO.out HSK.out hst)
          clear hst
          rcases hf with rfl | rfl | rfl
          all_goals
            have HX := Lib.hid hnext
            have HC := Lib.hid hc
            clear hnext hc
            rcases hz with rfl | rfl
            all_goals
              go_wp2_with fail
              go_at_call 59; refine (HX.out _ S1.out).mono ?_; rintro e w2 ⟨rfl, hm2⟩
              have S2 := Lib.hid (S1.out.same hm2)
              have B2 := Lib.hid (below_same B1.out hm2)
              have HE2 := Lib.hid (HE.out.below B2.out)
              clear hm2
              go_wp2_with fail
              refine (HC.out _ HE2.out S2.out).mono ?_; rintro e w3 ⟨rfl, s3, b3⟩
              have c2 := s3.c2
              have B3 := Lib.hid (B2.out.trans b3)
              clear s3 b3
              go_wp2_with fail
              go_quiet (fail)
              go_wp2_with fail
              go_ret3
              exact LexPost.bad HDN.out rfl (B3.out.trans (below_drewN _ _ _))
        | tok kd t nn rest hst hkd4 hc hf =>
          have HST := Lib.hid hst
          have HC := Lib.hid hc
          clear hst hc
          rcases hf with rfl | rfl | rfl
          all_goals
            have HX := Lib.hid hnext
            clear hnext
            go_wp2_with fail
            go_at_call 59; refine (HX.out _ S1.out).mono ?_; rintro e w2 ⟨rfl, hm2⟩
            have S2 := Lib.hid (S1.out.same hm2)
            have B2 := Lib.hid (below_same B1.out hm2)
            have HE2 := Lib.hid (HE.out.below B2.out)
            clear hm2
            go_wp2_with fail
            refine (HC.out _ HE2.out S2.out).mono ?_; rintro e w3 ⟨rfl, m, hm, hr, s3, b3⟩
            have hkm := tok_lt hk1 hm HST.out hr
            have HDN := Lib.hid (open_tok HO.out hkk hkm hkd4 HSK.out HST.out hr)
            have S3 := Lib.hid s3
            have B3 := Lib.hid (B2.out.trans b3)
            clear s3 b3 hr
            go_wp2_with fail
            go_roundw
            case rel => exact ⟨m, Lx.nl kd ln, _, hm, nl_le (k := k1) (by omega) hkm, S3, B3, Lib.hid (.inl HDN.out)⟩
            case measure => exact lex_round HS.out S3.out hlen hs
      · obtain ⟨n, kd0, g, off, cap, HN, hn1, hn2, hkd, hnc, hcm, c3, q1⟩ := HS.out.last (by omega) (by omega) (· < 4) (ho.last _ (by omega))
        have t1 : ((n : Int) == 0) = false := beq_eq_false_iff_ne.2 (by omega)
        have t2 : IntKind.i64.wrap ((n : Int) - 1) = (n : Int) - 1 := by rw [IntWalk.i64_in _ (by omega)]
        have t3 : (0 : Int) ≤ (n : Int) - 1 := by omega
        have t4 : (n : Int) - 1 < (n : Int) := by omega
        have t5 : ((n : Int) - 1).toNat = n - 1 := by omega
        have t6 : ((kd0 : Int) == 4) = false := beq_eq_false_iff_ne.2 (by omega)
        have t7 : ((kd0 : Int) != 4) = true := by rw [bne, t6]; rfl
        have HO := Lib.hid ho
        clear ho HD hz
        go_wp2_with fail
        go_quiet (fail)
        go_wp2_with fail
        go_at_call 58; refine (skip_any w.heap.size src k ln ts _ (HS.out.drewN _) hk (by omega)).mono ?_; rintro e w1 ⟨rfl, k1, hk1, hsk, s1, b1⟩
        have S1 := Lib.hid s1
        have B1 := Lib.hid ((HB.out.trans (below_drewN _ _ _)).trans b1)
        have hkk := skip_le hk hk1 hsk
        have HSK := Lib.hid hsk
        clear s1 b1 hsk
        have hnx := nx_of w.heap.size src k1 ln ts w hk1 (by omega) (by omega) (by omega)
        have hnext := fun W h => next_any w.heap.size src k1 ln ts W h hk1
        simp only [meth] at hnext
        generalize nextFn src k1 = f at hnx hnext
        cases hnx with
        | done hst hf =>
          subst hf
          have HX := Lib.hid hnext
          have HDN := Lib.hid (open_done HO.out hkk HSK.out hst)
          clear hnext hst
          go_wp2_with fail
          go_at_call 59; refine (HX.out _ S1.out).mono ?_; rintro e w2 ⟨rfl, hm2⟩
          have S2 := Lib.hid (S1.out.same hm2)
          have B2 := Lib.hid (below_same B1.out hm2)
          have HE2 := Lib.hid (HE.out.below B2.out)
          clear hm2
          go_wp2_with fail
          refine (end_any w.heap.size src k1 ln ts _ S2.out (by omega)).mono ?_; rintro e w3 ⟨rfl, s3, b3⟩
          have S3 := Lib.hid s3
          have B3 := Lib.hid (B2.out.trans b3)
          clear s3 b3
          go_wp2_with fail
          go_roundw
          case rel => exact ⟨k1, ln, _, hk1, by omega, S3, B3, Lib.hid (.inr HDN.out)⟩
          case measure => exact lex_round HS.out S3.out hlen hs
        | bad z hst hz hc hf =>
          have HDN := Lib.hid (open_bad HO.out HSK.out hst)
          clear hst
          rcases hf with rfl | rfl | rfl
          all_goals
            have HX := Lib.hid hnext
            have HC := Lib.hid hc
            clear hnext hc
            rcases hz with rfl | rfl
            all_goals
              go_wp2_with fail
              go_at_call 59; refine (HX.out _ S1.out).mono ?_; rintro e w2 ⟨rfl, hm2⟩
              have S2 := Lib.hid (S1.out.same hm2)
              have B2 := Lib.hid (below_same B1.out hm2)
              have HE2 := Lib.hid (HE.out.below B2.out)
              clear hm2
              go_wp2_with fail
              refine (HC.out _ HE2.out S2.out).mono ?_; rintro e w3 ⟨rfl, s3, b3⟩
              have c2 := s3.c2
              have B3 := Lib.hid (B2.out.trans b3)
              clear s3 b3
              go_wp2_with fail
              go_quiet (fail)
              go_wp2_with fail
              go_ret3
              exact LexPost.bad HDN.out rfl (B3.out.trans (below_drewN _ _ _))
        | tok kd t nn rest hst hkd4 hc hf =>
          have HST := Lib.hid hst
          have HC := Lib.hid hc
          clear hst hc
          rcases hf with rfl | rfl | rfl
          all_goals
            have HX := Lib.hid hnext
            clear hnext
            go_wp2_with fail
            go_at_call 59; refine (HX.out _ S1.out).mono ?_; rintro e w2 ⟨rfl, hm2⟩
            have S2 := Lib.hid (S1.out.same hm2)
            have B2 := Lib.hid (below_same B1.out hm2)
            have HE2 := Lib.hid (HE.out.below B2.out)
            clear hm2
            go_wp2_with fail
            refine (HC.out _ HE2.out S2.out).mono ?_; rintro e w3 ⟨rfl, m, hm, hr, s3, b3⟩
            have hkm := tok_lt hk1 hm HST.out hr
            have HDN := Lib.hid (open_tok HO.out hkk hkm hkd4 HSK.out HST.out hr)
            have S3 := Lib.hid s3
            have B3 := Lib.hid (B2.out.trans b3)
            clear s3 b3 hr
            go_wp2_with fail
            go_roundw
            case rel => exact ⟨m, Lx.nl kd ln, _, hm, nl_le (k := k1) (by omega) hkm, S3, B3, Lib.hid (.inl HDN.out)⟩
            case measure => exact lex_round HS.out S3.out hlen hs
    · have hlen2 : ts.length ≤ 20001 := Nat.le_trans hsh.1 (by omega)
      obtain ⟨hpos, hl4⟩ := hsh.last
      obtain ⟨n, kd0, g, off, cap, HN, hn1, hn2, hkd, hnc, hcm, c3, q1⟩ := HS.out.last (by omega) (by omega) (· = 4) hl4
      have t1 : ((n : Int) == 0) = false := beq_eq_false_iff_ne.2 (by omega)
      have t2 : IntKind.i64.wrap ((n : Int) - 1) = (n : Int) - 1 := by rw [IntWalk.i64_in _ (by omega)]
      have t3 : (0 : Int) ≤ (n : Int) - 1 := by omega
      have t4 : (n : Int) - 1 < (n : Int) := by omega
      have t5 : ((n : Int) - 1).toNat = n - 1 := by omega
      subst hkd
      have HO := Lib.hid hsh
      obtain ⟨v, c3', hts, hz0⟩ := HS.out.out (by unfold maxLen; omega)
      obtain rfl := Option.some.inj (c3'.symm.trans c3)
      have HT := Lib.hid hts
      have HZ := Lib.hid hz0
      clear hz0
      clear hsh HD hl4 c3' hts
      go_wp2_with fail
      go_quiet (fail)
      go_wp2_with fail
      go_ret3
      exact LexPost.fine HO.out.2.1 (HT.out.keep (below_drewN _ _ _)) HZ.out (HB.out.trans (below_drewN _ _ _))
end Go.Proofs.YtdjiimblfhbcjaaDoor
