/- LexBack. -/
import Derived.Test.YtdjiimblfhbcjaaDoorLxT
import Derived.Test.YtdjiimblfhbcjaaDoorLxLaw2
import Derived.Lib.ItoaLen
namespace Go.Proofs.YtdjiimblfhbcjaaDoor
set_option linter.unusedSimpArgs false
open Go.RowKit

/-- A list of tokens that goes on: the first one, and how. -/
theorem goods_cons {ln : Nat} {t : Lx.Tok} {ts : List Lx.Tok} (h : Lx.Goods ln (t :: ts)) : (t = ⟨4, [], 0, ln⟩ ∧ ts = []) ∨ (t.line = ln ∧ Lx.Good t ∧ Lx.Goods (Lx.nl t.kind ln) ts ∧ ts ≠ []) := by
  cases h with
  | fin => exact .inl ⟨rfl, rfl⟩
  | tok _ _ _ h1 h2 h3 => exact .inr ⟨h1, h2, h3, by rintro rfl; cases h3⟩
/-- What holds at the head of a round. -/
def BackRel (ts : List Lx.Tok) (k ln : Nat) : Prop := k < ts.length → Lx.Goods ln (ts.drop k)
theorem back_next {ts : List Lx.Tok} {k ln : Nat} (hk : k < ts.length) (h : BackRel ts k ln) : (ts[k] = ⟨4, [], 0, ln⟩ ∧ k + 1 = ts.length) ∨ (ts[k].line = ln ∧ Lx.Good ts[k] ∧ BackRel ts (k + 1) (Lx.nl ts[k].kind ln) ∧ k + 1 < ts.length) := by
  have hg := h hk
  rw [List.drop_eq_getElem_cons hk] at hg
  rcases goods_cons hg with ⟨h1, h2⟩ | ⟨h1, h2, h3, h4⟩
  · refine .inl ⟨h1, ?_⟩
    have := congrArg List.length h2
    rw [List.length_drop] at this; simp at this; omega
  · refine .inr ⟨h1, h2, fun _ => h3, ?_⟩
    have : 0 < (ts.drop (k + 1)).length := List.length_pos_iff.2 h4
    rw [List.length_drop] at this; omega
theorem Write_k (v : Value) (ts : List Lx.Tok) (w : World) (h : TS w v ts) (hs : (Lx.write ts).length ≤ 10000) :
    Calls Tryd.prog 31 #[v] w fun e w' => ∃ E, bs E = Lx.write ts ∧ E.size ≤ 10000 ∧ e = .returned (.string E) ∧ Below w.heap.size w w' := by
  refine (Write_any v ts w h (by omega)).mono ?_
  rintro e w' ⟨rfl, hb⟩
  exact ⟨_, bs_lit0 _, by rw [← bs_len, bs_lit0]; exact hs, rfl, hb⟩

set_option maxRecDepth 100000 in
set_option maxHeartbeats 16000000 in
theorem LexBack_any (s : ByteArray) (w : World) (hE : Env w) :
    Calls Tryd.prog 11 #[.string s] w fun e w' => e = .returned (.bool true) ∧ Below w.heap.size w w' := by
  have HE := Lib.hid hE
  clear hE
  by_cases hs : s.size ≤ 5000
  · cases hl : Lx.lex (bs s) 1 with
    | error x =>
      obtain ⟨z, ln⟩ := x
      have hz := Lx.lex_codes _ _ _ _ (Nat.lt_succ_self _) hl
      obtain ⟨hz, hln, -⟩ := hz
      dsimp only at hz hln
      have ez : ((z : Int) == 0) = false := beq_eq_false_iff_ne.2 (by omega)
      have nz : ((z : Int) != 0) = true := by rw [bne, ez]; rfl
      have hln2 : (1 : Int) ≤ (ln : Int) := by omega
      have HLX := Lib.hid hl
      clear hl hz hln
      go_enter Tryd.func11, Tryd.ntmps11
      go_wp2_with fail
      go_at_call 24; refine (small9_any _ HE.out).mono ?_; rintro e w1 ⟨rfl, B⟩
      go_wp2_with fail
      go_at_call 25; refine (Lex_err s z ln HLX.out _ (HE.out.below B) (by omega)).mono ?_; rintro e w2 ⟨rfl, b⟩
      replace B := B.trans (b.mono B.size)
      clear b
      go_wp2_with fail
      go_ret
      exact ⟨rfl, B⟩
    | ok ts =>
      obtain ⟨hg, hb, hwl⟩ := Lx.lex_back _ _ hl
      have hln := Lx.lex_lines _ _ _ _ (Nat.lt_succ_self _) hl
      obtain ⟨hln, htl, hne⟩ := hln
      rw [bs_len] at hwl htl
      have hpos : 0 < ts.length := List.length_pos_iff.2 hne
      have HLX := Lib.hid hl
      have HLN := Lib.hid hln
      have HG := Lib.hid hg
      have HB := Lib.hid hb
      clear hl hln hg hb hne
      go_enter Tryd.func11, Tryd.ntmps11
      go_wp2_with fail
      go_at_call 24; refine (small9_any _ HE.out).mono ?_; rintro e w1 ⟨rfl, B⟩
      go_wp2_with fail
      go_at_call 25; refine (Lex_ok s ts HLX.out _ (HE.out.below B) (by omega)).mono ?_; rintro e w2 ⟨g, cap, rfl, t1, hc1, hc2, b⟩
      replace B := B.trans (b.mono B.size)
      have T1 := Lib.hid (TK.ts t1 hc1 hc2)
      clear b t1
      generalize hnn : ts.length = n at *
      have HN := Lib.hid hnn
      have n0 : ((n : Int) == 0) = false := beq_eq_false_iff_ne.2 (by omega)
      clear hnn
      go_wp2_with fail
      go_at_call 31; refine (Write_k _ ts _ T1.out (by omega)).mono ?_; rintro e w3 ⟨E, hE1, hE2, rfl, b⟩
      replace B := B.trans (b.mono B.size)
      replace T1 := Lib.hid (T1.out.keep b)
      have HW := Lib.hid hE1
      clear b hE1
      go_wp2_with fail
      go_at_call 25; refine (Lex_ok E ts (by rw [HW.out]; exact HB.out) _ (HE.out.below B) (by omega)).mono ?_; rintro e w4 ⟨g2, cap2, rfl, t2, hd1, hd2, b⟩
      have S2 := Lib.hid (TK.ts t2 hd1 hd2)
      replace B := B.trans (b.mono B.size)
      replace T1 := Lib.hid (T1.out.keep b)
      clear b t2
      go_wp2_with fail
      go_at_call 26; refine (Same_k _ _ ts S2.out T1.out (fun t ht => by have := HLN.out t ht; rw [bs_len] at this; omega)).mono ?_; rintro e w5 ⟨rfl, b⟩
      replace B := B.trans (b.mono B.size)
      replace T1 := Lib.hid (T1.out.keep b)
      clear b S2
      replace B := Lib.hid B
      go_wp2_with fail
      go_loopw [10, 11] (fun li i wr => ∃ k ln : Nat, k ≤ n ∧ ln ≤ 5001 + k ∧ i = .int .i64 k ∧ li = .int .i64 ln ∧ Hid (BackRel ts k ln) ∧ Hid (Below w5.heap.size w5 wr)) (fun _ i _ => n - (intOf i).toNat)
      case atStart => exact ⟨0, 1, by omega, by omega, rfl, rfl, Lib.hid (fun _ => HG.out), Lib.hid (Below.refl _ _)⟩
      case round =>
        obtain ⟨k, ln, hk, hlb, rfl, rfl, HR, HBB⟩ := hrel
        clear HG HB HLX HLN
        by_cases hlt : k < n
        · have hkt : k < ts.length := by rw [HN.out]; exact hlt
          obtain ⟨b0, off, cb, e1, q0, q1, q2, q3⟩ := tok_cells (T1.out.keep HBB.out) n HN.out.symm k hkt
          cases e1
          simp only [Nat.zero_add] at q0 q1 q2 q3
          have kI0 : (0 : Int) ≤ (k : Int) := by omega
          have kI1 : (k : Int) < (n : Int) := by omega
          have kI2 : (k : Int).toNat = k := by omega
          have hnx := back_next hkt HR.out
          generalize ts[k] = t at *
          clear HR
          rcases hnx with ⟨rfl, hend⟩ | ⟨h1, h2, h3, h4⟩
          · have m1 : ((k : Int) == (n : Int) - 1) = true := beq_iff_eq.2 (by rw [HN.out] at hend; omega)
            have hkn : Hid (k + 1 = n) := Lib.hid (by rw [← HN.out]; exact hend)
            clear hend hkt
            go_wp2_with fail
            go_roundw
            case rel => exact ⟨k + 1, ln, by omega, by omega, by go_num, rfl, Lib.hid (fun h => absurd h (by rw [HN.out, ← hkn.out]; omega)), Lib.hid (HBB.out.alloc HBB.out.size _)⟩
            case measure => simp [intOf]; omega
          · obtain ⟨kd, tx, nn, tl⟩ := t
            dsimp only at q0 q1 q2 q3 h1 h3
            subst h1
            have m1 : ((k : Int) == (n : Int) - 1) = false := beq_eq_false_iff_ne.2 (by rw [HN.out] at h4; omega)
            have HX := Lib.hid h3
            clear h3 h4 hkt
            rcases h2 with ⟨hk0, hw, hn0⟩ | ⟨hk0, hn0, hn1, ht⟩ | ⟨hk0, hn0⟩ | ⟨hk0, ht, hn0⟩
            · dsimp only at hk0 hw hn0
              subst hk0 hn0
              have HWD : Hid (Lx.word (bs ⟨tx.toArray⟩) = true) := Lib.hid (by rw [bs_lit0]; exact hw)
              have htx : (⟨tx.toArray⟩ : ByteArray).size ≤ 20 := by
                unfold Lx.word at hw; simp only [Bool.and_eq_true, decide_eq_true_iff] at hw
                rw [← bs_len, bs_lit0]; exact hw.1.2
              clear hw
              go_wp2_with fail
              go_at_call 27; refine (Word_any _ true HWD.out _ (by omega)).mono ?_; rintro e w6 ⟨rfl, rfl⟩
              go_wp2_with fail
              go_roundw
              case rel => exact ⟨k + 1, _, by omega, by omega, by go_num, rfl, HX, Lib.hid (HBB.out.alloc HBB.out.size _)⟩
              case measure => simp [intOf]; omega
            · dsimp only at hk0 hn0 hn1 ht
              subst hk0
              have HTX : Hid (Lib.itoa nn = bs ⟨tx.toArray⟩) := Lib.hid (by rw [bs_lit0]; exact ht.symm)
              have htb := Lib.itoa_length_le nn (by omega) hn1
              generalize hXX : (⟨tx.toArray⟩ : ByteArray) = X at *
              have d0 : decide (nn < 0) = false := decide_eq_false (by omega)
              clear hXX ht htb
              go_wp2_with fail
              generalize hW : World.alloc wr _ = W2
              have b2 : Below wr.heap.size wr W2 := hW ▸ (Below.refl _ _).alloc (Nat.le_refl _) _
              have s1 : W2.cell? ⟨wr.heap.size, 1, none⟩ = some (.string X) := hW ▸ World.cell?_alloc_new _ _ _ _
              have s2 : W2.cell? ⟨wr.heap.size, 2, none⟩ = some (.int .i64 nn) := hW ▸ World.cell?_alloc_new _ _ _ _
              have B2 := Lib.hid (HBB.out.trans (b2.mono HBB.out.size))
              have HE2 := Lib.hid ((HE.out.below (B.out.trans (B2.out.mono B.out.size))).drewN 1)
              clear hW b2 q0 q1 q2 q3
              go_region_held3 (fun w' => w'.cell? ⟨wr.heap.size, 1, none⟩ = some (.string X) ∧ w'.cell? ⟨wr.heap.size, 2, none⟩ = some (.int .i64 nn)) (go_keep)
                ((go_at_call 21; refine (Decimal_is nn X HTX.out (by omega) hn1 _ (by exact HE2.out)).mono ?_; rintro e w6 ⟨rfl, b⟩; have r1 := keep_cell b (cell_lt s1) s1; have r2 := keep_cell b (cell_lt s1) s2))
              go_wp2_with fail
              go_roundw
              case rel => exact ⟨k + 1, _, by omega, by omega, by go_num, rfl, HX, Lib.hid (B2.out.drew.trans (b.mono B2.out.size))⟩
              case measure => simp [intOf]; omega
            · dsimp only at hk0 hn0
              subst hk0 hn0
              go_wp2_with fail
              go_roundw
              case rel => exact ⟨k + 1, _, by omega, by omega, by go_num, rfl, HX, Lib.hid (HBB.out.alloc HBB.out.size _)⟩
              case measure => simp [intOf]; omega
            · dsimp only at hk0 ht hn0
              subst hk0 hn0
              go_wp2_with fail
              go_roundw
              case rel => exact ⟨k + 1, tl + 1, by omega, by omega, by go_num, by go_num, HX, Lib.hid (HBB.out.alloc HBB.out.size _)⟩
              case measure => simp [intOf]; omega
        · go_wp2_with fail
          go_ret
          exact ⟨rfl, B.out.trans (HBB.out.mono B.out.size)⟩
  · have hs' : (5000 : Int) < (s.size : Int) := by omega
    go_enter Tryd.func11, Tryd.ntmps11
    go_wp2_with fail
    go_at_call 24; refine (small9_any _ HE.out).mono ?_; rintro e w1 ⟨rfl, B⟩
    go_wp2_with fail
    go_ret
    exact ⟨rfl, B⟩
end Go.Proofs.YtdjiimblfhbcjaaDoor
