/- LexWhite. -/
import Derived.Test.YtdjiimblfhbcjaaDoorLxC
import Derived.Test.YtdjiimblfhbcjaaDoorLxD
namespace Go.Proofs.YtdjiimblfhbcjaaDoor
set_option linter.unusedSimpArgs false
open Go.RowKit

theorem bs_app2 (a b : ByteArray) : bs (a ++ b) = bs a ++ bs b := by simp [bs]
theorem size_app2 (a b : ByteArray) : (a ++ b).size = a.size + b.size := by rw [← bs_len, bs_app2, List.length_append, bs_len, bs_len]
theorem whites_eq (W s c : ByteArray) (ts : List Lx.Tok) (hW : (bs W).all Lx.white = true) (hn : 0 < W.size) (hc : ∀ x ∈ bs c, x ≠ 10) (h : Lx.lex (bs s) 1 = .ok ts) : Lx.lex (bs (W ++ s ++ W ++ ⟨#[35]⟩ ++ c)) 1 = .ok ts := by
  have hne : bs W ≠ [] := fun e => by rw [← bs_len, e] at hn; simp at hn
  have := Lx.lex_whites (bs W) (bs s) (bs c) ts hW hne hc h
  rw [bs_app2, bs_app2, bs_app2, bs_app2, show bs ⟨#[35]⟩ = [35] from rfl]
  simpa [List.append_assoc] using this
theorem white_step (W X : ByteArray) (k : Nat) (h : (bs W).all Lx.white = true ∧ (bs W).length = k) (hx : ∃ c, bs X = [c] ∧ Lx.white c = true) : (bs (W ++ X)).all Lx.white = true ∧ (bs (W ++ X)).length = k + 1 := by
  rw [bs_app2]
  have := Lx.white_snoc h.1 hx
  rw [h.2] at this; exact this

set_option maxRecDepth 100000 in
set_option maxHeartbeats 16000000 in
theorem LexWhite_any (s c : ByteArray) (n : Int) (w : World) (hE : Env w) :
    Calls Tryd.prog 7 #[.string s, .string c, .int .i64 n] w fun e w' => e = .returned (.bool true) ∧ Below w.heap.size w w' := by
  have HE := Lib.hid hE
  clear hE
  by_cases hs : s.size ≤ 5000
  · by_cases hc : c.size ≤ 100
    · by_cases hn1 : 1 ≤ n
      · by_cases hn2 : n ≤ 100
        · obtain ⟨N, rfl⟩ : ∃ N : Nat, n = (N : Int) := ⟨n.toNat, by omega⟩
          go_enter Tryd.func7, Tryd.ntmps7
          go_wp2_with fail
          go_at_call 24; refine (small9_any _ HE.out).mono ?_; rintro e w1 ⟨rfl, B⟩
          go_wp2_with fail
          go_loop [8] (fun i => ∃ k : Nat, k ≤ c.size ∧ i = .int .i64 k ∧ Hid (∀ x ∈ (bs c).take k, x ≠ 10)) (fun i => c.size - (intOf i).toNat)
          case atStart => exact ⟨0, by omega, rfl, Lib.hid (by simp)⟩
          case round =>
            obtain ⟨k, hk, rfl, HC⟩ := hrel
            by_cases hlt : k < c.size
            · by_cases h10 : c[k] = 10
              · have e10 : ((c[k].toNat : Int) == 10) = true := u8_is (b := 10) h10
                clear h10
                go_wp2_with fail
                go_ret
                exact ⟨rfl, B⟩
              · have e10 : ((c[k].toNat : Int) == 10) = false := u8_ne (b := 10) h10
                have HC2 : Hid (∀ x ∈ (bs c).take (k + 1), x ≠ 10) := Lib.hid (by
                  intro x hx
                  rw [bs_take c k hlt] at hx
                  rcases List.mem_append.1 hx with hx | hx
                  · exact HC.out x hx
                  · obtain rfl := List.mem_singleton.1 hx; exact h10)
                clear h10 HC
                go_wp2_with fail
                go_round
                case rel => exact ⟨k + 1, by omega, by go_num, HC2⟩
                case measure => simp [intOf]; omega
            · have HC2 : Hid (∀ x ∈ bs c, x ≠ 10) := Lib.hid (by
                intro x hx
                refine HC.out x ?_
                rwa [List.take_of_length_le (by rw [bs_len]; omega)])
              clear HC
              go_wp2_with fail
              go_loop [9, 10] (fun v i => ∃ (k : Nat) (W : ByteArray), k ≤ N ∧ i = .int .i64 k ∧ v = .string W ∧ Hid ((bs W).all Lx.white = true ∧ (bs W).length = k)) (fun _ i => N - (intOf i).toNat)
              case atStart => exact ⟨0, ⟨#[]⟩, by omega, rfl, rfl, Lib.hid (by decide)⟩
              case round =>
                obtain ⟨j, W, hj, rfl, rfl, HW⟩ := hrel
                by_cases hjlt : j < N
                · have hWz : W.size ≤ 100 := by rw [← bs_len, HW.out.2]; omega
                  have x0 : (⟨#[32, 9, 13]⟩ : ByteArray).extract 0 1 = ⟨#[32]⟩ := by rfl
                  have x1 : (⟨#[32, 9, 13]⟩ : ByteArray).extract 1 2 = ⟨#[9]⟩ := by rfl
                  have x2 : (⟨#[32, 9, 13]⟩ : ByteArray).extract 2 3 = ⟨#[13]⟩ := by rfl
                  by_cases m0 : (j : Int) % 3 = 0
                  · go_wp2_with fail
                    go_round
                    case rel => exact ⟨j + 1, _, by omega, by go_num, rfl, Lib.hid (white_step _ _ _ HW.out ⟨32, by rfl, by rfl⟩)⟩
                    case measure => simp [intOf]; omega
                  · by_cases m1 : (j : Int) % 3 = 1
                    · clear m0
                      go_wp2_with fail
                      go_round
                      case rel => exact ⟨j + 1, _, by omega, by go_num, rfl, Lib.hid (white_step _ _ _ HW.out ⟨9, by rfl, by rfl⟩)⟩
                      case measure => simp [intOf]; omega
                    · have m2 : (j : Int) % 3 = 2 := by omega
                      clear m0 m1
                      go_wp2_with fail
                      go_round
                      case rel => exact ⟨j + 1, _, by omega, by go_num, rfl, Lib.hid (white_step _ _ _ HW.out ⟨13, by rfl, by rfl⟩)⟩
                      case measure => simp [intOf]; omega
                · obtain rfl : j = N := by omega
                  have hws : 0 < W.size := by rw [← bs_len, HW.out.2]; omega
                  have hws2 : W.size ≤ 100 := by rw [← bs_len, HW.out.2]; omega
                  cases hl : Lx.lex (bs s) 1 with
                  | error x =>
                    obtain ⟨z, ln⟩ := x
                    have hz := (Lx.lex_codes _ _ _ _ (Nat.lt_succ_self _) hl).1
                    dsimp only at hz
                    have ez : ((z : Int) == 0) = false := beq_eq_false_iff_ne.2 (by omega)
                    have nz : ((z : Int) != 0) = true := by rw [bne, ez]; rfl
                    have HLX := Lib.hid hl
                    clear hl hz
                    go_wp2_with fail
                    go_at_call 25; refine (Lex_err s z ln HLX.out _ (HE.out.below B) (by omega)).mono ?_; rintro e w2 ⟨rfl, b⟩
                    replace B := B.trans (b.mono B.size)
                    clear b
                    go_wp2_with fail
                    go_ret
                    exact ⟨rfl, B⟩
                  | ok ts =>
                    have HLX := Lib.hid hl
                    have HLN := Lib.hid (Lx.lex_lines _ _ _ _ (Nat.lt_succ_self _) hl).1
                    clear hl
                    go_wp2_with fail
                    go_at_call 25; refine (Lex_ok s ts HLX.out _ (HE.out.below B) (by omega)).mono ?_; rintro e w2 ⟨g, cap, rfl, t1, hc1, hc2, b⟩
                    replace B := B.trans (b.mono B.size)
                    have T1 := Lib.hid t1
                    clear b t1
                    go_wp2_with fail
                    go_at_call 25; refine (Lex_ok _ ts (by exact whites_eq W s c ts HW.out.1 hws HC2.out HLX.out) _ (HE.out.below B) (by simp only [size_app2]; rw [show (⟨#[35]⟩ : ByteArray).size = 1 from rfl]; omega)).mono ?_; rintro e w3 ⟨g2, cap2, rfl, t2, hd1, hd2, b⟩
                    have S1 := Lib.hid (TK.ts (T1.out.keep b) hc1 hc2)
                    have S2 := Lib.hid (TK.ts t2 hd1 hd2)
                    replace B := B.trans (b.mono B.size)
                    clear b t2 T1
                    go_wp2_with fail
                    go_at_call 26; refine (Same_k _ _ ts S2.out S1.out (fun t ht => by have := HLN.out t ht; rw [bs_len] at this; omega)).mono ?_; rintro e w4 ⟨rfl, b⟩
                    replace B := B.trans (b.mono B.size)
                    clear b
                    go_wp2_with fail
                    go_ret
                    exact ⟨rfl, B⟩
        · have hn2' : (100 : Int) < n := by omega
          go_enter Tryd.func7, Tryd.ntmps7
          go_wp2_with fail
          go_at_call 24; refine (small9_any _ HE.out).mono ?_; rintro e w1 ⟨rfl, B⟩
          go_wp2_with fail
          go_ret
          exact ⟨rfl, B⟩
      · have hn1' : n < 1 := by omega
        go_enter Tryd.func7, Tryd.ntmps7
        go_wp2_with fail
        go_at_call 24; refine (small9_any _ HE.out).mono ?_; rintro e w1 ⟨rfl, B⟩
        go_wp2_with fail
        go_ret
        exact ⟨rfl, B⟩
    · have hc' : (100 : Int) < (c.size : Int) := by omega
      go_enter Tryd.func7, Tryd.ntmps7
      go_wp2_with fail
      go_at_call 24; refine (small9_any _ HE.out).mono ?_; rintro e w1 ⟨rfl, B⟩
      go_wp2_with fail
      go_ret
      exact ⟨rfl, B⟩
  · have hs' : (5000 : Int) < (s.size : Int) := by omega
    go_enter Tryd.func7, Tryd.ntmps7
    go_wp2_with fail
    go_at_call 24; refine (small9_any _ HE.out).mono ?_; rintro e w1 ⟨rfl, B⟩
    go_wp2_with fail
    go_ret
    exact ⟨rfl, B⟩
end Go.Proofs.YtdjiimblfhbcjaaDoor
