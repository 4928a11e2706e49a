/- Walks of taquinref09: Write, and Lex of what is too long. -/
import Derived.Test.YtdjiimblfhbcjaaDoorR9e
import Derived.Test.YtdjiimblfhbcjaaDoorLxT
namespace Go.Proofs.YtdjiimblfhbcjaaDoor
set_option linter.unusedSimpArgs false
open Go.RowKit

theorem of_bs {s : ByteArray} {l : List UInt8} (h : bs s = l) : s = ⟨l.toArray⟩ := by subst h; cases s; simp [bs]

set_option maxRecDepth 100000 in
set_option maxHeartbeats 16000000 in
theorem r9Write_any (v : Value) (ts : List Lx.Tok) (w : World) (h : TS w v ts) (hs : (Lx.write ts).length ≤ 1000000) :
    Calls Tryd.prog 32 #[v] w fun e w' => e = .returned (.string ⟨(Lx.write ts).toArray⟩) ∧ Below w.heap.size w w' := by
  obtain ⟨a, ca, rfl, hla⟩ := h.len
  obtain ⟨n, hn⟩ : ∃ n, n = ts.length := ⟨_, rfl⟩
  rw [← hn] at h hla ⊢
  have HT := Lib.hid h
  have HN := Lib.hid hn
  clear h hn
  go_enter Tryd.func32, Tryd.ntmps32
  go_wp2_with fail
  go_loopw [3, 4] (fun o i wr => ∃ (k : Nat) (s : ByteArray), k ≤ n ∧ i = .int .i64 k ∧ o = .string s ∧ Hid (bs s = Lx.write (ts.take k)) ∧ Hid (Below w.heap.size w wr)) (fun _ i _ => n - (intOf i).toNat)
  case atStart => exact ⟨0, ⟨#[]⟩, by omega, rfl, rfl, Lib.hid (by rfl), Lib.hid (Below.refl _ _)⟩
  case round =>
    obtain ⟨k, s, hk, rfl, rfl, HW0, HB⟩ := hrel
    by_cases hlt : k < n
    · have hkt : k < ts.length := by rw [← HN.out]; exact hlt
      obtain ⟨b, off, cb, e1, q0, q1, q2, q3⟩ := tok_cells (HT.out.keep HB.out) n HN.out k hkt
      cases e1
      have kI0 : (0 : Int) ≤ (k : Int) := by omega
      have kI1 : (k : Int) < (n : Int) := by omega
      have kI2 : (k : Int).toNat = k := by omega
      have hw1 := write1_le ts k hkt
      have hwt := Lib.hid (write_take ts k hkt)
      generalize ts[k] = t at *
      rw [← HW0.out] at hwt hw1
      obtain ⟨kd, tx, nn, ln⟩ := t
      dsimp only at q0 q1 q2 q3
      by_cases h01 : kd = 0 ∨ kd = 1
      · have e1 : Lx.write1 ⟨kd, tx, nn, ln⟩ = tx ++ [32] := by rw [Lx.write1, if_pos h01]
        rw [e1, List.length_append, bs_len, List.length_singleton] at hw1
        rw [e1] at hwt
        have na : ¬ 9223372036854775807 < s.size + tx.length := by omega
        have nb : ¬ 9223372036854775807 < s.size + tx.length + 1 := by omega
        have HW : Hid (bs (s ++ ⟨tx.toArray⟩ ++ ⟨#[32]⟩) = Lx.write (ts.take (k + 1))) := Lib.hid (by rw [hwt.out, bs_app2, bs_app2, bs_lit0 tx, show bs ⟨#[32]⟩ = [32] from rfl, List.append_assoc])
        clear e1 hwt hw1
        rcases h01 with rfl | rfl
        all_goals
          go_wp2_with fail
          go_roundw
          case rel => exact ⟨k + 1, _, by omega, by go_num, rfl, HW, HB⟩
          case measure => simp [intOf]; omega
      · have n0 : ((kd : Int) == 0) = false := beq_eq_false_iff_ne.2 (by omega)
        have n1 : ((kd : Int) == 1) = false := beq_eq_false_iff_ne.2 (by omega)
        by_cases h2 : kd = 2
        · subst h2
          have e1 : Lx.write1 ⟨2, tx, nn, ln⟩ = quote tx ++ [32] := by rw [Lx.write1, if_neg (by simp), if_pos rfl]
          rw [e1, List.length_append, bs_len, List.length_singleton] at hw1
          rw [e1] at hwt
          have hql := quote_len tx
          have htl : tx.length ≤ 1000000 := by omega
          have na : ¬ 9223372036854775807 < s.size + (quote tx).length := by omega
          have nb : ¬ 9223372036854775807 < s.size + (quote tx).length + 1 := by omega
          have HW : Hid (bs (s ++ ⟨(quote tx).toArray⟩ ++ ⟨#[32]⟩) = Lx.write (ts.take (k + 1))) := Lib.hid (by rw [hwt.out, bs_app2, bs_app2, bs_lit0 (quote tx), show bs ⟨#[32]⟩ = [32] from rfl, List.append_assoc])
          clear e1 hwt h01 n0 n1
          go_wp2_with fail
          go_at_call 37; refine (rQuote_l tx _ (by omega)).mono ?_; rintro e w2 ⟨rfl, b2⟩
          have HB2 := Lib.hid (HB.out.trans (b2.mono HB.out.size))
          clear b2
          go_wp2_with fail
          go_roundw
          case rel => exact ⟨k + 1, _, by omega, by go_num, rfl, HW, HB2⟩
          case measure => simp [intOf]; omega
        · have n2 : ((kd : Int) == 2) = false := beq_eq_false_iff_ne.2 (by omega)
          by_cases h3 : kd = 3
          · subst h3
            have e1 : Lx.write1 ⟨3, tx, nn, ln⟩ = [10] := by rw [Lx.write1, if_neg (by simp), if_neg (by simp), if_pos rfl]
            rw [e1, bs_len, List.length_singleton] at hw1
            rw [e1] at hwt
            have nb : ¬ 9223372036854775807 < s.size + 1 := by omega
            have HW : Hid (bs (s ++ ⟨#[10]⟩) = Lx.write (ts.take (k + 1))) := Lib.hid (by rw [hwt.out, bs_app2]; rfl)
            clear e1 hwt h01 n0 n1 n2 h2 hw1
            go_wp2_with fail
            go_roundw
            case rel => exact ⟨k + 1, _, by omega, by go_num, rfl, HW, HB⟩
            case measure => simp [intOf]; omega
          · have n3 : ((kd : Int) == 3) = false := beq_eq_false_iff_ne.2 (by omega)
            have e1 : Lx.write1 ⟨kd, tx, nn, ln⟩ = [] := by rw [Lx.write1, if_neg h01, if_neg h2, if_neg h3]
            rw [e1] at hwt
            have HW : Hid (bs s = Lx.write (ts.take (k + 1))) := Lib.hid (by rw [hwt.out, List.append_nil])
            clear e1 hwt h01 h2 h3 hw1
            go_wp2_with fail
            go_roundw
            case rel => exact ⟨k + 1, _, by omega, by go_num, rfl, HW, HB⟩
            case measure => simp [intOf]; omega
    · have hkn : ts.take k = ts := List.take_of_length_le (by rw [← HN.out]; omega)
      rw [hkn] at HW0
      obtain rfl := of_bs HW0.out
      go_wp2_with fail
      go_ret
      exact ⟨rfl, HB.out⟩
set_option maxRecDepth 100000 in
set_option maxHeartbeats 4000000 in
theorem r9Lex_long (src : ByteArray) (w : World) (hs : 20000 < src.size) :
    Calls Tryd.prog 30 #[.string src] w fun e w' => e = .returned (.tuple #[.slice none 0 0, .int .i64 6, .int .i64 0]) ∧ Below w.heap.size w w' := by
  have h20 : (20000 : Int) < (src.size : Int) := by omega
  go_enter Tryd.func30, Tryd.ntmps30
  go_wp2_with fail
  go_ret3
  exact ⟨rfl, Below.refl _ _⟩
set_option maxRecDepth 100000 in
set_option maxHeartbeats 4000000 in
theorem Lex_long (src : ByteArray) (w : World) (hs : 20000 < src.size) :
    Calls Tryd.prog 25 #[.string src] w fun e w' => e = .returned (.tuple #[.slice none 0 0, .int .i64 6, .int .i64 0]) ∧ Below w.heap.size w w' := by
  have h20 : (20000 : Int) < (src.size : Int) := by omega
  go_enter Tryd.func25, Tryd.ntmps25
  go_wp2_with fail
  go_ret3
  exact ⟨rfl, Below.refl _ _⟩
end Go.Proofs.YtdjiimblfhbcjaaDoor
