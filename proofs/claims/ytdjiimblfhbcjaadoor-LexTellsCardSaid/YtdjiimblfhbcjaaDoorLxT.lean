/- Walks of package lex: Write. -/
import Derived.Test.YtdjiimblfhbcjaaDoorLxC
import Derived.Test.YtdjiimblfhbcjaaDoorLxLaw2
namespace Go.Proofs.YtdjiimblfhbcjaaDoor
set_option linter.unusedSimpArgs false
open Go.RowKit

theorem tok_cells {w : World} {v : Value} {ts : List Lx.Tok} (h : TS w v ts) (n : Nat) (hn : n = ts.length) (k : Nat) (hk : k < ts.length) :
    ∃ (b off cap : Nat), v = .slice (some ⟨b, off, none⟩) n cap ∧
      w.cell? ⟨b, off + k * 4, none⟩ = some (.int .i64 ts[k].kind) ∧ w.cell? ⟨b, off + k * 4 + 1, none⟩ = some (.string ⟨ts[k].text.toArray⟩) ∧ w.cell? ⟨b, off + k * 4 + 2, none⟩ = some (.int .i64 ts[k].n) ∧ w.cell? ⟨b, off + k * 4 + 3, none⟩ = some (.int .i64 ts[k].line) := by
  subst hn
  obtain ⟨a, c, rfl, -, -, -, -, hc⟩ := h
  obtain ⟨b, off, rfl, h1⟩ := hc k hk
  exact ⟨b, off, c, rfl, h1⟩
theorem write_take (ts : List Lx.Tok) (k : Nat) (hk : k < ts.length) : Lx.write (ts.take (k + 1)) = Lx.write (ts.take k) ++ Lx.write1 ts[k] := by
  rw [List.take_succ_eq_append_getElem hk]
  unfold Lx.write
  rw [List.flatMap_append]; congr 1; exact List.append_nil _
theorem write_le (ts : List Lx.Tok) (k : Nat) : (Lx.write (ts.take k)).length ≤ (Lx.write ts).length := by
  have h : Lx.write ts = Lx.write (ts.take k) ++ Lx.write (ts.drop k) := by
    conv => lhs; rw [← List.take_append_drop k ts]
    unfold Lx.write
    exact List.flatMap_append
  rw [h, List.length_append]; omega
theorem write1_le (ts : List Lx.Tok) (k : Nat) (hk : k < ts.length) : (Lx.write (ts.take k)).length + (Lx.write1 ts[k]).length ≤ (Lx.write ts).length := by
  have := write_le ts (k + 1)
  rw [write_take ts k hk, List.length_append] at this; exact this
theorem quote_len (l : List UInt8) : l.length ≤ (quote l).length := by
  have : ∀ l : List UInt8, l.length ≤ (qb l).length := by
    intro l
    induction l with
    | nil => simp
    | cons c l ih =>
      have h1 : 1 ≤ (qt1 c).length := by unfold qt1; split <;> (try split) <;> (try split) <;> simp
      show _ ≤ (qt1 c ++ qb l).length
      rw [List.length_append, List.length_cons]; omega
  have := this l
  unfold quote; simp; omega
theorem Bw.alloc {w0 : World} {l : List UInt8} {w : World} (h : Bw w0 l w) (o : Obj) : Bw w0 l (w.alloc o) := h.keep ((Below.refl _ _).alloc (Nat.le_refl _) o)

set_option maxRecDepth 100000 in
set_option maxHeartbeats 16000000 in
theorem Write_any (v : Value) (ts : List Lx.Tok) (w : World) (h : TS w v ts) (hs : (Lx.write ts).length ≤ 1000000) :
    Calls Tryd.prog 31 #[v] w fun e w' => e = .returned (.string ⟨(Lx.write ts).toArray⟩) ∧ Below w.heap.size w w' := by
  obtain ⟨a, ca, rfl, hla⟩ := h.len
  obtain ⟨n, hn⟩ : ∃ n, n = ts.length := ⟨_, rfl⟩
  rw [← hn] at h hla ⊢
  have HT := Lib.hid h
  have HN := Lib.hid hn
  have H0 := Lib.hid (Bw.start w)
  clear h hn
  go_enter Tryd.func31, Tryd.ntmps31
  go_wp2_with fail
  go_loopw [8] (fun i wr => ∃ k : Nat, k ≤ n ∧ i = .int .i64 k ∧ Hid (Bw w (Lx.write (ts.take k)) wr)) (fun i _ => n - (intOf i).toNat)
  case atStart => exact ⟨0, by omega, rfl, H0⟩
  case round =>
    obtain ⟨k, hk, rfl, HB⟩ := hrel
    clear H0
    by_cases hlt : k < n
    · have hkt : k < ts.length := by rw [← HN.out]; exact hlt
      obtain ⟨b, off, cb, e1, q0, q1, q2, q3⟩ := tok_cells (HT.out.keep HB.out.below) n HN.out k hkt
      cases e1
      have kI0 : (0 : Int) ≤ (k : Int) := by omega
      have kI1 : (k : Int) < (n : Int) := by omega
      have kI2 : (k : Int).toNat = k := by omega
      have hw1 := write1_le ts k hkt
      have hwt := Lib.hid (write_take ts k hkt)
      generalize ts[k] = t at *
      generalize hWl : Lx.write (ts.take k) = L at *
      clear hWl
      obtain ⟨kd, tx, nn, ln⟩ := t
      dsimp only at q0 q1 q2 q3
      by_cases h01 : kd = 0 ∨ kd = 1
      · have e1 : Lx.write1 ⟨kd, tx, nn, ln⟩ = tx ++ [32] := by rw [Lx.write1, if_pos h01]
        rw [e1] at hw1 hwt
        rw [List.length_append, List.length_singleton] at hw1
        have HW := Lib.hid (show Lx.write (ts.take (k + 1)) = L ++ (tx ++ [32]) from hwt.out)
        clear e1 hwt
        have htl : tx.length ≤ 1000000 := by omega
        rcases h01 with rfl | rfl
        all_goals
          go_wp2_with fail
          go_at_call 47; refine ((HB.out.alloc _).writeString _ (by rw [size_app2, ← bs_len, bs_lit0]; rw [show (⟨#[32]⟩ : ByteArray).size = 1 from rfl]; omega)).mono ?_; rintro e w' ⟨rfl, h2⟩
          rw [bs_app2, bs_lit0, show bs ⟨#[32]⟩ = [32] from rfl] at h2
          have HB2 := Lib.hid h2
          clear h2
          go_wp2_with fail
          go_roundw
          case rel => exact ⟨k + 1, by omega, by go_num, by rw [HW.out]; exact HB2⟩
          case measure => simp [intOf]; omega
      · have n0 : ((kd : Int) == 0) = false := beq_eq_false_iff_ne.2 (by omega)
        have n1 : ((kd : Int) == 1) = false := beq_eq_false_iff_ne.2 (by omega)
        by_cases h2 : kd = 2
        · subst h2
          have e1 : Lx.write1 ⟨2, tx, nn, ln⟩ = quote tx ++ [32] := by rw [Lx.write1, if_neg (by simp), if_pos rfl]
          rw [e1] at hw1 hwt
          have hql := quote_len tx
          rw [List.length_append, List.length_singleton] at hw1
          have HW := Lib.hid (show Lx.write (ts.take (k + 1)) = L ++ (quote tx ++ [32]) from hwt.out)
          clear e1 hwt h01 n0 n1
          go_wp2_with fail
          go_at_call 23; refine (Quote_l tx _ (by omega)).mono ?_; rintro e w2 ⟨rfl, b2⟩
          have HB1 := Lib.hid ((HB.out.alloc _).keep b2)
          clear b2
          go_wp2_with fail
          go_at_call 47; refine (HB1.out.writeString _ (by rw [size_app2, ← bs_len, bs_lit0]; rw [show (⟨#[32]⟩ : ByteArray).size = 1 from rfl]; omega)).mono ?_; rintro e w' ⟨rfl, h2⟩
          rw [bs_app2, bs_lit0, show bs ⟨#[32]⟩ = [32] from rfl] at h2
          have HB2 := Lib.hid h2
          clear h2
          go_wp2_with fail
          go_roundw
          case rel => exact ⟨k + 1, by omega, by go_num, by rw [HW.out]; exact HB2⟩
          case measure => simp [intOf]; omega
        · have n2 : ((kd : Int) == 2) = false := beq_eq_false_iff_ne.2 (by omega)
          by_cases h3 : kd = 3
          · subst h3
            have e1 : Lx.write1 ⟨3, tx, nn, ln⟩ = [10] := by rw [Lx.write1, if_neg (by simp), if_neg (by simp), if_pos rfl]
            rw [e1] at hw1 hwt
            rw [List.length_singleton] at hw1
            have HW := Lib.hid (show Lx.write (ts.take (k + 1)) = L ++ [10] from hwt.out)
            clear e1 hwt h01 n0 n1 n2 h2
            go_wp2_with fail
            go_at_call 48; refine ((HB.out.alloc _).writeByte 10 (by omega)).mono ?_; rintro e w' ⟨rfl, h2⟩
            have HB2 := Lib.hid h2
            clear h2
            go_wp2_with fail
            go_roundw
            case rel => exact ⟨k + 1, by omega, by go_num, by rw [HW.out]; exact HB2⟩
            case measure => simp [intOf]; omega
          · have n3 : ((kd : Int) == 3) = false := beq_eq_false_iff_ne.2 (by omega)
            have e1 : Lx.write1 ⟨kd, tx, nn, ln⟩ = [] := by rw [Lx.write1, if_neg h01, if_neg h2, if_neg h3]
            rw [e1] at hwt
            have HW := Lib.hid (show Lx.write (ts.take (k + 1)) = L ++ [] from hwt.out)
            clear e1 hwt h01 h2 h3 hw1
            go_wp2_with fail
            go_roundw
            case rel => exact ⟨k + 1, by omega, by go_num, by rw [HW.out, List.append_nil]; exact Lib.hid (HB.out.alloc _)⟩
            case measure => simp [intOf]; omega
    · have hkn : ts.take k = ts := List.take_of_length_le (by rw [← HN.out]; omega)
      rw [hkn] at HB
      clear hkn
      go_wp2_with fail
      go_at_call 49; refine HB.out.string.mono ?_; rintro e w2 ⟨rfl, h2⟩
      have HB2 := Lib.hid h2
      clear h2
      go_wp2_with fail
      go_ret
      exact ⟨rfl, HB2.out.below⟩
end Go.Proofs.YtdjiimblfhbcjaaDoor
