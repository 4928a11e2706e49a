/- LexTells. -/
import Derived.Test.YtdjiimblfhbcjaaDoorR9f
import Derived.Test.YtdjiimblfhbcjaaDoorLxLaw3
namespace Go.Proofs.YtdjiimblfhbcjaaDoor
set_option linter.unusedSimpArgs false
open Go.RowKit

/-- What both lexers answer. -/
def LexOut (ts : List Lx.Tok) (z ln : Nat) (w : World) (e : Ending) (w' : World) : Prop :=
  ∃ v, e = .returned (.tuple #[v, .int .i64 z, .int .i64 ln]) ∧ TS w' v ts ∧ Below w.heap.size w w'
theorem LexPost.outOk {G : Except (Nat × Nat) (List Lx.Tok)} {ts : List Lx.Tok} (hG : G = .ok ts) {w w' : World} {e : Ending} (h : LexPost G w e w') : LexOut ts 0 0 w e w' := by
  subst hG; obtain ⟨v, h1, h2, _, h3⟩ := h; exact ⟨v, h1, h2, h3⟩
theorem LexPost.outBad {G : Except (Nat × Nat) (List Lx.Tok)} {x : Nat × Nat} (hG : G = .error x) {w w' : World} {e : Ending} (h : LexPost G w e w') : LexOut [] x.1 x.2 w e w' := by
  subst hG; exact ⟨_, h.1, TS.nil _, h.2⟩
theorem lex_both (src : ByteArray) (hs : src.size ≤ 21000) : ∃ (ts : List Lx.Tok) (z ln : Nat), (Lx.write ts).length ≤ 100000 ∧ (∀ t ∈ ts, t.line ≤ 1000000000) ∧
    (∀ W, Env W → Calls Tryd.prog 25 #[.string src] W (LexOut ts z ln W)) ∧ (∀ W, Calls Tryd.prog 30 #[.string src] W (LexOut ts z ln W)) := by
  by_cases h20 : src.size ≤ 20000
  · cases hl : Lx.lex (bs src) 1 with
    | ok ts =>
      refine ⟨ts, 0, 0, ?_, ?_, fun W hE => (Lex_any src W hE h20).mono (fun _ _ h => h.outOk hl), fun W => (r9Lex_any src W h20).mono (fun _ _ h => h.outOk hl)⟩
      · have := (Lx.lex_back _ _ hl).2.2
        rw [bs_len] at this; omega
      · have := (Lx.lex_lines _ _ _ _ (Nat.lt_succ_self _) hl).1
        intro t ht
        have := this t ht
        rw [bs_len] at this; omega
    | error x =>
      exact ⟨[], x.1, x.2, by decide, (fun t ht => by cases ht), fun W hE => (Lex_any src W hE h20).mono (fun _ _ h => h.outBad hl), fun W => (r9Lex_any src W h20).mono (fun _ _ h => h.outBad hl)⟩
  · refine ⟨[], 6, 0, by decide, (fun t ht => by cases ht), fun W _ => (Lex_long src W (by omega)).mono ?_, fun W => (r9Lex_long src W (by omega)).mono ?_⟩
    · rintro e w' ⟨rfl, h⟩; exact ⟨_, rfl, TS.nil _, h⟩
    · rintro e w' ⟨rfl, h⟩; exact ⟨_, rfl, TS.nil _, h⟩

set_option maxRecDepth 100000 in
set_option maxHeartbeats 16000000 in
theorem LexTells_any (s : ByteArray) (w : World) (hE : Env w) :
    Calls Tryd.prog 10 #[.string s] w fun e w' => e = .returned (.bool true) ∧ Below w.heap.size w w' := by
  have HE := Lib.hid hE
  clear hE
  by_cases hs : s.size ≤ 21000
  · obtain ⟨ts, z, ln, h1, h2, h3, h4⟩ := lex_both s hs
    have H2 := Lib.hid h2
    have H3 := Lib.hid h3
    have H4 := Lib.hid h4
    obtain ⟨q, hq⟩ : ∃ q, Lx.word (bs s) = q := ⟨_, rfl⟩
    have HQ := Lib.hid hq
    clear h2 h3 h4 hq
    go_enter Tryd.func10, Tryd.ntmps10
    go_wp2_with fail
    go_at_call 24; refine (small9_any _ HE.out).mono ?_; rintro e w1 ⟨rfl, B⟩
    go_wp2_with fail
    go_at_call 25; refine (H3.out _ (HE.out.below B)).mono ?_; rintro e w2 ⟨v1, rfl, t1, b⟩
    have T1 := Lib.hid t1
    replace B := B.trans (b.mono B.size)
    clear b t1
    go_wp2_with fail
    go_at_call 30; refine (H4.out _).mono ?_; rintro e w3 ⟨v2, rfl, t2, b⟩
    have T2 := Lib.hid t2
    replace T1 := Lib.hid (T1.out.keep b)
    replace B := B.trans (b.mono B.size)
    clear b t2
    go_wp2_with fail
    go_at_call 26; refine (Same_k _ _ ts T1.out T2.out H2.out).mono ?_; rintro e w4 ⟨rfl, b⟩
    replace T1 := Lib.hid (T1.out.keep b)
    replace T2 := Lib.hid (T2.out.keep b)
    replace B := B.trans (b.mono B.size)
    clear b
    go_wp2_with fail
    go_at_call 31; refine (Write_any _ ts _ T1.out (by omega)).mono ?_; rintro e w5 ⟨rfl, b⟩
    replace T2 := Lib.hid (T2.out.keep b)
    replace B := B.trans (b.mono B.size)
    clear b T1
    go_wp2_with fail
    go_at_call 32; refine (r9Write_any _ ts _ T2.out (by omega)).mono ?_; rintro e w6 ⟨rfl, b⟩
    replace B := B.trans (b.mono B.size)
    clear b T2
    go_wp2_with fail
    go_at_call 27; refine (Word_any _ q HQ.out _ (by omega)).mono ?_; rintro e w7 ⟨rfl, rfl⟩
    go_wp2_with fail
    go_at_call 33; refine (r9Word_any _ q HQ.out _ (by omega)).mono ?_; rintro e w7 ⟨rfl, rfl⟩
    go_wp2_with fail
    go_ret
    exact ⟨rfl, B⟩
  · have hs' : (21000 : Int) < (s.size : Int) := by omega
    go_enter Tryd.func10, Tryd.ntmps10
    go_wp2_with fail
    go_at_call 24; refine (small9_any _ HE.out).mono ?_; rintro e w1 ⟨rfl, B⟩
    go_wp2_with fail
    go_ret
    exact ⟨rfl, B⟩
end Go.Proofs.YtdjiimblfhbcjaaDoor
