/- What Lex hands back, cell by cell; bad and small of taquinlaw09. -/
import Derived.Test.YtdjiimblfhbcjaaDoorLxZ
import Derived.Laws.StructEq
namespace Go.Proofs.YtdjiimblfhbcjaaDoor
set_option linter.unusedSimpArgs false
open Go.RowKit

/-- Block g holds these tokens from its head on. -/
def TK (w : World) (g : Nat) (ts : List Lx.Tok) : Prop := ∀ i, (h : i < ts.length) →
  w.cell? ⟨g, i * 4, none⟩ = some (.int .i64 ts[i].kind) ∧ w.cell? ⟨g, i * 4 + 1, none⟩ = some (.string ⟨ts[i].text.toArray⟩) ∧
  w.cell? ⟨g, i * 4 + 2, none⟩ = some (.int .i64 ts[i].n) ∧ w.cell? ⟨g, i * 4 + 3, none⟩ = some (.int .i64 ts[i].line)
theorem TK.keep {w W : World} {g : Nat} {ts : List Lx.Tok} (h : TK w g ts) (hb : Below w.heap.size w W) : TK W g ts := by
  intro i hi
  obtain ⟨h2, h3, h4, h5⟩ := h i hi
  have hlt := cell_lt h2
  exact ⟨(hb.cell hlt).trans h2, (hb.cell (p := ⟨g, i * 4 + 1, none⟩) hlt).trans h3, (hb.cell (p := ⟨g, i * 4 + 2, none⟩) hlt).trans h4, (hb.cell (p := ⟨g, i * 4 + 3, none⟩) hlt).trans h5⟩
theorem Lex_ok (src : ByteArray) (ts : List Lx.Tok) (h : Lx.lex (bs src) 1 = .ok ts) (w : World) (hE : Env w) (hs : src.size ≤ 20000) :
    Calls Tryd.prog 25 #[.string src] w fun e w' => ∃ g cap, e = .returned (.tuple #[.slice (some ⟨g, 0, none⟩) ts.length cap, .int .i64 0, .int .i64 0]) ∧ TK w' g ts ∧ ts.length ≤ cap ∧ cap ≤ maxLen ∧ Below w.heap.size w w' := by
  have hL := Lex_any src w hE hs
  rw [h] at hL
  refine hL.mono ?_
  rintro e w' ⟨v, rfl, ⟨a, cap, rfl, hm, hn, hc1, hc2, hc⟩, hz, hb⟩
  have hpos : 0 < ts.length := by
    cases ts with
    | nil =>
      have := (Lx.lex_back _ _ h).1
      cases this
    | cons _ _ => simp
  obtain ⟨b, off, rfl, -⟩ := hc 0 hpos
  obtain ⟨rfl, -⟩ := hz _ _ _ _ _ rfl
  refine ⟨b, cap, rfl, ?_, hc1, hc2, hb⟩
  intro i hi
  obtain ⟨b', off', e1, h2, h3, h4, h5⟩ := hc i hi
  cases e1
  simp only [Nat.zero_add] at h2 h3 h4 h5
  exact ⟨h2, h3, h4, h5⟩
theorem Lex_err (src : ByteArray) (z ln : Nat) (h : Lx.lex (bs src) 1 = .error (z, ln)) (w : World) (hE : Env w) (hs : src.size ≤ 20000) :
    Calls Tryd.prog 25 #[.string src] w fun e w' => e = .returned (.tuple #[.slice none 0 0, .int .i64 z, .int .i64 ln]) ∧ Below w.heap.size w w' := by
  have hL := Lex_any src w hE hs
  rw [h] at hL
  exact hL
theorem bad_is (src : ByteArray) (h : Lx.lex (bs src) 1 = .error (11, 1)) (w : World) (hE : Env w) (hs : src.size ≤ 20000) :
    Calls Tryd.prog 57 #[.string src] w fun e w' => e = .returned (.bool true) ∧ Below w.heap.size w w' := by
  have HC := Lib.hid (fun W hE => Lex_err src 11 1 h W hE hs)
  have HE := Lib.hid hE
  clear h hE
  go_enter Tryd.func57, Tryd.ntmps57
  go_wp2_with fail
  go_at_call 25; refine (HC.out _ HE.out).mono ?_; rintro e w1 ⟨rfl, B⟩
  go_wp2_with fail
  go_ret
  exact ⟨rfl, B⟩

def src1 : ByteArray := ⟨#[122, 111, 110, 101, 32, 99, 111, 108, 100, 45, 49, 32, 49, 50, 32, 35, 32, 99]⟩
def src2 : ByteArray := ⟨#[114, 111, 119, 32, 34, 35, 35, 46, 80, 34]⟩
theorem lex_1 : Lx.lex (bs src1) 1 = .ok [⟨0, [122, 111, 110, 101], 0, 1⟩, ⟨0, [99, 111, 108, 100, 45, 49], 0, 1⟩, ⟨1, [49, 50], 12, 1⟩, ⟨4, [], 0, 1⟩] := by kernel_rfl
theorem lex_2 : Lx.lex (bs src2) 1 = .ok [⟨0, [114, 111, 119], 0, 1⟩, ⟨2, [35, 35, 46, 80], 0, 1⟩, ⟨4, [], 0, 1⟩] := by kernel_rfl
theorem lex_b1 : Lx.lex [48, 49] 1 = .error (11, 1) := by kernel_rfl
theorem lex_b2 : Lx.lex [49, 97] 1 = .error (11, 1) := by kernel_rfl
theorem lex_b3 : Lx.lex [45, 49] 1 = .error (11, 1) := by kernel_rfl
theorem lex_b4 : Lx.lex [34, 97] 1 = .error (11, 1) := by kernel_rfl

set_option maxRecDepth 100000 in
set_option maxHeartbeats 4000000 in
theorem small9_any (w : World) (hE : Env w) : Calls Tryd.prog 24 #[] w fun e w' => e = .returned (.bool true) ∧ Below w.heap.size w w' := by
  have HE := Lib.hid hE
  clear hE
  go_enter Tryd.func24, Tryd.ntmps24
  go_wp2_with fail
  go_at_call 25; refine (Lex_ok src1 _ lex_1 _ HE.out (by decide)).mono ?_; rintro e w1 ⟨g, cap, rfl, t1, hc1, hc2, B⟩
  have T1 := Lib.hid t1
  clear t1
  go_wp2_with fail
  go_at_call 25; refine (Lex_ok src2 _ lex_2 _ (HE.out.below B) (by decide)).mono ?_; rintro e w2 ⟨g2, cap2, rfl, t2, hd1, hd2, b⟩
  have t1 := T1.out.keep b
  have p1 : w2.cell? ⟨g, 1, none⟩ = some (.string ⟨#[122, 111, 110, 101]⟩) := (t1 0 (by simp)).2.1
  have p2 : w2.cell? ⟨g, 5, none⟩ = some (.string ⟨#[99, 111, 108, 100, 45, 49]⟩) := (t1 1 (by simp)).2.1
  have p3 : w2.cell? ⟨g, 10, none⟩ = some (.int .i64 12) := (t1 2 (by simp)).2.2.1
  have p4 : w2.cell? ⟨g, 12, none⟩ = some (.int .i64 4) := (t1 3 (by simp)).1
  have p5 : w2.cell? ⟨g2, 1, none⟩ = some (.string ⟨#[114, 111, 119]⟩) := (t2 0 (by simp)).2.1
  have p6 : w2.cell? ⟨g2, 4, none⟩ = some (.int .i64 2) := (t2 1 (by simp)).1
  have p7 : w2.cell? ⟨g2, 5, none⟩ = some (.string ⟨#[35, 35, 46, 80]⟩) := (t2 1 (by simp)).2.1
  replace B := B.trans (b.mono B.size)
  clear b t1 t2 T1
  simp only [List.length_cons, List.length_nil, Nat.zero_add, Nat.reduceAdd] at hc1 hd1
  go_wp2_with fail
  go_at_call 57; refine (bad_is ⟨#[48, 49]⟩ lex_b1 _ (HE.out.below B) (by decide)).mono ?_; rintro e w2 ⟨rfl, b⟩
  replace B := B.trans (b.mono B.size)
  clear b
  go_wp2_with fail
  go_at_call 57; refine (bad_is ⟨#[49, 97]⟩ lex_b2 _ (HE.out.below B) (by decide)).mono ?_; rintro e w2 ⟨rfl, b⟩
  replace B := B.trans (b.mono B.size)
  clear b
  go_wp2_with fail
  go_at_call 57; refine (bad_is ⟨#[45, 49]⟩ lex_b3 _ (HE.out.below B) (by decide)).mono ?_; rintro e w2 ⟨rfl, b⟩
  replace B := B.trans (b.mono B.size)
  clear b
  go_wp2_with fail
  go_at_call 57; refine (bad_is ⟨#[34, 97]⟩ lex_b4 _ (HE.out.below B) (by decide)).mono ?_; rintro e w2 ⟨rfl, b⟩
  replace B := B.trans (b.mono B.size)
  clear b
  go_wp2_with fail
  go_at_call 27; refine (Word_any ⟨#[97, 45, 49]⟩ true (by decide) _ (by decide)).mono ?_; rintro e w2 ⟨rfl, rfl⟩
  go_wp2_with fail
  go_at_call 27; refine (Word_any ⟨#[45, 97]⟩ false (by decide) _ (by decide)).mono ?_; rintro e w2 ⟨rfl, rfl⟩
  go_wp2_with fail
  go_ret
  exact ⟨rfl, B⟩
end Go.Proofs.YtdjiimblfhbcjaaDoor
