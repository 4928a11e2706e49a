/- A builder of a call's own, and Escape. -/
import Derived.Test.YtdjiimblfhbcjaaDoorTxW
import Derived.Test.YtdjiimblfhbcjaaDoorBld
namespace Go.Proofs.YtdjiimblfhbcjaaDoor
set_option linter.unusedSimpArgs false
open Go.RowKit

theorem u8_back (c : UInt8) : ((c.toNat : Int)).toNat.toUInt8 = c := by simp
/-- A call's own builder: block B, laid first by the call; it holds the bytes l. -/
def Bw (w0 : World) (l : List UInt8) (w : World) : Prop := Lib.IsBuilderF 54 5 w0.heap.size w0.heap.size (Lib.byteCells l) w ∧ Below w0.heap.size w0 w
theorem Bw.start (w : World) : Bw w [] (w.alloc (.cells #[.pointer none, .slice none 0 0] 54)) :=
  ⟨Lib.IsBuilderF.of (Lib.fresh_isBuilder _ _ w), (Below.refl _ w).alloc (Nat.le_refl _) _⟩
theorem Bw.drewN {w0 : World} {l : List UInt8} {w : World} (h : Bw w0 l w) (k : Nat) : Bw w0 l (w.drewN k) :=
  ⟨h.1, h.2.trans ⟨rfl, rfl, rfl, Nat.le_refl _, fun _ _ => rfl⟩⟩
theorem Bw.below {w0 : World} {l : List UInt8} {w : World} (h : Bw w0 l w) : Below w0.heap.size w0 w := h.2
theorem Bw.writeByte {w0 : World} {l : List UInt8} {w : World} (h : Bw w0 l w) (c : UInt8) (hl : l.length + 1 ≤ 140737488355328) :
    Calls Tryd.prog 48 #[.pointer (some ⟨w0.heap.size, 0, none⟩), .int .u8 c.toNat] w fun e w' => e = .returned .nilIface ∧ Bw w0 (l ++ [c]) w' := by
  refine (WriteByte_any w0.heap.size w0.heap.size (Lib.byteCells l) c.toNat w h.1 (by simpa [Lib.byteCells] using hl) h.2.size).mono ?_
  rintro e w' ⟨rfl, h1, h2, -⟩
  refine ⟨rfl, ?_, h.2.trans h2⟩
  have : Lib.byteCells (l ++ [c]) = Lib.byteCells l ++ [.int .u8 c.toNat] := by simp [Lib.byteCells]
  rw [this]; exact h1
theorem Bw.writeString {w0 : World} {l : List UInt8} {w : World} (h : Bw w0 l w) (s : ByteArray) (hl : l.length + s.size ≤ 140737488355328) :
    Calls Tryd.prog 47 #[.pointer (some ⟨w0.heap.size, 0, none⟩), .string s] w fun e w' => e = .returned (.tuple #[.int .i64 s.size, .nilIface]) ∧ Bw w0 (l ++ bs s) w' := by
  refine (WriteString_any w0.heap.size w0.heap.size (Lib.byteCells l) s w h.1 (by simpa [Lib.byteCells] using hl) h.2.size).mono ?_
  rintro e w' ⟨rfl, h1, h2, -⟩
  refine ⟨rfl, ?_, h.2.trans h2⟩
  have : Lib.byteCells (l ++ bs s) = Lib.byteCells l ++ Lib.strCells s := by rw [Lib.strCells_eq]; simp [Lib.byteCells, bs]
  rw [this]; exact h1
theorem Bw.string {w0 : World} {l : List UInt8} {w : World} (h : Bw w0 l w) :
    Calls Tryd.prog 49 #[.pointer (some ⟨w0.heap.size, 0, none⟩)] w fun e w' => e = .returned (.string ⟨l.toArray⟩) ∧ Bw w0 l w' := by
  refine (Tryd.Builder_String_any_k w0.heap.size w0.heap.size l w h.1 h.2.size).mono ?_
  rintro e w' ⟨rfl, h1, h2, -⟩
  exact ⟨rfl, h1, h.2.trans h2⟩

def escB (c : UInt8) : List UInt8 := if 0 ≤ Lib.indexByte [42, 63, 91, 92] c then [92, c] else [c]
def esc (l : List UInt8) : List UInt8 := l.flatMap escB
theorem esc_len (l : List UInt8) : (esc l).length ≤ 2 * l.length := by
  induction l with
  | nil => simp [esc]
  | cons a l ih =>
    have : (escB a).length ≤ 2 := by unfold escB; split <;> simp
    simp only [esc, List.flatMap_cons, List.length_append, List.length_cons] at ih ⊢; omega

set_option maxHeartbeats 4000000 in
theorem Escape_any (s : ByteArray) (w : World) (hs : s.size ≤ 1073741824) :
    Calls Tryd.prog 19 #[.string s] w fun e w' => e = .returned (.string ⟨(esc (bs s)).toArray⟩) ∧ Below w.heap.size w w' := by
  have H0 := Lib.hid (Bw.start w)
  go_enter Tryd.func19, Tryd.ntmps19
  go_wp2_with fail
  go_loopw [7] (fun iv wr => ∃ k : Nat, k ≤ s.size ∧ iv = .int .i64 k ∧ Hid (Bw w (esc ((bs s).take k)) wr)) (fun iv _ => s.size - (intOf iv).toNat)
  case atStart => exact ⟨0, by omega, rfl, H0⟩
  case round =>
    obtain ⟨k, hk, rfl, HB⟩ := hrel
    by_cases hlt : k < s.size
    · have hC := fun w => Tryd.strings_IndexByte ⟨#[42, 63, 91, 92]⟩ s[k].toNat w
      rw [u8_back] at hC
      have hstep : esc ((bs s).take (k + 1)) = esc ((bs s).take k) ++ escB s[k] := by
        rw [bs_take s k hlt]; simp [esc]
      have hlen : (esc ((bs s).take k)).length ≤ 2 * k := by
        refine Nat.le_trans (esc_len _) ?_; rw [List.length_take]; omega
      unfold escB at hstep
      obtain ⟨q, hq⟩ : ∃ q, q = Lib.indexByte [42, 63, 91, 92] s[k] := ⟨_, rfl⟩
      replace hC : ∀ w, Calls Tryd.prog 53 #[.string ⟨#[42, 63, 91, 92]⟩, .int .u8 s[k].toNat] w fun e w' => e = .returned (.int .i64 q) ∧ w' = w := by rw [hq]; exact hC
      rw [← hq] at hstep
      obtain ⟨l, hl⟩ : ∃ l, l = esc ((bs s).take k) := ⟨_, rfl⟩
      rw [← hl] at HB hstep hlen
      have HC := Lib.hid hC
      clear hC hq hl
      by_cases h0 : 0 ≤ q
      · rw [if_pos h0] at hstep
        have HS := Lib.hid hstep
        clear hstep
        go_wp2_with fail
        go_at_call 53; refine (HC.out _).mono ?_; rintro e w' ⟨rfl, rfl⟩
        go_wp2_with fail
        go_at_call 48; refine (HB.out.writeByte 92 (by omega)).mono ?_; rintro e w1 ⟨rfl, HB1⟩
        replace HB1 := Lib.hid HB1
        go_wp2_with fail
        go_at_call 48; refine (HB1.out.writeByte s[k] (by simp; omega)).mono ?_; rintro e w2 ⟨rfl, HB2⟩
        replace HB2 := Lib.hid HB2
        go_wp2_with fail
        go_roundw
        case rel => exact ⟨k + 1, by omega, by go_num, by rw [HS.out]; simpa using HB2⟩
        case measure => simp [intOf]; omega
      · rw [if_neg h0] at hstep
        have HS := Lib.hid hstep
        clear hstep
        go_wp2_with fail
        go_at_call 53; refine (HC.out _).mono ?_; rintro e w' ⟨rfl, rfl⟩
        go_wp2_with fail
        go_at_call 48; refine (HB.out.writeByte s[k] (by simp; omega)).mono ?_; rintro e w2 ⟨rfl, HB2⟩
        replace HB2 := Lib.hid HB2
        go_wp2_with fail
        go_roundw
        case rel => exact ⟨k + 1, by omega, by go_num, by rw [HS.out]; exact HB2⟩
        case measure => simp [intOf]; omega
    · obtain rfl : k = s.size := by omega
      rw [show (bs s).take s.size = bs s by rw [← bs_len, List.take_length]] at HB
      go_wp2_with fail
      go_at_call 49; refine HB.out.string.mono ?_; rintro e w2 ⟨rfl, HB2⟩
      replace HB2 := Lib.hid HB2
      go_wp2_with fail
      go_ret
      exact ⟨rfl, HB2.out.below⟩
end Go.Proofs.YtdjiimblfhbcjaaDoor
