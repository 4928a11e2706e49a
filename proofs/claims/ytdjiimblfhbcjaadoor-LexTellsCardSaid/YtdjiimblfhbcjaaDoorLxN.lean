/- Walks of package lex: skip. -/
import Derived.Test.YtdjiimblfhbcjaaDoorLxK
import Derived.Deep.QuietTactic
import Derived.BigQuiet
namespace Go.Proofs.YtdjiimblfhbcjaaDoor
set_option linter.unusedSimpArgs false
open Go.RowKit

/-- Worlds that differ in their draws alone. -/
def SameMem (x w' : World) : Prop := w'.os = x.os ∧ w'.tape = x.tape ∧ w'.output = x.output ∧ w'.heap = x.heap
theorem Scn.same {b : Nat} {src : ByteArray} {k ln : Nat} {ts : List Lx.Tok} {x w' : World} (h : Scn b src k ln ts x) (e : SameMem x w') : Scn b src k ln ts w' := by
  obtain ⟨v, hb, ho⟩ := h
  exact ⟨v, by rw [e.2.2.2]; exact hb, ho.kept (row := none) ⟨e.1, e.2.1, e.2.2.1, by rw [e.2.2.2]; exact Nat.le_refl _, fun k hk _ => by rw [e.2.2.2]⟩ (Classical.em _)⟩
theorem below_same {B : Nat} {a x w' : World} (h : Below B a x) (e : SameMem x w') : Below B a w' :=
  ⟨e.1.trans h.os, e.2.1.trans h.tape, e.2.2.1.trans h.output, by rw [e.2.2.2]; exact h.size, fun k hk => by rw [e.2.2.2]; exact h.block k hk⟩
theorem Scn.atI {b : Nat} {src : ByteArray} {k ln : Nat} {ts : List Lx.Tok} {w : World} (h : Scn b src k ln ts w) (k' : Nat) (z : Int) (hz : z = (k' : Int)) : Scn b src k' ln ts (w.setCell ⟨b, 1, none⟩ (.int .i64 z)) := by
  subst hz; exact h.setAt k'
theorem skip_round {b : Nat} {src : ByteArray} {k k' ln : Nat} {ts : List Lx.Tok} {w w' : World} (h : Scn b src k ln ts w) (h' : Scn b src k' ln ts w') (hk : k < k') (hs : k < src.size) : src.size - placeOf b w' < src.size - placeOf b w := by
  rw [h.place, h'.place]; omega
theorem skip_at (src : ByteArray) (k : Nat) (hlt : k < src.size) (h : src[k] = 35) (m : Nat) (hm : Lib.indexByte ((bs src).drop k) 10 = m ∨ (Lib.indexByte ((bs src).drop k) 10 = -1 ∧ m = ((bs src).drop k).length)) :
    Lx.skip false ((bs src).drop k) = Lx.skip false ((bs src).drop (k + m)) ∧ 0 < m ∧ k + m ≤ src.size := by
  have h1 := skip_ix _ m hm
  rw [List.drop_drop, List.length_drop, bs_len] at h1
  refine ⟨?_, ?_, by omega⟩
  · rw [← h1.1, bs_drop src k hlt, h]
    have e1 : Lx.skip false (35 :: (bs src).drop (k + 1)) = Lx.skip true ((bs src).drop (k + 1)) := by rw [Lx.skip, if_neg (by decide), if_pos rfl]
    have e2 : Lx.skip true (35 :: (bs src).drop (k + 1)) = Lx.skip true ((bs src).drop (k + 1)) := by rw [Lx.skip, if_neg (by decide)]
    rw [e1, e2]
  · rcases Nat.eq_zero_or_pos m with hz | hz
    · subst hz
      rw [bs_drop src k hlt, h, Lib.indexByte, if_neg (by decide)] at hm
      have hge := Lib.indexByte_ge ((bs src).drop (k + 1)) 10
      rcases hm with hm | ⟨_, hm⟩
      · split at hm
        · omega
        · rename_i h2; have : Lib.indexByte ((bs src).drop (k + 1)) 10 ≠ -1 := by simpa using h2
          omega
      · simp at hm
    · exact hz
theorem skip_stop (src : ByteArray) (k : Nat) (hlt : k < src.size) (h : Lx.white src[k] = false) (h2 : src[k] ≠ 35) : Lx.skip false ((bs src).drop k) = (bs src).drop k := by
  rw [bs_drop src k hlt, Lx.skip, if_neg (by rw [h]; simp), if_neg h2]
theorem quiet_add_same {P : Program} {f : FuncId} {args : Array Value} {w : World} {a n : Nat} {v : Value}
    (h : Calls P f args (w.drewN (a + n)) fun e w' => e = .returned v ∧ w' = w.drewN (a + n)) :
    Calls P f args (w.drewN (a + n)) fun e w'' => e = .returned v ∧ ∃ m, w'' = w.drewN (a + m) :=
  h.mono fun _ _ ⟨he, hm⟩ => ⟨he, n, hm⟩
def SkipPost (b : Nat) (src : ByteArray) (ln : Nat) (ts : List Lx.Tok) (G : List UInt8) (w : World) (e : Ending) (w' : World) : Prop :=
  e = .returned (.tuple #[]) ∧ ∃ k, k ≤ src.size ∧ G = (bs src).drop k ∧ Scn b src k ln ts w' ∧ Below b w w'

set_option maxRecDepth 100000 in
set_option maxHeartbeats 8000000 in
theorem skip_any (b : Nat) (src : ByteArray) (k0 ln : Nat) (ts : List Lx.Tok) (w : World) (h : Scn b src k0 ln ts w) (hk0 : k0 ≤ src.size) (hs : src.size ≤ 1000000000) :
    Calls Tryd.prog 58 #[.pointer (some ⟨b, 0, none⟩)] w (SkipPost b src ln ts (Lx.skip false ((bs src).drop k0)) w) := by
  obtain ⟨G, hG⟩ : ∃ G, G = Lx.skip false ((bs src).drop k0) := ⟨_, rfl⟩
  rw [← hG]
  have HG := Lib.hid hG
  have H := Lib.hid h
  clear h hG
  go_enter Tryd.func58, Tryd.ntmps58
  go_wp2; go_step3; go_wp2; go_step3; go_wp2
  go_loopw [] (fun wr => ∃ k : Nat, k ≤ src.size ∧ Hid (G = Lx.skip false ((bs src).drop k)) ∧ Hid (Scn b src k ln ts wr) ∧ Hid (Below b w wr)) (fun wr => src.size - placeOf b wr)
  case atStart => exact ⟨k0, hk0, HG, H, Lib.hid (Below.refl _ _)⟩
  case round =>
    obtain ⟨k, hk, HK, HS, HB⟩ := hrel
    clear HG H
    have c0 := HS.out.c0
    have c1 := HS.out.c1
    have f1 := HS.out.fz 1
    by_cases hlt : k < src.size
    · have hkI : (k : Int) < (src.size : Int) := by omega
      have hk0' : (0 : Int) ≤ (k : Int) := by omega
      have hn : (k : Int).toNat = k := by omega
      by_cases hw32 : src[k] = 32
      · have e32 : ((src[k].toNat : Int) == 32) = true := u8_is (b := 32) hw32
        have HN : Hid (G = Lx.skip false ((bs src).drop (k + 1))) := Lib.hid (by rw [HK.out, bs_drop src k hlt, Lx.skip, if_pos (by rw [hw32]; rfl)])
        clear HK hw32
        go_wp2_with fail
        go_quiet (fail)
        go_wp2_with fail
        go_quiet (fail)
        go_wp2_with fail
        go_roundw
        case rel => exact ⟨k + 1, by omega, HN, Lib.hid ((HS.out.atI (k + 1) _ (by omega)).same ⟨rfl, rfl, rfl, rfl⟩), Lib.hid (below_same (HB.out.setCell (p := ⟨b, 1, none⟩) (Nat.le_refl _) _) ⟨rfl, rfl, rfl, rfl⟩)⟩
        case measure => exact skip_round HS.out ((HS.out.atI (k + 1) _ (by omega)).same ⟨rfl, rfl, rfl, rfl⟩) (by omega) hlt
      · have e32 : ((src[k].toNat : Int) == 32) = false := u8_ne (b := 32) hw32
        by_cases hw9 : src[k] = 9
        · have e9 : ((src[k].toNat : Int) == 9) = true := u8_is (b := 9) hw9
          have HN : Hid (G = Lx.skip false ((bs src).drop (k + 1))) := Lib.hid (by rw [HK.out, bs_drop src k hlt, Lx.skip, if_pos (by rw [hw9]; rfl)])
          clear HK hw32 hw9
          go_wp2_with fail
          go_quiet (fail)
          go_wp2_with fail
          go_quiet (fail)
          go_wp2_with fail
          go_roundw
          case rel => exact ⟨k + 1, by omega, HN, Lib.hid ((HS.out.atI (k + 1) _ (by omega)).same ⟨rfl, rfl, rfl, rfl⟩), Lib.hid (below_same (HB.out.setCell (p := ⟨b, 1, none⟩) (Nat.le_refl _) _) ⟨rfl, rfl, rfl, rfl⟩)⟩
          case measure => exact skip_round HS.out ((HS.out.atI (k + 1) _ (by omega)).same ⟨rfl, rfl, rfl, rfl⟩) (by omega) hlt
        · have e9 : ((src[k].toNat : Int) == 9) = false := u8_ne (b := 9) hw9
          by_cases hw13 : src[k] = 13
          · have e13 : ((src[k].toNat : Int) == 13) = true := u8_is (b := 13) hw13
            have HN : Hid (G = Lx.skip false ((bs src).drop (k + 1))) := Lib.hid (by rw [HK.out, bs_drop src k hlt, Lx.skip, if_pos (by rw [hw13]; rfl)])
            clear HK hw32 hw9 hw13
            go_wp2_with fail
            go_quiet (fail)
            go_wp2_with fail
            go_quiet (fail)
            go_wp2_with fail
            go_roundw
            case rel => exact ⟨k + 1, by omega, HN, Lib.hid ((HS.out.atI (k + 1) _ (by omega)).same ⟨rfl, rfl, rfl, rfl⟩), Lib.hid (below_same (HB.out.setCell (p := ⟨b, 1, none⟩) (Nat.le_refl _) _) ⟨rfl, rfl, rfl, rfl⟩)⟩
            case measure => exact skip_round HS.out ((HS.out.atI (k + 1) _ (by omega)).same ⟨rfl, rfl, rfl, rfl⟩) (by omega) hlt
          · have e13 : ((src[k].toNat : Int) == 13) = false := u8_ne (b := 13) hw13
            by_cases hw35 : src[k] = 35
            · have e35 : ((src[k].toNat : Int) == 35) = true := u8_is (b := 35) hw35
              have hC := fun w => Tryd.strings_IndexByte (src.extract k src.size) 10 w
              rw [show (src.extract k src.size).data.toList = (bs src).drop k from Lib.extract_to_end src k, show (10 : Int).toNat.toUInt8 = 10 from rfl] at hC
              have hge := Lib.indexByte_ge ((bs src).drop k) 10
              obtain ⟨q, hq⟩ : ∃ q, q = Lib.indexByte ((bs src).drop k) 10 := ⟨_, rfl⟩
              rw [← hq] at hC hge
              have HC := Lib.hid hC
              clear hC
              by_cases hq0 : q < 0
              · obtain rfl : q = -1 := by omega
                have hm := skip_at src k hlt hw35 (src.size - k) (.inr ⟨hq.symm, by rw [List.length_drop, bs_len]⟩)
                rw [show k + (src.size - k) = src.size by omega] at hm
                have HN : Hid (G = Lx.skip false ((bs src).drop src.size)) := Lib.hid (by rw [HK.out]; exact hm.1)
                clear HK hm hq hge hw32 hw9 hw13 hw35
                go_wp2_with fail
                go_quiet (fail)
                go_wp2_with fail
                go_quiet (fail)
                go_wp2_with fail
                go_quiet ((go_at_call 53; exact quiet_add_same (HC.out _)))
                go_wp2_with fail
                go_quiet (fail)
                go_wp2_with fail
                go_roundw
                case rel => exact ⟨src.size, by omega, HN, Lib.hid ((HS.out.atI (src.size) _ (by omega)).same ⟨rfl, rfl, rfl, rfl⟩), Lib.hid (below_same (HB.out.setCell (p := ⟨b, 1, none⟩) (Nat.le_refl _) _) ⟨rfl, rfl, rfl, rfl⟩)⟩
                case measure => exact skip_round HS.out ((HS.out.atI (src.size) _ (by omega)).same ⟨rfl, rfl, rfl, rfl⟩) (by omega) hlt
              · have hm := skip_at src k hlt hw35 q.toNat (.inl (by rw [← hq]; omega))
                have HN : Hid (G = Lx.skip false ((bs src).drop (k + q.toNat))) := Lib.hid (by rw [HK.out]; exact hm.1)
                obtain ⟨-, hm1, hm2⟩ := hm
                have hq1 : (k : Int) + q ≤ (src.size : Int) := by omega
                have hq2 : 0 < q := by omega
                clear HK hq hge hw32 hw9 hw13 hw35 hm1 hm2
                go_wp2_with fail
                go_quiet (fail)
                go_wp2_with fail
                go_quiet (fail)
                go_wp2_with fail
                go_quiet ((go_at_call 53; exact quiet_add_same (HC.out _)))
                go_wp2_with fail
                go_roundw
                case rel => exact ⟨k + q.toNat, by omega, HN, Lib.hid ((HS.out.atI (k + q.toNat) _ (by omega)).same ⟨rfl, rfl, rfl, rfl⟩), Lib.hid (below_same (HB.out.setCell (p := ⟨b, 1, none⟩) (Nat.le_refl _) _) ⟨rfl, rfl, rfl, rfl⟩)⟩
                case measure => exact skip_round HS.out ((HS.out.atI (k + q.toNat) _ (by omega)).same ⟨rfl, rfl, rfl, rfl⟩) (by omega) hlt
            · have e35 : ((src[k].toNat : Int) == 35) = false := u8_ne (b := 35) hw35
              have HN : Hid (G = (bs src).drop k) := Lib.hid (by rw [HK.out]; exact skip_stop src k hlt (by simp [Lx.white, hw32, hw9, hw13]) hw35)
              clear HK hw32 hw9 hw13 hw35
              go_wp2_with fail
              go_quiet (fail)
              go_wp2_with fail
              go_quiet (fail)
              go_wp2_with fail
              go_end0
              exact ⟨rfl, _, hk, HN.out, HS.out.same ⟨rfl, rfl, rfl, rfl⟩, below_same HB.out ⟨rfl, rfl, rfl, rfl⟩⟩
    · obtain rfl : k = src.size := by omega
      go_wp2_with fail
      go_quiet (fail)
      go_wp2_with fail
      go_end0
      exact ⟨rfl, _, Nat.le_refl _, (by rw [HK.out, List.drop_eq_nil_of_le (by rw [bs_len]; exact Nat.le_refl _), Lx.skip]), HS.out.same ⟨rfl, rfl, rfl, rfl⟩, below_same HB.out ⟨rfl, rfl, rfl, rfl⟩⟩
end Go.Proofs.YtdjiimblfhbcjaaDoor
