/- Walks of taquinref09: token. -/
import Derived.Test.YtdjiimblfhbcjaaDoorR9c
namespace Go.Proofs.YtdjiimblfhbcjaaDoor
set_option linter.unusedSimpArgs false
open Go.RowKit

/-- What token comes to. -/
def R9Step (src : ByteArray) (k : Nat) (w : World) (st : Lx.Step) (e : Ending) (w' : World) : Prop :=
  match st with
  | .done => e = .returned (.tuple #[tv 4 [] 0, .int .i64 k, .int .i64 0]) ∧ Below w.heap.size w w'
  | .bad z => ∃ en : Int, e = .returned (.tuple #[tz, .int .i64 en, .int .i64 z]) ∧ Below w.heap.size w w'
  | .tok kd t n rest => ∃ m, m ≤ src.size ∧ rest = (bs src).drop m ∧ e = .returned (.tuple #[tv kd t n, .int .i64 (m : Nat), .int .i64 0]) ∧ Below w.heap.size w w'
theorem R9Step.tok {src : ByteArray} {k : Nat} {w w' : World} {st : Lx.Step} {rest t : List UInt8} {kd m : Nat} {n kk mm : Int} {s : ByteArray} (h : st = .tok kd t n rest) (ht : s = ⟨t.toArray⟩) (hk : kk = (kd : Int)) (hmm : mm = (m : Int)) (hm : m ≤ src.size) (hr : rest = (bs src).drop m) (hb : Below w.heap.size w w') : R9Step src k w st (.returned (.tuple #[.agg #[.int .i64 kk, .string s, .int .i64 n, .int .i64 0], .int .i64 mm, .int .i64 0])) w' := by
  subst h hk hmm ht
  exact ⟨m, hm, hr, rfl, hb⟩
theorem R9Step.bad {src : ByteArray} {k : Nat} {w w' : World} {st : Lx.Step} {z : Nat} {zz en : Int} (h : st = .bad z) (hz : zz = (z : Int)) (hb : Below w.heap.size w w') : R9Step src k w st (.returned (.tuple #[.agg #[.int .i64 0, .string ⟨#[]⟩, .int .i64 0, .int .i64 0], .int .i64 en, .int .i64 zz])) w' := by
  subst h hz; exact ⟨en, rfl, hb⟩
theorem R9Step.done {src : ByteArray} {k : Nat} {w w' : World} {st : Lx.Step} {kk : Int} (h : st = .done) (hk : kk = (k : Int)) (hb : Below w.heap.size w w') : R9Step src k w st (.returned (.tuple #[.agg #[.int .i64 4, .string ⟨#[]⟩, .int .i64 0, .int .i64 0], .int .i64 kk, .int .i64 0])) w' := by
  subst h hk; exact ⟨rfl, hb⟩

set_option maxRecDepth 100000 in
set_option maxHeartbeats 16000000 in
theorem r9token_any (src : ByteArray) (k : Nat) (w : World) (hk : k ≤ src.size) (hs : src.size ≤ 10000000) :
    Calls Tryd.prog 63 #[.string src, .int .i64 k] w (R9Step src k w (Lx.step ((bs src).drop k))) := by
  obtain ⟨S, hS⟩ : ∃ S, S = Lx.step ((bs src).drop k) := ⟨_, rfl⟩
  rw [← hS]
  by_cases hlt : k < src.size
  · have hd := bs_drop src k hlt
    have hS2 := hS.trans ((congrArg Lx.step hd).trans (Lx.step.eq_2 src[k] ((bs src).drop (k + 1))))
    have hkI : (k : Int) < (src.size : Int) := by omega
    have hk0 : (0 : Int) ≤ (k : Int) := by omega
    have hkn : (k : Int).toNat = k := by omega
    by_cases h10 : src[k] = 10
    · have e10 : ((src[k].toNat : Int) == 10) = true := u8_is (b := 10) h10
      have HS : Hid (S = .tok 3 [] 0 ((bs src).drop (k + 1))) := Lib.hid (by rw [hS2, h10]; rfl)
      clear hS2 hd hS h10
      go_enter Tryd.func63, Tryd.ntmps63
      go_wp2_with fail
      exact bodyPost_ret (v := .tuple #[.agg #[.int .i64 3, .string ⟨#[]⟩, .int .i64 0, .int .i64 0], .int .i64 ((k : Int) + 1), .int .i64 0]) (by simp [results, Tryd.results63, go_sem]) rfl (R9Step.tok (kd := 3) (m := k + 1) HS.out rfl rfl (by omega) (by omega) rfl ((Below.refl _ _).alloc (Nat.le_refl _) _))
    · have e10 : ((src[k].toNat : Int) == 10) = false := u8_ne (b := 10) h10
      by_cases h34 : src[k] = 34
      · have e34 : ((src[k].toNat : Int) == 34) = true := u8_is (b := 34) h34
        have hq := fun W => r9quoted_any src k W hlt hs h34
        have hS3 : S = match Lx.qscan ((bs src).drop (k + 1)) with | none => .bad 11 | some x => if quote (raw x.1) = 34 :: (x.1 ++ [34]) then .tok 2 (raw x.1) 0 x.2 else .bad 11 := by
          rw [hS2, h34]; rfl
        have HQ := Lib.hid hq
        clear hq hS2 hS hd h34 h10
        cases hsc : Lx.qscan ((bs src).drop (k + 1)) with
        | none =>
          rw [hsc] at HQ hS3
          have HS := Lib.hid hS3
          clear hS3 hsc
          go_enter Tryd.func63, Tryd.ntmps63
          go_wp2_with fail
          go_at_call 85; refine (HQ.out _).mono ?_; rintro e w3 ⟨en, rfl, b3⟩
          dsimp only [tz]
          have d0 := tok_cell (i := 0) (v := .int .i64 0) b3 (World.cell?_alloc_new _ _ _ _)
          have d1 := tok_cell (i := 1) (v := .string ⟨#[]⟩) b3 (World.cell?_alloc_new _ _ _ _)
          have d2 := tok_cell (i := 2) (v := .int .i64 0) b3 (World.cell?_alloc_new _ _ _ _)
          have d3 := tok_cell (i := 3) (v := .int .i64 0) b3 (World.cell?_alloc_new _ _ _ _)
          have f0 := tok_free 0 b3
          have f1 := tok_free 1 b3
          have f2 := tok_free 2 b3
          have f3 := tok_free 3 b3
          have HB3 := Lib.hid (((Below.refl _ w).alloc (Nat.le_refl _) _).trans (b3.mono (by simp)))
          clear b3
          go_wp2_with fail
          exact bodyPost_ret (v := .tuple #[.agg #[.int .i64 0, .string ⟨#[]⟩, .int .i64 0, .int .i64 0], .int .i64 en, .int .i64 11]) (by simp [results, Tryd.results63, go_sem, *]) rfl (R9Step.bad (z := 11) HS.out rfl ((((HB3.out.setCell (p := ⟨w.heap.size, 0, none⟩) (Nat.le_refl _) _).setCell (p := ⟨w.heap.size, 1, none⟩) (Nat.le_refl _) _).setCell (p := ⟨w.heap.size, 2, none⟩) (Nat.le_refl _) _).setCell (p := ⟨w.heap.size, 3, none⟩) (Nat.le_refl _) _))
        | some x =>
          rw [hsc] at HQ hS3
          dsimp only at hS3
          by_cases hx : quote (raw x.1) = 34 :: (x.1 ++ [34])
          · rw [if_pos hx] at hS3
            have HQ2 : Hid (∀ W, Calls Tryd.prog 85 #[.string src, .int .i64 k] W (R9Tok src W (.ok (2, raw x.1, 0)) x.2)) := Lib.hid (fun W => by have := HQ.out W; simp only [qres, qrest] at this; rw [if_pos hx] at this; exact this)
            have HS := Lib.hid hS3
            clear hS3 hsc HQ hx
            go_enter Tryd.func63, Tryd.ntmps63
            go_wp2_with fail
            go_at_call 85; refine (HQ2.out _).mono ?_; rintro e w3 ⟨m, hm, hr, rfl, b3⟩
            dsimp only [tv]
            have HR := Lib.hid hr
            clear hr
            have d0 := tok_cell (i := 0) (v := .int .i64 0) b3 (World.cell?_alloc_new _ _ _ _)
            have d1 := tok_cell (i := 1) (v := .string ⟨#[]⟩) b3 (World.cell?_alloc_new _ _ _ _)
            have d2 := tok_cell (i := 2) (v := .int .i64 0) b3 (World.cell?_alloc_new _ _ _ _)
            have d3 := tok_cell (i := 3) (v := .int .i64 0) b3 (World.cell?_alloc_new _ _ _ _)
            have f0 := tok_free 0 b3
            have f1 := tok_free 1 b3
            have f2 := tok_free 2 b3
            have f3 := tok_free 3 b3
            have HB3 := Lib.hid (((Below.refl _ w).alloc (Nat.le_refl _) _).trans (b3.mono (by simp)))
            clear b3
            go_wp2_with fail
            exact bodyPost_ret (v := .tuple #[.agg #[.int .i64 2, .string ⟨(raw x.1).toArray⟩, .int .i64 0, .int .i64 0], .int .i64 m, .int .i64 0]) (by simp [results, Tryd.results63, go_sem, *]) rfl (R9Step.tok (kd := 2) (m := m) HS.out rfl rfl rfl hm HR.out ((((HB3.out.setCell (p := ⟨w.heap.size, 0, none⟩) (Nat.le_refl _) _).setCell (p := ⟨w.heap.size, 1, none⟩) (Nat.le_refl _) _).setCell (p := ⟨w.heap.size, 2, none⟩) (Nat.le_refl _) _).setCell (p := ⟨w.heap.size, 3, none⟩) (Nat.le_refl _) _))
          · rw [if_neg hx] at hS3
            have HQ2 : Hid (∀ W, Calls Tryd.prog 85 #[.string src, .int .i64 k] W (R9Tok src W (.error 11) x.2)) := Lib.hid (fun W => by have := HQ.out W; simp only [qres, qrest] at this; rw [if_neg hx] at this; exact this)
            have HS := Lib.hid hS3
            clear hS3 hsc HQ hx
            go_enter Tryd.func63, Tryd.ntmps63
            go_wp2_with fail
            go_at_call 85; refine (HQ2.out _).mono ?_; rintro e w3 ⟨en, rfl, b3⟩
            dsimp only [tz]
            have d0 := tok_cell (i := 0) (v := .int .i64 0) b3 (World.cell?_alloc_new _ _ _ _)
            have d1 := tok_cell (i := 1) (v := .string ⟨#[]⟩) b3 (World.cell?_alloc_new _ _ _ _)
            have d2 := tok_cell (i := 2) (v := .int .i64 0) b3 (World.cell?_alloc_new _ _ _ _)
            have d3 := tok_cell (i := 3) (v := .int .i64 0) b3 (World.cell?_alloc_new _ _ _ _)
            have f0 := tok_free 0 b3
            have f1 := tok_free 1 b3
            have f2 := tok_free 2 b3
            have f3 := tok_free 3 b3
            have HB3 := Lib.hid (((Below.refl _ w).alloc (Nat.le_refl _) _).trans (b3.mono (by simp)))
            clear b3
            go_wp2_with fail
            exact bodyPost_ret (v := .tuple #[.agg #[.int .i64 0, .string ⟨#[]⟩, .int .i64 0, .int .i64 0], .int .i64 en, .int .i64 11]) (by simp [results, Tryd.results63, go_sem, *]) rfl (R9Step.bad (z := 11) HS.out rfl ((((HB3.out.setCell (p := ⟨w.heap.size, 0, none⟩) (Nat.le_refl _) _).setCell (p := ⟨w.heap.size, 1, none⟩) (Nat.le_refl _) _).setCell (p := ⟨w.heap.size, 2, none⟩) (Nat.le_refl _) _).setCell (p := ⟨w.heap.size, 3, none⟩) (Nat.le_refl _) _))
      · have e34 : ((src[k].toNat : Int) == 34) = false := u8_ne (b := 34) h34
        cases hl : (Lx.letter src[k] || Lx.digit src[k]) with
        | false =>
          rw [hl, if_neg (by simp), if_neg h34, if_neg h10] at hS2
          have hll : Lx.letter src[k] = false ∧ Lx.digit src[k] = false := by simpa using hl
          have HS := Lib.hid hS2
          have HL := Lib.hid hll.1
          have HD := Lib.hid hll.2
          clear hS2 hS hd h34 h10 hl hll
          go_enter Tryd.func63, Tryd.ntmps63
          go_wp2_with fail
          go_at_call 64; refine (r9letter_any src[k] false HL.out _).mono ?_; rintro e w' ⟨rfl, hw'⟩
          subst hw'
          go_wp2_with fail
          go_at_call 86; refine (r9digit_any src[k] false HD.out _).mono ?_; rintro e w' ⟨rfl, hw'⟩
          subst hw'
          go_wp2_with fail
          exact bodyPost_ret (v := .tuple #[.agg #[.int .i64 0, .string ⟨#[]⟩, .int .i64 0, .int .i64 0], .int .i64 0, .int .i64 11]) (by simp [results, Tryd.results63, go_sem]) rfl (R9Step.bad (z := 11) HS.out rfl ((Below.refl _ _).alloc (Nat.le_refl _) _))
        | true =>
          rw [hl, if_pos rfl] at hS2
          have hp : Lx.part src[k] = true := by
            rcases Bool.or_eq_true .. ▸ hl with h | h
            · exact Lx.letter_part h
            · exact Lx.digit_part h
          have HS : Hid (S = match Lx.tokW (((bs src).drop k).takeWhile Lx.part) with | .error e => .bad e | .ok x => .tok x.1 x.2.1 x.2.2 (((bs src).drop k).dropWhile Lx.part)) := Lib.hid (by rw [hS2, hd]; rfl)
          have HP := Lib.hid hp
          have hld : (Lx.letter src[k] = true) ∨ (Lx.letter src[k] = false ∧ Lx.digit src[k] = true) := by
            cases h : Lx.letter src[k] with
            | true => exact .inl rfl
            | false => rw [h] at hl; exact .inr ⟨rfl, by simpa using hl⟩
          have HLD := Lib.hid hld
          clear hS2 hS hd h34 h10 hl hp hld
          go_enter Tryd.func63, Tryd.ntmps63
          go_wp2_with fail
          rcases HLD.out with hl | ⟨hl, hdg⟩
          · have HL := Lib.hid hl
            clear hl
            go_at_call 64; refine (r9letter_any src[k] true HL.out _).mono ?_; rintro e w' ⟨rfl, hw'⟩
            subst hw'
            go_wp2_with fail
            go_loop [8] (fun i => ∃ m : Nat, k ≤ m ∧ m ≤ src.size ∧ Hid ((((bs src).drop k).take (m - k)).all Lx.part = true) ∧ i = .int .i64 m) (fun i => src.size - (intOf i).toNat)
            case atStart => exact ⟨k, by omega, by omega, Lib.hid (by rw [Nat.sub_self]; rfl), rfl⟩
            case round =>
              obtain ⟨m, hkm, hm, HA, rfl⟩ := hrel
              by_cases hms : m < src.size
              · cases hpm : Lx.part src[m] with
                | true =>
                  have HPM := Lib.hid hpm
                  have HA2 : Hid ((((bs src).drop k).take (m + 1 - k)).all Lx.part = true) := Lib.hid (by
                    have e : m + 1 - k = (m - k) + 1 := by omega
                    have e3 : ((bs src).drop k)[m - k]? = some src[m] := by
                      rw [List.getElem?_drop, show k + (m - k) = m by omega]; exact bs_get src m hms
                    rw [e, List.take_add_one, e3, List.all_append, HA.out]; simp [hpm])
                  clear hpm HA
                  go_wp2_with fail
                  go_at_call 65; refine (r9part_any src[m] true HPM.out _).mono ?_; rintro e w' ⟨rfl, hw'⟩
                  subst hw'
                  go_wp2_with fail
                  go_round
                  case rel => exact ⟨m + 1, by omega, by omega, HA2, by go_num⟩
                  case measure => simp [intOf]; omega
                | false =>
                  have HPM := Lib.hid hpm
                  have hwe := word_end src k m hkm hm HA.out (.inr ⟨hms, hpm⟩)
                  have hkm2 : k < m := by
                    rcases Nat.lt_or_ge k m with h | h
                    · exact h
                    · obtain rfl : k = m := by omega
                      rw [HP.out] at hpm; cases hpm
                  clear hpm HA
                  have hb1 : (k : Int) ≤ (m : Int) := by omega
                  have hb2 : (m : Int) ≤ (src.size : Int) := by omega
                  have hb5 : (m : Int).toNat = m := by omega
                  have hWpos : 0 < (src.extract k m).size := by rw [← bs_len, bs_extract, List.length_take, List.length_drop, bs_len]; omega
                  have hWs : (src.extract k m).size ≤ 1000000000 := by rw [← bs_len, bs_extract, List.length_take, List.length_drop, bs_len]; omega
                  have HT : Hid (S = match Lx.tokW (bs (src.extract k m)) with | .error e => .bad e | .ok x => .tok x.1 x.2.1 x.2.2 ((bs src).drop m)) := Lib.hid (by rw [HS.out, hwe.1, hwe.2])
                  clear hwe
                  go_wp2_with fail
                  go_at_call 65; refine (r9part_any src[m] false HPM.out _).mono ?_; rintro e w' ⟨rfl, hw'⟩
                  subst hw'
                  go_wp2_with fail
                  go_at_call 87; refine (r9word_any _ _ (by omega) hWpos).mono ?_; intro e w3 hpost
                  cases htk : Lx.tokW (bs (src.extract k m)) with
                  | error z =>
                    rw [htk] at hpost HT
                    obtain ⟨rfl, b3⟩ := hpost
                    dsimp only [tz]
                    have hws : w.heap.size < w3.heap.size := by have := b3.size; simp at this; omega
                    have d0 := tok_cell (i := 0) (v := .int .i64 0) b3 (World.cell?_alloc_new _ _ _ _)
                    have d1 := tok_cell (i := 1) (v := .string ⟨#[]⟩) b3 (World.cell?_alloc_new _ _ _ _)
                    have d2 := tok_cell (i := 2) (v := .int .i64 0) b3 (World.cell?_alloc_new _ _ _ _)
                    have d3 := tok_cell (i := 3) (v := .int .i64 0) b3 (World.cell?_alloc_new _ _ _ _)
                    have f0 := tok_free 0 b3
                    have f1 := tok_free 1 b3
                    have f2 := tok_free 2 b3
                    have f3 := tok_free 3 b3
                    have HB3 := Lib.hid (((Below.refl _ w).alloc (Nat.le_refl _) _).trans (b3.mono (by simp)))
                    clear b3
                    go_wp2_with fail
                    exact bodyPost_ret (v := .tuple #[.agg #[.int .i64 0, .string ⟨#[]⟩, .int .i64 0, .int .i64 0], .int .i64 m, .int .i64 z]) (by simp [results, Tryd.results63, go_sem, *]) rfl (R9Step.bad (z := z) HT.out rfl (Below.alloc ((((HB3.out.setCell (p := ⟨w.heap.size, 0, none⟩) (Nat.le_refl _) _).setCell (p := ⟨w.heap.size, 1, none⟩) (Nat.le_refl _) _).setCell (p := ⟨w.heap.size, 2, none⟩) (Nat.le_refl _) _).setCell (p := ⟨w.heap.size, 3, none⟩) (Nat.le_refl _) _) (Below.size ((((HB3.out.setCell (p := ⟨w.heap.size, 0, none⟩) (Nat.le_refl _) _).setCell (p := ⟨w.heap.size, 1, none⟩) (Nat.le_refl _) _).setCell (p := ⟨w.heap.size, 2, none⟩) (Nat.le_refl _) _).setCell (p := ⟨w.heap.size, 3, none⟩) (Nat.le_refl _) _)) _))
                  | ok x =>
                    rw [htk] at hpost HT
                    obtain ⟨rfl, b3⟩ := hpost
                    dsimp only [tv]
                    have hws : w.heap.size < w3.heap.size := by have := b3.size; simp at this; omega
                    have d0 := tok_cell (i := 0) (v := .int .i64 0) b3 (World.cell?_alloc_new _ _ _ _)
                    have d1 := tok_cell (i := 1) (v := .string ⟨#[]⟩) b3 (World.cell?_alloc_new _ _ _ _)
                    have d2 := tok_cell (i := 2) (v := .int .i64 0) b3 (World.cell?_alloc_new _ _ _ _)
                    have d3 := tok_cell (i := 3) (v := .int .i64 0) b3 (World.cell?_alloc_new _ _ _ _)
                    have f0 := tok_free 0 b3
                    have f1 := tok_free 1 b3
                    have f2 := tok_free 2 b3
                    have f3 := tok_free 3 b3
                    have HB3 := Lib.hid (((Below.refl _ w).alloc (Nat.le_refl _) _).trans (b3.mono (by simp)))
                    clear b3
                    go_wp2_with fail
                    exact bodyPost_ret (v := .tuple #[.agg #[.int .i64 x.1, .string ⟨x.2.1.toArray⟩, .int .i64 x.2.2, .int .i64 0], .int .i64 m, .int .i64 0]) (by simp [results, Tryd.results63, go_sem, *]) rfl (R9Step.tok (kd := x.1) (m := m) HT.out rfl rfl rfl hm rfl (Below.alloc ((((HB3.out.setCell (p := ⟨w.heap.size, 0, none⟩) (Nat.le_refl _) _).setCell (p := ⟨w.heap.size, 1, none⟩) (Nat.le_refl _) _).setCell (p := ⟨w.heap.size, 2, none⟩) (Nat.le_refl _) _).setCell (p := ⟨w.heap.size, 3, none⟩) (Nat.le_refl _) _) (Below.size ((((HB3.out.setCell (p := ⟨w.heap.size, 0, none⟩) (Nat.le_refl _) _).setCell (p := ⟨w.heap.size, 1, none⟩) (Nat.le_refl _) _).setCell (p := ⟨w.heap.size, 2, none⟩) (Nat.le_refl _) _).setCell (p := ⟨w.heap.size, 3, none⟩) (Nat.le_refl _) _)) _))
              · have hwe := word_end src k m hkm hm HA.out (.inl (by omega))
                have hkm2 : k < m := by omega
                clear HA
                have hb1 : (k : Int) ≤ (m : Int) := by omega
                have hb2 : (m : Int) ≤ (src.size : Int) := by omega
                have hb5 : (m : Int).toNat = m := by omega
                have hWpos : 0 < (src.extract k m).size := by rw [← bs_len, bs_extract, List.length_take, List.length_drop, bs_len]; omega
                have hWs : (src.extract k m).size ≤ 1000000000 := by rw [← bs_len, bs_extract, List.length_take, List.length_drop, bs_len]; omega
                have HT : Hid (S = match Lx.tokW (bs (src.extract k m)) with | .error e => .bad e | .ok x => .tok x.1 x.2.1 x.2.2 ((bs src).drop m)) := Lib.hid (by rw [HS.out, hwe.1, hwe.2])
                clear hwe
                go_wp2_with fail
                go_at_call 87; refine (r9word_any _ _ (by omega) hWpos).mono ?_; intro e w3 hpost
                cases htk : Lx.tokW (bs (src.extract k m)) with
                | error z =>
                  rw [htk] at hpost HT
                  obtain ⟨rfl, b3⟩ := hpost
                  dsimp only [tz]
                  have hws : w.heap.size < w3.heap.size := by have := b3.size; simp at this; omega
                  have d0 := tok_cell (i := 0) (v := .int .i64 0) b3 (World.cell?_alloc_new _ _ _ _)
                  have d1 := tok_cell (i := 1) (v := .string ⟨#[]⟩) b3 (World.cell?_alloc_new _ _ _ _)
                  have d2 := tok_cell (i := 2) (v := .int .i64 0) b3 (World.cell?_alloc_new _ _ _ _)
                  have d3 := tok_cell (i := 3) (v := .int .i64 0) b3 (World.cell?_alloc_new _ _ _ _)
                  have f0 := tok_free 0 b3
                  have f1 := tok_free 1 b3
                  have f2 := tok_free 2 b3
                  have f3 := tok_free 3 b3
                  have HB3 := Lib.hid (((Below.refl _ w).alloc (Nat.le_refl _) _).trans (b3.mono (by simp)))
                  clear b3
                  go_wp2_with fail
                  exact bodyPost_ret (v := .tuple #[.agg #[.int .i64 0, .string ⟨#[]⟩, .int .i64 0, .int .i64 0], .int .i64 m, .int .i64 z]) (by simp [results, Tryd.results63, go_sem, *]) rfl (R9Step.bad (z := z) HT.out rfl (Below.alloc ((((HB3.out.setCell (p := ⟨w.heap.size, 0, none⟩) (Nat.le_refl _) _).setCell (p := ⟨w.heap.size, 1, none⟩) (Nat.le_refl _) _).setCell (p := ⟨w.heap.size, 2, none⟩) (Nat.le_refl _) _).setCell (p := ⟨w.heap.size, 3, none⟩) (Nat.le_refl _) _) (Below.size ((((HB3.out.setCell (p := ⟨w.heap.size, 0, none⟩) (Nat.le_refl _) _).setCell (p := ⟨w.heap.size, 1, none⟩) (Nat.le_refl _) _).setCell (p := ⟨w.heap.size, 2, none⟩) (Nat.le_refl _) _).setCell (p := ⟨w.heap.size, 3, none⟩) (Nat.le_refl _) _)) _))
                | ok x =>
                  rw [htk] at hpost HT
                  obtain ⟨rfl, b3⟩ := hpost
                  dsimp only [tv]
                  have hws : w.heap.size < w3.heap.size := by have := b3.size; simp at this; omega
                  have d0 := tok_cell (i := 0) (v := .int .i64 0) b3 (World.cell?_alloc_new _ _ _ _)
                  have d1 := tok_cell (i := 1) (v := .string ⟨#[]⟩) b3 (World.cell?_alloc_new _ _ _ _)
                  have d2 := tok_cell (i := 2) (v := .int .i64 0) b3 (World.cell?_alloc_new _ _ _ _)
                  have d3 := tok_cell (i := 3) (v := .int .i64 0) b3 (World.cell?_alloc_new _ _ _ _)
                  have f0 := tok_free 0 b3
                  have f1 := tok_free 1 b3
                  have f2 := tok_free 2 b3
                  have f3 := tok_free 3 b3
                  have HB3 := Lib.hid (((Below.refl _ w).alloc (Nat.le_refl _) _).trans (b3.mono (by simp)))
                  clear b3
                  go_wp2_with fail
                  exact bodyPost_ret (v := .tuple #[.agg #[.int .i64 x.1, .string ⟨x.2.1.toArray⟩, .int .i64 x.2.2, .int .i64 0], .int .i64 m, .int .i64 0]) (by simp [results, Tryd.results63, go_sem, *]) rfl (R9Step.tok (kd := x.1) (m := m) HT.out rfl rfl rfl hm rfl (Below.alloc ((((HB3.out.setCell (p := ⟨w.heap.size, 0, none⟩) (Nat.le_refl _) _).setCell (p := ⟨w.heap.size, 1, none⟩) (Nat.le_refl _) _).setCell (p := ⟨w.heap.size, 2, none⟩) (Nat.le_refl _) _).setCell (p := ⟨w.heap.size, 3, none⟩) (Nat.le_refl _) _) (Below.size ((((HB3.out.setCell (p := ⟨w.heap.size, 0, none⟩) (Nat.le_refl _) _).setCell (p := ⟨w.heap.size, 1, none⟩) (Nat.le_refl _) _).setCell (p := ⟨w.heap.size, 2, none⟩) (Nat.le_refl _) _).setCell (p := ⟨w.heap.size, 3, none⟩) (Nat.le_refl _) _)) _))
          · have HL := Lib.hid hl
            have HD := Lib.hid hdg
            clear hl hdg
            go_at_call 64; refine (r9letter_any src[k] false HL.out _).mono ?_; rintro e w' ⟨rfl, hw'⟩
            subst hw'
            go_wp2_with fail
            go_at_call 86; refine (r9digit_any src[k] true HD.out _).mono ?_; rintro e w' ⟨rfl, hw'⟩
            subst hw'
            go_wp2_with fail
            go_loop [8] (fun i => ∃ m : Nat, k ≤ m ∧ m ≤ src.size ∧ Hid ((((bs src).drop k).take (m - k)).all Lx.part = true) ∧ i = .int .i64 m) (fun i => src.size - (intOf i).toNat)
            case atStart => exact ⟨k, by omega, by omega, Lib.hid (by rw [Nat.sub_self]; rfl), rfl⟩
            case round =>
              obtain ⟨m, hkm, hm, HA, rfl⟩ := hrel
              by_cases hms : m < src.size
              · cases hpm : Lx.part src[m] with
                | true =>
                  have HPM := Lib.hid hpm
                  have HA2 : Hid ((((bs src).drop k).take (m + 1 - k)).all Lx.part = true) := Lib.hid (by
                    have e : m + 1 - k = (m - k) + 1 := by omega
                    have e3 : ((bs src).drop k)[m - k]? = some src[m] := by
                      rw [List.getElem?_drop, show k + (m - k) = m by omega]; exact bs_get src m hms
                    rw [e, List.take_add_one, e3, List.all_append, HA.out]; simp [hpm])
                  clear hpm HA
                  go_wp2_with fail
                  go_at_call 65; refine (r9part_any src[m] true HPM.out _).mono ?_; rintro e w' ⟨rfl, hw'⟩
                  subst hw'
                  go_wp2_with fail
                  go_round
                  case rel => exact ⟨m + 1, by omega, by omega, HA2, by go_num⟩
                  case measure => simp [intOf]; omega
                | false =>
                  have HPM := Lib.hid hpm
                  have hwe := word_end src k m hkm hm HA.out (.inr ⟨hms, hpm⟩)
                  have hkm2 : k < m := by
                    rcases Nat.lt_or_ge k m with h | h
                    · exact h
                    · obtain rfl : k = m := by omega
                      rw [HP.out] at hpm; cases hpm
                  clear hpm HA
                  have hb1 : (k : Int) ≤ (m : Int) := by omega
                  have hb2 : (m : Int) ≤ (src.size : Int) := by omega
                  have hb5 : (m : Int).toNat = m := by omega
                  have hWpos : 0 < (src.extract k m).size := by rw [← bs_len, bs_extract, List.length_take, List.length_drop, bs_len]; omega
                  have hWs : (src.extract k m).size ≤ 1000000000 := by rw [← bs_len, bs_extract, List.length_take, List.length_drop, bs_len]; omega
                  have HT : Hid (S = match Lx.tokW (bs (src.extract k m)) with | .error e => .bad e | .ok x => .tok x.1 x.2.1 x.2.2 ((bs src).drop m)) := Lib.hid (by rw [HS.out, hwe.1, hwe.2])
                  clear hwe
                  go_wp2_with fail
                  go_at_call 65; refine (r9part_any src[m] false HPM.out _).mono ?_; rintro e w' ⟨rfl, hw'⟩
                  subst hw'
                  go_wp2_with fail
                  go_at_call 87; refine (r9word_any _ _ (by omega) hWpos).mono ?_; intro e w3 hpost
                  cases htk : Lx.tokW (bs (src.extract k m)) with
                  | error z =>
                    rw [htk] at hpost HT
                    obtain ⟨rfl, b3⟩ := hpost
                    dsimp only [tz]
                    have hws : w.heap.size < w3.heap.size := by have := b3.size; simp at this; omega
                    have d0 := tok_cell (i := 0) (v := .int .i64 0) b3 (World.cell?_alloc_new _ _ _ _)
                    have d1 := tok_cell (i := 1) (v := .string ⟨#[]⟩) b3 (World.cell?_alloc_new _ _ _ _)
                    have d2 := tok_cell (i := 2) (v := .int .i64 0) b3 (World.cell?_alloc_new _ _ _ _)
                    have d3 := tok_cell (i := 3) (v := .int .i64 0) b3 (World.cell?_alloc_new _ _ _ _)
                    have f0 := tok_free 0 b3
                    have f1 := tok_free 1 b3
                    have f2 := tok_free 2 b3
                    have f3 := tok_free 3 b3
                    have HB3 := Lib.hid (((Below.refl _ w).alloc (Nat.le_refl _) _).trans (b3.mono (by simp)))
                    clear b3
                    go_wp2_with fail
                    exact bodyPost_ret (v := .tuple #[.agg #[.int .i64 0, .string ⟨#[]⟩, .int .i64 0, .int .i64 0], .int .i64 m, .int .i64 z]) (by simp [results, Tryd.results63, go_sem, *]) rfl (R9Step.bad (z := z) HT.out rfl (Below.alloc ((((HB3.out.setCell (p := ⟨w.heap.size, 0, none⟩) (Nat.le_refl _) _).setCell (p := ⟨w.heap.size, 1, none⟩) (Nat.le_refl _) _).setCell (p := ⟨w.heap.size, 2, none⟩) (Nat.le_refl _) _).setCell (p := ⟨w.heap.size, 3, none⟩) (Nat.le_refl _) _) (Below.size ((((HB3.out.setCell (p := ⟨w.heap.size, 0, none⟩) (Nat.le_refl _) _).setCell (p := ⟨w.heap.size, 1, none⟩) (Nat.le_refl _) _).setCell (p := ⟨w.heap.size, 2, none⟩) (Nat.le_refl _) _).setCell (p := ⟨w.heap.size, 3, none⟩) (Nat.le_refl _) _)) _))
                  | ok x =>
                    rw [htk] at hpost HT
                    obtain ⟨rfl, b3⟩ := hpost
                    dsimp only [tv]
                    have hws : w.heap.size < w3.heap.size := by have := b3.size; simp at this; omega
                    have d0 := tok_cell (i := 0) (v := .int .i64 0) b3 (World.cell?_alloc_new _ _ _ _)
                    have d1 := tok_cell (i := 1) (v := .string ⟨#[]⟩) b3 (World.cell?_alloc_new _ _ _ _)
                    have d2 := tok_cell (i := 2) (v := .int .i64 0) b3 (World.cell?_alloc_new _ _ _ _)
                    have d3 := tok_cell (i := 3) (v := .int .i64 0) b3 (World.cell?_alloc_new _ _ _ _)
                    have f0 := tok_free 0 b3
                    have f1 := tok_free 1 b3
                    have f2 := tok_free 2 b3
                    have f3 := tok_free 3 b3
                    have HB3 := Lib.hid (((Below.refl _ w).alloc (Nat.le_refl _) _).trans (b3.mono (by simp)))
                    clear b3
                    go_wp2_with fail
                    exact bodyPost_ret (v := .tuple #[.agg #[.int .i64 x.1, .string ⟨x.2.1.toArray⟩, .int .i64 x.2.2, .int .i64 0], .int .i64 m, .int .i64 0]) (by simp [results, Tryd.results63, go_sem, *]) rfl (R9Step.tok (kd := x.1) (m := m) HT.out rfl rfl rfl hm rfl (Below.alloc ((((HB3.out.setCell (p := ⟨w.heap.size, 0, none⟩) (Nat.le_refl _) _).setCell (p := ⟨w.heap.size, 1, none⟩) (Nat.le_refl _) _).setCell (p := ⟨w.heap.size, 2, none⟩) (Nat.le_refl _) _).setCell (p := ⟨w.heap.size, 3, none⟩) (Nat.le_refl _) _) (Below.size ((((HB3.out.setCell (p := ⟨w.heap.size, 0, none⟩) (Nat.le_refl _) _).setCell (p := ⟨w.heap.size, 1, none⟩) (Nat.le_refl _) _).setCell (p := ⟨w.heap.size, 2, none⟩) (Nat.le_refl _) _).setCell (p := ⟨w.heap.size, 3, none⟩) (Nat.le_refl _) _)) _))
              · have hwe := word_end src k m hkm hm HA.out (.inl (by omega))
                have hkm2 : k < m := by omega
                clear HA
                have hb1 : (k : Int) ≤ (m : Int) := by omega
                have hb2 : (m : Int) ≤ (src.size : Int) := by omega
                have hb5 : (m : Int).toNat = m := by omega
                have hWpos : 0 < (src.extract k m).size := by rw [← bs_len, bs_extract, List.length_take, List.length_drop, bs_len]; omega
                have hWs : (src.extract k m).size ≤ 1000000000 := by rw [← bs_len, bs_extract, List.length_take, List.length_drop, bs_len]; omega
                have HT : Hid (S = match Lx.tokW (bs (src.extract k m)) with | .error e => .bad e | .ok x => .tok x.1 x.2.1 x.2.2 ((bs src).drop m)) := Lib.hid (by rw [HS.out, hwe.1, hwe.2])
                clear hwe
                go_wp2_with fail
                go_at_call 87; refine (r9word_any _ _ (by omega) hWpos).mono ?_; intro e w3 hpost
                cases htk : Lx.tokW (bs (src.extract k m)) with
                | error z =>
                  rw [htk] at hpost HT
                  obtain ⟨rfl, b3⟩ := hpost
                  dsimp only [tz]
                  have hws : w.heap.size < w3.heap.size := by have := b3.size; simp at this; omega
                  have d0 := tok_cell (i := 0) (v := .int .i64 0) b3 (World.cell?_alloc_new _ _ _ _)
                  have d1 := tok_cell (i := 1) (v := .string ⟨#[]⟩) b3 (World.cell?_alloc_new _ _ _ _)
                  have d2 := tok_cell (i := 2) (v := .int .i64 0) b3 (World.cell?_alloc_new _ _ _ _)
                  have d3 := tok_cell (i := 3) (v := .int .i64 0) b3 (World.cell?_alloc_new _ _ _ _)
                  have f0 := tok_free 0 b3
                  have f1 := tok_free 1 b3
                  have f2 := tok_free 2 b3
                  have f3 := tok_free 3 b3
                  have HB3 := Lib.hid (((Below.refl _ w).alloc (Nat.le_refl _) _).trans (b3.mono (by simp)))
                  clear b3
                  go_wp2_with fail
                  exact bodyPost_ret (v := .tuple #[.agg #[.int .i64 0, .string ⟨#[]⟩, .int .i64 0, .int .i64 0], .int .i64 m, .int .i64 z]) (by simp [results, Tryd.results63, go_sem, *]) rfl (R9Step.bad (z := z) HT.out rfl (Below.alloc ((((HB3.out.setCell (p := ⟨w.heap.size, 0, none⟩) (Nat.le_refl _) _).setCell (p := ⟨w.heap.size, 1, none⟩) (Nat.le_refl _) _).setCell (p := ⟨w.heap.size, 2, none⟩) (Nat.le_refl _) _).setCell (p := ⟨w.heap.size, 3, none⟩) (Nat.le_refl _) _) (Below.size ((((HB3.out.setCell (p := ⟨w.heap.size, 0, none⟩) (Nat.le_refl _) _).setCell (p := ⟨w.heap.size, 1, none⟩) (Nat.le_refl _) _).setCell (p := ⟨w.heap.size, 2, none⟩) (Nat.le_refl _) _).setCell (p := ⟨w.heap.size, 3, none⟩) (Nat.le_refl _) _)) _))
                | ok x =>
                  rw [htk] at hpost HT
                  obtain ⟨rfl, b3⟩ := hpost
                  dsimp only [tv]
                  have hws : w.heap.size < w3.heap.size := by have := b3.size; simp at this; omega
                  have d0 := tok_cell (i := 0) (v := .int .i64 0) b3 (World.cell?_alloc_new _ _ _ _)
                  have d1 := tok_cell (i := 1) (v := .string ⟨#[]⟩) b3 (World.cell?_alloc_new _ _ _ _)
                  have d2 := tok_cell (i := 2) (v := .int .i64 0) b3 (World.cell?_alloc_new _ _ _ _)
                  have d3 := tok_cell (i := 3) (v := .int .i64 0) b3 (World.cell?_alloc_new _ _ _ _)
                  have f0 := tok_free 0 b3
                  have f1 := tok_free 1 b3
                  have f2 := tok_free 2 b3
                  have f3 := tok_free 3 b3
                  have HB3 := Lib.hid (((Below.refl _ w).alloc (Nat.le_refl _) _).trans (b3.mono (by simp)))
                  clear b3
                  go_wp2_with fail
                  exact bodyPost_ret (v := .tuple #[.agg #[.int .i64 x.1, .string ⟨x.2.1.toArray⟩, .int .i64 x.2.2, .int .i64 0], .int .i64 m, .int .i64 0]) (by simp [results, Tryd.results63, go_sem, *]) rfl (R9Step.tok (kd := x.1) (m := m) HT.out rfl rfl rfl hm rfl (Below.alloc ((((HB3.out.setCell (p := ⟨w.heap.size, 0, none⟩) (Nat.le_refl _) _).setCell (p := ⟨w.heap.size, 1, none⟩) (Nat.le_refl _) _).setCell (p := ⟨w.heap.size, 2, none⟩) (Nat.le_refl _) _).setCell (p := ⟨w.heap.size, 3, none⟩) (Nat.le_refl _) _) (Below.size ((((HB3.out.setCell (p := ⟨w.heap.size, 0, none⟩) (Nat.le_refl _) _).setCell (p := ⟨w.heap.size, 1, none⟩) (Nat.le_refl _) _).setCell (p := ⟨w.heap.size, 2, none⟩) (Nat.le_refl _) _).setCell (p := ⟨w.heap.size, 3, none⟩) (Nat.le_refl _) _)) _))
  · obtain rfl : k = src.size := by omega
    have HS : Hid (S = .done) := Lib.hid (by rw [hS, List.drop_eq_nil_of_le (by rw [bs_len]; exact Nat.le_refl _)]; rfl)
    clear hS
    go_enter Tryd.func63, Tryd.ntmps63
    go_wp2_with fail
    exact bodyPost_ret (v := .tuple #[.agg #[.int .i64 4, .string ⟨#[]⟩, .int .i64 0, .int .i64 0], .int .i64 src.size, .int .i64 0]) (by simp [results, Tryd.results63, go_sem]) rfl (R9Step.done HS.out rfl ((Below.refl _ _).alloc (Nat.le_refl _) _))
end Go.Proofs.YtdjiimblfhbcjaaDoor
