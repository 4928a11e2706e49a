/- Parts DsD of this claim, laid one behind the other: walks and the plain laws behind them; each contract states its own conditions. -/
import Derived.Test.YtnccndfffmaonaaGreatDoorZM
/- The statement DraftBlanks: the walk. -/
namespace Go.Proofs.YtnccndfffmaonaaGreatDoor
set_option linter.unusedSimpArgs false
set_option linter.unusedVariables false
open Go.RowKit

theorem DVi.lines {w : World} {iv : Value} {items : List Dr.Item} (h : DVi w iv items) : ∃ a cap, iv = .slice a items.length cap ∧ items.length ≤ 9223372036854775807 ∧ ∀ k, (h : k < items.length) → ∃ b off, a = some ⟨b, off, none⟩ ∧ w.cell? ⟨b, off + k * 5 + 1, none⟩ = some (.int .i64 items[k].line) := by
  obtain ⟨l, rfl, ⟨a, cap, rfl, hm, hn, hc⟩, hs⟩ := h
  refine ⟨a, cap, by rw [List.length_map], by rw [List.length_map]; unfold maxLen at hm; omega, fun k hk => ?_⟩
  obtain ⟨b, off, h1, p0, p1, -⟩ := hc k (by simpa using hk)
  exact ⟨b, off, h1, by rw [p1, List.getElem_map]⟩
theorem size_app4 (a b : ByteArray) : (a ++ b).size = a.size + b.size := by rw [← bs_len, bs_app3, List.length_append, bs_len, bs_len]
theorem Same_is (va ia vb ib : Value) (x y : Dr.Draft) (r : Bool) (hr : Dr.same x y = r) (w : World) (ha : DV w va ia x) (hb : DV w vb ib y) :
    Calls Tryz.prog 16 #[.agg #[va, ia], .agg #[vb, ib]] w fun e w' => e = .returned (.bool r) ∧ Below w.heap.size w w' := by
  rw [← hr]; exact Same_any va ia vb ib x y w ha hb

set_option maxRecDepth 100000 in
set_option maxHeartbeats 16000000 in
theorem DraftBlanks_out (src : ByteArray) (n : Int) (c : ByteArray) (w : World) (hE : Env w) (h : 2500 < src.size ∨ (src.size ≤ 2500 ∧ (n < 0 ∨ 50 < n)) ∨ (src.size ≤ 2500 ∧ 0 ≤ n ∧ n ≤ 50 ∧ 100 < c.size)) :
    Calls Tryz.prog 6 #[.string src, .int .i64 n, .string c] w fun e w' => e = .returned (.bool true) ∧ Below w.heap.size w w' := by
  have HE := Lib.hid hE
  clear hE
  rcases h with h | ⟨h, h2 | h2⟩ | ⟨h, h0, h1, h2⟩
  · have e1 : (2500 : Int) < (src.size : Int) := by omega
    go_enter Tryz.func6, Tryz.ntmps6
    go_wp2_with fail
    go_at_call 7; refine (small_any_dr _ HE.out).mono ?_; rintro e w1 ⟨rfl, B⟩
    go_wp2_with fail
    go_ret
    exact ⟨rfl, B⟩
  · have e1 : (src.size : Int) ≤ 2500 := by omega
    go_enter Tryz.func6, Tryz.ntmps6
    go_wp2_with fail
    go_at_call 7; refine (small_any_dr _ HE.out).mono ?_; rintro e w1 ⟨rfl, B⟩
    go_wp2_with fail
    go_ret
    exact ⟨rfl, B⟩
  · have e1 : (src.size : Int) ≤ 2500 := by omega
    have e2 : 0 ≤ n := by omega
    go_enter Tryz.func6, Tryz.ntmps6
    go_wp2_with fail
    go_at_call 7; refine (small_any_dr _ HE.out).mono ?_; rintro e w1 ⟨rfl, B⟩
    go_wp2_with fail
    go_ret
    exact ⟨rfl, B⟩
  · have e1 : (src.size : Int) ≤ 2500 := by omega
    have e3 : (100 : Int) < (c.size : Int) := by omega
    go_enter Tryz.func6, Tryz.ntmps6
    go_wp2_with fail
    go_at_call 7; refine (small_any_dr _ HE.out).mono ?_; rintro e w1 ⟨rfl, B⟩
    go_wp2_with fail
    go_ret
    exact ⟨rfl, B⟩

set_option maxRecDepth 100000 in
set_option maxHeartbeats 32000000 in
theorem DraftBlanks_in (src : ByteArray) (n : Nat) (c : ByteArray) (w : World) (hE : Env w) (h1 : src.size ≤ 2500) (h2 : n ≤ 50) (h3 : c.size ≤ 100) :
    Calls Tryz.prog 6 #[.string src, .int .i64 n, .string c] w fun e w' => e = .returned (.bool true) ∧ Below w.heap.size w w' := by
  have HE := Lib.hid hE
  have e1 : (src.size : Int) ≤ 2500 := by omega
  have e2 : (0 : Int) ≤ (n : Int) := by omega
  have e3 : (n : Int) ≤ 50 := by omega
  have e4 : (c.size : Int) ≤ 100 := by omega
  clear hE
  go_enter Tryz.func6, Tryz.ntmps6
  go_wp2_with fail
  go_at_call 7; refine (small_any_dr _ HE.out).mono ?_; rintro e w1 ⟨rfl, B⟩
  have B1 := Lib.hid B
  clear B
  go_wp2_with fail
  go_loop [8] (fun iv => ∃ k : Nat, k ≤ c.size ∧ iv = .int .i64 k ∧ Hid (∀ x ∈ (bs c).take k, x ≠ 10)) (fun iv => c.size - (intOf iv).toNat)
  case atStart => exact ⟨0, by omega, rfl, Lib.hid (fun x h => by cases h)⟩
  case round =>
    obtain ⟨k, hk, rfl, HN⟩ := hrel
    by_cases hkc : k < c.size
    · have kI0 : (0 : Int) ≤ (k : Int) := by omega
      have kI1 : (k : Int) < (c.size : Int) := by omega
      by_cases hc : c[k] = 10
      · have hq : ((c[k].toNat : Int) == 10) = true := u8_is (b := 10) hc
        clear hc
        go_wp2_with fail
        go_ret
        exact ⟨rfl, B1.out⟩
      · have hq : ((c[k].toNat : Int) == 10) = false := u8_ne (b := 10) hc
        have HN2 : Hid (∀ x ∈ (bs c).take (k + 1), x ≠ 10) := Lib.hid (fun x hx => by
          rw [List.take_succ_eq_append_getElem (by rw [bs_len]; exact hkc)] at hx
          rcases List.mem_append.1 hx with hx | hx
          · exact HN.out x hx
          · obtain rfl := List.mem_singleton.1 hx; exact hc)
        clear hc
        go_wp2_with fail
        go_round
        case rel => exact ⟨k + 1, by omega, by go_num, HN2⟩
        case measure => simp [intOf]; omega
    · have HC : Hid (∀ x ∈ bs c, x ≠ 10) := Lib.hid (fun x hx => HN.out x (by rw [List.take_of_length_le (by rw [bs_len]; omega)]; exact hx))
      clear HN
      go_wp2_with fail
      cases hG : Dr.read (bs src) with
      | error x =>
        obtain ⟨z, ln⟩ := x
        have HR := Lib.hid hG
        have hz := Dr.read_code hG
        have hz2 : ((z : Int) != 0) = true := by simp; omega
        clear hG hz
        go_at_call 9; refine (Parse_bad src z ln HR.out _ (HE.out.below B1.out) (by omega)).mono ?_; rintro e w2 ⟨rfl, b⟩
        have B2 := Lib.hid (B1.out.trans (b.mono B1.out.size))
        clear b
        go_wp2_with fail
        go_ret
        exact ⟨rfl, B2.out.alloc B2.out.size _⟩
      | ok d =>
        have HL := Lib.hid (Dr.read_lines hG)
        have HZ := Lib.hid (Dr.read_blanks (n := n) HC.out hG)
        have HR := Lib.hid hG
        clear hG
        go_at_call 9; refine (Parse_ok src d HR.out _ (HE.out.below B1.out) (by omega)).mono ?_; rintro e w2 ⟨dv, iv, rfl, D1, b⟩
        have B2 := Lib.hid (B1.out.trans (b.mono B1.out.size))
        obtain ⟨a1, m1, c1, rfl⟩ : ∃ a n c, dv = .slice a n c := by obtain ⟨⟨us, h, -⟩, -⟩ := D1; obtain ⟨a, c, rfl, -⟩ := h.slice; exact ⟨_, _, _, rfl⟩
        obtain ⟨a3, c3, rfl, -⟩ := D1.2.lines
        have D1 := Lib.hid D1
        clear b HR B1
        go_wp2_with fail
        generalize hW : World.alloc w2 _ = W2
        have b2 : Below w2.heap.size w2 W2 := hW ▸ (Below.refl _ _).alloc (Nat.le_refl _) _
        have i2 : W2.heap[w2.heap.size]? = some (.cells #[.slice a1 m1 c1, .slice a3 d.items.length c3] 25 (0, 0)) := hW ▸ heap_alloc_new _ _
        have D2 := Lib.hid (D1.out.keep b2)
        have B3 := Lib.hid (B2.out.trans (b2.mono B2.out.size))
        have I2 := Lib.hid i2
        obtain ⟨N, hN⟩ : ∃ N, N = d.items.length := ⟨_, rfl⟩
        rw [← hN] at I2 D2
        have HN := Lib.hid hN
        clear hW b2 i2 D1 B2 hN
        go_loop [12, 13] (fun sv iv => ∃ (k : Nat) (S : ByteArray), k ≤ n ∧ iv = .int .i64 k ∧ sv = .string S ∧ Hid (bs S = 35 :: (bs c ++ 10 :: List.replicate k 10)) ∧ S.size ≤ 200) (fun _ iv => n - (intOf iv).toNat)
        case atStart => exact ⟨0, _, by omega, rfl, rfl, Lib.hid (by simp [bs]), by rw [size_app4, size_app4, show (⟨#[35]⟩ : ByteArray).size = 1 from rfl, show (⟨#[10]⟩ : ByteArray).size = 1 from rfl]; omega⟩
        case round =>
          obtain ⟨k, S, hk, rfl, rfl, HS, hS⟩ := hrel
          by_cases hkn : k < n
          · have HS2 : Hid (bs (S ++ ⟨#[10]⟩) = 35 :: (bs c ++ 10 :: List.replicate (k + 1) 10)) := Lib.hid (by rw [bs_app3, HS.out, show bs ⟨#[10]⟩ = [10] from rfl, List.replicate_succ']; simp)
            have hS2 : (S ++ ⟨#[10]⟩ : ByteArray).size ≤ 200 := by
              rw [← bs_len, HS2.out]; simp [bs_len]; omega
            go_wp2_with fail
            go_round
            case rel => exact ⟨k + 1, _, by omega, by go_num, rfl, HS2, hS2⟩
            case measure => simp [intOf]; omega
          · obtain rfl : k = n := by omega
            have hT : bs (S ++ src ++ ⟨#[32, 32, 32, 35]⟩ ++ c) = 35 :: (bs c ++ 10 :: (List.replicate k 10 ++ (bs src ++ (32 :: 32 :: 32 :: 35 :: bs c)))) := by
              rw [bs_app3, bs_app3, bs_app3, HS.out, show bs ⟨#[32, 32, 32, 35]⟩ = [32, 32, 32, 35] from rfl]; simp
            have hz1 : (S ++ src).size ≤ 2700 := by rw [size_app4]; omega
            have hz2 : (S ++ src ++ ⟨#[32, 32, 32, 35]⟩).size ≤ 2704 := by rw [size_app4, show (⟨#[32, 32, 32, 35]⟩ : ByteArray).size = 4 from rfl]; omega
            have hz3 : (S ++ src ++ ⟨#[32, 32, 32, 35]⟩ ++ c).size ≤ 2804 := by rw [size_app4]; omega
            have HRD : Hid (Dr.read (bs (S ++ src ++ ⟨#[32, 32, 32, 35]⟩ ++ c)) = .ok (d.later (k + 1))) := Lib.hid (by rw [hT]; exact HZ.out)
            clear hT
            go_wp2_with fail
            go_at_call 9; refine (Parse_ok _ _ HRD.out _ (HE.out.below B3.out) (by omega)).mono ?_; rintro e w4 ⟨dv, iv, rfl, D3, b⟩
            have b3 := b
            have B4 := Lib.hid (B3.out.trans (b.mono B3.out.size))
            obtain ⟨a5, m5, c5, rfl⟩ : ∃ a n c, dv = .slice a n c := by obtain ⟨⟨us, h, -⟩, -⟩ := D3; obtain ⟨a, c, rfl, -⟩ := h.slice; exact ⟨_, _, _, rfl⟩
            obtain ⟨a6, c6, rfl, -⟩ := D3.2.lines
            have hlen : (d.later (k + 1)).items.length = N := by rw [HN.out]; simp [Dr.Draft.later]
            rw [hlen] at D3 ⊢
            have D3 := Lib.hid D3
            have D4 := Lib.hid (D2.out.keep b)
            have I4 := Lib.hid ((b.block w2.heap.size (Array.getElem?_eq_some_iff.1 I2.out).1).trans I2.out)
            have HLN := Lib.hid hlen
            have l4 : w2.heap.size < w4.heap.size := (Array.getElem?_eq_some_iff.1 I4.out).1
            have g2 : w4.cell? ⟨w2.heap.size, 0, none⟩ = some (.slice a1 m1 c1) := cell_of_heap I4.out 0 rfl
            have g3 : w4.cell? ⟨w2.heap.size, 1, none⟩ = some (.slice a3 N c3) := cell_of_heap I4.out 1 rfl
            have HSM : Hid (Dr.same (d.later (k + 1)) d = true) := Lib.hid (Dr.same_later _ _)
            clear b b3 D2 I2 B3 hz1 hz2 hz3 hlen HRD HS
            go_wp2_with fail
            have bA : Below w4.heap.size w4 (w4.alloc (.cells #[.slice a5 m5 c5, .slice a6 N c6] 25)) := (Below.refl _ w4).alloc (Nat.le_refl _) _
            go_at_call 16; refine (Same_is _ _ _ _ _ _ _ HSM.out _ (by exact D3.out.keep bA) (by exact D4.out.keep bA)).mono ?_; rintro e w6 ⟨rfl, b⟩
            have bB := bA.trans (b.mono bA.size)
            have B6 := Lib.hid (B4.out.trans (bB.mono B4.out.size))
            have D7 := Lib.hid (D3.out.keep bB)
            have D8 := Lib.hid (D4.out.keep bB)
            have I6 : Hid (w6.heap[w4.heap.size]? = some (.cells #[.slice a5 m5 c5, .slice a6 N c6] 25 (0, 0))) := Lib.hid ((b.block w4.heap.size (by simp)).trans (heap_alloc_new _ _))
            have J6 := Lib.hid ((bB.block w2.heap.size l4).trans I4.out)
            clear b bA bB g2 g3 D3 D4 B4 I4 l4
            go_wp2_with fail
            go_loopw [17] (fun iv wr => ∃ q : Nat, q ≤ N ∧ iv = .int .i64 q ∧ Hid (Below w6.heap.size w6 wr)) (fun iv _ => N - (intOf iv).toNat)
            case atStart => exact ⟨0, by omega, rfl, Lib.hid (Below.refl _ _)⟩
            case round =>
              obtain ⟨q, hq, rfl, HB⟩ := hrel
              have g1 : wr.cell? ⟨w4.heap.size, 1, none⟩ = some (.slice a6 N c6) := cell_of_heap ((HB.out.block _ (Array.getElem?_eq_some_iff.1 I6.out).1).trans I6.out) 1 rfl
              have g3 : wr.cell? ⟨w2.heap.size, 1, none⟩ = some (.slice a3 N c3) := cell_of_heap ((HB.out.block _ (Array.getElem?_eq_some_iff.1 J6.out).1).trans J6.out) 1 rfl
              obtain ⟨a7, c7, e1, hm7, -⟩ := D7.out.2.lines
              rw [HLN.out] at hm7
              clear e1
              by_cases hqN : q < N
              · have hqd : q < d.items.length := by rw [← HN.out]; exact hqN
                have hqx : q < (d.later (k + 1)).items.length := by rw [HLN.out]; exact hqN
                obtain ⟨a8, c8, e1, -, hx⟩ := (D7.out.keep HB.out).2.lines
                obtain ⟨b8, o8, rfl, x1⟩ := hx q hqx
                injection e1 with e1 e2 e3
                subst e1
                obtain ⟨a9, c9, e1, -, hx9⟩ := (D8.out.keep HB.out).2.lines
                obtain ⟨b9, o9, rfl, x2⟩ := hx9 q hqd
                injection e1 with e1 e4 e5
                subst e1
                obtain ⟨hl0, hl1⟩ := HL.out _ (List.getElem_mem hqd)
                have hle : (d.later (k + 1)).items[q].line = d.items[q].line + (k : Int) + 1 := by
                  simp [Dr.Draft.later, Dr.Item.later]; omega
                rw [hle] at x1
                obtain ⟨ln, hln⟩ : ∃ ln, ln = d.items[q].line := ⟨_, rfl⟩
                rw [← hln] at x1 x2 hl0 hl1
                rw [bs_len] at hl1
                have hl2 : ln ≤ 100000 := by omega
                have qI0 : (0 : Int) ≤ (q : Int) := by omega
                have qI1 : (q : Int) < (N : Int) := by omega
                have hne : ((ln + (k : Int) + 1) != (ln + (k : Int) + 1)) = false := by simp
                have hw1 : IntKind.i64.wrap (ln + (k : Int)) = ln + (k : Int) := IntWalk.i64_in _ (by omega)
                have hw2 : IntKind.i64.wrap (ln + (k : Int) + 1) = ln + (k : Int) + 1 := IntWalk.i64_in _ (by omega)
                have hw3 : IntKind.i64.wrap (q : Int) = (q : Int) := IntWalk.i64_in _ (by omega)
                clear hx hx9 e2 e3 e4 e5 hl1 hle hln hqd hqx
                go_wp2_with fail
                go_quiet (fail)
                all_goals
                  go_wp2_with fail
                  go_roundw
                  case rel => exact ⟨q + 1, by omega, by go_num, Lib.hid (HB.out.trans (below_drewN _ _ _))⟩
                  case measure => simp [intOf]; omega
              · obtain rfl : q = N := by omega
                go_wp2_with fail
                go_ret
                exact ⟨rfl, B6.out.trans (HB.out.mono B6.out.size)⟩
theorem DraftBlanks_any (src : ByteArray) (n : Int) (c : ByteArray) (w : World) (hE : Env w) :
    Calls Tryz.prog 6 #[.string src, .int .i64 n, .string c] w fun e w' => e = .returned (.bool true) ∧ Below w.heap.size w w' := by
  by_cases h : 2500 < src.size ∨ (src.size ≤ 2500 ∧ (n < 0 ∨ 50 < n)) ∨ (src.size ≤ 2500 ∧ 0 ≤ n ∧ n ≤ 50 ∧ 100 < c.size)
  · exact DraftBlanks_out src n c w hE h
  · obtain ⟨m, rfl⟩ : ∃ m : Nat, n = (m : Int) := ⟨n.toNat, by omega⟩
    exact DraftBlanks_in src m c w hE (by omega) (by omega) (by omega)
end Go.Proofs.YtnccndfffmaonaaGreatDoor
