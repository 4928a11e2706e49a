/- Walks of taquinref02: digit, Unquote. -/
import Derived.Test.YtdjiimblfhbcjaaDoorR2d
namespace Go.Proofs.YtdjiimblfhbcjaaDoor
set_option linter.unusedSimpArgs false
open Go.RowKit

/-- The value of a digit, from the k-th on; 0 if it is none. -/
def dgF : Nat → Nat → UInt8 → Nat
  | 0, _, _ => 0
  | f + 1, k, c => if hxd k = c then k else dgF f (k + 1) c
def dg (c : UInt8) : Nat := dgF 16 0 c
theorem dgF_lt : ∀ (f k : Nat) (c : UInt8), f + k ≤ 16 → dgF f k c < 16 := by
  intro f
  induction f with
  | zero => intro k c _; simp [dgF]
  | succ f ih =>
    intro k c h
    rw [dgF]; split
    · omega
    · exact ih (k + 1) c (by omega)
theorem dg_lt (c : UInt8) : dg c < 16 := dgF_lt 16 0 c (by omega)
def ubR (a b : UInt8) : UInt8 := UInt8.ofNat (dg a * 16 + dg b)
theorem ubR_nat (a b : UInt8) : (ubR a b).toNat = dg a * 16 + dg b := by
  have := dg_lt a; have := dg_lt b
  unfold ubR; rw [UInt8.toNat_ofNat']; omega
theorem ubR_walk (a b : UInt8) : (((dg a : Nat) : Int) * 16 % 256 + ((dg b : Nat) : Int)) % 256 = ((ubR a b).toNat : Int) := by
  have h1 := dg_lt a; have h2 := dg_lt b
  rw [ubR_nat]; omega
/-- What a quoted string's inside reads as, the digits by the reference. -/
def rawR : List UInt8 → List UInt8
  | 92 :: 110 :: r => 10 :: rawR r
  | 92 :: 120 :: a :: b :: r => ubR a b :: rawR r
  | 92 :: c :: r => c :: rawR r
  | a :: r => a :: rawR r
  | [] => []
theorem rawR_n (r : List UInt8) : rawR (92 :: 110 :: r) = 10 :: rawR r := by rw [rawR]
theorem rawR_x (a b : UInt8) (r : List UInt8) : rawR (92 :: 120 :: a :: b :: r) = ubR a b :: rawR r := by rw [rawR]
theorem rawR_c (c : UInt8) (r : List UInt8) (h : c ≠ 110) (h2 : c ≠ 120 ∨ r.length < 2) : rawR (92 :: c :: r) = c :: rawR r := by
  rw [rawR]
  · rintro rfl; exact h rfl
  · intro a b r' e1 e2
    subst e2
    rcases h2 with h2 | h2
    · exact h2 e1
    · simp only [List.length_cons] at h2; omega
theorem rawR_a (a : UInt8) (r : List UInt8) (h : a ≠ 92 ∨ r = []) : rawR (a :: r) = a :: rawR r := by
  rcases h with h | h
  · rw [rawR]
    · intro r' e1; exact absurd e1 h
    · intro x y r' e1; exact absurd e1 h
    · intro x r' e1; exact absurd e1 h
  · subst h
    rw [rawR]
    · intro r' _ e; cases e
    · intro x y r' _ e; cases e
    · intro x r' _ e; cases e
theorem ubR_all : (List.range 256).all (fun n => ubR (hxd (n / 16)) (hxd (n % 16)) == UInt8.ofNat n) = true := by decide +kernel
theorem ubR_hx (c : UInt8) : ubR (hxd (c.toNat / 16)) (hxd (c.toNat % 16)) = c := by
  have h := List.all_eq_true.1 ubR_all c.toNat (List.mem_range.2 c.toNat_lt)
  rw [beq_iff_eq] at h
  rw [h, UInt8.ofNat_toNat]
theorem rawR_qb (l : List UInt8) : rawR (qb l) = l := by
  induction l with
  | nil => rfl
  | cons c l ih =>
    show rawR (qt1 c ++ qb l) = _
    unfold qt1
    split
    · rename_i h
      show rawR (92 :: c :: qb l) = _
      rw [rawR_c, ih]
      · rcases h with rfl | rfl <;> decide
      · left; rcases h with rfl | rfl <;> decide
    · rename_i h
      split
      · rename_i h; subst h; show rawR (92 :: 110 :: qb l) = _; rw [rawR_n, ih]
      · split
        · show rawR (c :: qb l) = _
          rw [rawR_a, ih]
          left; intro e; exact h (.inr e)
        · show rawR (92 :: 120 :: _ :: _ :: qb l) = _
          rw [rawR_x, ih, ubR_hx]
/-- Both readings quote to the string, or none does. -/
theorem rawR_raw {s : ByteArray} (h : quote (rawR (inside s 1)) = bs s) : raw (inside s 1) = rawR (inside s 1) := by
  have := inside_quote s _ h.symm
  rw [this, raw_qb, rawR_qb]
theorem raw_rawR {s : ByteArray} (h : quote (raw (inside s 1)) = bs s) : raw (inside s 1) = rawR (inside s 1) := by
  have := inside_quote s _ h.symm
  rw [this, raw_qb, rawR_qb]
theorem quote_iff (s : ByteArray) : (quote (rawR (inside s 1)) = bs s) ↔ (quote (unq (bs s)) = bs s) := by
  rw [← unq_eq]
  constructor
  · intro h; rw [rawR_raw h]; exact h
  · intro h; rw [← raw_rawR h]; exact h

set_option maxRecDepth 100000 in
set_option maxHeartbeats 2000000 in
theorem rdigit_any (c : UInt8) (w : World) :
    Calls Tryd.prog 66 #[.int .u8 c.toNat] w fun e w' => e = .returned (.int .u8 (dg c)) ∧ w' = w := by
  obtain ⟨D, hD⟩ : ∃ D, D = dg c := ⟨_, rfl⟩
  rw [← hD]
  have HD := Lib.hid hD
  clear hD
  go_enter Tryd.func66, Tryd.ntmps66
  go_wp2_with fail
  go_loop [3] (fun i => ∃ k : Nat, k ≤ 16 ∧ i = .int .i64 k ∧ Hid (D = dgF (16 - k) k c)) (fun i => 16 - (intOf i).toNat)
  case atStart => exact ⟨0, by omega, rfl, HD⟩
  case round =>
    obtain ⟨k, hk, rfl, HK⟩ := hrel
    by_cases hlt : k < 16
    · have g := hxd_get k hlt
      have hs : dgF (16 - k) k c = if hxd k = c then k else dgF (16 - (k + 1)) (k + 1) c := by
        rw [show 16 - k = (16 - (k + 1)) + 1 by omega, dgF]
      have k0 : (0 : Int) ≤ (k : Int) := by omega
      have k1 : (k : Int) < 16 := by omega
      by_cases he : hxd k = c
      · have e1 : (((hxd k).toNat : Int) == (c.toNat : Int)) = true := by rw [u8_eq, he]; exact beq_self_eq_true _
        have HN : Hid (D = k) := Lib.hid (by rw [HK.out, hs, if_pos he])
        have hw := u8_wrap k (by omega)
        clear HK hs he
        go_wp2_with fail
        go_ret
        exact ⟨by rw [HN.out]; rfl, rfl⟩
      · have e1 : (((hxd k).toNat : Int) == (c.toNat : Int)) = false := by rw [u8_eq]; exact beq_eq_false_iff_ne.2 he
        have HN : Hid (D = dgF (16 - (k + 1)) (k + 1) c) := Lib.hid (by rw [HK.out, hs, if_neg he])
        clear HK hs he
        go_wp2_with fail
        go_round
        case rel => exact ⟨k + 1, by omega, by go_num, HN⟩
        case measure => simp [intOf]; omega
    · have HN : Hid (D = 0) := Lib.hid (by rw [HK.out, show 16 - k = 0 by omega, dgF])
      clear HK
      go_wp2_with fail
      go_ret
      exact ⟨by rw [HN.out]; rfl, rfl⟩
theorem rQuote_l (l : List UInt8) (w : World) (hs : l.length ≤ 100000000) :
    Calls Tryd.prog 37 #[.string ⟨l.toArray⟩] w fun e w' => e = .returned (.string ⟨(quote l).toArray⟩) ∧ Below w.heap.size w w' := by
  have h := rQuote_any ⟨l.toArray⟩ w (by rw [← bs_len, bs_lit0]; exact hs)
  rw [bs_lit0] at h; exact h

def UnqPost (s : ByteArray) (w : World) (e : Ending) (w' : World) : Prop :=
  e = .returned (.tuple #[.string (if quote (unq (bs s)) = bs s then ⟨(unq (bs s)).toArray⟩ else ⟨#[]⟩), .bool (decide (quote (unq (bs s)) = bs s))]) ∧ Below w.heap.size w w'
set_option maxRecDepth 100000 in
set_option maxHeartbeats 16000000 in
theorem rUnquote_any (s : ByteArray) (w : World) (hs : s.size ≤ 20000000) :
    Calls Tryd.prog 35 #[.string s] w (UnqPost s w) := by
  obtain ⟨G, hG⟩ : ∃ G, rawR (inside s 1) = G := ⟨_, rfl⟩
  have HG := Lib.hid hG
  clear hG
  go_enter Tryd.func35, Tryd.ntmps35
  go_wp2_with fail
  go_loopw [4, 5] (fun v iv wr => ∃ (k : Nat) (l : List UInt8), 1 ≤ k ∧ k ≤ s.size + 1 ∧ l.length ≤ k ∧ iv = .int .i64 k ∧ Hid (OB w.heap.size wr v l) ∧ Hid (Below w.heap.size w wr) ∧ Hid (G = l ++ rawR (inside s k))) (fun _ iv _ => s.size + 1 - (intOf iv).toNat)
  case atStart => exact ⟨1, [], by omega, by omega, by simp, rfl, Lib.hid (OB.nil _ _), Lib.hid (Below.refl _ _), Lib.hid (by rw [HG.out]; rfl)⟩
  case round =>
    obtain ⟨k, l, hk1, hk, hl, rfl, HB, HW, HN⟩ := hrel
    have hwb : w.heap.size ≤ wr.heap.size := HW.out.size
    by_cases hlt : k + 1 < s.size
    · have hlt0 : (k : Int) < (s.size : Int) - 1 := by omega
      by_cases h92 : s[k] = 92
      · have hx : ((s[k].toNat : Int) == 92) = true := u8_is (b := 92) h92
        by_cases h2 : k + 2 < s.size
        · have hge : (k : Int) + 1 < (s.size : Int) - 1 := by omega
          by_cases h110 : s[k + 1] = 110
          · have hy : ((s[k + 1].toNat : Int) == 110) = true := u8_is (b := 110) h110
            have HG2 : Hid (G = (l ++ [10]) ++ rawR (inside s (k + 2))) := Lib.hid (by rw [HN.out, inside_cons s k hlt, inside_cons s (k + 1) h2, h92, h110, rawR_n, List.append_assoc]; rfl)
            clear HN h92 h110
            go_wp2_with (at_builtin; refine wpList_app_bytes rfl _ _ rfl w.heap.size _ l rfl (HB.out.keep ((Below.refl _ _).alloc (Nat.le_refl _) _)) wr.heap.size 1 [10] #[.int .u8 10] rfl (heap_alloc_new _ _) (by rfl) (by simp; omega) (by simp; omega) ?_)
            intro v' w' h1 h2
            have HB2 := Lib.hid h1
            have HW2 : Hid (Below w.heap.size w w') := Lib.hid ((HW.out.alloc hwb _).trans h2)
            clear h1 h2
            go_wp2_with fail
            go_roundw
            case rel => exact ⟨k + 2, l ++ [10], by omega, by omega, by simp; omega, by go_num, HB2, HW2, HG2⟩
            case measure => simp [intOf]; omega
          · have hy : ((s[k + 1].toNat : Int) == 110) = false := u8_ne (b := 110) h110
            by_cases h120 : s[k + 1] = 120
            · have hz : ((s[k + 1].toNat : Int) == 120) = true := u8_is (b := 120) h120
              by_cases h3 : k + 4 < s.size
              · have hge2 : (k : Int) + 3 < (s.size : Int) - 1 := by omega
                have HG2 : Hid (G = (l ++ [ubR s[k + 2] s[k + 3]]) ++ rawR (inside s (k + 4))) := Lib.hid (by rw [HN.out, inside_cons s k hlt, inside_cons s (k + 1) h2, inside_cons s (k + 2) (by omega), inside_cons s (k + 3) (by omega), h92, h120, rawR_x, List.append_assoc]; rfl)
                have HU := Lib.hid (ubR_walk s[k + 2] s[k + 3])
                have hn1 : (0 : Int) ≤ (k : Int) + 2 := by omega
                have hn2 : (0 : Int) ≤ (k : Int) + 3 := by omega
                have hn3 : (k : Int) + 2 < (s.size : Int) := by omega
                have hn4 : (k : Int) + 3 < (s.size : Int) := by omega
                have ht1 : ((k : Int) + 2).toNat = k + 2 := by omega
                have ht2 : ((k : Int) + 3).toNat = k + 3 := by omega
                have ht3 : ((k : Int) + 1 + 1).toNat = k + 2 := by omega
                have ht4 : ((k : Int) + 1 + 1 + 1).toNat = k + 3 := by omega
                have hw1 : IntKind.i64.wrap (((k : Int) + 1) + 1) = (k : Int) + 2 := by rw [IntWalk.i64_in _ (by omega)]; omega
                have hw2 : IntKind.i64.wrap (((k : Int) + 1 + 1) + 1) = (k : Int) + 3 := by rw [IntWalk.i64_in _ (by omega)]; omega
                have hw3 : IntKind.i64.wrap (((k : Int) + 2) + 1) = (k : Int) + 3 := by rw [IntWalk.i64_in _ (by omega)]; omega
                clear HN h92 h110 h120
                go_wp2_with fail
                go_quiet ((go_at_call 66; exact Calls.quiet_of_same (rdigit_any _ _)))
                rw [HU.out]
                generalize hwq : wr.drewN nq = w2
                have HB9 : Hid (OB w.heap.size w2 u4 l) := Lib.hid (hwq ▸ (show OB w.heap.size (wr.drewN nq) u4 l from HB.out))
                have HW9 : Hid (Below w.heap.size w w2) := Lib.hid (hwq ▸ (HW.out.trans (below_drewN _ _ _)))
                have hwb9 : w.heap.size ≤ w2.heap.size := HW9.out.size
                clear hwq hw1 hw2 hw3
                go_wp2_with (at_builtin; refine wpList_app_bytes rfl _ _ rfl w.heap.size _ l rfl (HB9.out.keep ((Below.refl _ _).alloc (Nat.le_refl _) _)) w2.heap.size 1 [ubR s[k + 2] s[k + 3]] #[.int .u8 (ubR s[k + 2] s[k + 3]).toNat] rfl (heap_alloc_new _ _) (by rfl) (by simp; omega) (by simp; omega) ?_)
                intro v' w' h1 h2
                have HB2 := Lib.hid h1
                have HW2 : Hid (Below w.heap.size w w') := Lib.hid ((HW9.out.alloc hwb9 _).trans h2)
                clear h1 h2
                go_wp2_with fail
                go_roundw
                case rel => exact ⟨k + 4, l ++ [ubR s[k + 2] s[k + 3]], by omega, by omega, by simp; omega, by go_num, HB2, HW2, HG2⟩
                case measure => simp [intOf]; omega
              · have hge2 : (s.size : Int) - 1 ≤ (k : Int) + 3 := by omega
                have HG2 : Hid (G = (l ++ [s[k + 1]]) ++ rawR (inside s (k + 2))) := Lib.hid (by rw [HN.out, inside_cons s k hlt, inside_cons s (k + 1) h2, h92, rawR_c _ _ h110 (.inr (by rw [inside_len]; omega)), List.append_assoc]; rfl)
                clear HN h92 h110 h120
                go_wp2_with (at_builtin; refine wpList_app_bytes rfl _ _ rfl w.heap.size _ l rfl (HB.out.keep ((Below.refl _ _).alloc (Nat.le_refl _) _)) wr.heap.size 1 [s[k + 1]] #[.int .u8 s[k + 1].toNat] rfl (heap_alloc_new _ _) (by rfl) (by simp; omega) (by simp; omega) ?_)
                intro v' w' h1 h2
                have HB2 := Lib.hid h1
                have HW2 : Hid (Below w.heap.size w w') := Lib.hid ((HW.out.alloc hwb _).trans h2)
                clear h1 h2
                go_wp2_with fail
                go_roundw
                case rel => exact ⟨k + 2, l ++ [s[k + 1]], by omega, by omega, by simp; omega, by go_num, HB2, HW2, HG2⟩
                case measure => simp [intOf]; omega
            · have hz : ((s[k + 1].toNat : Int) == 120) = false := u8_ne (b := 120) h120
              have HG2 : Hid (G = (l ++ [s[k + 1]]) ++ rawR (inside s (k + 2))) := Lib.hid (by rw [HN.out, inside_cons s k hlt, inside_cons s (k + 1) h2, h92, rawR_c _ _ h110 (.inl h120), List.append_assoc]; rfl)
              clear HN h92 h110 h120
              go_wp2_with (at_builtin; refine wpList_app_bytes rfl _ _ rfl w.heap.size _ l rfl (HB.out.keep ((Below.refl _ _).alloc (Nat.le_refl _) _)) wr.heap.size 1 [s[k + 1]] #[.int .u8 s[k + 1].toNat] rfl (heap_alloc_new _ _) (by rfl) (by simp; omega) (by simp; omega) ?_)
              intro v' w' h1 h2
              have HB2 := Lib.hid h1
              have HW2 : Hid (Below w.heap.size w w') := Lib.hid ((HW.out.alloc hwb _).trans h2)
              clear h1 h2
              go_wp2_with fail
              go_roundw
              case rel => exact ⟨k + 2, l ++ [s[k + 1]], by omega, by omega, by simp; omega, by go_num, HB2, HW2, HG2⟩
              case measure => simp [intOf]; omega
        · have hge : (s.size : Int) - 1 ≤ (k : Int) + 1 := by omega
          have HG2 : Hid (G = (l ++ [s[k]]) ++ rawR (inside s (k + 1))) := Lib.hid (by rw [HN.out, inside_cons s k hlt, rawR_a _ _ (.inr (inside_nil s (k + 1) h2)), List.append_assoc]; rfl)
          clear HN h92
          go_wp2_with (at_builtin; refine wpList_app_bytes rfl _ _ rfl w.heap.size _ l rfl (HB.out.keep ((Below.refl _ _).alloc (Nat.le_refl _) _)) wr.heap.size 1 [s[k]] #[.int .u8 s[k].toNat] rfl (heap_alloc_new _ _) (by rfl) (by simp; omega) (by simp; omega) ?_)
          intro v' w' h1 h2
          have HB2 := Lib.hid h1
          have HW2 : Hid (Below w.heap.size w w') := Lib.hid ((HW.out.alloc hwb _).trans h2)
          clear h1 h2
          go_wp2_with fail
          go_roundw
          case rel => exact ⟨k + 1, l ++ [s[k]], by omega, by omega, by simp; omega, by go_num, HB2, HW2, HG2⟩
          case measure => simp [intOf]; omega
      · have hx : ((s[k].toNat : Int) == 92) = false := u8_ne (b := 92) h92
        have HG2 : Hid (G = (l ++ [s[k]]) ++ rawR (inside s (k + 1))) := Lib.hid (by rw [HN.out, inside_cons s k hlt, rawR_a _ _ (.inl h92), List.append_assoc]; rfl)
        clear HN h92
        go_wp2_with (at_builtin; refine wpList_app_bytes rfl _ _ rfl w.heap.size _ l rfl (HB.out.keep ((Below.refl _ _).alloc (Nat.le_refl _) _)) wr.heap.size 1 [s[k]] #[.int .u8 s[k].toNat] rfl (heap_alloc_new _ _) (by rfl) (by simp; omega) (by simp; omega) ?_)
        intro v' w' h1 h2
        have HB2 := Lib.hid h1
        have HW2 : Hid (Below w.heap.size w w') := Lib.hid ((HW.out.alloc hwb _).trans h2)
        clear h1 h2
        go_wp2_with fail
        go_roundw
        case rel => exact ⟨k + 1, l ++ [s[k]], by omega, by omega, by simp; omega, by go_num, HB2, HW2, HG2⟩
        case measure => simp [intOf]; omega
    · have hg : G = l := by rw [HN.out, inside_nil s k hlt, rawR, List.append_nil]
      subst hg
      have hge : (s.size : Int) - 1 ≤ (k : Int) := by omega
      have hql : G.length ≤ 20000001 := by omega
      have hqi := quote_iff s
      rw [HG.out] at hqi
      clear HN
      by_cases hq : quote G = bs s
      · have hqq : (quote G == s.toList) = true := by rw [toList_bs, hq]; exact beq_self_eq_true _
        have hqn : (quote G != s.toList) = false := by rw [bne, hqq]; rfl
        have HQ := Lib.hid (hqi.1 hq)
        have HR : Hid (unq (bs s) = G) := Lib.hid (by rw [← HG.out, ← unq_eq]; exact rawR_raw (by rw [HG.out]; exact hq))
        clear hq hqi
        have hcv := conv_own HB.out
        go_wp2_with fail
        go_at_call 37; refine (rQuote_l G _ (by omega)).mono ?_; rintro e w3 ⟨rfl, b⟩
        have hcv2 := conv_own (HB.out.keep b)
        clear hcv
        go_wp2_with fail
        go_ret2
        exact ⟨by rw [if_pos HQ.out, decide_eq_true HQ.out, HR.out]; rfl, HW.out.trans (b.mono hwb)⟩
      · have hqq : (quote G == s.toList) = false := by rw [toList_bs]; exact beq_eq_false_iff_ne.2 hq
        have hqn : (quote G != s.toList) = true := by rw [bne, hqq]; rfl
        have HQ := Lib.hid (fun h => hq (hqi.2 h))
        clear hq hqi
        have hcv := conv_own HB.out
        go_wp2_with fail
        go_at_call 37; refine (rQuote_l G _ (by omega)).mono ?_; rintro e w3 ⟨rfl, b⟩
        go_wp2_with fail
        go_ret2
        exact ⟨by rw [if_neg HQ.out, decide_eq_false HQ.out]; rfl, HW.out.trans (b.mono hwb)⟩
end Go.Proofs.YtdjiimblfhbcjaaDoor
