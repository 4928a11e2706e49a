/- Contracts of the reference's loops: Acts, Sum, Run, Ticks. -/
import Derived.Test.YtmfgdocbmgmopaaBatR
namespace Go.Proofs.Ytmfgdocbmgmopaa
open Go.RowKit

def AllI64 (l : List Int) : Prop := ∀ x ∈ l, I64 x

/-- A slice of ints. -/
def SliceI (w : World) (v : Value) (l : List Int) : Prop :=
  ∃ a cap, v = .slice a l.length cap ∧ l.length ≤ maxLen ∧ AllI64 l ∧ ∀ i, (h : i < l.length) → ∃ b off, a = some ⟨b, off, none⟩ ∧ w.cell? ⟨b, off + i, none⟩ = some (.int .i64 (l[i]?.getD 0))

theorem elem_at {w : World} {a : Option Addr} {l : List Int} (hl : AllI64 l) (hc : ∀ i, (h : i < l.length) → ∃ b off, a = some ⟨b, off, none⟩ ∧ w.cell? ⟨b, off + i, none⟩ = some (.int .i64 (l[i]?.getD 0))) (k : Nat) (hk : k < l.length) :
    ∃ e b off, a = some ⟨b, off, none⟩ ∧ w.cell? ⟨b, off + k, none⟩ = some (.int .i64 e) ∧ I64 e ∧ Hid (l.drop k = e :: l.drop (k + 1)) ∧ Hid (l.take (k + 1) = l.take k ++ [e]) := by
  obtain ⟨b, off, h1, h2⟩ := hc k hk
  refine ⟨l[k], b, off, h1, ?_, hl _ (by simp), List.drop_eq_getElem_cons hk, List.take_succ_eq_append_getElem hk⟩
  rw [h2]; simp [hk]
def Bat.isAct (a : Int) : Bool := decide (0 ≤ a ∧ a < 10)
theorem rAct_is (a : Int) (w : World) :
    Calls Try.prog 28 #[.int .i64 a] w fun e w' => e = .returned (.bool (Bat.isAct a)) ∧ w = w' := rAct_any a w
set_option maxHeartbeats 400000 in
theorem rActs_any (v : Value) (l : List Int) (n : Int) (w : World) (hv : SliceI w v l) (hn : 0 ≤ n ∧ n ≤ 1000) :
    Calls Try.prog 11 #[v, .int .i64 n] w fun e w' => e = .returned (.bool (decide (l.length ≤ n) && (l.take n.toNat).all Bat.isAct)) ∧ w = w' := by
  obtain ⟨a, cap, rfl, hm, hl, hc⟩ := hv
  unfold maxLen at hm
  obtain ⟨n1, n2⟩ := hn
  go_enter Try.func11, Try.ntmps11
  go_wp2
  go_loop [5] (fun i => ∃ k : Nat, k ≤ l.length ∧ k ≤ n.toNat ∧ (l.take k).all Bat.isAct = true ∧ i = .int .i64 k) (fun i => l.length - (intOf i).toNat)
  case atStart => exact ⟨0, by omega, by omega, by simp, rfl⟩
  case round =>
    obtain ⟨k, hk, hkn, hall, rfl⟩ := hrel
    have HA := Lib.hid hall
    clear hall
    by_cases hlt : k < l.length ∧ (k : Int) < n
    · obtain ⟨hlt, hlt2⟩ := hlt
      obtain ⟨e, b, off, rfl, hcell, hi, -, Hts⟩ := elem_at hl hc k hlt
      clear hc
      by_cases hact : Bat.isAct e = true
      · go_wp2_with (go_at_call 28; refine (rAct_is _ _).mono ?_; rintro e w' ⟨rfl, rfl⟩)
        go_round
        case rel => exact ⟨k + 1, by omega, by omega, by rw [Hts.out, List.all_append, HA.out]; simpa using hact, by go_num⟩
        case measure => simp [intOf]; omega
      · have hact' : Bat.isAct e = false := by simpa using hact
        clear hact
        go_wp2_with (go_at_call 28; refine (rAct_is _ _).mono ?_; rintro e w' ⟨rfl, rfl⟩)
        go_ret
        refine ⟨ret_bool ?_, rfl⟩
        have : (l.take n.toNat).all Bat.isAct = false := by
          rw [List.all_eq_false]
          refine ⟨e, ?_, by simp [hact']⟩
          have h1 : e ∈ l.take (k + 1) := by rw [Hts.out]; simp
          exact (List.take_subset_take_left l (by omega)) h1
        rw [this]; simp
    · clear hc
      by_cases hlt3 : k < l.length
      all_goals
       go_wp2
       go_ret
       refine ⟨ret_bool ?_, rfl⟩
       have hh : l.take n.toNat = l.take k := by
         by_cases h : k < l.length
         · rw [show n.toNat = k by omega]
         · rw [List.take_of_length_le (by omega), List.take_of_length_le (by omega)]
       rw [hh, HA.out]; simp

set_option maxHeartbeats 400000 in
theorem rSum_any (t : Int) (v : Value) (l : List Int) (b : Bool) (w : World) (hv : SliceI w v l) (ht : 0 ≤ t ∧ t ≤ 20000) (hlen : l.length ≤ 1000) :
    Calls Try.prog 26 #[.int .i64 t, v, .bool b] w fun e w' => e = .returned (.int .i64 (Bat.sum t l b)) ∧ w = w' := by
  obtain ⟨a, cap, rfl, hm, hl, hc⟩ := hv
  unfold maxLen at hm
  obtain ⟨t1, t2⟩ := ht
  obtain ⟨S, hS0⟩ : ∃ S, S = Bat.sum t l b := ⟨_, rfl⟩
  rw [← hS0]
  go_enter Try.func26, Try.ntmps26
  have HS0 := Lib.hid hS0
  clear hS0
  go_wp2
  go_loop [2, 7, 8] (fun b' n i => ∃ (k : Nat) (x : Int) (c : Bool), k ≤ l.length ∧ 0 ≤ x ∧ x ≤ 21 * k ∧ S = x + Bat.sum (t + k) (l.drop k) c ∧ b' = .bool c ∧ n = .int .i64 x ∧ i = .int .i64 k) (fun _ _ i => l.length - (intOf i).toNat)
  case atStart => exact ⟨0, 0, b, by omega, by omega, by omega, by rw [HS0.out]; simp, rfl, rfl, rfl⟩
  case round =>
    obtain ⟨k, x, c, hk, hx1, hx2, hS, rfl, rfl, rfl⟩ := hrel
    have HS := Lib.hid hS
    clear hS
    by_cases hlt : k < l.length
    · obtain ⟨e, bk, off, rfl, hcell, hi, Hd, -⟩ := elem_at hl hc k hlt
      have hs : Bat.sum (t + k) (l.drop k) c = Bat.cost (t + k) e c + Bat.sum (t + (k + 1 : Nat)) (l.drop (k + 1)) (Bat.laden e c) := by
        rw [Hd.out, Bat.sum, show t + (k : Int) + 1 = t + (k + 1 : Nat) by omega]
      have Hs := Lib.hid hs
      have hT : I64 (t + k) := by unfold I64; omega
      have hcb := Bat.cost_bd (t + k) e c
      clear hs hc
      go_wp2_with (first
       | (go_at_call 19; refine (rCost_any _ _ _ _ hT hi).mono ?_; rintro e w' ⟨rfl, rfl⟩)
       | (go_at_call 21; refine (rLaden_any _ _ _).mono ?_; rintro e w' ⟨rfl, rfl⟩))
      go_round
      case rel => exact ⟨k + 1, _, _, by omega, by omega, by omega, by rw [HS.out, Hs.out]; omega, rfl, rfl, by go_num⟩
      case measure => simp [intOf]; omega
    · obtain rfl : k = l.length := by omega
      clear hc
      go_wp2
      go_ret
      exact ⟨ret_int (by rw [HS.out]; simp [Bat.sum]), rfl⟩

set_option maxHeartbeats 400000 in
theorem rRun_any (t ch : Int) (v : Value) (l : List Int) (b : Bool) (w : World) (hv : SliceI w v l) (ht : 0 ≤ t ∧ t ≤ 20000) (hlen : l.length ≤ 1000) (hch : I64 ch) :
    Calls Try.prog 25 #[.int .i64 t, .int .i64 ch, v, .bool b] w fun e w' => e = .returned (.tuple #[.int .i64 (Bat.run t ch l b).1, .int .i64 (Bat.run t ch l b).2]) ∧ w = w' := by
  obtain ⟨a, cap, rfl, hm, hl, hc⟩ := hv
  unfold maxLen at hm
  obtain ⟨t1, t2⟩ := ht
  obtain ⟨S, hS0⟩ : ∃ S, S = Bat.run t ch l b := ⟨_, rfl⟩
  rw [← hS0]
  go_enter Try.func25, Try.ntmps25
  have HS0 := Lib.hid hS0
  clear hS0
  go_wp2
  go_loop [1, 3, 10] (fun ch' b' i => ∃ (k : Nat) (x : Int) (c : Bool), k ≤ l.length ∧ I64 x ∧ S = ((Bat.run (t + k) x (l.drop k) c).1, (Bat.run (t + k) x (l.drop k) c).2 + k) ∧ ch' = .int .i64 x ∧ b' = .bool c ∧ i = .int .i64 k) (fun _ _ i => l.length - (intOf i).toNat)
  case atStart => exact ⟨0, ch, b, by omega, hch, by rw [HS0.out]; simp, rfl, rfl, rfl⟩
  case round =>
    obtain ⟨k, x, c, hk, hx, hS, rfl, rfl, rfl⟩ := hrel
    have HS := Lib.hid hS
    clear hS
    by_cases hlt : k < l.length
    · obtain ⟨e, bk, off, rfl, hcell, hi, Hd, -⟩ := elem_at hl hc k hlt
      have hs : Bat.run (t + k) x (l.drop k) c = if (Bat.after (t + k) x e c).2 = 0 then
          ((Bat.run (t + (k + 1 : Nat)) (Bat.after (t + k) x e c).1 (l.drop (k + 1)) (Bat.laden e c)).1, (Bat.run (t + (k + 1 : Nat)) (Bat.after (t + k) x e c).1 (l.drop (k + 1)) (Bat.laden e c)).2 + 1) else (x, 0) := by
        rw [Hd.out, Bat.run, show t + (k : Int) + 1 = t + (k + 1 : Nat) by omega]
      have Hs := Lib.hid hs
      have hT : I64 (t + k) := by unfold I64; omega
      have hb := Bat.after_bd (t + k) x e c hx
      clear hs hc
      by_cases h0 : (Bat.after (t + k) x e c).2 = 0
      · have b0 : ((Bat.after (t + k) x e c).2 != 0) = false := by simpa using h0
        have H0 := Lib.hid h0
        clear h0
        go_wp2_with (first
         | (go_at_call 24; refine (rAfter_any _ _ _ _ _ hT hx hi).mono ?_; rintro e w' ⟨rfl, rfl⟩)
         | (go_at_call 21; refine (rLaden_any _ _ _).mono ?_; rintro e w' ⟨rfl, rfl⟩))
        go_round
        case rel => exact ⟨k + 1, _, _, by omega, hb, by rw [HS.out, Hs.out]; rw [if_pos H0.out]; simp only [Nat.add_assoc, Nat.add_comm 1 k], rfl, rfl, by go_num⟩
        case measure => simp [intOf]; omega
      · have b0 : ((Bat.after (t + k) x e c).2 != 0) = true := by simpa using h0
        have H0 := Lib.hid h0
        clear h0
        go_wp2_with (go_at_call 24; refine (rAfter_any _ _ _ _ _ hT hx hi).mono ?_; rintro e w' ⟨rfl, rfl⟩)
        go_ret2
        exact ⟨ret_int2 (by rw [HS.out, Hs.out]; rw [if_neg H0.out]; simp), rfl⟩
    · obtain rfl : k = l.length := by omega
      clear hc
      go_wp2
      go_ret2
      exact ⟨ret_int2 (by rw [HS.out]; simp [Bat.run]), rfl⟩
end Go.Proofs.Ytmfgdocbmgmopaa
