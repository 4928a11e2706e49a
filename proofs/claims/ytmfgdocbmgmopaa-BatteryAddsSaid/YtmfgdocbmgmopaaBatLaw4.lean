/- The walk of BatteryLasts. -/
import Derived.Test.YtmfgdocbmgmopaaBatLaw1
import Derived.Deep.RegionWith
namespace Go.Proofs.Ytmfgdocbmgmopaa
open Go.RowKit

namespace Bat
def load : List Int → Bool → Bool
  | [], b => b
  | a :: l, b => load l (laden a b)
def charges : List Int → Nat
  | [] => 0
  | a :: l => (if a = 9 then 1 else 0) + charges l
theorem load_snoc (l : List Int) : ∀ (a : Int) (b : Bool), load (l ++ [a]) b = laden a (load l b) := by
  induction l with
  | nil => intro a b; rfl
  | cons x l ih => intro a b; exact ih a (laden x b)
theorem charges_snoc (l : List Int) : ∀ (a : Int), charges (l ++ [a]) = charges l + (if a = 9 then 1 else 0) := by
  induction l with
  | nil => intro a; simp [charges]
  | cons x l ih => intro a; simp only [List.cons_append, charges, ih a]; omega
theorem charges_le (l : List Int) : charges l ≤ l.length := by
  induction l with
  | nil => exact Nat.le_refl _
  | cons x l ih => simp only [charges, List.length_cons]; split <;> omega
theorem after_act (t c a : Int) (b : Bool) (h0 : 0 ≤ c) (h1 : c ≤ 1000000) (ha : isAct a = true) :
    after t c a b = if a = 9 then ((if 1000000 < c + 20 then 1000000 else c + 20), 0) else if c < cost t a b then (c, 16) else (c - cost t a b, 0) := by
  have hn := cost_bd t a b
  have ha' : 0 ≤ a ∧ a < 10 := by simpa [isAct] using ha
  unfold after spend
  rw [if_neg (by omega)]
  split
  · rfl
  · rw [if_neg (by omega)]
theorem run_spec (l : List Int) : ∀ (t c : Int) (b : Bool), 0 ≤ c → c ≤ 1000000 → l.all isAct = true →
    (run t c l b).2 ≤ l.length ∧ 0 ≤ (run t c l b).1 ∧ (run t c l b).1 ≤ 1000000 ∧ (run t c l b).1 ≤ c + 20 * charges l ∧
    (charges l = 0 → (run t c l b).1 = c - sum t (l.take (run t c l b).2) b ∧ ((run t c l b).2 = l.length ↔ sum t l b ≤ c) ∧
      ((run t c l b).2 < l.length → (run t c l b).1 < cost (t + (run t c l b).2) (l.getD (run t c l b).2 0) (load (l.take (run t c l b).2) b))) := by
  induction l with
  | nil => intro t c b h0 h1 _; simp [run, sum, charges, h0, h1]
  | cons a l ih =>
    intro t c b h0 h1 hall
    rw [List.all_cons, Bool.and_eq_true] at hall
    obtain ⟨ha, hall⟩ := hall
    have hA := after_act t c a b h0 h1 ha
    have hcb := cost_bd t a b
    have hsb := sum_bd l (t + 1) (laden a b)
    by_cases h9 : a = 9
    · subst h9
      rw [if_pos rfl] at hA
      have hr : run t c (9 :: l) b = ((run (t + 1) (after t c 9 b).1 l (laden 9 b)).1, (run (t + 1) (after t c 9 b).1 l (laden 9 b)).2 + 1) := by
        rw [run, if_pos (by rw [hA])]
      have hb1 : 0 ≤ (after t c 9 b).1 ∧ (after t c 9 b).1 ≤ 1000000 ∧ (after t c 9 b).1 ≤ c + 20 := by rw [hA]; dsimp only; split <;> omega
      obtain ⟨i1, i2, i3, i4, -⟩ := ih (t + 1) _ (laden 9 b) hb1.1 hb1.2.1 hall
      rw [hr]
      refine ⟨by simp only [List.length_cons]; omega, i2, i3, ?_, fun h => by simp [charges] at h⟩
      simp only [charges, if_pos]; omega
    · rw [if_neg h9] at hA
      by_cases hlt : c < cost t a b
      · rw [if_pos hlt] at hA
        have hr : run t c (a :: l) b = (c, 0) := by rw [run, if_neg (by rw [hA]; simp)]
        rw [hr]
        refine ⟨by simp, h0, h1, by dsimp only; omega, fun hc => ⟨by simp [sum], ?_, fun _ => by simpa [load] using hlt⟩⟩
        simp only [List.length_cons, sum]; omega
      · rw [if_neg hlt] at hA
        have hr : run t c (a :: l) b = ((run (t + 1) (after t c a b).1 l (laden a b)).1, (run (t + 1) (after t c a b).1 l (laden a b)).2 + 1) := by
          rw [run, if_pos (by rw [hA])]
        have hA1 : (after t c a b).1 = c - cost t a b := by rw [hA]
        rw [hA1] at hr
        obtain ⟨i1, i2, i3, i4, i5⟩ := ih (t + 1) (c - cost t a b) (laden a b) (by omega) (by omega) hall
        rw [hr]
        refine ⟨by simp only [List.length_cons]; omega, i2, i3, by simp only [charges, if_neg h9]; omega, fun hc => ?_⟩
        obtain ⟨j1, j2, j3⟩ := i5 (by simp only [charges, if_neg h9] at hc; omega)
        refine ⟨?_, ?_, fun hl => ?_⟩
        · simp only [List.take_succ_cons, sum]; omega
        · simp only [List.length_cons, sum]; omega
        · have := j3 (by simp only [List.length_cons] at hl; omega)
          simp only [List.take_succ_cons, load, List.getD_cons_succ]
          rw [show t + (((run (t + 1) (c - cost t a b) l (laden a b)).2 + 1 : Nat) : Int) = t + 1 + ((run (t + 1) (c - cost t a b) l (laden a b)).2 : Nat) by omega]; exact this
end Bat

theorem SliceI.take {w : World} {a : Option Addr} {cap : Nat} {l : List Int} (h : SliceI w (.slice a l.length cap) l) (m : Nat) (hm : m ≤ l.length) : SliceI w (.slice a m cap) (l.take m) := by
  obtain ⟨a', cap', he, hml, hl, hc⟩ := h
  cases he
  have hlen : (l.take m).length = m := by simp; omega
  refine ⟨a, cap, by rw [hlen], by omega, fun x hx => hl x (List.mem_of_mem_take hx), fun i hi => ?_⟩
  rw [hlen] at hi
  obtain ⟨b, off, h1, h2⟩ := hc i (by omega)
  exact ⟨b, off, h1, by rw [h2]; simp [hi]⟩

-- The reference says no, or the charge or the tick is out of range: the head alone.
set_option maxRecDepth 100000 in
set_option maxHeartbeats 1000000 in
theorem lasts_out (t c : Int) (a : Option Addr) (cap : Nat) (l : List Int) (b : Bool) (w : World) (hv : SliceI w (.slice a l.length cap) l)
    (h : t < 0 ∨ 20000 < t ∨ c < 0 ∨ 1000000 < c ∨ (decide ((l.length : Int) ≤ 200) && (l.take 200).all Bat.isAct) = false) :
    Calls Try.prog 4 #[.int .i64 t, .int .i64 c, .slice a l.length cap, .bool b] w fun e w' => e = .returned (.bool true) ∧ Below w.heap.size w w' := by
  rcases (show t < 0 ∨ (0 ≤ t ∧ 20000 < t) ∨ ((0 ≤ t ∧ t ≤ 20000) ∧ c < 0) ∨ ((0 ≤ t ∧ t ≤ 20000) ∧ (0 ≤ c ∧ 1000000 < c)) ∨ ((0 ≤ t ∧ t ≤ 20000) ∧ (0 ≤ c ∧ c ≤ 1000000)) by omega) with k | ⟨k, k2⟩ | ⟨⟨k, k2⟩, k3⟩ | ⟨⟨k, k2⟩, k3, k4⟩ | ⟨⟨k, k2⟩, k3, k4⟩
  case inr.inr.inr.inr =>
    have h' : (decide ((l.length : Int) ≤ 200) && (l.take 200).all Bat.isAct) = false := by
      rcases h with h | h | h | h | h <;> first | exact h | (exfalso; omega)
    have hA : ∀ w1, Below w.heap.size w w1 → Calls Try.prog 11 #[.slice a l.length cap, .int .i64 200] w1 fun e w' => e = .returned (.bool false) ∧ w1 = w' := fun w1 hb => by
      have := rActs_any _ l 200 w1 (hv.below hb) (by omega)
      rw [show (200 : Int).toNat = 200 from rfl, h'] at this; exact this
    have HA := Lib.hid hA
    clear hA h h' hv
    go_enter Try.func4, Try.ntmps4
    go_wp2_with (first
      | (go_at_call 8; refine (small_any _).mono ?_; rintro e w1 ⟨rfl, hb⟩)
      | (go_at_call 11; refine (HA.out _ hb).mono ?_; rintro e w' ⟨rfl, rfl⟩))
    go_ret
    exact ⟨rfl, hb⟩
  all_goals
    clear h hv
    go_enter Try.func4, Try.ntmps4
    go_wp2_with (go_at_call 8; refine (small_any _).mono ?_; rintro e w1 ⟨rfl, hb⟩)
    go_ret
    exact ⟨rfl, hb⟩

set_option maxRecDepth 100000 in
set_option maxHeartbeats 4000000 in
theorem lasts_in (t c : Int) (a : Option Addr) (cap : Nat) (l : List Int) (b : Bool) (w : World) (hv : SliceI w (.slice a l.length cap) l) (hcap : l.length ≤ cap)
    (ht : 0 ≤ t ∧ t ≤ 20000) (hc : 0 ≤ c ∧ c ≤ 1000000) (hl : l.length ≤ 200) (hall : l.all Bat.isAct = true) :
    Calls Try.prog 4 #[.int .i64 t, .int .i64 c, .slice a l.length cap, .bool b] w fun e w' => e = .returned (.bool true) ∧ Below w.heap.size w w' := by
  have hact : (decide ((l.length : Int) ≤ 200) && (l.take 200).all Bat.isAct) = true := by rw [List.take_of_length_le hl, hall]; simp; omega
  have HA := Lib.hid (fun w1 (hb : Below w.heap.size w w1) => (show Calls Try.prog 11 #[.slice a l.length cap, .int .i64 200] w1 fun e w' => e = .returned (.bool true) ∧ w1 = w' by
    have := rActs_any _ l 200 w1 (hv.below hb) (by omega)
    rw [show (200 : Int).toNat = 200 from rfl, hact] at this; exact this))
  obtain ⟨i1, i2, i3, i4, i5⟩ := Bat.run_spec l t c b hc.1 hc.2 hall
  have hI : I64 c := by unfold I64; omega
  have hR := fun w1 (hb : Below w.heap.size w w1) => Run_any t c _ l b w1 (hv.below hb) ht (by omega) hI
  have hS := fun w1 (hb : Below w.heap.size w w1) => Sum_any t _ l b w1 (hv.below hb) ht (by omega)
  obtain ⟨x, m, hrun⟩ : ∃ x m, Bat.run t c l b = (x, m) := ⟨_, _, rfl⟩
  rw [hrun] at i1 i2 i3 i4 i5 hR
  dsimp only at i1 i2 i3 i4 i5 hR
  have hT := fun w1 (hb : Below w.heap.size w w1) => Sum_any t _ (l.take m) b w1 ((hv.below hb).take m i1) ht (by simp; omega)
  obtain ⟨S, hSe⟩ : ∃ S, S = Bat.sum t l b := ⟨_, rfl⟩
  obtain ⟨T, hTe⟩ : ∃ T, T = Bat.sum t (l.take m) b := ⟨_, rfl⟩
  have hTS : m = l.length → T = S := fun h => by rw [hTe, hSe, h]; simp
  rw [← hSe] at hS i5
  rw [← hTe] at hT i5
  have hSb : 0 ≤ S ∧ S ≤ 4200 := by have := Bat.sum_bd l t b; rw [← hSe] at this; omega
  have hTb : 0 ≤ T ∧ T ≤ 4200 := by have := Bat.sum_bd (l.take m) t b; rw [← hTe] at this; simp at this; omega
  obtain ⟨n, hn⟩ : ∃ n, n = Bat.charges l := ⟨_, rfl⟩
  have hnl : n ≤ l.length := by rw [hn]; exact Bat.charges_le l
  rw [← hn] at i4 i5
  have HN := Lib.hid hn
  have HV := Lib.hid hv
  obtain ⟨a', cap', he, hm, hl64, hcell⟩ := hv
  cases he
  obtain ⟨t1, t2⟩ := ht
  obtain ⟨c1, c2⟩ := hc
  obtain ⟨S1, S2⟩ := hSb
  obtain ⟨T1, T2⟩ := hTb
  have HR := Lib.hid hR
  have HS := Lib.hid hS
  have HT := Lib.hid hT
  have H5 := Lib.hid i5
  have HTS := Lib.hid hTS
  have Hc := Lib.hid hcell
  clear hR hS hT i5 hTS hrun hSe hTe hn hact hall hcell
  unfold maxLen at hm
  go_enter Try.func4, Try.ntmps4
  go_wp2_with (first
    | (go_at_call 8; refine (small_any _).mono ?_; rintro e w1 ⟨rfl, hb⟩)
    | (go_at_call 11; refine (HA.out _ hb).mono ?_; rintro e w' ⟨rfl, rfl⟩)
    | (go_at_call 12; refine (HR.out _ hb).mono ?_; rintro e w2 ⟨rfl, hb2⟩; have hB2 := hb.trans (hb2.mono hb.size))
    | (go_at_call 13; refine (HS.out _ hB2).mono ?_; rintro e w3 ⟨rfl, hb3⟩; have hB3 := hB2.trans (hb3.mono hB2.size)))
  have HB3 := Lib.hid hB3
  clear hb hb2 hb3 hB2 hB3
  have hcell3 : ∀ i, (h : i < l.length) → ∃ b off, a = some ⟨b, off, none⟩ ∧ w3.cell? ⟨b, off + i, none⟩ = some (.int .i64 (l[i]?.getD 0)) := fun i h => by
    obtain ⟨b, off, h1, h2⟩ := Hc.out i h
    exact ⟨b, off, h1, by rw [HB3.out.cell (cell_lt h2)]; exact h2⟩
  have HC3 := Lib.hid hcell3
  clear hcell3 Hc
  go_loop [13, 14] (fun q i => ∃ k : Nat, k ≤ l.length ∧ q = .int .i64 (Bat.charges (l.take k)) ∧ i = .int .i64 k) (fun _ i => l.length - (intOf i).toNat)
  case atStart => exact ⟨0, by omega, rfl, rfl⟩
  case round =>
    obtain ⟨k, hk, rfl, rfl⟩ := hrel
    by_cases hlt : k < l.length
    · obtain ⟨e, bk, off, rfl, hcell, hi, -, Ht⟩ := elem_at hl64 HC3.out k hlt
      have hq : Bat.charges (l.take k) ≤ k := by have := Bat.charges_le (l.take k); simp at this; omega
      have hq2 : Bat.charges (l.take (k + 1)) = Bat.charges (l.take k) + (if e = 9 then 1 else 0) := by rw [Ht.out, Bat.charges_snoc]
      obtain ⟨q, hqe⟩ : ∃ q, q = Bat.charges (l.take k) := ⟨_, rfl⟩
      rw [← hqe] at hq hq2 ⊢
      have HQ := Lib.hid hq2
      clear hq2 hqe
      by_cases h9 : e = 9
      · have h9' : (e == 9) = true := by simpa using h9
        have H9 := Lib.hid h9
        clear h9
        go_wp2
        go_round
        case rel => exact ⟨k + 1, by omega, by rw [HQ.out, if_pos H9.out]; go_num, by go_num⟩
        case measure => simp [intOf]; omega
      · have h9' : (e == 9) = false := by simpa using h9
        have H9 := Lib.hid h9
        clear h9
        go_wp2
        go_round
        case rel => exact ⟨k + 1, by omega, by rw [HQ.out, if_neg H9.out]; rfl, by go_num⟩
        case measure => simp [intOf]; omega
    · obtain rfl : k = l.length := by omega
      have hq : Bat.charges (l.take l.length) = n := by rw [List.take_length, HN.out]
      rw [hq]
      clear hq hlt
      by_cases hn0 : 0 < n
      · go_wp2
        go_ret
        exact ⟨rfl, HB3.out⟩
      · obtain rfl : n = 0 := by omega
        obtain ⟨j1, j2, j3⟩ := H5.out rfl
        have J1 := Lib.hid j1
        have J3 := Lib.hid j3
        have HV3 := Lib.hid (HV.out.below HB3.out)
        by_cases hml : m = l.length
        · have hSc : S ≤ c := j2.1 hml
          have hTS := HTS.out hml
          have hxe : x = c - S := by rw [J1.out, hTS]
          have hxT : (x != c - T) = false := by rw [hTS, ← hxe]; simp
          have HX := Lib.hid hxe
          subst hml
          clear j1 j2 j3 hTS hxe
          go_wp2_with (go_at_call 13; refine (HT.out _ HB3.out).mono ?_; rintro e w4 ⟨rfl, hb4⟩)
          go_ret
          exact ⟨ret_bool (by simp [HX.out]), HB3.out.trans (hb4.mono HB3.out.size)⟩
        · have hSc : ¬ S ≤ c := fun h => hml (j2.2 h)
          have hml' : ((m : Int) == (l.length : Int)) = false := by simp; omega
          have hxT : (x != c - T) = false := by rw [J1.out]; simp
          have hmlt : m < l.length := by omega
          have hJ3 := j3 hmlt
          have J4 := Lib.hid hJ3
          clear j1 j2 j3 hml hJ3 J3
          go_wp2_with (go_at_call 13; refine (HT.out _ HB3.out).mono ?_; rintro e w4 ⟨rfl, hb4⟩)
          have HB4 := Lib.hid (HB3.out.trans (hb4.mono HB3.out.size))
          clear hb4
          have hcell4 : ∀ i, (h : i < l.length) → ∃ b off, a = some ⟨b, off, none⟩ ∧ w4.cell? ⟨b, off + i, none⟩ = some (.int .i64 (l[i]?.getD 0)) := fun i h => by
            obtain ⟨a4, cap4, he4, -, -, hc4⟩ := HV.out.below HB4.out
            cases he4
            exact hc4 i h
          have HC4 := Lib.hid hcell4
          clear hcell4
          go_loop [15, 16] (fun q i => ∃ k : Nat, k ≤ m ∧ q = .bool (Bat.load (l.take k) b) ∧ i = .int .i64 k) (fun _ i => m - (intOf i).toNat)
          case atStart => exact ⟨0, by omega, rfl, rfl⟩
          case round =>
            obtain ⟨k, hk, rfl, rfl⟩ := hrel
            obtain ⟨e, bk, off, rfl, hcell, hi, Hd, Ht⟩ := elem_at hl64 HC4.out k (by omega)
            obtain ⟨q, hqe⟩ : ∃ q, q = Bat.load (l.take k) b := ⟨_, rfl⟩
            rw [← hqe]
            by_cases hlt : k < m
            · have hq2 : Bat.load (l.take (k + 1)) b = Bat.laden e q := by rw [Ht.out, Bat.load_snoc, hqe]
              have HQ := Lib.hid hq2
              clear hq2 hqe
              go_wp2_with (go_at_call 14; refine (Laden_any _ _ _).mono ?_; rintro e w' ⟨rfl, rfl⟩)
              go_round
              case rel => exact ⟨k + 1, by omega, by rw [HQ.out], by go_num⟩
              case measure => simp [intOf]; omega
            · obtain rfl : k = m := by omega
              have hcost : x < Bat.cost (t + k) e q := by
                have := J4.out
                have he : l.getD k 0 = e := by
                  have h1 : l[k]? = some e := by
                    have h2 := congrArg List.head? Hd.out
                    rwa [List.head?_drop, List.head?_cons] at h2
                  simp [List.getD_eq_getElem?_getD, h1]
                rw [he, ← hqe] at this; exact this
              clear hqe
              have hT : I64 (t + k) := by unfold I64; omega
              go_wp2_with (go_at_call 9; refine (Cost_any _ _ _ _ hT hi).mono ?_; rintro e w' ⟨rfl, rfl⟩)
              go_ret
              exact ⟨rfl, HB4.out⟩

theorem lasts_walk (t c : Int) (a : Option Addr) (cap : Nat) (l : List Int) (b : Bool) (w : World) (hv : SliceI w (.slice a l.length cap) l) (hcap : l.length ≤ cap) :
    Calls Try.prog 4 #[.int .i64 t, .int .i64 c, .slice a l.length cap, .bool b] w fun e w' => e = .returned (.bool true) ∧ Below w.heap.size w w' := by
  by_cases h : (0 ≤ t ∧ t ≤ 20000) ∧ (0 ≤ c ∧ c ≤ 1000000) ∧ (decide ((l.length : Int) ≤ 200) && (l.take 200).all Bat.isAct) = true
  · obtain ⟨ht, hc, h⟩ := h
    rw [Bool.and_eq_true, decide_eq_true_eq] at h
    have hl : l.length ≤ 200 := by omega
    exact lasts_in t c a cap l b w hv hcap ht hc hl (by have := h.2; rwa [List.take_of_length_le hl] at this)
  · refine lasts_out t c a cap l b w hv ?_
    cases hb : (decide ((l.length : Int) ≤ 200) && (l.take 200).all Bat.isAct) with
    | false => exact .inr (.inr (.inr (.inr rfl)))
    | true =>
      have : ¬ ((0 ≤ t ∧ t ≤ 20000) ∧ (0 ≤ c ∧ c ≤ 1000000)) := fun k => h ⟨k.1, k.2, hb⟩
      omega

/-- As SliceI.of_row, with the length not greater than the capacity. -/
theorem SliceI.of_row2 {w : World} {a : Option Addr} {len cap : Nat} {zs : List Int}
    (h : (a = none ∧ len = 0 ∧ cap = 0 ∧ zs = []) ∨ ∃ x, a = some x ∧ len ≤ cap ∧ cap ≤ maxLen ∧ zs.length = cap ∧ (∀ i, i < zs.length → w.cell? (x.add i) = some (.int .i64 (zs.getD i 0))) ∧ ∀ n ∈ zs, (Lit.int .i64 n).wf = true) :
    ∃ l : List Int, len = l.length ∧ SliceI w (.slice a l.length cap) l ∧ l.length ≤ cap := by
  have hcap : len ≤ cap := by
    rcases h with ⟨_, rfl, rfl, _⟩ | ⟨_, _, h, _⟩
    · exact Nat.le_refl _
    · exact h
  obtain ⟨l, hl⟩ := SliceI.of_row h
  have : len = l.length := by obtain ⟨_, _, he, _⟩ := hl; cases he; rfl
  subst this
  exact ⟨l, rfl, hl, hcap⟩
end Go.Proofs.Ytmfgdocbmgmopaa
