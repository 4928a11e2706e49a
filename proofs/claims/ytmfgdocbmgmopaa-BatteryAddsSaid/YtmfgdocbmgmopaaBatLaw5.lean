/- The walk of BatteryAdds. -/
import Derived.Test.YtmfgdocbmgmopaaBatLaw4
import Derived.Test.YtmfgdocbmgmopaaSl
namespace Go.Proofs.Ytmfgdocbmgmopaa
open Go.RowKit

namespace Bat
theorem sum_append (l : List Int) : ∀ (m : List Int) (t : Int) (b : Bool), sum t (l ++ m) b = sum t l b + sum (t + l.length) m (load l b) := by
  induction l with
  | nil => intro m t b; simp [sum, load]
  | cons a l ih =>
    intro m t b
    simp only [List.cons_append, sum, load, List.length_cons, ih]
    rw [show t + ((l.length + 1 : Nat) : Int) = t + 1 + (l.length : Int) by omega]; omega
theorem run_append (l : List Int) : ∀ (m : List Int) (t c : Int) (b : Bool),
    run t c (l ++ m) b = if (run t c l b).2 < l.length then run t c l b else
      ((run (t + l.length) (run t c l b).1 m (load l b)).1, l.length + (run (t + l.length) (run t c l b).1 m (load l b)).2) := by
  induction l with
  | nil => intro m t c b; simp [run, load]
  | cons a l ih =>
    intro m t c b
    by_cases h0 : (after t c a b).2 = 0
    · simp only [List.cons_append, run, load, List.length_cons, h0, if_true, ih]
      rw [show t + ((l.length + 1 : Nat) : Int) = t + 1 + (l.length : Int) by omega]
      by_cases hlt : (run (t + 1) (after t c a b).1 l (laden a b)).2 < l.length
      · rw [if_pos hlt, if_pos (by omega)]
      · rw [if_neg hlt, if_neg (by omega)]
        simp only [Prod.mk.injEq, true_and]; omega
    · simp only [List.cons_append, run, load, List.length_cons, h0, if_false]
      rw [if_pos (by omega)]
theorem run_le (l : List Int) : ∀ (t c : Int) (b : Bool), (run t c l b).2 ≤ l.length := by
  induction l with
  | nil => intro t c b; simp [run]
  | cons a l ih => intro t c b; simp only [run]; split <;> simp [ih]
theorem run_i64 (l : List Int) : ∀ (t c : Int) (b : Bool), I64 c → I64 (run t c l b).1 := by
  induction l with
  | nil => intro t c b h; exact h
  | cons a l ih =>
    intro t c b h; simp only [run]; split
    · exact ih _ _ _ (after_bd t c a b h)
    · exact h
end Bat

def intsV (l : List Int) : List Value := l.map (Value.int .i64)
theorem SliceI.sl {w : World} {a : Option Addr} {cap : Nat} {l : List Int} (h : SliceI w (.slice a l.length cap) l) (hn : a = none → cap = 0) : Sl w (.slice a l.length cap) (intsV l) := by
  obtain ⟨a', cap', he, hm, -, hc⟩ := h
  cases he
  refine ⟨a, cap, by simp [intsV], by simpa [intsV] using hm, hn, fun i hi => ?_⟩
  have hi' : i < l.length := by simpa [intsV] using hi
  obtain ⟨b, off, h1, h2⟩ := hc i hi'
  exact ⟨b, off, h1, by rw [h2]; simp [intsV, hi']⟩
theorem Sl.sliceI {w : World} {v : Value} {l : List Int} (h : Sl w v (intsV l)) (hl : AllI64 l) : SliceI w v l := by
  obtain ⟨a, cap, rfl, hm, -, hc⟩ := h
  have hlen : (intsV l).length = l.length := by simp [intsV]
  refine ⟨a, cap, by rw [hlen], by omega, hl, fun i hi => ?_⟩
  obtain ⟨b, off, h1, h2⟩ := hc i (by omega)
  exact ⟨b, off, h1, by rw [h2]; simp [intsV, hi]⟩
theorem AllI64.append {l m : List Int} (h : AllI64 l) (k : AllI64 m) : AllI64 (l ++ m) := fun x hx => by
  rcases List.mem_append.1 hx with h' | h'
  · exact h x h'
  · exact k x h'
theorem intsV_append (l m : List Int) : intsV (l ++ m) = intsV l ++ intsV m := by simp [intsV]
theorem intsV_len (l : List Int) : (intsV l).length = l.length := by simp [intsV]
theorem intsV_one (l : List Int) : ∀ u ∈ intsV l, u.oneCell' = true := by
  intro u hu
  obtain ⟨x, _, rfl⟩ := List.mem_map.1 hu
  rfl
theorem Try.infoInt : (Try.prog.info? 3).map (fun i => (i.zero, i.size, i.bytes)) = some (some (.int .i64 0), 1, 8) := by kernel_rfl

theorem own_ge {w : World} {base : Nat} {e : TypeId} {size n : Nat} {v : Value} {xs : List Value} (h : w.ownsRow base e size v n xs) (k : Nat) (hk : v.ownBlock = some k) : base ≤ k := by
  rcases h.2 with ⟨rfl, _⟩ | ⟨g, cap, cur, rfl, hb, _⟩
  · simp [Value.ownBlock] at hk
  · simp [Value.ownBlock] at hk; omega

set_option maxRecDepth 100000 in
set_option maxHeartbeats 1000000 in
theorem adds_out (t c : Int) (p q : Option Addr) (cp cq : Nat) (l m : List Int) (b : Bool) (w : World) (hp : SliceI w (.slice p l.length cp) l) (hq : SliceI w (.slice q m.length cq) m)
    (h : t < 0 ∨ 19900 < t ∨ (decide ((l.length : Int) ≤ 100) && (l.take 100).all Bat.isAct) = false ∨ (decide ((m.length : Int) ≤ 100) && (m.take 100).all Bat.isAct) = false) :
    Calls Try.prog 5 #[.int .i64 t, .int .i64 c, .slice p l.length cp, .slice q m.length cq, .bool b] w fun e w' => e = .returned (.bool true) ∧ Below w.heap.size w w' := by
  rcases (show t < 0 ∨ (0 ≤ t ∧ 19900 < t) ∨ (0 ≤ t ∧ t ≤ 19900) by omega) with k | ⟨k, k2⟩ | ⟨k, k2⟩
  case inr.inr =>
    have hA := fun w1 (hb : Below w.heap.size w w1) => rActs_any _ l 100 w1 (hp.below hb) (by omega)
    have hB := fun w1 (hb : Below w.heap.size w w1) => rActs_any _ m 100 w1 (hq.below hb) (by omega)
    rw [show (100 : Int).toNat = 100 from rfl] at hA hB
    obtain ⟨x, hx⟩ : ∃ x, x = (decide ((l.length : Int) ≤ 100) && (l.take 100).all Bat.isAct) := ⟨_, rfl⟩
    obtain ⟨y, hy⟩ : ∃ y, y = (decide ((m.length : Int) ≤ 100) && (m.take 100).all Bat.isAct) := ⟨_, rfl⟩
    rw [← hx] at hA h
    rw [← hy] at hB h
    have hxy : x = false ∨ (x = true ∧ y = false) := by
      rcases h with h | h | h | h
      · exfalso; omega
      · exfalso; omega
      · exact .inl h
      · cases x
        · exact .inl rfl
        · exact .inr ⟨rfl, h⟩
    have HA := Lib.hid hA
    have HB := Lib.hid hB
    clear hA hB h hx hy hp hq
    rcases hxy with rfl | ⟨rfl, rfl⟩
    · go_enter Try.func5, Try.ntmps5
      go_wp2_with fail
      refine (small_any _).mono ?_
      rintro e w1 ⟨rfl, hb⟩
      go_wp2_with fail
      refine (HA.out _ hb).mono ?_
      rintro e w' ⟨rfl, rfl⟩
      go_wp2
      go_ret
      exact ⟨rfl, hb⟩
    · go_enter Try.func5, Try.ntmps5
      go_wp2_with fail
      refine (small_any _).mono ?_
      rintro e w1 ⟨rfl, hb⟩
      go_wp2_with fail
      refine (HA.out _ hb).mono ?_
      rintro e w' ⟨rfl, rfl⟩
      go_wp2_with fail
      refine (HB.out _ hb).mono ?_
      rintro e w' ⟨rfl, rfl⟩
      go_wp2
      go_ret
      exact ⟨rfl, hb⟩
  all_goals
    clear h hp hq
    go_enter Try.func5, Try.ntmps5
    go_wp2_with (go_at_call 8; refine (small_any _).mono ?_; rintro e w1 ⟨rfl, hb⟩)
    go_ret
    exact ⟨rfl, hb⟩

set_option maxRecDepth 100000 in
set_option maxHeartbeats 4000000 in
theorem adds_in (t c : Int) (p q : Option Addr) (cp cq : Nat) (l m : List Int) (b : Bool) (w : World) (hp : SliceI w (.slice p l.length cp) l) (hq : SliceI w (.slice q m.length cq) m)
    (np : p = none → cp = 0) (nq : q = none → cq = 0) (ht : 0 ≤ t ∧ t ≤ 19900) (hc : I64 c) (hl : l.length ≤ 100) (hm : m.length ≤ 100) (hal : l.all Bat.isAct = true) (ham : m.all Bat.isAct = true) :
    Calls Try.prog 5 #[.int .i64 t, .int .i64 c, .slice p l.length cp, .slice q m.length cq, .bool b] w fun e w' => e = .returned (.bool true) ∧ Below w.heap.size w w' := by
  have hacl : (decide ((l.length : Int) ≤ 100) && (l.take 100).all Bat.isAct) = true := by rw [List.take_of_length_le hl, hal]; simp; omega
  have hacm : (decide ((m.length : Int) ≤ 100) && (m.take 100).all Bat.isAct) = true := by rw [List.take_of_length_le hm, ham]; simp; omega
  have hA := fun w1 (hb : Below w.heap.size w w1) => rActs_any _ l 100 w1 (hp.below hb) (by omega)
  have hB := fun w1 (hb : Below w.heap.size w w1) => rActs_any _ m 100 w1 (hq.below hb) (by omega)
  rw [show (100 : Int).toNat = 100 from rfl, hacl] at hA
  rw [show (100 : Int).toNat = 100 from rfl, hacm] at hB
  have HA := Lib.hid hA
  have HB := Lib.hid hB
  have HP := Lib.hid hp
  have HQ := Lib.hid hq
  have HNP := Lib.hid np
  have HNQ := Lib.hid nq
  obtain ⟨a1, c1, he1, hm1, hl64, hcl⟩ := hp
  cases he1
  obtain ⟨a2, c2, he2, hm2, hq64, -⟩ := hq
  cases he2
  unfold maxLen at hm1 hm2
  have HL64 := Lib.hid hl64
  have HM64 := Lib.hid hq64
  have Hc := Lib.hid hcl
  have HC := Lib.hid hc
  obtain ⟨t1, t2⟩ := ht
  clear hA hB hacl hacm hal ham np nq hl64 hq64 hcl hc
  go_enter Try.func5, Try.ntmps5
  go_wp2_with fail
  refine (small_any _).mono ?_
  rintro e w1 ⟨rfl, hb⟩
  go_wp2_with fail
  refine (HA.out _ hb).mono ?_
  rintro e w' ⟨rfl, rfl⟩
  go_wp2_with fail
  refine (HB.out _ hb).mono ?_
  rintro e w' ⟨rfl, rfl⟩
  have HB1 := Lib.hid hb
  clear hb
  go_wp2
  have hcell3 : ∀ i, (h : i < l.length) → ∃ b off, p = some ⟨b, off, none⟩ ∧ w1.cell? ⟨b, off + i, none⟩ = some (.int .i64 (l[i]?.getD 0)) := fun i h => by
    obtain ⟨b, off, h1, h2⟩ := Hc.out i h
    exact ⟨b, off, h1, by rw [HB1.out.cell (cell_lt h2)]; exact h2⟩
  have HC3 := Lib.hid hcell3
  clear hcell3 Hc
  go_loop [12, 13] (fun r i => ∃ k : Nat, k ≤ l.length ∧ r = .bool (Bat.load (l.take k) b) ∧ i = .int .i64 k) (fun _ i => l.length - (intOf i).toNat)
  case atStart => exact ⟨0, by omega, rfl, rfl⟩
  case round =>
    obtain ⟨k, hk, rfl, rfl⟩ := hrel
    by_cases hlt : k < l.length
    · obtain ⟨e, bk, off, rfl, hcell, hi, -, Ht⟩ := elem_at HL64.out HC3.out k hlt
      obtain ⟨r, hre⟩ : ∃ r, r = Bat.load (l.take k) b := ⟨_, rfl⟩
      have hq2 : Bat.load (l.take (k + 1)) b = Bat.laden e r := by rw [Ht.out, Bat.load_snoc, hre]
      rw [← hre]
      have HR := Lib.hid hq2
      clear hq2 hre
      go_wp2_with (go_at_call 14; refine (Laden_any _ _ _).mono ?_; rintro e w' ⟨rfl, rfl⟩)
      go_round
      case rel => exact ⟨k + 1, by omega, by rw [HR.out], by go_num⟩
      case measure => simp [intOf]; omega
    · obtain rfl : k = l.length := by omega
      clear hlt HC3
      rw [List.take_length]
      have hown0 : (w1.alloc (.cells #[] 3)).ownsRow w1.heap.size 3 1 (.slice (some ⟨w1.heap.size, 0, none⟩) 0 0) 0 [] := by
        refine ⟨rfl, .inr ⟨w1.heap.size, 0, #[], rfl, Nat.le_refl _, World.alloc_heap_new w1 _, by omega, by unfold maxLen; omega, rfl, rfl⟩⟩
      have hb1 := HB1.out
      have hsP : Sl (w1.alloc (.cells #[] 3)) (.slice p l.length cp) (intsV l) := ((HP.out.below hb1).sl HNP.out).below ((Below.refl _ _).alloc (Nat.le_refl _) _)
      have HO := Lib.hid hown0
      have HSP := Lib.hid hsP
      clear hown0 hsP hb1
      have hb2 : Below w1.heap.size w1 (w1.alloc (.cells #[] 3)) := (Below.refl _ _).alloc (Nat.le_refl _) _
      have HB2 := Lib.hid hb2
      clear hb2
      have hll := intsV_len l
      have hlm := intsV_len m
      have HLL := Lib.hid hll
      have HLM := Lib.hid hlm
      clear hll hlm
      go_wp2_with (first
        | (at_builtin
           refine wpList_append_sl rfl (.tmp 52) (.tmp 53) 26 rfl w1.heap.size 3 _ 8 Try.underlying26 Try.infoInt rfl (.slice (some ⟨w1.heap.size, 0, none⟩) 0 0) 0 [] rfl HO.out (.slice p l.length cp) (intsV l) rfl HSP.out (intsV_one l) (by rw [HLL.out]; unfold maxLen; omega) (by rw [HLL.out]; omega) HB2.out.size ?_
           intro v1 w2 hown1 hg1
           have HO1 := Lib.hid hown1
           have HB3 := Lib.hid (HB2.out.grown hg1 HB2.out.size (fun k e => by simp [Value.ownBlock] at e; omega))
           have HQ3 := Lib.hid ((((HQ.out.below HB1.out).sl HNQ.out).below HB3.out))
           clear hown1 hg1)
        | (at_builtin
           refine wpList_append_sl rfl (.tmp 54) (.tmp 55) 26 rfl w1.heap.size 3 _ 8 Try.underlying26 Try.infoInt rfl v1 (0 + (intsV l).length) ([] ++ intsV l) rfl HO1.out (.slice q m.length cq) (intsV m) rfl HQ3.out (intsV_one m) (by rw [HLL.out, HLM.out]; unfold maxLen; omega) (by rw [HLL.out, HLM.out]; omega) HB3.out.size ?_
           intro v2 w3 hown2 hg2
           have HO2 := Lib.hid hown2
           have HG2 := Lib.hid hg2
           clear hown2 hg2)
        | fail)
      have hb3 := HB3.out
      have hb13 : Below w1.heap.size w1 w3 := hb3.grown HG2.out hb3.size (fun k e => own_ge HO1.out k e)
      have hB3 : Below w.heap.size w w3 := HB1.out.trans (hb13.mono HB1.out.size)
      have hBoth : SliceI w3 v2 (l ++ m) := by
        have h := Sl.of_own HO2.out (by rw [HLL.out, HLM.out]; unfold maxLen; omega)
        rw [List.nil_append, ← intsV_append] at h
        exact h.sliceI (HL64.out.append HM64.out)
      have hlen : (l ++ m).length ≤ 200 := by simp; omega
      have ht : 0 ≤ t ∧ t ≤ 20000 := by omega
      have htl : 0 ≤ t + (l.length : Int) ∧ t + (l.length : Int) ≤ 20000 := by omega
      have hP := HP.out.below hB3
      have hQ := HQ.out.below hB3
      -- the contracts, at whatever later world
      have S1 := fun W (k : Below w3.heap.size w3 W) => Sum_any t v2 (l ++ m) b W (hBoth.below k) ht (by omega)
      have S2 := fun W (k : Below w3.heap.size w3 W) => Sum_any t _ l b W (hP.below k) ht (by omega)
      have S3 := fun W (k : Below w3.heap.size w3 W) => Sum_any (t + (l.length : Int)) _ m (Bat.load l b) W (hQ.below k) htl (by omega)
      have R1 := fun W (k : Below w3.heap.size w3 W) => Run_any t c v2 (l ++ m) b W (hBoth.below k) ht (by omega) HC.out
      have R2 := fun W (k : Below w3.heap.size w3 W) => Run_any t c _ l b W (hP.below k) ht (by omega) HC.out
      have R3 := fun W (k : Below w3.heap.size w3 W) => Run_any (t + (l.length : Int)) (Bat.run t c l b).1 _ m (Bat.load l b) W (hQ.below k) htl (by omega) (Bat.run_i64 l t c b HC.out)
      have hle := Bat.run_le l t c b
      have hra := Bat.run_append l m t c b
      rw [Bat.sum_append] at S1
      obtain ⟨x1, hx1⟩ : ∃ x, x = Bat.sum t l b := ⟨_, rfl⟩
      obtain ⟨x2, hx2⟩ : ∃ x, x = Bat.sum (t + (l.length : Int)) m (Bat.load l b) := ⟨_, rfl⟩
      have hb1 : 0 ≤ x1 ∧ x1 ≤ 2100 := by have := Bat.sum_bd l t b; rw [← hx1] at this; omega
      have hb2 : 0 ≤ x2 ∧ x2 ≤ 2100 := by have := Bat.sum_bd m (t + (l.length : Int)) (Bat.load l b); rw [← hx2] at this; omega
      rw [← hx1, ← hx2] at S1
      rw [← hx1] at S2
      rw [← hx2] at S3
      rw [hra] at R1
      obtain ⟨y, k, hy⟩ : ∃ y k, Bat.run t c l b = (y, k) := ⟨_, _, rfl⟩
      rw [hy] at R1 R2 R3 hle
      dsimp only at R1 R2 R3 hle
      obtain ⟨z, j, hz⟩ : ∃ z j, Bat.run (t + (l.length : Int)) y m (Bat.load l b) = (z, j) := ⟨_, _, rfl⟩
      have hjle : j ≤ m.length := by have := Bat.run_le m (t + (l.length : Int)) y (Bat.load l b); rw [hz] at this; exact this
      rw [hz] at R1 R3
      dsimp only at R1 R3
      obtain ⟨b1, b1'⟩ := hb1
      obtain ⟨b2, b2'⟩ := hb2
      have HS1 := Lib.hid S1
      have HS2 := Lib.hid S2
      have HS3 := Lib.hid S3
      have HB := Lib.hid hB3
      clear S1 S2 S3 hx1 hx2 hra hy hz hBoth hP hQ hb3 hb13 hB3 ht htl hlen
      by_cases hlt : k < l.length
      · rw [if_pos hlt] at R1
        have HR1 := Lib.hid R1
        have HR2 := Lib.hid R2
        clear R1 R2 R3
        refine (HS1.out _ (Below.refl _ _)).mono ?_
        rintro e w4 ⟨rfl, k4⟩
        have K4 := Lib.hid k4
        clear k4
        go_wp2_with fail
        refine (HS2.out _ K4.out).mono ?_
        rintro e w5 ⟨rfl, k5⟩
        have K5 := Lib.hid (K4.out.trans (k5.mono K4.out.size))
        clear k5
        go_wp2_with fail
        refine (HS3.out _ K5.out).mono ?_
        rintro e w6 ⟨rfl, k6⟩
        have K6 := Lib.hid (K5.out.trans (k6.mono K5.out.size))
        clear k6
        go_wp2_with fail
        refine (HR1.out _ K6.out).mono ?_
        rintro e w7 ⟨rfl, k7⟩
        have K7 := Lib.hid (K6.out.trans (k7.mono K6.out.size))
        clear k7
        go_wp2_with fail
        refine (HR2.out _ K7.out).mono ?_
        rintro e w8 ⟨rfl, k8⟩
        have K8 := Lib.hid (K7.out.trans (k8.mono K7.out.size))
        clear k8
        go_wp2
        go_ret
        exact ⟨rfl, HB.out.trans (K8.out.mono HB.out.size)⟩
      · rw [if_neg hlt] at R1
        obtain rfl : k = l.length := by omega
        have HR1 := Lib.hid R1
        have HR2 := Lib.hid R2
        have HR3 := Lib.hid R3
        clear R1 R2 R3 hlt
        refine (HS1.out _ (Below.refl _ _)).mono ?_
        rintro e w4 ⟨rfl, k4⟩
        have K4 := Lib.hid k4
        clear k4
        go_wp2_with fail
        refine (HS2.out _ K4.out).mono ?_
        rintro e w5 ⟨rfl, k5⟩
        have K5 := Lib.hid (K4.out.trans (k5.mono K4.out.size))
        clear k5
        go_wp2_with fail
        refine (HS3.out _ K5.out).mono ?_
        rintro e w6 ⟨rfl, k6⟩
        have K6 := Lib.hid (K5.out.trans (k6.mono K5.out.size))
        clear k6
        go_wp2_with fail
        refine (HR1.out _ K6.out).mono ?_
        rintro e w7 ⟨rfl, k7⟩
        have K7 := Lib.hid (K6.out.trans (k7.mono K6.out.size))
        clear k7
        go_wp2_with fail
        refine (HR2.out _ K7.out).mono ?_
        rintro e w8 ⟨rfl, k8⟩
        have K8 := Lib.hid (K7.out.trans (k8.mono K7.out.size))
        clear k8
        go_wp2_with fail
        refine (HR3.out _ K8.out).mono ?_
        rintro e w9 ⟨rfl, k9⟩
        have K9 := Lib.hid (K8.out.trans (k9.mono K8.out.size))
        clear k9
        go_wp2
        go_ret
        exact ⟨rfl, HB.out.trans (K9.out.mono HB.out.size)⟩

theorem adds_walk (t c : Int) (p q : Option Addr) (cp cq : Nat) (l m : List Int) (b : Bool) (w : World) (hp : SliceI w (.slice p l.length cp) l) (hq : SliceI w (.slice q m.length cq) m)
    (np : p = none → cp = 0) (nq : q = none → cq = 0) (hc : I64 c) :
    Calls Try.prog 5 #[.int .i64 t, .int .i64 c, .slice p l.length cp, .slice q m.length cq, .bool b] w fun e w' => e = .returned (.bool true) ∧ Below w.heap.size w w' := by
  by_cases h : (0 ≤ t ∧ t ≤ 19900) ∧ (decide ((l.length : Int) ≤ 100) && (l.take 100).all Bat.isAct) = true ∧ (decide ((m.length : Int) ≤ 100) && (m.take 100).all Bat.isAct) = true
  · obtain ⟨ht, h1, h2⟩ := h
    rw [Bool.and_eq_true, decide_eq_true_eq] at h1 h2
    have hl : l.length ≤ 100 := by omega
    have hm : m.length ≤ 100 := by omega
    exact adds_in t c p q cp cq l m b w hp hq np nq ht hc hl hm (by have := h1.2; rwa [List.take_of_length_le hl] at this) (by have := h2.2; rwa [List.take_of_length_le hm] at this)
  · refine adds_out t c p q cp cq l m b w hp hq ?_
    cases hb : (decide ((l.length : Int) ≤ 100) && (l.take 100).all Bat.isAct) with
    | false => exact .inr (.inr (.inl rfl))
    | true =>
      cases hb2 : (decide ((m.length : Int) ≤ 100) && (m.take 100).all Bat.isAct) with
      | false => exact .inr (.inr (.inr rfl))
      | true =>
        have : ¬ (0 ≤ t ∧ t ≤ 19900) := fun k => h ⟨k, hb, hb2⟩
        omega

theorem SliceI.of_row3 {w : World} {a : Option Addr} {len cap : Nat} {zs : List Int}
    (h : (a = none ∧ len = 0 ∧ cap = 0 ∧ zs = []) ∨ ∃ x, a = some x ∧ len ≤ cap ∧ cap ≤ maxLen ∧ zs.length = cap ∧ (∀ i, i < zs.length → w.cell? (x.add i) = some (.int .i64 (zs.getD i 0))) ∧ ∀ n ∈ zs, (Lit.int .i64 n).wf = true) :
    ∃ l : List Int, len = l.length ∧ SliceI w (.slice a l.length cap) l ∧ (a = none → cap = 0) := by
  have hcap : a = none → cap = 0 := by
    rcases h with ⟨_, rfl, rfl, _⟩ | ⟨_, rfl, _⟩
    · exact fun _ => rfl
    · exact fun h => (by cases h)
  obtain ⟨l, rfl, hl, -⟩ := SliceI.of_row2 h
  exact ⟨l, rfl, hl, hcap⟩
end Go.Proofs.Ytmfgdocbmgmopaa
