/- Walks of package body: all. -/
import Derived.Test.YtcdfmgobokjcnaaFh
namespace Go.Proofs.Ytcdfmgobokjcnaa
set_option linter.unusedSimpArgs false
set_option linter.unusedVariables false
open Go.RowKit

theorem intInfoB : (Try.prog.info? 3).map (fun i => (i.zero, i.size, i.bytes)) = some (some (.int .i64 0), 1, 8) := by kernel_rfl
theorem ints_one (l : List Int) : ∀ u ∈ ints l, u.oneCell' = true := by intro u hu; obtain ⟨x, -, rfl⟩ := List.mem_map.1 hu; rfl
theorem ints_app (l m : List Int) : ints (l ++ m) = ints l ++ ints m := by simp [ints]
theorem own_belowB {w W : World} {base : Nat} {e : TypeId} {sz : Nat} {v : Value} {n : Nat} {xs : List Value} (h : w.ownsRow base e sz v n xs) (hb : Below w.heap.size w W) : W.ownsRow base e sz v n xs := by
  rcases h.2 with ⟨rfl, h0⟩ | ⟨g, cap, cur, rfl, hbg, hg, hr⟩
  · exact ⟨h.1, .inl ⟨rfl, h0⟩⟩
  · exact ⟨h.1, .inr ⟨g, cap, cur, rfl, hbg, keep_heap hg hb, hr⟩⟩
/-- The numbers of a state's bodies are small; there are few of them. -/
structure StS (s : Bd.State) : Prop where
  ro : ∀ r ∈ s.robots, SmC r.cell
  sh : ∀ c ∈ s.shelves, SmC c
  pe : ∀ c ∈ s.people, SmC c
  nr : s.robots.length ≤ 1000
  ns : s.shelves.length ≤ 10000
  np : s.people.length ≤ 1000
theorem range_flat {α : Type} (f : Nat → List α) (k : Nat) : (List.range (k + 1)).flatMap f = (List.range k).flatMap f ++ f k := by
  rw [List.range_succ, List.flatMap_append]; simp
/-- A new row of numbers is handed back. -/
def RwPost (L : List Int) (w : World) (e : Ending) (w' : World) : Prop := ∃ v, e = .returned v ∧ w'.ownsRow w.heap.size 3 1 v L.length (ints L) ∧ Below w.heap.size w w'
set_option maxRecDepth 100000 in
set_option maxHeartbeats 16000000 in
theorem allB_any (s : Bd.State) (sv rv pv dv kv : Value) (w : World) (h : StV w sv rv pv dv kv s) (hs : StS s) :
    Calls Try.prog 72 #[stV s sv rv pv dv kv] w (RwPost (Bd.allL s) w) := by
  have HRO : Hid (∀ (i : Nat) x W, Below w.heap.size w W → s.robots[i]? = some x → Calls Try.prog 83 #[stV s sv rv pv dv kv, .int .i64 (i : Int)] W (LsPost (Bd.robotL x) W)) := Lib.hid (fun i x W hW hx => by
    obtain ⟨hi, rfl⟩ := List.getElem?_eq_some_iff.1 hx
    exact Robot_any s sv rv pv dv kv i W (h.keep hW) hi (hs.ro _ (List.getElem_mem hi)))
  have HSH : Hid (∀ (i : Nat) x W, Below w.heap.size w W → s.shelves[i]? = some x → Calls Try.prog 84 #[stV s sv rv pv dv kv, .int .i64 (i : Int)] W (LsPost (Bd.shelfL s i) W)) := Lib.hid (fun i x W hW hx => by
    obtain ⟨hi, rfl⟩ := List.getElem?_eq_some_iff.1 hx
    exact Shelf_any s sv rv pv dv kv i W (h.keep hW) hi (hs.sh _ (List.getElem_mem hi)))
  have HPE : Hid (∀ (i : Nat) x W, Below w.heap.size w W → s.people[i]? = some x → Calls Try.prog 85 #[stV s sv rv pv dv kv, .int .i64 (i : Int)] W (LsPost (Bd.personL x) W)) := Lib.hid (fun i x W hW hx => by
    obtain ⟨hi, rfl⟩ := List.getElem?_eq_some_iff.1 hx
    exact Person_any s sv rv pv dv kv i W (h.keep hW) hi (hs.pe _ (List.getElem_mem hi)))
  have q1 := Bd.robotsL_len s
  have q2 := Bd.shelvesL_len s
  have q3 := Bd.peopleL_len s
  have n1 := hs.nr
  have n2 := hs.ns
  have n3 := hs.np
  have HL : Hid (Bd.allL s = Bd.robotsL s ++ (Bd.shelvesL s ++ Bd.peopleL s)) := Lib.hid rfl
  obtain ⟨a1, c1, a2, c2, a3, c3, a4, c4, a5, c5, rfl, rfl, rfl, rfl, rfl, m1, m2, m3, m4, m5⟩ := h.open
  unfold stV LsPost at HRO HSH HPE
  unfold stV RwPost
  obtain ⟨l1, e1⟩ : ∃ n, s.shelves.length = n := ⟨_, rfl⟩
  obtain ⟨l2, e2⟩ : ∃ n, s.robots.length = n := ⟨_, rfl⟩
  obtain ⟨l3, e3⟩ : ∃ n, s.people.length = n := ⟨_, rfl⟩
  obtain ⟨l4, e4⟩ : ∃ n, s.dead.length = n := ⟨_, rfl⟩
  obtain ⟨l5, e5⟩ : ∃ n, s.stuck.length = n := ⟨_, rfl⟩
  rw [e1, e2, e3, e4, e5] at HRO HSH HPE
  rw [e1, e2, e3, e4, e5]
  have E1 := Lib.hid e1
  have E2 := Lib.hid e2
  have E3 := Lib.hid e3
  rw [e2] at m2 n1 q1
  rw [e1] at m1 n2 q2
  rw [e3] at m3 n3 q3
  obtain ⟨w1, hw1⟩ : ∃ W, W = w.alloc (.cells #[.int .i64 s.tick, .slice a1 l1 c1, .slice a2 l2 c2, .slice a3 l3 c3, .slice a4 l4 c4, .slice a5 l5 c5] 47) := ⟨_, rfl⟩
  have HB := Lib.hid (al1 w (.cells #[.int .i64 s.tick, .slice a1 l1 c1, .slice a2 l2 c2, .slice a3 l3 c3, .slice a4 l4 c4, .slice a5 l5 c5] 47))
  rw [← hw1] at HB
  have HW := Lib.hid hw1
  have Q1 := Lib.hid q1
  have Q2 := Lib.hid q2
  have Q3 := Lib.hid q3
  clear e1 e2 e3 e4 e5 h hs hw1 m4 m5 q1 q2 q3
  go_enter Try.func72, Try.ntmps72
  go_upto_region 1 with fail
  rw [← HW.out]
  have p2 := cell_of_heap HB.out.1 2 (v := .slice a2 l2 c2) rfl
  go_wp2_with fail
  go_loopw [3, 10] (fun v3 iv wr => ∃ (k : Nat) (v : Value), k ≤ l2 ∧ v = v3 ∧ iv = .int .i64 k ∧ (((s.robots.take k).flatMap Bd.robotL)).length ≤ k * 2 ∧ Hid (wr.ownsRow w1.heap.size 3 1 v ([] ++ ((s.robots.take k).flatMap Bd.robotL)).length (ints ([] ++ ((s.robots.take k).flatMap Bd.robotL)))) ∧ Hid (Below w1.heap.size w1 wr)) (fun _ iv _ => l2 - (intOf iv).toNat)
  case atStart => exact ⟨0, .slice none 0 0, by omega, rfl, rfl, by simp, Lib.hid ⟨rfl, .inl ⟨rfl, rfl⟩⟩, Lib.hid (Below.refl _ _)⟩
  case round =>
    obtain ⟨k, vv, hk, rfl, rfl, hln, HO, HBl⟩ := hrel
    have IR := Lib.hid (keep_heap HB.out.1 HBl.out)
    have BR := Lib.hid (HB.out.2.1.trans (HBl.out.mono HB.out.2.1.size))
    by_cases hkn : k < l2
    · have hkl : k < s.robots.length := by rw [E2.out]; exact hkn
      have HC := Lib.hid (HRO.out k _ wr BR.out (List.getElem?_eq_getElem hkl))
      have HST : Hid (((s.robots.take (k + 1)).flatMap Bd.robotL) = ((s.robots.take k).flatMap Bd.robotL) ++ Bd.robotL s.robots[k]) := Lib.hid (Bd.flat_take Bd.robotL s.robots k hkl)
      have hfl : (Bd.robotL s.robots[k]).length ≤ 2 := Bd.atL_len _ _
      obtain ⟨F, hF⟩ : ∃ F, Bd.robotL s.robots[k] = F := ⟨_, rfl⟩
      rw [hF] at HC HST hfl
      have hpl : ([] ++ ((s.robots.take k).flatMap Bd.robotL)).length ≤ 24000 := by
        have h1 := Q1.out
        have h2 := Q2.out
        simp only [List.length_append, List.length_nil]
        omega
      have hl9 : (((s.robots.take (k + 1)).flatMap Bd.robotL)).length ≤ (k + 1) * 2 := by rw [HST.out, List.length_append]; omega
      have hpq : [] ++ ((s.robots.take (k + 1)).flatMap Bd.robotL) = ([] ++ ((s.robots.take k).flatMap Bd.robotL)) ++ F := by rw [HST.out]; simp only [List.append_assoc]
      obtain ⟨PL, hPL⟩ : ∃ PL, [] ++ ((s.robots.take k).flatMap Bd.robotL) = PL := ⟨_, rfl⟩
      rw [hPL] at HO hpl hpq
      have HPQ := Lib.hid hpq
      have HL9 := Lib.hid hl9
      obtain ⟨m, hm⟩ : ∃ m, PL.length = m := ⟨_, rfl⟩
      obtain ⟨f, hf⟩ : ∃ m, F.length = m := ⟨_, rfl⟩
      rw [hm] at HO hpl
      rw [hf] at hfl
      have HM := Lib.hid hm
      have HFf := Lib.hid hf
      clear hpq hl9 hPL hm hf hln HST
      have s0 := cell_of_heap IR.out 0 (v := .int .i64 s.tick) rfl
      have s1 := cell_of_heap IR.out 1 (v := .slice a1 l1 c1) rfl
      have s2 := cell_of_heap IR.out 2 (v := .slice a2 l2 c2) rfl
      have s3 := cell_of_heap IR.out 3 (v := .slice a3 l3 c3) rfl
      have s4 := cell_of_heap IR.out 4 (v := .slice a4 l4 c4) rfl
      have s5 := cell_of_heap IR.out 5 (v := .slice a5 l5 c5) rfl
      have k1 : (k : Int) < (l2 : Int) := by omega
      have k0 : (0 : Int) ≤ (k : Int) := by omega
      clear hF hkl
      go_wp2_with fail
      go_at_call 83; refine HC.out.mono ?_; rintro e w2 ⟨v2, rfl, hl2, b2⟩
      have B2 := Lib.hid (HBl.out.trans (b2.mono HBl.out.size))
      have HO2 := Lib.hid (own_belowB HO.out b2)
      have HL2 := Lib.hid hl2
      have hb2 := B2.out.size
      have HLN : Hid ((ints F).length = f) := Lib.hid ((ints_len F).trans HFf.out)
      clear b2 hl2 s0 s1 s2 s3 s4 s5
      go_wp2_with (at_builtin; refine wpList_append_sl rfl (.tmp 13) (.tmp 16) 29 rfl w1.heap.size 3 (.int .i64 0) 8 Try.underlying29 intInfoB rfl vv _ _ rfl HO2.out v2 (ints F) rfl HL2.out (ints_one F) ?d1 ?d2 ?d3 ?_)
      case d1 => rw [HLN.out]; unfold maxLen; omega
      case d2 => rw [HLN.out]; omega
      case d3 => exact hb2
      intro v3 w3 ho3 hg3
      rw [HLN.out] at ho3
      have HO3 : Hid (w3.ownsRow w1.heap.size 3 1 v3 (PL ++ F).length (ints (PL ++ F))) := Lib.hid (by rw [List.length_append, HM.out, HFf.out, ints_app]; exact ho3)
      have HB3 := Lib.hid (B2.out.grown hg3 hb2 (fun k e => World.ownsRow.lt HO2.out k e |>.1))
      clear ho3 hg3
      go_wp2_with fail
      go_roundw
      case rel =>
        exact ⟨k + 1, v3, by omega, rfl, by go_num, HL9.out, Lib.hid (by rw [HPQ.out]; exact HO3.out), HB3⟩
      case measure => simp [intOf]; omega
    · have hke : k = l2 := by omega
      have HO : Hid (wr.ownsRow w1.heap.size 3 1 vv (Bd.robotsL s).length (ints (Bd.robotsL s))) := Lib.hid (by have := HO.out; rw [hke, ← E2.out, List.take_length] at this; exact this)
      have pn := cell_of_heap IR.out 1 (v := .slice a1 l1 c1) rfl
      clear hln hke
      go_wp2_with fail
      go_loopw [3, 22] (fun v3 iv wr => ∃ (k : Nat) (v : Value), k ≤ l1 ∧ v = v3 ∧ iv = .int .i64 k ∧ (((List.range k).flatMap (Bd.shelfL s))).length ≤ k * 2 ∧ Hid (wr.ownsRow w1.heap.size 3 1 v ((Bd.robotsL s) ++ ((List.range k).flatMap (Bd.shelfL s))).length (ints ((Bd.robotsL s) ++ ((List.range k).flatMap (Bd.shelfL s))))) ∧ Hid (Below w1.heap.size w1 wr)) (fun _ iv _ => l1 - (intOf iv).toNat)
      case atStart => exact ⟨0, vv, by omega, rfl, rfl, by simp, Lib.hid (by have := HO.out; simpa using this), HBl⟩
      case round =>
        obtain ⟨k, vv, hk, rfl, rfl, hln, HO, HBl⟩ := hrel
        have IR := Lib.hid (keep_heap HB.out.1 HBl.out)
        have BR := Lib.hid (HB.out.2.1.trans (HBl.out.mono HB.out.2.1.size))
        by_cases hkn : k < l1
        · have hkl : k < s.shelves.length := by rw [E1.out]; exact hkn
          have HC := Lib.hid (HSH.out k _ wr BR.out (List.getElem?_eq_getElem hkl))
          have HST : Hid (((List.range (k + 1)).flatMap (Bd.shelfL s)) = ((List.range k).flatMap (Bd.shelfL s)) ++ Bd.shelfL s k) := Lib.hid (range_flat (Bd.shelfL s) k)
          have hfl : (Bd.shelfL s k).length ≤ 2 := Bd.shelfL_len _ _
          obtain ⟨F, hF⟩ : ∃ F, Bd.shelfL s k = F := ⟨_, rfl⟩
          rw [hF] at HC HST hfl
          have hpl : ((Bd.robotsL s) ++ ((List.range k).flatMap (Bd.shelfL s))).length ≤ 24000 := by
            have h1 := Q1.out
            have h2 := Q2.out
            simp only [List.length_append, List.length_nil]
            omega
          have hl9 : (((List.range (k + 1)).flatMap (Bd.shelfL s))).length ≤ (k + 1) * 2 := by rw [HST.out, List.length_append]; omega
          have hpq : (Bd.robotsL s) ++ ((List.range (k + 1)).flatMap (Bd.shelfL s)) = ((Bd.robotsL s) ++ ((List.range k).flatMap (Bd.shelfL s))) ++ F := by rw [HST.out]; simp only [List.append_assoc]
          obtain ⟨PL, hPL⟩ : ∃ PL, (Bd.robotsL s) ++ ((List.range k).flatMap (Bd.shelfL s)) = PL := ⟨_, rfl⟩
          rw [hPL] at HO hpl hpq
          have HPQ := Lib.hid hpq
          have HL9 := Lib.hid hl9
          obtain ⟨m, hm⟩ : ∃ m, PL.length = m := ⟨_, rfl⟩
          obtain ⟨f, hf⟩ : ∃ m, F.length = m := ⟨_, rfl⟩
          rw [hm] at HO hpl
          rw [hf] at hfl
          have HM := Lib.hid hm
          have HFf := Lib.hid hf
          clear hpq hl9 hPL hm hf hln HST
          have s0 := cell_of_heap IR.out 0 (v := .int .i64 s.tick) rfl
          have s1 := cell_of_heap IR.out 1 (v := .slice a1 l1 c1) rfl
          have s2 := cell_of_heap IR.out 2 (v := .slice a2 l2 c2) rfl
          have s3 := cell_of_heap IR.out 3 (v := .slice a3 l3 c3) rfl
          have s4 := cell_of_heap IR.out 4 (v := .slice a4 l4 c4) rfl
          have s5 := cell_of_heap IR.out 5 (v := .slice a5 l5 c5) rfl
          have k1 : (k : Int) < (l1 : Int) := by omega
          have k0 : (0 : Int) ≤ (k : Int) := by omega
          clear hF hkl
          go_wp2_with fail
          go_at_call 84; refine HC.out.mono ?_; rintro e w2 ⟨v2, rfl, hl2, b2⟩
          have B2 := Lib.hid (HBl.out.trans (b2.mono HBl.out.size))
          have HO2 := Lib.hid (own_belowB HO.out b2)
          have HL2 := Lib.hid hl2
          have hb2 := B2.out.size
          have HLN : Hid ((ints F).length = f) := Lib.hid ((ints_len F).trans HFf.out)
          clear b2 hl2 s0 s1 s2 s3 s4 s5
          go_wp2_with (at_builtin; refine wpList_append_sl rfl (.tmp 25) (.tmp 28) 29 rfl w1.heap.size 3 (.int .i64 0) 8 Try.underlying29 intInfoB rfl vv _ _ rfl HO2.out v2 (ints F) rfl HL2.out (ints_one F) ?d1 ?d2 ?d3 ?_)
          case d1 => rw [HLN.out]; unfold maxLen; omega
          case d2 => rw [HLN.out]; omega
          case d3 => exact hb2
          intro v3 w3 ho3 hg3
          rw [HLN.out] at ho3
          have HO3 : Hid (w3.ownsRow w1.heap.size 3 1 v3 (PL ++ F).length (ints (PL ++ F))) := Lib.hid (by rw [List.length_append, HM.out, HFf.out, ints_app]; exact ho3)
          have HB3 := Lib.hid (B2.out.grown hg3 hb2 (fun k e => World.ownsRow.lt HO2.out k e |>.1))
          clear ho3 hg3
          go_wp2_with fail
          go_roundw
          case rel =>
            exact ⟨k + 1, v3, by omega, rfl, by go_num, HL9.out, Lib.hid (by rw [HPQ.out]; exact HO3.out), HB3⟩
          case measure => simp [intOf]; omega
        · have hke : k = l1 := by omega
          have HO : Hid (wr.ownsRow w1.heap.size 3 1 vv (Bd.robotsL s ++ Bd.shelvesL s).length (ints (Bd.robotsL s ++ Bd.shelvesL s))) := Lib.hid (by have := HO.out; rw [hke, ← E1.out] at this; exact this)
          have pn := cell_of_heap IR.out 3 (v := .slice a3 l3 c3) rfl
          clear hln hke
          go_wp2_with fail
          go_loopw [3, 34] (fun v3 iv wr => ∃ (k : Nat) (v : Value), k ≤ l3 ∧ v = v3 ∧ iv = .int .i64 k ∧ (((s.people.take k).flatMap Bd.personL)).length ≤ k * 2 ∧ Hid (wr.ownsRow w1.heap.size 3 1 v ((Bd.robotsL s ++ Bd.shelvesL s) ++ ((s.people.take k).flatMap Bd.personL)).length (ints ((Bd.robotsL s ++ Bd.shelvesL s) ++ ((s.people.take k).flatMap Bd.personL)))) ∧ Hid (Below w1.heap.size w1 wr)) (fun _ iv _ => l3 - (intOf iv).toNat)
          case atStart => exact ⟨0, vv, by omega, rfl, rfl, by simp, Lib.hid (by have := HO.out; simpa using this), HBl⟩
          case round =>
            obtain ⟨k, vv, hk, rfl, rfl, hln, HO, HBl⟩ := hrel
            have IR := Lib.hid (keep_heap HB.out.1 HBl.out)
            have BR := Lib.hid (HB.out.2.1.trans (HBl.out.mono HB.out.2.1.size))
            by_cases hkn : k < l3
            · have hkl : k < s.people.length := by rw [E3.out]; exact hkn
              have HC := Lib.hid (HPE.out k _ wr BR.out (List.getElem?_eq_getElem hkl))
              have HST : Hid (((s.people.take (k + 1)).flatMap Bd.personL) = ((s.people.take k).flatMap Bd.personL) ++ Bd.personL s.people[k]) := Lib.hid (Bd.flat_take Bd.personL s.people k hkl)
              have hfl : (Bd.personL s.people[k]).length ≤ 2 := by simp [Bd.personL]
              obtain ⟨F, hF⟩ : ∃ F, Bd.personL s.people[k] = F := ⟨_, rfl⟩
              rw [hF] at HC HST hfl
              have hpl : ((Bd.robotsL s ++ Bd.shelvesL s) ++ ((s.people.take k).flatMap Bd.personL)).length ≤ 24000 := by
                have h1 := Q1.out
                have h2 := Q2.out
                simp only [List.length_append, List.length_nil]
                omega
              have hl9 : (((s.people.take (k + 1)).flatMap Bd.personL)).length ≤ (k + 1) * 2 := by rw [HST.out, List.length_append]; omega
              have hpq : (Bd.robotsL s ++ Bd.shelvesL s) ++ ((s.people.take (k + 1)).flatMap Bd.personL) = ((Bd.robotsL s ++ Bd.shelvesL s) ++ ((s.people.take k).flatMap Bd.personL)) ++ F := by rw [HST.out]; simp only [List.append_assoc]
              obtain ⟨PL, hPL⟩ : ∃ PL, (Bd.robotsL s ++ Bd.shelvesL s) ++ ((s.people.take k).flatMap Bd.personL) = PL := ⟨_, rfl⟩
              rw [hPL] at HO hpl hpq
              have HPQ := Lib.hid hpq
              have HL9 := Lib.hid hl9
              obtain ⟨m, hm⟩ : ∃ m, PL.length = m := ⟨_, rfl⟩
              obtain ⟨f, hf⟩ : ∃ m, F.length = m := ⟨_, rfl⟩
              rw [hm] at HO hpl
              rw [hf] at hfl
              have HM := Lib.hid hm
              have HFf := Lib.hid hf
              clear hpq hl9 hPL hm hf hln HST
              have s0 := cell_of_heap IR.out 0 (v := .int .i64 s.tick) rfl
              have s1 := cell_of_heap IR.out 1 (v := .slice a1 l1 c1) rfl
              have s2 := cell_of_heap IR.out 2 (v := .slice a2 l2 c2) rfl
              have s3 := cell_of_heap IR.out 3 (v := .slice a3 l3 c3) rfl
              have s4 := cell_of_heap IR.out 4 (v := .slice a4 l4 c4) rfl
              have s5 := cell_of_heap IR.out 5 (v := .slice a5 l5 c5) rfl
              have k1 : (k : Int) < (l3 : Int) := by omega
              have k0 : (0 : Int) ≤ (k : Int) := by omega
              clear hF hkl
              go_wp2_with fail
              go_at_call 85; refine HC.out.mono ?_; rintro e w2 ⟨v2, rfl, hl2, b2⟩
              have B2 := Lib.hid (HBl.out.trans (b2.mono HBl.out.size))
              have HO2 := Lib.hid (own_belowB HO.out b2)
              have HL2 := Lib.hid hl2
              have hb2 := B2.out.size
              have HLN : Hid ((ints F).length = f) := Lib.hid ((ints_len F).trans HFf.out)
              clear b2 hl2 s0 s1 s2 s3 s4 s5
              go_wp2_with (at_builtin; refine wpList_append_sl rfl (.tmp 37) (.tmp 40) 29 rfl w1.heap.size 3 (.int .i64 0) 8 Try.underlying29 intInfoB rfl vv _ _ rfl HO2.out v2 (ints F) rfl HL2.out (ints_one F) ?d1 ?d2 ?d3 ?_)
              case d1 => rw [HLN.out]; unfold maxLen; omega
              case d2 => rw [HLN.out]; omega
              case d3 => exact hb2
              intro v3 w3 ho3 hg3
              rw [HLN.out] at ho3
              have HO3 : Hid (w3.ownsRow w1.heap.size 3 1 v3 (PL ++ F).length (ints (PL ++ F))) := Lib.hid (by rw [List.length_append, HM.out, HFf.out, ints_app]; exact ho3)
              have HB3 := Lib.hid (B2.out.grown hg3 hb2 (fun k e => World.ownsRow.lt HO2.out k e |>.1))
              clear ho3 hg3
              go_wp2_with fail
              go_roundw
              case rel =>
                exact ⟨k + 1, v3, by omega, rfl, by go_num, HL9.out, Lib.hid (by rw [HPQ.out]; exact HO3.out), HB3⟩
              case measure => simp [intOf]; omega
            · have hke : k = l3 := by omega
              have HO : Hid (wr.ownsRow w1.heap.size 3 1 vv (Bd.allL s).length (ints (Bd.allL s))) := Lib.hid (by
                have := HO.out
                rw [hke, ← E3.out, List.take_length, List.append_assoc] at this
                exact this)
              go_wp2_with fail
              go_ret
              exact ⟨_, rfl, own_mono HO.out HB.out.2.1.size, BR.out⟩
end Go.Proofs.Ytcdfmgobokjcnaa
