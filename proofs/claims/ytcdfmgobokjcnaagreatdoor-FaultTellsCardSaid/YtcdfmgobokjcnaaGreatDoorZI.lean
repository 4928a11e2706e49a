/- Parts BrD, BrE of this claim, laid one behind the other: walks and the plain laws behind them; each contract states its own conditions. -/
import Derived.Test.YtcdfmgobokjcnaaGreatDoorZF
import Derived.Test.YtcdfmgobokjcnaaGreatDoorZH
/- Walks of package body: Clash. -/
namespace Go.Proofs.YtcdfmgobokjcnaaGreatDoor
set_option linter.unusedSimpArgs false
set_option linter.unusedVariables false
open Go.RowKit

theorem adj_nodup : ∀ {m : List Int}, m.Pairwise (· ≤ ·) → (∀ j, (hj : j + 1 < m.length) → m[j + 1] ≠ m[j]'(by omega)) → m.Nodup
  | [], _, _ => List.nodup_nil
  | [x], _, _ => by simp
  | x :: y :: r, hs, h => by
    rw [List.pairwise_cons] at hs
    have h0 := h 0 (by simp)
    simp only [List.getElem_cons_succ, List.getElem_cons_zero] at h0
    have ih := adj_nodup (m := y :: r) hs.2 (fun j hj => by
      have := h (j + 1) (by simp at hj ⊢; omega)
      simpa using this)
    rw [List.nodup_cons]
    refine ⟨fun hx => ?_, ih⟩
    have h1 := hs.1 y (List.mem_cons_self ..)
    have h2 : y ≤ x := by
      rcases List.mem_cons.1 hx with e | e
      · omega
      · exact (List.pairwise_cons.1 hs.2).1 x e
    omega
theorem adj_dup {m : List Int} {j : Nat} (hj : j + 1 < m.length) (e : m[j + 1] = m[j]'(by omega)) : ¬ m.Nodup := by
  intro h
  have := (List.getElem_inj (xs := m) (h₀ := hj) (h₁ := (by omega)) h).1 e
  omega
/-- The first numbers differ from those ahead of them. -/
def Adj (m : List Int) (k : Nat) : Prop := ∀ j, (hj : j + 1 < m.length) → j + 1 < k → m[j + 1] ≠ m[j]'(Nat.lt_of_succ_lt hj)
set_option maxRecDepth 100000 in
set_option maxHeartbeats 8000000 in
theorem Clash_any (v : Value) (l : List Int) (w : World) (h : Is w v l) (hlen : l.length ≤ 1000000) :
    Calls Tryz.prog 87 #[v] w fun e w' => (∃ x : Int, e = .returned (.tuple #[.int .i64 x, .bool (!decide l.Nodup)])) ∧ Below w.heap.size w w' := by
  obtain ⟨a, cap, rfl, hm⟩ := h.form
  have HV := Lib.hid (fun W => Values_any a l.length cap W)
  have HSO := Lib.hid (fun W bA (hb : Below w.heap.size w W) (hA : Box W bA 22 (.slice a l.length cap)) => sorted_any (.slice a l.length cap) l bA W hA (h.keep hb) hlen)
  unfold SoPost at HSO
  obtain ⟨n, hn⟩ : ∃ n, l.length = n := ⟨_, rfl⟩
  have HN := Lib.hid hn
  rw [hn] at HV HSO hm hlen ⊢
  obtain ⟨D, hD⟩ : ∃ D, decide l.Nodup = D := ⟨_, rfl⟩
  have HD := Lib.hid hD
  rw [hD]
  have HA := Lib.hid (al1 w (.cells #[.slice a n cap] 22))
  clear h hn hD
  go_enter Tryz.func87, Tryz.ntmps87
  go_wp2_with fail
  go_at_call 50; refine (HV.out _).mono ?_; rintro e wv ⟨rfl, rfl⟩
  go_wp2_with fail
  go_at_call 49; refine (HSO.out _ _ HA.out.2.1 HA.out.1).mono ?_; rintro e ws ⟨vs, ms, rfl, hm1, hm2, hm3, hbs⟩
  have BS : Hid (Below w.heap.size w ws) := Lib.hid (HA.out.2.1.trans (hbs.mono HA.out.2.1.size))
  have IM : Hid (Is ws vs ms) := Lib.hid (Sl.of_own hm3 (own_max hm3))
  obtain ⟨sa, sc, rfl, hsm⟩ := own_slice hm3
  have HP := Lib.hid hm1
  have HS := Lib.hid hm2
  obtain ⟨N, hN⟩ : ∃ N, ms.length = N := ⟨_, rfl⟩
  have HNM : Hid (N = n) := Lib.hid (by rw [← hN, hm1.length_eq, HN.out])
  have hNl : N ≤ 1000000 := by have := HNM.out; omega
  have HMN := Lib.hid hN
  rw [hN] at IM ⊢
  have HI0 : Hid (Adj ms 1) := Lib.hid (fun j hj h => by omega)
  have BR0 := Lib.hid (Below.refl ws.heap.size ws)
  clear hm1 hm2 hm3 hbs hN
  go_wp2_with fail
  go_loopw [5] (fun iv wr => ∃ k : Nat, 1 ≤ k ∧ (k ≤ N ∨ k = 1) ∧ iv = .int .i64 k ∧ Hid (Adj ms k) ∧ Hid (Below ws.heap.size ws wr)) (fun iv _ => N - (intOf iv).toNat)
  case atStart => exact ⟨1, by omega, .inr rfl, rfl, HI0, BR0⟩
  case round =>
    clear HI0 BR0
    obtain ⟨k, hk1, hk, rfl, HI, HU⟩ := hrel
    have BW : Hid (Below w.heap.size w wr) := Lib.hid (BS.out.trans (HU.out.mono BS.out.size))
    have BQ : Hid (∀ q, Below w.heap.size w (wr.drewN q)) := Lib.hid (fun q => BW.out.trans (below_drewN _ _ _))
    have BQ2 : Hid (∀ q, Below ws.heap.size ws (wr.drewN q)) := Lib.hid (fun q => HU.out.trans (below_drewN _ _ _))
    by_cases hkn : k < N
    · obtain ⟨j, hj⟩ : ∃ j, j + 1 = k := ⟨k - 1, by omega⟩
      have hkl : k < ms.length := by rw [HMN.out]; exact hkn
      have hjl : j < ms.length := by omega
      obtain ⟨b, off, rfl, x0⟩ := (IM.out.keep HU.out).cell k hkl
      obtain ⟨b2, off2, e2, x1⟩ := (IM.out.keep HU.out).cell j hjl
      injection e2 with e2; injection e2 with e2 e3; subst e2 e3
      have j1 : IntKind.i64.wrap ((k : Int) - 1) = (j : Int) := by rw [show (k : Int) - 1 = (j : Int) by omega]; exact IntWalk.i64_in _ (by omega)
      have j2 : (0 : Int) ≤ (j : Int) := by omega
      have j3 : (j : Int) < (N : Int) := by omega
      have k0 : (0 : Int) ≤ (k : Int) := by omega
      have k1 : (k : Int) < (N : Int) := by omega
      have HDUP : Hid (ms[k] = ms[j] → D = false) := Lib.hid (fun e => by
        rw [← HD.out]; refine decide_eq_false (fun hnd => ?_)
        subst hj
        exact adj_dup hkl e (HP.out.nodup_iff.2 hnd))
      have HNX : Hid (ms[k] ≠ ms[j] → Adj ms (k + 1)) := Lib.hid (fun hne i hi h => by
        by_cases e : i + 1 < k
        · exact HI.out i hi e
        · have e3 : i = j := by omega
          subst e3
          subst hj
          exact hne)
      obtain ⟨X, hX⟩ : ∃ X, ms[k] = X := ⟨_, rfl⟩
      obtain ⟨Y, hY⟩ : ∃ Y, ms[j] = Y := ⟨_, rfl⟩
      rw [hX] at x0 HDUP HNX
      rw [hY] at x1 HDUP HNX
      clear hX hY hj hkl hjl
      by_cases e : X = Y
      · have HDf : Hid (D = false) := Lib.hid (HDUP.out e)
        subst e
        go_upto_region 5 with fail
        go_quiet (fail)
        go_wp2_with fail
        all_goals go_ret2
        all_goals exact ⟨⟨X, by rw [HDf.out]; rfl⟩, BQ.out _⟩
      · have HNX2 := Lib.hid (HNX.out e)
        have t0 : (X == Y) = false := by simp [e]
        go_upto_region 5 with fail
        go_quiet (fail)
        go_wp2_with fail
        all_goals go_roundw
        case rel => exact ⟨k + 1, by omega, .inl (by omega), by go_num, HNX2, Lib.hid (BQ2.out _)⟩
        case measure => simp [intOf]; omega
    · have HDt : Hid (D = true) := Lib.hid (by
        rw [← HD.out]; refine decide_eq_true (HP.out.nodup_iff.1 (adj_nodup HS.out (fun j hj => HI.out j hj (by have := HMN.out; omega))))) 
      go_wp2_with fail
      go_ret2
      exact ⟨⟨0, by rw [HDt.out]; rfl⟩, BW.out⟩
end Go.Proofs.YtcdfmgobokjcnaaGreatDoor
/- Walks of package body: Right. -/
namespace Go.Proofs.YtcdfmgobokjcnaaGreatDoor
set_option linter.unusedSimpArgs false
set_option linter.unusedVariables false
open Go.RowKit

theorem allL_len (s : Bd.State) : (Bd.allL s).length ≤ s.robots.length * 2 + (s.shelves.length * 2 + s.people.length * 2) := by
  unfold Bd.allL
  rw [List.length_append, List.length_append]
  have := Bd.robotsL_len s; have := Bd.shelvesL_len s; have := Bd.peopleL_len s
  omega
set_option maxRecDepth 100000 in
set_option maxHeartbeats 32000000 in
theorem bRight_any (f : Fl.Floor) (kv ov zv av : Value) (ah ab : Option Addr) (ns nr ch cb : Nat) (s : Bd.State) (sv rv pv dv ku : Value) (w : World) (hf : FlV w kv ov f) (h : StV w sv rv pv dv ku s) (hs : StS s) (hn : ∀ r ∈ s.robots, RobN r) :
    Calls Tryz.prog 46 #[siF f kv ov zv av (.slice ah ns ch) (.slice ab nr cb), stV s sv rv pv dv ku] w fun e w' => e = .returned (.bool (Bd.rightB f (ns : Int) (nr : Int) s)) ∧ Below w.heap.size w w' := by
  obtain ⟨a1, c1, rfl, m1⟩ := h.sh.form
  obtain ⟨a2, c2, rfl, m2⟩ := h.ro.form
  obtain ⟨a3, c3, rfl, m3⟩ := h.pe.form
  have HF := Lib.hid hf
  have HS := Lib.hid h
  have HRO := Lib.hid (fun W (hW : Below w.heap.size w W) => robotsB_any f kv ov zv av (.slice ah ns ch) (.slice ab nr cb) s _ _ _ dv ku W (hf.keep hW) (h.keep hW) hn (by have := hs.nr; omega))
  have HRE := Lib.hid (fun W (hW : Below w.heap.size w W) => restB_any f kv ov s _ _ _ dv ku W (hf.keep hW) (h.keep hW))
  have HCA := Lib.hid (fun i W (hW : Below w.heap.size w W) => Carrier_any s _ _ _ dv ku i W (h.keep hW))
  have HON := Lib.hid (fun c v ks W (hW : Below w.heap.size w W) (hv : Is W v ks) => on_any f kv ov c v ks W (hf.keep hW) hv)
  have HAL := Lib.hid (fun W (hW : Below w.heap.size w W) => allB_any s _ _ _ dv ku W (h.keep hW) hs)
  have HCL := Lib.hid (fun v W (hv : Is W v (Bd.allL s)) => Clash_any v (Bd.allL s) W hv (by have := allL_len s; have := hs.nr; have := hs.ns; have := hs.np; omega))
  obtain ⟨L, hL⟩ : ∃ n, s.shelves.length = n := ⟨_, rfl⟩
  obtain ⟨N, hN⟩ : ∃ n, s.robots.length = n := ⟨_, rfl⟩
  obtain ⟨M, hM⟩ : ∃ n, s.people.length = n := ⟨_, rfl⟩
  have hLs : L ≤ 10000 := by rw [← hL]; exact hs.ns
  have hMs : M ≤ 1000 := by rw [← hM]; exact hs.np
  have HL := Lib.hid hL
  have HN := Lib.hid hN
  have HM := Lib.hid hM
  have HRB : Hid (Bd.rightB f (ns : Int) (nr : Int) s = ((Bd.inB s.tick 0 20000 && (decide (L = ns) && (decide (N = nr) && (decide (M ≤ 20) && (Bd.robsB f s && Bd.restB f s))))) && (Bd.shelvesB f s && (Bd.peopleB f s && decide (Bd.allL s).Nodup)))) := Lib.hid (by
    unfold Bd.rightB Bd.headB; rw [hL, hN, hM]; congr 2
    rw [show decide ((L : Int) = (ns : Int)) = decide (L = ns) from by rw [Bool.eq_iff_iff]; simp; omega, show decide ((N : Int) = (nr : Int)) = decide (N = nr) from by rw [Bool.eq_iff_iff]; simp; omega, show decide ((M : Int) ≤ 20) = decide (M ≤ 20) from by rw [Bool.eq_iff_iff]; simp; omega])
  obtain ⟨R, hR⟩ : ∃ R, Bd.rightB f (ns : Int) (nr : Int) s = R := ⟨_, rfl⟩
  have CT := Lib.hid (fun W => bwithin_any s.tick 0 20000 W)
  obtain ⟨I1, hI1⟩ : ∃ b, Bd.inB s.tick 0 20000 = b := ⟨_, rfl⟩
  obtain ⟨RO, hRO⟩ : ∃ b, Bd.robsB f s = b := ⟨_, rfl⟩
  obtain ⟨RE, hRE⟩ : ∃ b, Bd.restB f s = b := ⟨_, rfl⟩
  obtain ⟨ND, hND⟩ : ∃ b, decide (Bd.allL s).Nodup = b := ⟨_, rfl⟩
  rw [hR, hI1, hRO, hRE, hND] at HRB
  rw [hI1] at CT
  rw [hRO] at HRO
  rw [hRE] at HRE
  rw [hND] at HCL
  rw [hR]
  unfold RwPost at HAL
  unfold CarPost at HCA
  unfold siF at HRO ⊢
  unfold flV at HRE HON
  unfold stV at HRO HRE HCA HAL ⊢
  rw [hL, hN, hM] at HRO HRE HCA HAL ⊢
  rw [hL] at m1
  rw [hN] at m2
  rw [hM] at m3
  obtain ⟨w2, hw2⟩ : ∃ W, W = (w.alloc (.cells #[.int .i64 f.w, .int .i64 f.h, .int .i64 f.d, kv, ov, zv, av, .slice ah ns ch, .slice ab nr cb] 30)).alloc (.cells #[.int .i64 s.tick, .slice a1 L c1, .slice a2 N c2, .slice a3 M c3, dv, ku] 34) := ⟨_, rfl⟩
  have HA := al2 w (.cells #[.int .i64 f.w, .int .i64 f.h, .int .i64 f.d, kv, ov, zv, av, .slice ah ns ch, .slice ab nr cb] 30) (.cells #[.int .i64 s.tick, .slice a1 L c1, .slice a2 N c2, .slice a3 M c3, dv, ku] 34)
  rw [← hw2] at HA
  have IS := Lib.hid HA.1
  have IT := Lib.hid HA.2.1
  have B2 := Lib.hid HA.2.2.1
  have HW2 := Lib.hid hw2
  clear hf h hs hn hL hN hM hR hI1 hRO hRE hND hw2 HA
  have CS : Hid (∀ W, Below w2.heap.size w2 W → W.heap[w.heap.size]? = some (.cells #[.int .i64 f.w, .int .i64 f.h, .int .i64 f.d, kv, ov, zv, av, .slice ah ns ch, .slice ab nr cb] 30 (0, 0))) := Lib.hid (fun W hW => keep_heap IS.out hW)
  have CU : Hid (∀ W, Below w2.heap.size w2 W → W.heap[w.heap.size + 1]? = some (.cells #[.int .i64 s.tick, .slice a1 L c1, .slice a2 N c2, .slice a3 M c3, dv, ku] 34 (0, 0))) := Lib.hid (fun W hW => keep_heap IT.out hW)
  have x3 : w2.cell? ⟨w.heap.size, 7, none⟩ = some (.slice ah ns ch) := cell_of_heap IS.out 7 rfl
  have x4 : w2.cell? ⟨w.heap.size, 8, none⟩ = some (.slice ab nr cb) := cell_of_heap IS.out 8 rfl
  have t0 : w2.cell? ⟨w.heap.size + 1, 0, none⟩ = some (.int .i64 s.tick) := cell_of_heap IT.out 0 rfl
  have t1 : w2.cell? ⟨w.heap.size + 1, 1, none⟩ = some (.slice a1 L c1) := cell_of_heap IT.out 1 rfl
  have t2 : w2.cell? ⟨w.heap.size + 1, 2, none⟩ = some (.slice a2 N c2) := cell_of_heap IT.out 2 rfl
  have t3 : w2.cell? ⟨w.heap.size + 1, 3, none⟩ = some (.slice a3 M c3) := cell_of_heap IT.out 3 rfl
  have t4 : w2.cell? ⟨w.heap.size + 1, 4, none⟩ = some dv := cell_of_heap IT.out 4 rfl
  have t5 : w2.cell? ⟨w.heap.size + 1, 5, none⟩ = some ku := cell_of_heap IT.out 5 rfl
  have x0 : w2.cell? ⟨w.heap.size, 0, none⟩ = some (.int .i64 f.w) := cell_of_heap IS.out 0 rfl
  have x1 : w2.cell? ⟨w.heap.size, 1, none⟩ = some (.int .i64 f.h) := cell_of_heap IS.out 1 rfl
  have x2 : w2.cell? ⟨w.heap.size, 2, none⟩ = some (.int .i64 f.d) := cell_of_heap IS.out 2 rfl
  have xk : w2.cell? ⟨w.heap.size, 3, none⟩ = some kv := cell_of_heap IS.out 3 rfl
  have xo : w2.cell? ⟨w.heap.size, 4, none⟩ = some ov := cell_of_heap IS.out 4 rfl
  have xz : w2.cell? ⟨w.heap.size, 5, none⟩ = some zv := cell_of_heap IS.out 5 rfl
  have xa : w2.cell? ⟨w.heap.size, 6, none⟩ = some av := cell_of_heap IS.out 6 rfl
  go_enter Tryz.func46, Tryz.ntmps46
  go_upto_region 1 with fail
  rw [← HW2.out]
  go_wp2_with fail
  go_at_call 82; refine (CT.out _).mono ?_; rintro e w3 ⟨rfl, rfl⟩
  cases I1 with
  | false =>
    have HRf : Hid (R = false) := Lib.hid HRB.out
    go_wp2_with fail
    go_ret
    exact ⟨by rw [HRf.out]; rfl, B2.out⟩
  | true =>
    by_cases e1 : L = ns
    · have q1 : ((L : Int) != (ns : Int)) = false := by simp [e1]
      by_cases e2 : N = nr
      · have q2 : ((N : Int) != (nr : Int)) = false := by simp [e2]
        by_cases e3 : M ≤ 20
        · have q3 : ¬ (M : Int) > 20 := by omega
          have HRB2 : Hid (R = ((RO && RE) && (Bd.shelvesB f s && (Bd.peopleB f s && ND)))) := Lib.hid (by rw [HRB.out, decide_eq_true e1, decide_eq_true e2, decide_eq_true e3]; rfl)
          have hE1 := Lib.hid e1
          have hE2 := Lib.hid e2
          subst e1 e2
          go_wp2_with fail
          go_at_call 83; refine (HRO.out _ B2.out).mono ?_; rintro e w4 ⟨rfl, b4⟩
          have B4 := Lib.hid (B2.out.trans (b4.mono B2.out.size))
          have BU4 := Lib.hid b4
          clear b4 x0 x1 x2 x3 x4 xk xo xz xa t0 t1 t2 t3 t4 t5
          cases RO with
          | false =>
            have HRf : Hid (R = false) := Lib.hid HRB2.out
            go_wp2_with fail
            go_ret
            exact ⟨by rw [HRf.out]; rfl, B4.out⟩
          | true =>
            have t0 : w4.cell? ⟨w.heap.size + 1, 0, none⟩ = some (.int .i64 s.tick) := cell_of_heap (CU.out _ BU4.out) 0 rfl
            have t1 : w4.cell? ⟨w.heap.size + 1, 1, none⟩ = some (.slice a1 L c1) := cell_of_heap (CU.out _ BU4.out) 1 rfl
            have t2 : w4.cell? ⟨w.heap.size + 1, 2, none⟩ = some (.slice a2 N c2) := cell_of_heap (CU.out _ BU4.out) 2 rfl
            have t3 : w4.cell? ⟨w.heap.size + 1, 3, none⟩ = some (.slice a3 M c3) := cell_of_heap (CU.out _ BU4.out) 3 rfl
            have t4 : w4.cell? ⟨w.heap.size + 1, 4, none⟩ = some dv := cell_of_heap (CU.out _ BU4.out) 4 rfl
            have t5 : w4.cell? ⟨w.heap.size + 1, 5, none⟩ = some ku := cell_of_heap (CU.out _ BU4.out) 5 rfl
            have x0 : w4.cell? ⟨w.heap.size, 0, none⟩ = some (.int .i64 f.w) := cell_of_heap (CS.out _ BU4.out) 0 rfl
            have x1 : w4.cell? ⟨w.heap.size, 1, none⟩ = some (.int .i64 f.h) := cell_of_heap (CS.out _ BU4.out) 1 rfl
            have x2 : w4.cell? ⟨w.heap.size, 2, none⟩ = some (.int .i64 f.d) := cell_of_heap (CS.out _ BU4.out) 2 rfl
            have xk : w4.cell? ⟨w.heap.size, 3, none⟩ = some kv := cell_of_heap (CS.out _ BU4.out) 3 rfl
            have xo : w4.cell? ⟨w.heap.size, 4, none⟩ = some ov := cell_of_heap (CS.out _ BU4.out) 4 rfl
            go_wp2_with fail
            go_at_call 84; refine (HRE.out _ B4.out).mono ?_; rintro e w5 ⟨rfl, b5⟩
            have B5 := Lib.hid (B4.out.trans (b5.mono B4.out.size))
            have BU5 := Lib.hid (BU4.out.trans (b5.mono BU4.out.size))
            clear b5 x0 x1 x2 xk xo t0 t1 t2 t3 t4 t5
            cases RE with
            | false =>
              have HRf : Hid (R = false) := Lib.hid HRB2.out
              go_wp2_with fail
              go_ret
              exact ⟨by rw [HRf.out]; rfl, B5.out⟩
            | true =>
              have HRB3 : Hid (R = (Bd.shelvesB f s && (Bd.peopleB f s && ND))) := Lib.hid HRB2.out
              have t1 : w5.cell? ⟨w.heap.size + 1, 1, none⟩ = some (.slice a1 L c1) := cell_of_heap (CU.out _ BU5.out) 1 rfl
              have A0 : Hid ((List.range 0).all (Bd.shelfOk f s) = true) := Lib.hid rfl
              go_wp2_with fail
              go_loopw [55] (fun iv wr => ∃ k : Nat, k ≤ L ∧ iv = .int .i64 k ∧ Hid ((List.range k).all (Bd.shelfOk f s) = true) ∧ Hid (Below w2.heap.size w2 wr)) (fun iv _ => L - (intOf iv).toNat)
              case atStart => exact ⟨0, by omega, rfl, A0, BU5⟩
              case round =>
                clear A0 t1
                obtain ⟨k, hk, rfl, HG, HU⟩ := hrel
                have BW : Hid (Below w.heap.size w wr) := Lib.hid (B2.out.trans (HU.out.mono B2.out.size))
                by_cases hkn : k < L
                · have hkl : k < s.shelves.length := by rw [HL.out]; exact hkn
                  obtain ⟨sb, so, rfl, r1⟩ := (HS.out.sh.keep BW.out).cell k hkl
                  have k0 : (0 : Int) ≤ (k : Int) := by omega
                  have k1 : (k : Int) < (L : Int) := by omega
                  have HNX : Hid (Bd.shelfOk f s k = true → (List.range (k + 1)).all (Bd.shelfOk f s) = true) := Lib.hid (fun h => by rw [List.range_succ, List.all_append, HG.out]; simp [h])
                  have HNO : Hid (Bd.shelfOk f s k = false → R = false) := Lib.hid (fun h => by
                    have : Bd.shelvesB f s = false := by
                      unfold Bd.shelvesB
                      rw [List.all_eq_false]
                      exact ⟨k, List.mem_range.2 hkl, by simp [h]⟩
                    rw [HRB3.out, this]; rfl)
                  have HSO : Hid (Bd.shelfOk f s k = (Bd.carried s k || Bd.onB f s.shelves[k] 1 2)) := Lib.hid (by unfold Bd.shelfOk; simp [List.getD, hkl])
                  obtain ⟨X, hX⟩ : ∃ X, s.shelves[k] = X := ⟨_, rfl⟩
                  rw [hX] at r1 HSO
                  have HC := Lib.hid (HCA.out k wr BW.out)
                  obtain ⟨CR, hCR⟩ : ∃ b, Bd.carried s k = b := ⟨_, rfl⟩
                  rw [hCR] at HC HSO
                  have t0 : wr.cell? ⟨w.heap.size + 1, 0, none⟩ = some (.int .i64 s.tick) := cell_of_heap (CU.out _ HU.out) 0 rfl
                  have t1 : wr.cell? ⟨w.heap.size + 1, 1, none⟩ = some (.slice (some ⟨sb, so, none⟩) L c1) := cell_of_heap (CU.out _ HU.out) 1 rfl
                  have t2 : wr.cell? ⟨w.heap.size + 1, 2, none⟩ = some (.slice a2 N c2) := cell_of_heap (CU.out _ HU.out) 2 rfl
                  have t3 : wr.cell? ⟨w.heap.size + 1, 3, none⟩ = some (.slice a3 M c3) := cell_of_heap (CU.out _ HU.out) 3 rfl
                  have t4 : wr.cell? ⟨w.heap.size + 1, 4, none⟩ = some dv := cell_of_heap (CU.out _ HU.out) 4 rfl
                  have t5 : wr.cell? ⟨w.heap.size + 1, 5, none⟩ = some ku := cell_of_heap (CU.out _ HU.out) 5 rfl
                  clear hX hCR hkl
                  go_wp2_with fail
                  go_at_call 85; refine HC.out.mono ?_; rintro e w6 ⟨⟨rr, rfl, hr1, hr2, hr3⟩, b6⟩
                  have HU6 := Lib.hid (HU.out.trans (b6.mono HU.out.size))
                  have BW6 := Lib.hid (BW.out.trans (b6.mono BW.out.size))
                  clear b6 t0 t1 t2 t3 t4 t5 r1
                  cases CR with
                  | true =>
                    have hr4 : ¬ rr < 0 := by have := of_decide_eq_true hr3; omega
                    have HN1 := Lib.hid (HNX.out HSO.out)
                    clear hr3
                    go_wp2_with fail
                    go_roundw
                    case rel => exact ⟨k + 1, by omega, by go_num, HN1, HU6⟩
                    case measure => simp [intOf]; omega
                  | false =>
                    have hr4 : rr < 0 := by have := of_decide_eq_false hr3; omega
                    have gd := al1 w6 (.cells #[.int .i64 1, .int .i64 2] 3)
                    have C1 := Lib.hid (HON.out X (.slice (some ⟨w6.heap.size, 0, none⟩) 2 2) [1, 2] (w6.alloc (.cells #[.int .i64 1, .int .i64 2] 3)) (BW6.out.trans (gd.2.1.mono BW6.out.size)) (is_new2 gd.1))
                    rw [onL_two] at C1
                    obtain ⟨OB, hOB⟩ : ∃ b, Bd.onB f X 1 2 = b := ⟨_, rfl⟩
                    rw [hOB] at C1 HSO
                    have x0 : w6.cell? ⟨w.heap.size, 0, none⟩ = some (.int .i64 f.w) := cell_of_heap (CS.out _ HU6.out) 0 rfl
                    have x1 : w6.cell? ⟨w.heap.size, 1, none⟩ = some (.int .i64 f.h) := cell_of_heap (CS.out _ HU6.out) 1 rfl
                    have x2 : w6.cell? ⟨w.heap.size, 2, none⟩ = some (.int .i64 f.d) := cell_of_heap (CS.out _ HU6.out) 2 rfl
                    have xk : w6.cell? ⟨w.heap.size, 3, none⟩ = some kv := cell_of_heap (CS.out _ HU6.out) 3 rfl
                    have xo : w6.cell? ⟨w.heap.size, 4, none⟩ = some ov := cell_of_heap (CS.out _ HU6.out) 4 rfl
                    have HU7 : Hid (∀ W, Below (w6.alloc (.cells #[.int .i64 1, .int .i64 2] 3)).heap.size (w6.alloc (.cells #[.int .i64 1, .int .i64 2] 3)) W → Below w2.heap.size w2 W) := Lib.hid (fun W hW => HU6.out.trans ((gd.2.1.trans (hW.mono gd.2.1.size)).mono HU6.out.size))
                    clear hr3 hOB gd
                    go_wp2_with fail
                    go_at_call 86; refine C1.out.mono ?_; rintro e w8 ⟨rfl, b8⟩
                    have HU8 := Lib.hid (HU7.out _ b8)
                    have BW8 := Lib.hid (B2.out.trans (HU8.out.mono B2.out.size))
                    clear b8 x0 x1 x2 xk xo
                    cases OB with
                    | false =>
                      have HRf : Hid (R = false) := Lib.hid (HNO.out HSO.out)
                      go_wp2_with fail
                      go_ret
                      exact ⟨by rw [HRf.out]; rfl, BW8.out⟩
                    | true =>
                      have HN1 := Lib.hid (HNX.out HSO.out)
                      go_wp2_with fail
                      go_roundw
                      case rel => exact ⟨k + 1, by omega, by go_num, HN1, HU8⟩
                      case measure => simp [intOf]; omega
                · have hkL : k = s.shelves.length := by rw [HL.out]; omega
                  have HSB : Hid (Bd.shelvesB f s = true) := Lib.hid (by unfold Bd.shelvesB; rw [← hkL]; exact HG.out)
                  have HRB4 : Hid (R = (Bd.peopleB f s && ND)) := Lib.hid (by rw [HRB3.out, HSB.out]; rfl)
                  have t3 : wr.cell? ⟨w.heap.size + 1, 3, none⟩ = some (.slice a3 M c3) := cell_of_heap (CU.out _ HU.out) 3 rfl
                  obtain ⟨wz, hwz⟩ : ∃ W, W = wr := ⟨_, rfl⟩
                  subst hwz
                  have A0 : Hid ((s.people.take 0).all (fun c => Bd.onB f c 4 5) = true) := Lib.hid (by simp)
                  clear hkL HG
                  go_wp2_with fail
                  go_loopw [76] (fun iv wr => ∃ k : Nat, k ≤ M ∧ iv = .int .i64 k ∧ Hid ((s.people.take k).all (fun c => Bd.onB f c 4 5) = true) ∧ Hid (Below w2.heap.size w2 wr)) (fun iv _ => M - (intOf iv).toNat)
                  case atStart => exact ⟨0, by omega, rfl, A0, HU⟩
                  case round =>
                    clear A0 t3 HU BW hkn hk
                    obtain ⟨k, hk, rfl, HG, HU⟩ := hrel
                    have BW : Hid (Below w.heap.size w wr) := Lib.hid (B2.out.trans (HU.out.mono B2.out.size))
                    by_cases hkn : k < M
                    · have hkl : k < s.people.length := by rw [HM.out]; exact hkn
                      obtain ⟨sb, so, rfl, r1⟩ := (HS.out.pe.keep BW.out).cell k hkl
                      have k0 : (0 : Int) ≤ (k : Int) := by omega
                      have k1 : (k : Int) < (M : Int) := by omega
                      have HNX : Hid (Bd.onB f s.people[k] 4 5 = true → (s.people.take (k + 1)).all (fun c => Bd.onB f c 4 5) = true) := Lib.hid (fun h => by rw [List.take_succ_eq_append_getElem hkl, List.all_append, HG.out]; simp [h])
                      have HNO : Hid (Bd.onB f s.people[k] 4 5 = false → R = false) := Lib.hid (fun h => by
                        have : Bd.peopleB f s = false := by
                          unfold Bd.peopleB
                          rw [List.all_eq_false]
                          exact ⟨s.people[k], List.getElem_mem hkl, by simp [h]⟩
                        rw [HRB4.out, this]; rfl)
                      obtain ⟨X, hX⟩ : ∃ X, s.people[k] = X := ⟨_, rfl⟩
                      rw [hX] at r1 HNX HNO
                      have gd := al1 wr (.cells #[.int .i64 4, .int .i64 5] 3)
                      have C1 := Lib.hid (HON.out X (.slice (some ⟨wr.heap.size, 0, none⟩) 2 2) [4, 5] (wr.alloc (.cells #[.int .i64 4, .int .i64 5] 3)) (BW.out.trans (gd.2.1.mono BW.out.size)) (is_new2 gd.1))
                      rw [onL_two] at C1
                      obtain ⟨OB, hOB⟩ : ∃ b, Bd.onB f X 4 5 = b := ⟨_, rfl⟩
                      rw [hOB] at C1 HNX HNO
                      have x0 : wr.cell? ⟨w.heap.size, 0, none⟩ = some (.int .i64 f.w) := cell_of_heap (CS.out _ HU.out) 0 rfl
                      have x1 : wr.cell? ⟨w.heap.size, 1, none⟩ = some (.int .i64 f.h) := cell_of_heap (CS.out _ HU.out) 1 rfl
                      have x2 : wr.cell? ⟨w.heap.size, 2, none⟩ = some (.int .i64 f.d) := cell_of_heap (CS.out _ HU.out) 2 rfl
                      have xk : wr.cell? ⟨w.heap.size, 3, none⟩ = some kv := cell_of_heap (CS.out _ HU.out) 3 rfl
                      have xo : wr.cell? ⟨w.heap.size, 4, none⟩ = some ov := cell_of_heap (CS.out _ HU.out) 4 rfl
                      have HU7 : Hid (∀ W, Below (wr.alloc (.cells #[.int .i64 4, .int .i64 5] 3)).heap.size (wr.alloc (.cells #[.int .i64 4, .int .i64 5] 3)) W → Below w2.heap.size w2 W) := Lib.hid (fun W hW => HU.out.trans ((gd.2.1.trans (hW.mono gd.2.1.size)).mono HU.out.size))
                      clear hX hOB gd hkl
                      go_wp2_with fail
                      go_at_call 86; refine C1.out.mono ?_; rintro e w8 ⟨rfl, b8⟩
                      have HU8 := Lib.hid (HU7.out _ b8)
                      have BW8 := Lib.hid (B2.out.trans (HU8.out.mono B2.out.size))
                      clear b8 x0 x1 x2 xk xo r1
                      cases OB with
                      | false =>
                        have HRf : Hid (R = false) := Lib.hid (HNO.out rfl)
                        go_wp2_with fail
                        go_ret
                        exact ⟨by rw [HRf.out]; rfl, BW8.out⟩
                      | true =>
                        have HN1 := Lib.hid (HNX.out rfl)
                        go_wp2_with fail
                        go_roundw
                        case rel => exact ⟨k + 1, by omega, by go_num, HN1, HU8⟩
                        case measure => simp [intOf]; omega
                    · have HPB : Hid (Bd.peopleB f s = true) := Lib.hid (by
                        have h9 := HG.out
                        rw [List.take_of_length_le (by rw [HM.out]; omega)] at h9
                        exact h9)
                      have HRB5 : Hid (R = ND) := Lib.hid (by rw [HRB4.out, HPB.out]; rfl)
                      have t0 : wr.cell? ⟨w.heap.size + 1, 0, none⟩ = some (.int .i64 s.tick) := cell_of_heap (CU.out _ HU.out) 0 rfl
                      have t1 : wr.cell? ⟨w.heap.size + 1, 1, none⟩ = some (.slice a1 L c1) := cell_of_heap (CU.out _ HU.out) 1 rfl
                      have t2 : wr.cell? ⟨w.heap.size + 1, 2, none⟩ = some (.slice a2 N c2) := cell_of_heap (CU.out _ HU.out) 2 rfl
                      have t3 : wr.cell? ⟨w.heap.size + 1, 3, none⟩ = some (.slice a3 M c3) := cell_of_heap (CU.out _ HU.out) 3 rfl
                      have t4 : wr.cell? ⟨w.heap.size + 1, 4, none⟩ = some dv := cell_of_heap (CU.out _ HU.out) 4 rfl
                      have t5 : wr.cell? ⟨w.heap.size + 1, 5, none⟩ = some ku := cell_of_heap (CU.out _ HU.out) 5 rfl
                      go_wp2_with fail
                      go_at_call 88; refine (HAL.out _ BW.out).mono ?_; rintro e w9 ⟨va, rfl, hva, b9⟩
                      have BW9 := Lib.hid (BW.out.trans (b9.mono BW.out.size))
                      have HV9 := Lib.hid (HCL.out va w9 (Sl.of_own hva (own_max hva)))
                      obtain ⟨vaa, vac, rfl, -⟩ := own_slice hva
                      clear b9 hva t0 t1 t2 t3 t4 t5
                      go_wp2_with fail
                      go_at_call 87; refine HV9.out.mono ?_; rintro e w10 ⟨⟨xx, rfl⟩, b10⟩
                      have BW10 := Lib.hid (BW9.out.trans (b10.mono BW9.out.size))
                      clear b10
                      go_wp2_with fail
                      go_ret
                      exact ⟨by rw [HRB5.out]; simp, BW10.out⟩
        · have HRf : Hid (R = false) := Lib.hid (by rw [HRB.out, decide_eq_false e3]; simp)
          have q3 : (M : Int) > 20 := by omega
          subst e1 e2
          go_wp2_with fail
          go_ret
          exact ⟨by rw [HRf.out]; rfl, B2.out⟩
      · have HRf : Hid (R = false) := Lib.hid (by rw [HRB.out, decide_eq_false e2]; simp)
        have q2 : ((N : Int) != (nr : Int)) = true := by simp; omega
        subst e1
        go_wp2_with fail
        go_ret
        exact ⟨by rw [HRf.out]; rfl, B2.out⟩
    · have HRf : Hid (R = false) := Lib.hid (by rw [HRB.out, decide_eq_false e1]; simp)
      have q1 : ((L : Int) != (ns : Int)) = true := by simp; omega
      go_wp2_with fail
      go_ret
      exact ⟨by rw [HRf.out]; rfl, B2.out⟩
end Go.Proofs.YtcdfmgobokjcnaaGreatDoor
