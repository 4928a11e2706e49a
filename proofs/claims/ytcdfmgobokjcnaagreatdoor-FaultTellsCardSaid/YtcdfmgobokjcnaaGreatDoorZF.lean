/- Parts BrC of this claim, laid one behind the other: walks and the plain laws behind them; each contract states its own conditions. -/
import Derived.Test.YtcdfmgobokjcnaaGreatDoorZD
import Derived.Test.YtcdfmgobokjcnaaGreatDoorZE
/- Walks of package body: on, rest. -/
namespace Go.Proofs.YtcdfmgobokjcnaaGreatDoor
set_option linter.unusedSimpArgs false
set_option linter.unusedVariables false
open Go.RowKit

set_option maxRecDepth 100000 in
set_option maxHeartbeats 4000000 in
theorem on_any (f : Fl.Floor) (kv ov : Value) (c : Int) (v : Value) (ks : List Int) (w : World) (h : FlV w kv ov f) (hv : Is w v ks) :
    Calls Tryz.prog 86 #[flV f kv ov, .int .i64 c, v] w fun e w' => e = .returned (.bool (onL f c ks)) ∧ Below w.heap.size w w' := by
  obtain ⟨ka, kc, rfl, hkm⟩ := h.kind.form
  obtain ⟨va, vc, rfl, hvm⟩ := hv.form
  have H := Lib.hid h
  have HCO := Lib.hid (fun x W (hW : Below w.heap.size w W) => containsI_any _ ks x W (hv.keep hW))
  obtain ⟨L, hL⟩ : ∃ L, f.kind.length = L := ⟨_, rfl⟩
  have HK : Hid (onL f c ks = (decide (0 ≤ c) && (decide (c < (L : Int)) && ks.contains (f.kind.getD c.toNat 0)))) := Lib.hid (by unfold onL; rw [hL])
  unfold flV
  rw [hL] at H hkm ⊢
  have HL := Lib.hid hL
  have B1 := Lib.hid ((Below.refl _ w).alloc (Nat.le_refl _) (.cells #[.int .i64 f.w, .int .i64 f.h, .int .i64 f.d, .slice ka L kc, ov] 24))
  clear h hv hL
  by_cases h0 : 0 ≤ c
  · by_cases h1 : c < (L : Int)
    · obtain ⟨n, rfl⟩ := Int.eq_ofNat_of_zero_le h0
      have hn : n < f.kind.length := by rw [HL.out]; omega
      obtain ⟨kb, ko, rfl, r0⟩ := H.out.kind.cell n hn
      have hkb := cell_block_lt r0
      dsimp only at hkb
      have HK2 : Hid (onL f (n : Int) ks = decide (f.kind[n] ∈ ks)) := Lib.hid (by rw [HK.out, decide_eq_true h0, decide_eq_true h1]; simp [List.getD, hn])
      obtain ⟨X, hX⟩ : ∃ X, f.kind[n] = X := ⟨_, rfl⟩
      rw [hX] at r0 HK2
      rw [← B1.out.cell (p := ⟨kb, ko + n, none⟩) hkb] at r0
      clear hX hn HK
      go_enter Tryz.func86, Tryz.ntmps86
      go_wp2_with fail
      go_at_call 38; refine (HCO.out _ _ B1.out).mono ?_; rintro e w2 ⟨rfl, rfl⟩
      go_wp2_with fail
      go_ret
      exact ⟨by rw [HK2.out]; rfl, B1.out⟩
    · have HK2 : Hid (onL f c ks = false) := Lib.hid (by rw [HK.out, decide_eq_false h1]; simp)
      go_enter Tryz.func86, Tryz.ntmps86
      go_wp2_with fail
      go_ret
      exact ⟨by rw [HK2.out]; rfl, B1.out⟩
  · have HK2 : Hid (onL f c ks = false) := Lib.hid (by rw [HK.out, decide_eq_false h0]; rfl)
    go_enter Tryz.func86, Tryz.ntmps86
    go_wp2_with fail
    go_ret
    exact ⟨by rw [HK2.out]; rfl, B1.out⟩
/-- What stands ahead of a place. -/
def prevO {α : Type} (l : List α) : Nat → Option α
  | 0 => none
  | k + 1 => l[k]?
def ltO (p : Option Int) (c : Int) : Bool := match p with
  | none => true
  | some q => decide (q < c)
theorem deadGo_ltO (n : Int) (l : List Int) (k : Nat) (h : k < l.length) : Bd.deadGo n (prevO l k) (l.drop k) = ((decide (0 ≤ l[k]) && (decide (l[k] < n) && ltO (prevO l k) l[k])) && Bd.deadGo n (prevO l (k + 1)) (l.drop (k + 1))) := by
  rw [Bd.deadGo_take n l _ k h]
  have e : prevO l (k + 1) = some l[k] := by simp [prevO, h]
  rw [e]; rfl
theorem stuckGo_ltO (f : Fl.Floor) (l : List (Int × Int)) (k : Nat) (h : k < l.length) : Bd.stuckGo f ((prevO l k).map (·.1)) (l.drop k) = ((Bd.onB f l[k].1 6 6 && (Bd.inB l[k].2 1 20000 && ltO ((prevO l k).map (·.1)) l[k].1)) && Bd.stuckGo f ((prevO l (k + 1)).map (·.1)) (l.drop (k + 1))) := by
  rw [Bd.stuckGo_take f l _ k h]
  have e : prevO l (k + 1) = some l[k] := by simp [prevO, h]
  rw [e]; rfl
set_option maxRecDepth 100000 in
set_option maxHeartbeats 16000000 in
theorem restB_any (f : Fl.Floor) (kv ov : Value) (s : Bd.State) (sv rv pv dv ku : Value) (w : World) (hf : FlV w kv ov f) (h : StV w sv rv pv dv ku s) :
    Calls Tryz.prog 84 #[flV f kv ov, stV s sv rv pv dv ku] w fun e w' => e = .returned (.bool (Bd.restB f s)) ∧ Below w.heap.size w w' := by
  obtain ⟨a1, c1, rfl, m1⟩ := hf.kind.form
  obtain ⟨a2, c2, rfl, m2⟩ := h.de.form
  obtain ⟨a3, c3, rfl, m3⟩ := two_form h.sk
  have HF := Lib.hid hf
  have HS := Lib.hid h
  have HON := Lib.hid (fun c v ks W (hW : Below w.heap.size w W) (hv : Is W v ks) => on_any f _ ov c v ks W (hf.keep hW) hv)
  obtain ⟨K, hK⟩ : ∃ n, f.kind.length = n := ⟨_, rfl⟩
  obtain ⟨N, hN⟩ : ∃ n, s.dead.length = n := ⟨_, rfl⟩
  obtain ⟨M, hM⟩ : ∃ n, s.stuck.length = n := ⟨_, rfl⟩
  have HK := Lib.hid hK
  have HN := Lib.hid hN
  have HM := Lib.hid hM
  obtain ⟨R1, hR1⟩ : ∃ R, Bd.deadGo (f.kind.length : Int) none s.dead = R := ⟨_, rfl⟩
  obtain ⟨R2, hR2⟩ : ∃ R, Bd.stuckGo f none s.stuck = R := ⟨_, rfl⟩
  have HR1 : Hid (Bd.deadGo (f.kind.length : Int) (prevO s.dead 0) (s.dead.drop 0) = R1) := Lib.hid hR1
  have HR2 : Hid (Bd.stuckGo f ((prevO s.stuck 0).map (·.1)) (s.stuck.drop 0) = R2) := Lib.hid hR2
  have HR : Bd.restB f s = (R1 && R2) := by unfold Bd.restB; rw [hR1, hR2]
  rw [HR]
  unfold flV at HON ⊢
  unfold stV
  rw [hK] at m1 HON HR1 ⊢
  rw [hN] at m2 ⊢
  rw [hM] at m3 ⊢
  obtain ⟨w2, hw2⟩ : ∃ W, W = (w.alloc (.cells #[.int .i64 f.w, .int .i64 f.h, .int .i64 f.d, .slice a1 K c1, ov] 24)).alloc (.cells #[.int .i64 s.tick, sv, rv, pv, .slice a2 N c2, .slice a3 M c3] 34) := ⟨_, rfl⟩
  have HA := al2 w (.cells #[.int .i64 f.w, .int .i64 f.h, .int .i64 f.d, .slice a1 K c1, ov] 24) (.cells #[.int .i64 s.tick, sv, rv, pv, .slice a2 N c2, .slice a3 M c3] 34)
  rw [← hw2] at HA
  have IS := Lib.hid HA.1
  have IT := Lib.hid HA.2.1
  have B2 := Lib.hid HA.2.2.1
  have HW2 := Lib.hid hw2
  have p3 : w2.cell? ⟨w.heap.size, 3, none⟩ = some (.slice a1 K c1) := cell_of_heap IS.out 3 rfl
  have t4 : w2.cell? ⟨w.heap.size + 1, 4, none⟩ = some (.slice a2 N c2) := cell_of_heap IT.out 4 rfl
  have t5 : w2.cell? ⟨w.heap.size + 1, 5, none⟩ = some (.slice a3 M c3) := cell_of_heap IT.out 5 rfl
  clear hf h hK hN hM hR1 hR2 HR hw2 HA
  go_enter Tryz.func84, Tryz.ntmps84
  go_upto_region 1 with fail
  rw [← HW2.out]
  go_wp2_with fail
  go_loop [12] (fun iv => ∃ k : Nat, k ≤ N ∧ iv = .int .i64 k ∧ Hid (Bd.deadGo (K : Int) (prevO s.dead k) (s.dead.drop k) = R1)) (fun iv => N - (intOf iv).toNat)
  case atStart => exact ⟨0, by omega, rfl, HR1⟩
  case round =>
    clear HR1
    obtain ⟨k, hk, rfl, HG⟩ := hrel
    by_cases hkn : k < N
    · have hkl : k < s.dead.length := by rw [HN.out]; exact hkn
      obtain ⟨db, doff, e, hc⟩ := (HS.out.de.keep B2.out).cell k hkl
      subst e
      have hg := HG.out
      rw [deadGo_ltO (K : Int) s.dead k hkl] at hg
      have HPV : Hid (∀ j, (hj : j + 1 = k) → w2.cell? ⟨db, doff + j, none⟩ = some (.int .i64 (s.dead[j]'(by omega)))) := Lib.hid (fun j hj => by
        obtain ⟨b2, off2, e2, hc2⟩ := (HS.out.de.keep B2.out).cell j (by omega)
        injection e2 with e2; injection e2 with e2 e3; subst e2 e3
        exact hc2)
      have HPO : Hid (∀ j, (hj : j + 1 = k) → prevO s.dead k = some (s.dead[j]'(by omega))) := Lib.hid (fun j hj => by subst hj; simp only [prevO]; rw [List.getElem?_eq_getElem])
      have k0 : (0 : Int) ≤ (k : Int) := by omega
      have k1 : (k : Int) < (N : Int) := by omega
      obtain ⟨C, hC⟩ : ∃ C, s.dead[k] = C := ⟨_, rfl⟩
      rw [hC] at hc hg
      have HG2 := Lib.hid hg
      clear hg hC
      by_cases e0 : 0 ≤ C
      · by_cases e1 : C < (K : Int)
        · rcases Nat.eq_zero_or_pos k with hk0 | hk0
          · have HNX : Hid (Bd.deadGo (K : Int) (prevO s.dead (k + 1)) (s.dead.drop (k + 1)) = R1) := Lib.hid (by
              rw [← HG2.out, decide_eq_true e0, decide_eq_true e1]; subst hk0; rfl)
            have z0 : ¬ (k : Int) > 0 := by omega
            clear hk0
            go_wp2_with fail
            go_round
            case rel => exact ⟨k + 1, by omega, by go_num, HNX⟩
            case measure => simp [intOf]; omega
          · obtain ⟨j, hj⟩ : ∃ j, j + 1 = k := ⟨k - 1, by omega⟩
            have hp := HPV.out j hj
            have ho := HPO.out j hj
            have j1 : IntKind.i64.wrap ((k : Int) - 1) = (j : Int) := by rw [show (k : Int) - 1 = (j : Int) by omega]; exact IntWalk.i64_in _ (by omega)
            have j2 : (0 : Int) ≤ (j : Int) := by omega
            have j3 : (j : Int) < (N : Int) := by omega
            have j4 : (k : Int) > 0 := by omega
            have hjl : j < s.dead.length := by omega
            obtain ⟨D, hD⟩ : ∃ D, s.dead[j]'hjl = D := ⟨_, rfl⟩
            rw [hD] at hp ho
            have HO := Lib.hid ho
            clear hD hj hk0 ho
            by_cases hlt : D ≥ C
            · have HRf : Hid (R1 = false) := Lib.hid (by rw [← HG2.out, HO.out]; unfold ltO; dsimp only; rw [decide_eq_false (show ¬ D < C by omega)]; simp)
              go_wp2_with fail
              go_ret
              exact ⟨by rw [HRf.out]; rfl, B2.out⟩
            · have HNX : Hid (Bd.deadGo (K : Int) (prevO s.dead (k + 1)) (s.dead.drop (k + 1)) = R1) := Lib.hid (by
                rw [← HG2.out, HO.out, decide_eq_true e0, decide_eq_true e1]; unfold ltO; dsimp only; rw [decide_eq_true (show D < C by omega)]; rfl)
              go_wp2_with fail
              go_round
              case rel => exact ⟨k + 1, by omega, by go_num, HNX⟩
              case measure => simp [intOf]; omega
        · have HRf : Hid (R1 = false) := Lib.hid (by rw [← HG2.out, decide_eq_false e1]; simp)
          go_wp2_with fail
          go_ret
          exact ⟨by rw [HRf.out]; rfl, B2.out⟩
      · have HRf : Hid (R1 = false) := Lib.hid (by rw [← HG2.out, decide_eq_false e0]; simp)
        go_wp2_with fail
        go_ret
        exact ⟨by rw [HRf.out]; rfl, B2.out⟩
    · have HRt : Hid (true = R1) := Lib.hid (by have := HG.out; rwa [List.drop_eq_nil_of_le (by rw [HN.out]; omega)] at this)
      go_wp2_with fail
      cases R1 with
      | false => exact absurd HRt.out (by simp)
      | true =>
        have BU0 : Hid (Below w2.heap.size w2 w2) := Lib.hid (Below.refl _ _)
        go_loopw [44] (fun iv wr => ∃ k : Nat, k ≤ M ∧ iv = .int .i64 k ∧ Hid (Bd.stuckGo f ((prevO s.stuck k).map (·.1)) (s.stuck.drop k) = R2) ∧ Hid (Below w2.heap.size w2 wr)) (fun iv _ => M - (intOf iv).toNat)
        case atStart => exact ⟨0, by omega, rfl, HR2, BU0⟩
        case round =>
          clear HR2 BU0 p3 t4 t5 HG hk hkn HRt
          obtain ⟨k, hk, rfl, HG, HU⟩ := hrel
          by_cases hkn : k < M
          · have hkl : k < s.stuck.length := by rw [HM.out]; exact hkn
            have BW : Hid (Below w.heap.size w wr) := Lib.hid (B2.out.trans (HU.out.mono B2.out.size))
            obtain ⟨db2, do2, rfl, hdb, x0, x1⟩ := two_cell (f := spanC) (fun _ => rfl) (Rw.keep HS.out.sk BW.out) k hkl
            have hg := HG.out
            rw [stuckGo_ltO f s.stuck k hkl] at hg
            have HPV : Hid (∀ j, (hj : j + 1 = k) → wr.cell? ⟨db2, do2 + j * 2, none⟩ = some (.int .i64 (s.stuck[j]'(by omega)).1)) := Lib.hid (fun j hj => by
              obtain ⟨b2, off2, e2, -, hc2, -⟩ := two_cell (f := spanC) (fun _ => rfl) (Rw.keep HS.out.sk BW.out) j (by omega)
              injection e2 with e2; injection e2 with e2 e3; subst e2 e3
              exact hc2)
            have HPO : Hid (∀ j, (hj : j + 1 = k) → (prevO s.stuck k).map (·.1) = some (s.stuck[j]'(by omega)).1) := Lib.hid (fun j hj => by subst hj; simp only [prevO]; rw [List.getElem?_eq_getElem]; rfl)
            have k0 : (0 : Int) ≤ (k : Int) := by omega
            have k1 : (k : Int) < (M : Int) := by omega
            obtain ⟨X, hX⟩ : ∃ C, s.stuck[k].1 = C := ⟨_, rfl⟩
            obtain ⟨Y, hY⟩ : ∃ C, s.stuck[k].2 = C := ⟨_, rfl⟩
            rw [hX] at x0 hg
            rw [hY] at x1 hg
            obtain ⟨wa, hwa⟩ : ∃ W, W = wr.alloc (.cells #[.int .i64 X, .int .i64 Y] 164) := ⟨_, rfl⟩
            have ga := al1 wr (.cells #[.int .i64 X, .int .i64 Y] 164)
            rw [← hwa] at ga
            have BUA : Hid (Below w2.heap.size w2 wa) := Lib.hid (HU.out.trans (ga.2.1.mono HU.out.size))
            have BWA : Hid (Below w.heap.size w wa) := Lib.hid (B2.out.trans (BUA.out.mono B2.out.size))
            have y0 : wa.cell? ⟨wr.heap.size, 0, none⟩ = some (.int .i64 X) := cell_of_heap ga.1 0 rfl
            have y1 : wa.cell? ⟨wr.heap.size, 1, none⟩ = some (.int .i64 Y) := cell_of_heap ga.1 1 rfl
            have p0 : wa.cell? ⟨w.heap.size, 0, none⟩ = some (.int .i64 f.w) := cell_of_heap (keep_heap IS.out BUA.out) 0 rfl
            have p1 : wa.cell? ⟨w.heap.size, 1, none⟩ = some (.int .i64 f.h) := cell_of_heap (keep_heap IS.out BUA.out) 1 rfl
            have p2 : wa.cell? ⟨w.heap.size, 2, none⟩ = some (.int .i64 f.d) := cell_of_heap (keep_heap IS.out BUA.out) 2 rfl
            have p3 : wa.cell? ⟨w.heap.size, 3, none⟩ = some (.slice a1 K c1) := cell_of_heap (keep_heap IS.out BUA.out) 3 rfl
            have p4 : wa.cell? ⟨w.heap.size, 4, none⟩ = some ov := cell_of_heap (keep_heap IS.out BUA.out) 4 rfl
            have t5 : wa.cell? ⟨w.heap.size + 1, 5, none⟩ = some (.slice (some ⟨db2, do2, none⟩) M c3) := cell_of_heap (keep_heap IT.out BUA.out) 5 rfl
            have lw : w.heap.size < wa.heap.size := heap_lt (keep_heap IS.out BUA.out)
            have ls : w.heap.size + 1 < wa.heap.size := heap_lt (keep_heap IT.out BUA.out)
            have lx : wr.heap.size < wa.heap.size := heap_lt ga.1
            have ld : db2 < wa.heap.size := by have := ga.2.1.size; omega
            have HPA : Hid (∀ j, (hj : j + 1 = k) → wa.cell? ⟨db2, do2 + j * 2, none⟩ = some (.int .i64 (s.stuck[j]'(by omega)).1)) := Lib.hid (fun j hj => (ga.2.1.cell (p := ⟨db2, do2 + j * 2, none⟩) hdb).trans (HPV.out j hj))
            have gd := al1 wa (.cells #[.int .i64 6] 3)
            have BX : Below wa.heap.size wa wa.drew := below_drewN _ _ 1
            have BX1 : Below wa.heap.size wa (wa.alloc (.cells #[.int .i64 6] 3)).drew := gd.2.1.trans (below_drewN _ _ 1)
            have C1 := Lib.hid (HON.out X (.slice (some ⟨wa.heap.size, 0, none⟩) 1 1) [6] (wa.alloc (.cells #[.int .i64 6] 3)).drew (BWA.out.trans (BX1.mono BWA.out.size)) (is_new1 gd.1))
            have C2 := Lib.hid (fun W => bwithin_any Y 1 20000 W)
            rw [onL_one] at C1
            obtain ⟨OB, hOB⟩ : ∃ b, Bd.onB f X 6 6 = b := ⟨_, rfl⟩
            obtain ⟨IB, hIB⟩ : ∃ b, Bd.inB Y 1 20000 = b := ⟨_, rfl⟩
            rw [hOB] at C1 hg
            rw [hIB] at C2 hg
            have HG2 := Lib.hid hg
            have HWA := Lib.hid hwa
            clear hg hX hY ga gd hwa hOB hIB HG HPV
            go_upto_region 10 with fail
            rw [← HWA.out]
            clear x0 x1
            go_cut [76] (fun v wx => ∃ T : Bool, v = .bool (!T) ∧ Hid ((T && Bd.stuckGo f ((prevO s.stuck (k + 1)).map (·.1)) (s.stuck.drop (k + 1))) = R2) ∧ Hid (Below wa.heap.size wa wx))
            case first =>
              cases OB with
              | false =>
                have HT : Hid ((false && Bd.stuckGo f ((prevO s.stuck (k + 1)).map (·.1)) (s.stuck.drop (k + 1))) = R2) := Lib.hid (by rw [← HG2.out]; rfl)
                refine wp_region_held_drew (S := fun W' => W'.cell? ⟨w.heap.size, 0, none⟩ = some (.int .i64 f.w) ∧ W'.cell? ⟨w.heap.size, 1, none⟩ = some (.int .i64 f.h) ∧ W'.cell? ⟨w.heap.size, 2, none⟩ = some (.int .i64 f.d) ∧ W'.cell? ⟨w.heap.size, 3, none⟩ = some (.slice a1 K c1) ∧ W'.cell? ⟨w.heap.size, 4, none⟩ = some (ov) ∧ W'.cell? ⟨wr.heap.size, 0, none⟩ = some (.int .i64 X) ∧ W'.cell? ⟨wr.heap.size, 1, none⟩ = some (.int .i64 Y)) (by kernel_rfl) ⟨p0, p1, p2, p3, p4, y0, y1⟩ (fun hHeld => ?_)
                refine wpAnyH_take (i := 1) (oi := _) (v := ?_) rfl (by kernel_rfl) (by kernel_rfl) (by kernel_rfl) (fun _ _ _ h => h) (Or.inl ⟨by rfl, ?_⟩) (by assumption) ?_
                rotate_left
                · intro w hSw; obtain ⟨k0, k1, k2, k3, k4, k5, k6⟩ := hSw; go_simp; all_goals (with_reducible rfl)
                try simp only [Act.put, List.getElem_toArray, List.getElem_cons_zero, List.getElem_cons_succ, List.setIfInBounds_toArray, List.set_cons_zero, List.set_cons_succ]
                refine wpAnyH_take (i := 0) (oi := _) (v := ?_) rfl (by kernel_rfl) (by kernel_rfl) (by kernel_rfl) (fun _ _ _ h => h) (Or.inl ⟨by rfl, ?_⟩) (by assumption) ?_
                rotate_left
                · intro w hSw; obtain ⟨k0, k1, k2, k3, k4, k5, k6⟩ := hSw; go_simp; all_goals (with_reducible rfl)
                try simp only [Act.put, List.getElem_toArray, List.getElem_cons_zero, List.getElem_cons_succ, List.setIfInBounds_toArray, List.set_cons_zero, List.set_cons_succ]
                refine wpAnyH_take (i := 2) (oi := _) (v := ?_) rfl (by kernel_rfl) (by kernel_rfl) (by kernel_rfl) (fun _ _ _ h => h) (Or.inl ⟨by rfl, ?_⟩) (by assumption) ?_
                rotate_left
                · intro w hSw; obtain ⟨k0, k1, k2, k3, k4, k5, k6⟩ := hSw; go_simp; all_goals (with_reducible rfl)
                try simp only [Act.put, List.getElem_toArray, List.getElem_cons_zero, List.getElem_cons_succ, List.setIfInBounds_toArray, List.set_cons_zero, List.set_cons_succ]
                refine wpAnyH_ready (rs := [3]) (by kernel_rfl) (by simp) ?_
                refine AllReadyH.cons (o := _) rfl (fun K hK => ?_) AllReadyH.nil
                go_simp
                refine hK.out _ _ ?_ (fun hHeld => ?_)
                · exact ⟨(BX1.cell (p := ⟨w.heap.size, 0, none⟩) lw).trans p0, (BX1.cell (p := ⟨w.heap.size, 1, none⟩) lw).trans p1, (BX1.cell (p := ⟨w.heap.size, 2, none⟩) lw).trans p2, (BX1.cell (p := ⟨w.heap.size, 3, none⟩) lw).trans p3, (BX1.cell (p := ⟨w.heap.size, 4, none⟩) lw).trans p4, (BX1.cell (p := ⟨wr.heap.size, 0, none⟩) lx).trans y0, (BX1.cell (p := ⟨wr.heap.size, 1, none⟩) lx).trans y1⟩
                clear hK K
                try simp only [Act.put, List.getElem_toArray, List.getElem_cons_zero, List.getElem_cons_succ, List.setIfInBounds_toArray, List.set_cons_zero, List.set_cons_succ]
                refine wpAnyH_ready (rs := [4]) (by kernel_rfl) (by simp) ?_
                refine AllReadyH.cons (o := _) rfl (fun K hK => ?_) AllReadyH.nil
                go_simp
                go_at_call 86; with_reducible refine C1.out.mono ?_; rintro e w5 ⟨rfl, b5⟩
                have BX : Below wa.heap.size wa w5 := BX1.trans (b5.mono BX1.size)
                clear b5
                go_wp2_with fail
                refine hK.out _ _ ?_ (fun hHeld => ?_)
                · exact ⟨(BX.cell (p := ⟨w.heap.size, 0, none⟩) lw).trans p0, (BX.cell (p := ⟨w.heap.size, 1, none⟩) lw).trans p1, (BX.cell (p := ⟨w.heap.size, 2, none⟩) lw).trans p2, (BX.cell (p := ⟨w.heap.size, 3, none⟩) lw).trans p3, (BX.cell (p := ⟨w.heap.size, 4, none⟩) lw).trans p4, (BX.cell (p := ⟨wr.heap.size, 0, none⟩) lx).trans y0, (BX.cell (p := ⟨wr.heap.size, 1, none⟩) lx).trans y1⟩
                clear hK K
                try simp only [Act.put, List.getElem_toArray, List.getElem_cons_zero, List.getElem_cons_succ, List.setIfInBounds_toArray, List.set_cons_zero, List.set_cons_succ]
                refine wpAnyH_take (i := 5) (oi := _) (v := ?_) rfl (by kernel_rfl) (by kernel_rfl) (by kernel_rfl) (fun _ _ _ h => h) (Or.inl ⟨by rfl, ?_⟩) (by assumption) ?_
                rotate_left
                · intro w hSw; obtain ⟨k0, k1, k2, k3, k4, k5, k6⟩ := hSw; go_simp; all_goals (with_reducible rfl)
                try simp only [Act.put, List.getElem_toArray, List.getElem_cons_zero, List.getElem_cons_succ, List.setIfInBounds_toArray, List.set_cons_zero, List.set_cons_succ]
                refine wpAnyH_take (i := 6) (oi := _) (v := ?_) rfl (by kernel_rfl) (by kernel_rfl) (by kernel_rfl) (fun _ _ _ h => h) (Or.inl ⟨by rfl, ?_⟩) (by assumption) ?_
                rotate_left
                · intro w hSw; obtain ⟨k0, k1, k2, k3, k4, k5, k6⟩ := hSw; go_simp; all_goals (with_reducible rfl)
                try simp only [Act.put, List.getElem_toArray, List.getElem_cons_zero, List.getElem_cons_succ, List.setIfInBounds_toArray, List.set_cons_zero, List.set_cons_succ]
                refine wpAnyH_take (i := 7) (oi := _) (v := undef) rfl (by kernel_rfl) (by kernel_rfl) (by kernel_rfl) (fun _ _ _ h => h) (Or.inr ⟨by rfl, rfl⟩) (by assumption) ?_
                try simp only [Act.put, List.getElem_toArray, List.getElem_cons_zero, List.getElem_cons_succ, List.setIfInBounds_toArray, List.set_cons_zero, List.set_cons_succ]
                refine wpAnyH_take (i := 8) (oi := _) (v := undef) rfl (by kernel_rfl) (by kernel_rfl) (by kernel_rfl) (fun _ _ _ h => h) (Or.inr ⟨by rfl, rfl⟩) (by assumption) ?_
                try simp only [Act.put, List.getElem_toArray, List.getElem_cons_zero, List.getElem_cons_succ, List.setIfInBounds_toArray, List.set_cons_zero, List.set_cons_succ]
                refine wpAnyH_take (i := 9) (oi := _) (v := undef) rfl (by kernel_rfl) (by kernel_rfl) (by kernel_rfl) (fun _ _ _ h => h) (Or.inr ⟨by rfl, rfl⟩) (by assumption) ?_
                try simp only [Act.put, List.getElem_toArray, List.getElem_cons_zero, List.getElem_cons_succ, List.setIfInBounds_toArray, List.set_cons_zero, List.set_cons_succ]
                refine wpAnyH_take (i := 10) (oi := _) (v := undef) rfl (by kernel_rfl) (by kernel_rfl) (by kernel_rfl) (fun _ _ _ h => h) (Or.inr ⟨by rfl, rfl⟩) (by assumption) ?_
                try simp only [Act.put, List.getElem_toArray, List.getElem_cons_zero, List.getElem_cons_succ, List.setIfInBounds_toArray, List.set_cons_zero, List.set_cons_succ]
                refine wpAnyH_take (i := 11) (oi := _) (v := ?_) rfl (by kernel_rfl) (by kernel_rfl) (by kernel_rfl) (fun _ _ _ h => h) (Or.inl ⟨by rfl, ?_⟩) (by assumption) ?_
                rotate_left
                · intro w hSw; obtain ⟨k0, k1, k2, k3, k4, k5, k6⟩ := hSw; go_simp; all_goals (with_reducible rfl)
                try simp only [Act.put, List.getElem_toArray, List.getElem_cons_zero, List.getElem_cons_succ, List.setIfInBounds_toArray, List.set_cons_zero, List.set_cons_succ]
                refine wpAnyH_take (i := 12) (oi := _) (v := ?_) rfl (by kernel_rfl) (by kernel_rfl) (by kernel_rfl) (fun _ _ _ h => h) (Or.inl ⟨by rfl, ?_⟩) (by assumption) ?_
                rotate_left
                · intro w hSw; obtain ⟨k0, k1, k2, k3, k4, k5, k6⟩ := hSw; go_simp; all_goals (with_reducible rfl)
                try simp only [Act.put, List.getElem_toArray, List.getElem_cons_zero, List.getElem_cons_succ, List.setIfInBounds_toArray, List.set_cons_zero, List.set_cons_succ]
                refine wpAnyH_take (i := 13) (oi := _) (v := undef) rfl (by kernel_rfl) (by kernel_rfl) (by kernel_rfl) (fun _ _ _ h => h) (Or.inr ⟨by rfl, rfl⟩) (by assumption) ?_
                try simp only [Act.put, List.getElem_toArray, List.getElem_cons_zero, List.getElem_cons_succ, List.setIfInBounds_toArray, List.set_cons_zero, List.set_cons_succ]
                refine wpAnyH_take (i := 14) (oi := _) (v := undef) rfl (by kernel_rfl) (by kernel_rfl) (by kernel_rfl) (fun _ _ _ h => h) (Or.inr ⟨by rfl, rfl⟩) (by assumption) ?_
                try simp only [Act.put, List.getElem_toArray, List.getElem_cons_zero, List.getElem_cons_succ, List.setIfInBounds_toArray, List.set_cons_zero, List.set_cons_succ]
                refine wpAnyH_take (i := 15) (oi := _) (v := undef) rfl (by kernel_rfl) (by kernel_rfl) (by kernel_rfl) (fun _ _ _ h => h) (Or.inr ⟨by rfl, rfl⟩) (by assumption) ?_
                try simp only [Act.put, List.getElem_toArray, List.getElem_cons_zero, List.getElem_cons_succ, List.setIfInBounds_toArray, List.set_cons_zero, List.set_cons_succ]
                refine wpAnyH_take (i := 16) (oi := _) (v := undef) rfl (by kernel_rfl) (by kernel_rfl) (by kernel_rfl) (fun _ _ _ h => h) (Or.inr ⟨by rfl, rfl⟩) (by assumption) ?_
                try simp only [Act.put, List.getElem_toArray, List.getElem_cons_zero, List.getElem_cons_succ, List.setIfInBounds_toArray, List.set_cons_zero, List.set_cons_succ]
                refine wpAnyH_take (i := 17) (oi := _) (v := undef) rfl (by kernel_rfl) (by kernel_rfl) (by kernel_rfl) (fun _ _ _ h => h) (Or.inr ⟨by rfl, rfl⟩) (by assumption) ?_
                try simp only [Act.put, List.getElem_toArray, List.getElem_cons_zero, List.getElem_cons_succ, List.setIfInBounds_toArray, List.set_cons_zero, List.set_cons_succ]
                refine wpAnyH_take (i := 18) (oi := _) (v := undef) rfl (by kernel_rfl) (by kernel_rfl) (by kernel_rfl) (fun _ _ _ h => h) (Or.inr ⟨by rfl, rfl⟩) (by assumption) ?_
                try simp only [Act.put, List.getElem_toArray, List.getElem_cons_zero, List.getElem_cons_succ, List.setIfInBounds_toArray, List.set_cons_zero, List.set_cons_succ]
                refine wpAnyH_take (i := 19) (oi := _) (v := undef) rfl (by kernel_rfl) (by kernel_rfl) (by kernel_rfl) (fun _ _ _ h => h) (Or.inr ⟨by rfl, rfl⟩) (by assumption) ?_
                try simp only [Act.put, List.getElem_toArray, List.getElem_cons_zero, List.getElem_cons_succ, List.setIfInBounds_toArray, List.set_cons_zero, List.set_cons_succ]
                refine wpAnyH_take (i := 20) (oi := _) (v := undef) rfl (by kernel_rfl) (by kernel_rfl) (by kernel_rfl) (fun _ _ _ h => h) (Or.inr ⟨by rfl, rfl⟩) (by assumption) ?_
                try simp only [Act.put, List.getElem_toArray, List.getElem_cons_zero, List.getElem_cons_succ, List.setIfInBounds_toArray, List.set_cons_zero, List.set_cons_succ]
                refine wpAnyH_take (i := 21) (oi := _) (v := undef) rfl (by kernel_rfl) (by kernel_rfl) (by kernel_rfl) (fun _ _ _ h => h) (Or.inr ⟨by rfl, rfl⟩) (by assumption) ?_
                try simp only [Act.put, List.getElem_toArray, List.getElem_cons_zero, List.getElem_cons_succ, List.setIfInBounds_toArray, List.set_cons_zero, List.set_cons_succ]
                refine wpAnyH_take (i := 22) (oi := _) (v := undef) rfl (by kernel_rfl) (by kernel_rfl) (by kernel_rfl) (fun _ _ _ h => h) (Or.inr ⟨by rfl, rfl⟩) (by assumption) ?_
                try simp only [Act.put, List.getElem_toArray, List.getElem_cons_zero, List.getElem_cons_succ, List.setIfInBounds_toArray, List.set_cons_zero, List.set_cons_succ]
                refine wpAnyH_take (i := 23) (oi := _) (v := undef) rfl (by kernel_rfl) (by kernel_rfl) (by kernel_rfl) (fun _ _ _ h => h) (Or.inr ⟨by rfl, rfl⟩) (by assumption) ?_
                try simp only [Act.put, List.getElem_toArray, List.getElem_cons_zero, List.getElem_cons_succ, List.setIfInBounds_toArray, List.set_cons_zero, List.set_cons_succ]
                refine wpAnyH_take (i := 24) (oi := _) (v := undef) rfl (by kernel_rfl) (by kernel_rfl) (by kernel_rfl) (fun _ _ _ h => h) (Or.inr ⟨by rfl, rfl⟩) (by assumption) ?_
                try simp only [Act.put, List.getElem_toArray, List.getElem_cons_zero, List.getElem_cons_succ, List.setIfInBounds_toArray, List.set_cons_zero, List.set_cons_succ]
                refine wpAnyH_take (i := 25) (oi := _) (v := undef) rfl (by kernel_rfl) (by kernel_rfl) (by kernel_rfl) (fun _ _ _ h => h) (Or.inr ⟨by rfl, rfl⟩) (by assumption) ?_
                try simp only [Act.put, List.getElem_toArray, List.getElem_cons_zero, List.getElem_cons_succ, List.setIfInBounds_toArray, List.set_cons_zero, List.set_cons_succ]
                refine wpAnyH_take (i := 26) (oi := _) (v := undef) rfl (by kernel_rfl) (by kernel_rfl) (by kernel_rfl) (fun _ _ _ h => h) (Or.inr ⟨by rfl, rfl⟩) (by assumption) ?_
                try simp only [Act.put, List.getElem_toArray, List.getElem_cons_zero, List.getElem_cons_succ, List.setIfInBounds_toArray, List.set_cons_zero, List.set_cons_succ]
                refine wpAnyH_take (i := 27) (oi := _) (v := ?_) rfl (by kernel_rfl) (by kernel_rfl) (by kernel_rfl) (fun _ _ _ h => h) (Or.inl ⟨by rfl, ?_⟩) (by assumption) ?_
                rotate_left
                · intro w hSw; obtain ⟨k0, k1, k2, k3, k4, k5, k6⟩ := hSw; go_simp; all_goals (with_reducible rfl)
                try simp only [Act.put, List.getElem_toArray, List.getElem_cons_zero, List.getElem_cons_succ, List.setIfInBounds_toArray, List.set_cons_zero, List.set_cons_succ]
                refine wpAnyH_done (by kernel_rfl) ?_ _
                all_goals go_wp2_with fail
                all_goals
                  go_meet
                  exact ⟨false, rfl, HT, Lib.hid BX⟩
              | true =>
                cases IB with
                | false =>
                  have HT : Hid ((false && Bd.stuckGo f ((prevO s.stuck (k + 1)).map (·.1)) (s.stuck.drop (k + 1))) = R2) := Lib.hid (by rw [← HG2.out]; rfl)
                  refine wp_region_held_drew (S := fun W' => W'.cell? ⟨w.heap.size, 0, none⟩ = some (.int .i64 f.w) ∧ W'.cell? ⟨w.heap.size, 1, none⟩ = some (.int .i64 f.h) ∧ W'.cell? ⟨w.heap.size, 2, none⟩ = some (.int .i64 f.d) ∧ W'.cell? ⟨w.heap.size, 3, none⟩ = some (.slice a1 K c1) ∧ W'.cell? ⟨w.heap.size, 4, none⟩ = some (ov) ∧ W'.cell? ⟨wr.heap.size, 0, none⟩ = some (.int .i64 X) ∧ W'.cell? ⟨wr.heap.size, 1, none⟩ = some (.int .i64 Y)) (by kernel_rfl) ⟨p0, p1, p2, p3, p4, y0, y1⟩ (fun hHeld => ?_)
                  refine wpAnyH_take (i := 1) (oi := _) (v := ?_) rfl (by kernel_rfl) (by kernel_rfl) (by kernel_rfl) (fun _ _ _ h => h) (Or.inl ⟨by rfl, ?_⟩) (by assumption) ?_
                  rotate_left
                  · intro w hSw; obtain ⟨k0, k1, k2, k3, k4, k5, k6⟩ := hSw; go_simp; all_goals (with_reducible rfl)
                  try simp only [Act.put, List.getElem_toArray, List.getElem_cons_zero, List.getElem_cons_succ, List.setIfInBounds_toArray, List.set_cons_zero, List.set_cons_succ]
                  refine wpAnyH_take (i := 0) (oi := _) (v := ?_) rfl (by kernel_rfl) (by kernel_rfl) (by kernel_rfl) (fun _ _ _ h => h) (Or.inl ⟨by rfl, ?_⟩) (by assumption) ?_
                  rotate_left
                  · intro w hSw; obtain ⟨k0, k1, k2, k3, k4, k5, k6⟩ := hSw; go_simp; all_goals (with_reducible rfl)
                  try simp only [Act.put, List.getElem_toArray, List.getElem_cons_zero, List.getElem_cons_succ, List.setIfInBounds_toArray, List.set_cons_zero, List.set_cons_succ]
                  refine wpAnyH_take (i := 2) (oi := _) (v := ?_) rfl (by kernel_rfl) (by kernel_rfl) (by kernel_rfl) (fun _ _ _ h => h) (Or.inl ⟨by rfl, ?_⟩) (by assumption) ?_
                  rotate_left
                  · intro w hSw; obtain ⟨k0, k1, k2, k3, k4, k5, k6⟩ := hSw; go_simp; all_goals (with_reducible rfl)
                  try simp only [Act.put, List.getElem_toArray, List.getElem_cons_zero, List.getElem_cons_succ, List.setIfInBounds_toArray, List.set_cons_zero, List.set_cons_succ]
                  refine wpAnyH_ready (rs := [3]) (by kernel_rfl) (by simp) ?_
                  refine AllReadyH.cons (o := _) rfl (fun K hK => ?_) AllReadyH.nil
                  go_simp
                  refine hK.out _ _ ?_ (fun hHeld => ?_)
                  · exact ⟨(BX1.cell (p := ⟨w.heap.size, 0, none⟩) lw).trans p0, (BX1.cell (p := ⟨w.heap.size, 1, none⟩) lw).trans p1, (BX1.cell (p := ⟨w.heap.size, 2, none⟩) lw).trans p2, (BX1.cell (p := ⟨w.heap.size, 3, none⟩) lw).trans p3, (BX1.cell (p := ⟨w.heap.size, 4, none⟩) lw).trans p4, (BX1.cell (p := ⟨wr.heap.size, 0, none⟩) lx).trans y0, (BX1.cell (p := ⟨wr.heap.size, 1, none⟩) lx).trans y1⟩
                  clear hK K
                  try simp only [Act.put, List.getElem_toArray, List.getElem_cons_zero, List.getElem_cons_succ, List.setIfInBounds_toArray, List.set_cons_zero, List.set_cons_succ]
                  refine wpAnyH_ready (rs := [4]) (by kernel_rfl) (by simp) ?_
                  refine AllReadyH.cons (o := _) rfl (fun K hK => ?_) AllReadyH.nil
                  go_simp
                  go_at_call 86; with_reducible refine C1.out.mono ?_; rintro e w5 ⟨rfl, b5⟩
                  have BX : Below wa.heap.size wa w5 := BX1.trans (b5.mono BX1.size)
                  clear b5
                  go_wp2_with fail
                  refine hK.out _ _ ?_ (fun hHeld => ?_)
                  · exact ⟨(BX.cell (p := ⟨w.heap.size, 0, none⟩) lw).trans p0, (BX.cell (p := ⟨w.heap.size, 1, none⟩) lw).trans p1, (BX.cell (p := ⟨w.heap.size, 2, none⟩) lw).trans p2, (BX.cell (p := ⟨w.heap.size, 3, none⟩) lw).trans p3, (BX.cell (p := ⟨w.heap.size, 4, none⟩) lw).trans p4, (BX.cell (p := ⟨wr.heap.size, 0, none⟩) lx).trans y0, (BX.cell (p := ⟨wr.heap.size, 1, none⟩) lx).trans y1⟩
                  clear hK K
                  try simp only [Act.put, List.getElem_toArray, List.getElem_cons_zero, List.getElem_cons_succ, List.setIfInBounds_toArray, List.set_cons_zero, List.set_cons_succ]
                  refine wpAnyH_take (i := 5) (oi := _) (v := ?_) rfl (by kernel_rfl) (by kernel_rfl) (by kernel_rfl) (fun _ _ _ h => h) (Or.inl ⟨by rfl, ?_⟩) (by assumption) ?_
                  rotate_left
                  · intro w hSw; obtain ⟨k0, k1, k2, k3, k4, k5, k6⟩ := hSw; go_simp; all_goals (with_reducible rfl)
                  try simp only [Act.put, List.getElem_toArray, List.getElem_cons_zero, List.getElem_cons_succ, List.setIfInBounds_toArray, List.set_cons_zero, List.set_cons_succ]
                  refine wpAnyH_take (i := 6) (oi := _) (v := ?_) rfl (by kernel_rfl) (by kernel_rfl) (by kernel_rfl) (fun _ _ _ h => h) (Or.inl ⟨by rfl, ?_⟩) (by assumption) ?_
                  rotate_left
                  · intro w hSw; obtain ⟨k0, k1, k2, k3, k4, k5, k6⟩ := hSw; go_simp; all_goals (with_reducible rfl)
                  try simp only [Act.put, List.getElem_toArray, List.getElem_cons_zero, List.getElem_cons_succ, List.setIfInBounds_toArray, List.set_cons_zero, List.set_cons_succ]
                  refine wpAnyH_take (i := 7) (oi := _) (v := ?_) rfl (by kernel_rfl) (by kernel_rfl) (by kernel_rfl) (fun _ _ _ h => h) (Or.inl ⟨by rfl, ?_⟩) (by assumption) ?_
                  rotate_left
                  · intro w hSw; obtain ⟨k0, k1, k2, k3, k4, k5, k6⟩ := hSw; go_simp; all_goals (with_reducible rfl)
                  try simp only [Act.put, List.getElem_toArray, List.getElem_cons_zero, List.getElem_cons_succ, List.setIfInBounds_toArray, List.set_cons_zero, List.set_cons_succ]
                  refine wpAnyH_take (i := 8) (oi := _) (v := ?_) rfl (by kernel_rfl) (by kernel_rfl) (by kernel_rfl) (fun _ _ _ h => h) (Or.inl ⟨by rfl, ?_⟩) (by assumption) ?_
                  rotate_left
                  · intro w hSw; obtain ⟨k0, k1, k2, k3, k4, k5, k6⟩ := hSw; go_simp; all_goals (with_reducible rfl)
                  try simp only [Act.put, List.getElem_toArray, List.getElem_cons_zero, List.getElem_cons_succ, List.setIfInBounds_toArray, List.set_cons_zero, List.set_cons_succ]
                  refine wpAnyH_ready (rs := [9]) (by kernel_rfl) (by simp) ?_
                  refine AllReadyH.cons (o := _) rfl (fun K hK => ?_) AllReadyH.nil
                  go_simp
                  go_at_call 82; with_reducible refine (C2.out _).mono ?_; rintro e w6 ⟨rfl, rfl⟩
                  go_wp2_with fail
                  refine hK.out _ _ ?_ (fun hHeld => ?_)
                  · exact hHeld
                  clear hK K
                  try simp only [Act.put, List.getElem_toArray, List.getElem_cons_zero, List.getElem_cons_succ, List.setIfInBounds_toArray, List.set_cons_zero, List.set_cons_succ]
                  refine wpAnyH_take (i := 10) (oi := _) (v := ?_) rfl (by kernel_rfl) (by kernel_rfl) (by kernel_rfl) (fun _ _ _ h => h) (Or.inl ⟨by rfl, ?_⟩) (by assumption) ?_
                  rotate_left
                  · intro w hSw; obtain ⟨k0, k1, k2, k3, k4, k5, k6⟩ := hSw; go_simp; all_goals (with_reducible rfl)
                  try simp only [Act.put, List.getElem_toArray, List.getElem_cons_zero, List.getElem_cons_succ, List.setIfInBounds_toArray, List.set_cons_zero, List.set_cons_succ]
                  refine wpAnyH_take (i := 11) (oi := _) (v := ?_) rfl (by kernel_rfl) (by kernel_rfl) (by kernel_rfl) (fun _ _ _ h => h) (Or.inl ⟨by rfl, ?_⟩) (by assumption) ?_
                  rotate_left
                  · intro w hSw; obtain ⟨k0, k1, k2, k3, k4, k5, k6⟩ := hSw; go_simp; all_goals (with_reducible rfl)
                  try simp only [Act.put, List.getElem_toArray, List.getElem_cons_zero, List.getElem_cons_succ, List.setIfInBounds_toArray, List.set_cons_zero, List.set_cons_succ]
                  refine wpAnyH_take (i := 12) (oi := _) (v := ?_) rfl (by kernel_rfl) (by kernel_rfl) (by kernel_rfl) (fun _ _ _ h => h) (Or.inl ⟨by rfl, ?_⟩) (by assumption) ?_
                  rotate_left
                  · intro w hSw; obtain ⟨k0, k1, k2, k3, k4, k5, k6⟩ := hSw; go_simp; all_goals (with_reducible rfl)
                  try simp only [Act.put, List.getElem_toArray, List.getElem_cons_zero, List.getElem_cons_succ, List.setIfInBounds_toArray, List.set_cons_zero, List.set_cons_succ]
                  refine wpAnyH_take (i := 13) (oi := _) (v := undef) rfl (by kernel_rfl) (by kernel_rfl) (by kernel_rfl) (fun _ _ _ h => h) (Or.inr ⟨by rfl, rfl⟩) (by assumption) ?_
                  try simp only [Act.put, List.getElem_toArray, List.getElem_cons_zero, List.getElem_cons_succ, List.setIfInBounds_toArray, List.set_cons_zero, List.set_cons_succ]
                  refine wpAnyH_take (i := 14) (oi := _) (v := undef) rfl (by kernel_rfl) (by kernel_rfl) (by kernel_rfl) (fun _ _ _ h => h) (Or.inr ⟨by rfl, rfl⟩) (by assumption) ?_
                  try simp only [Act.put, List.getElem_toArray, List.getElem_cons_zero, List.getElem_cons_succ, List.setIfInBounds_toArray, List.set_cons_zero, List.set_cons_succ]
                  refine wpAnyH_take (i := 15) (oi := _) (v := undef) rfl (by kernel_rfl) (by kernel_rfl) (by kernel_rfl) (fun _ _ _ h => h) (Or.inr ⟨by rfl, rfl⟩) (by assumption) ?_
                  try simp only [Act.put, List.getElem_toArray, List.getElem_cons_zero, List.getElem_cons_succ, List.setIfInBounds_toArray, List.set_cons_zero, List.set_cons_succ]
                  refine wpAnyH_take (i := 16) (oi := _) (v := undef) rfl (by kernel_rfl) (by kernel_rfl) (by kernel_rfl) (fun _ _ _ h => h) (Or.inr ⟨by rfl, rfl⟩) (by assumption) ?_
                  try simp only [Act.put, List.getElem_toArray, List.getElem_cons_zero, List.getElem_cons_succ, List.setIfInBounds_toArray, List.set_cons_zero, List.set_cons_succ]
                  refine wpAnyH_take (i := 17) (oi := _) (v := undef) rfl (by kernel_rfl) (by kernel_rfl) (by kernel_rfl) (fun _ _ _ h => h) (Or.inr ⟨by rfl, rfl⟩) (by assumption) ?_
                  try simp only [Act.put, List.getElem_toArray, List.getElem_cons_zero, List.getElem_cons_succ, List.setIfInBounds_toArray, List.set_cons_zero, List.set_cons_succ]
                  refine wpAnyH_take (i := 18) (oi := _) (v := undef) rfl (by kernel_rfl) (by kernel_rfl) (by kernel_rfl) (fun _ _ _ h => h) (Or.inr ⟨by rfl, rfl⟩) (by assumption) ?_
                  try simp only [Act.put, List.getElem_toArray, List.getElem_cons_zero, List.getElem_cons_succ, List.setIfInBounds_toArray, List.set_cons_zero, List.set_cons_succ]
                  refine wpAnyH_take (i := 19) (oi := _) (v := undef) rfl (by kernel_rfl) (by kernel_rfl) (by kernel_rfl) (fun _ _ _ h => h) (Or.inr ⟨by rfl, rfl⟩) (by assumption) ?_
                  try simp only [Act.put, List.getElem_toArray, List.getElem_cons_zero, List.getElem_cons_succ, List.setIfInBounds_toArray, List.set_cons_zero, List.set_cons_succ]
                  refine wpAnyH_take (i := 20) (oi := _) (v := undef) rfl (by kernel_rfl) (by kernel_rfl) (by kernel_rfl) (fun _ _ _ h => h) (Or.inr ⟨by rfl, rfl⟩) (by assumption) ?_
                  try simp only [Act.put, List.getElem_toArray, List.getElem_cons_zero, List.getElem_cons_succ, List.setIfInBounds_toArray, List.set_cons_zero, List.set_cons_succ]
                  refine wpAnyH_take (i := 21) (oi := _) (v := undef) rfl (by kernel_rfl) (by kernel_rfl) (by kernel_rfl) (fun _ _ _ h => h) (Or.inr ⟨by rfl, rfl⟩) (by assumption) ?_
                  try simp only [Act.put, List.getElem_toArray, List.getElem_cons_zero, List.getElem_cons_succ, List.setIfInBounds_toArray, List.set_cons_zero, List.set_cons_succ]
                  refine wpAnyH_take (i := 22) (oi := _) (v := undef) rfl (by kernel_rfl) (by kernel_rfl) (by kernel_rfl) (fun _ _ _ h => h) (Or.inr ⟨by rfl, rfl⟩) (by assumption) ?_
                  try simp only [Act.put, List.getElem_toArray, List.getElem_cons_zero, List.getElem_cons_succ, List.setIfInBounds_toArray, List.set_cons_zero, List.set_cons_succ]
                  refine wpAnyH_take (i := 23) (oi := _) (v := undef) rfl (by kernel_rfl) (by kernel_rfl) (by kernel_rfl) (fun _ _ _ h => h) (Or.inr ⟨by rfl, rfl⟩) (by assumption) ?_
                  try simp only [Act.put, List.getElem_toArray, List.getElem_cons_zero, List.getElem_cons_succ, List.setIfInBounds_toArray, List.set_cons_zero, List.set_cons_succ]
                  refine wpAnyH_take (i := 24) (oi := _) (v := undef) rfl (by kernel_rfl) (by kernel_rfl) (by kernel_rfl) (fun _ _ _ h => h) (Or.inr ⟨by rfl, rfl⟩) (by assumption) ?_
                  try simp only [Act.put, List.getElem_toArray, List.getElem_cons_zero, List.getElem_cons_succ, List.setIfInBounds_toArray, List.set_cons_zero, List.set_cons_succ]
                  refine wpAnyH_take (i := 25) (oi := _) (v := undef) rfl (by kernel_rfl) (by kernel_rfl) (by kernel_rfl) (fun _ _ _ h => h) (Or.inr ⟨by rfl, rfl⟩) (by assumption) ?_
                  try simp only [Act.put, List.getElem_toArray, List.getElem_cons_zero, List.getElem_cons_succ, List.setIfInBounds_toArray, List.set_cons_zero, List.set_cons_succ]
                  refine wpAnyH_take (i := 26) (oi := _) (v := undef) rfl (by kernel_rfl) (by kernel_rfl) (by kernel_rfl) (fun _ _ _ h => h) (Or.inr ⟨by rfl, rfl⟩) (by assumption) ?_
                  try simp only [Act.put, List.getElem_toArray, List.getElem_cons_zero, List.getElem_cons_succ, List.setIfInBounds_toArray, List.set_cons_zero, List.set_cons_succ]
                  refine wpAnyH_take (i := 27) (oi := _) (v := ?_) rfl (by kernel_rfl) (by kernel_rfl) (by kernel_rfl) (fun _ _ _ h => h) (Or.inl ⟨by rfl, ?_⟩) (by assumption) ?_
                  rotate_left
                  · intro w hSw; obtain ⟨k0, k1, k2, k3, k4, k5, k6⟩ := hSw; go_simp; all_goals (with_reducible rfl)
                  try simp only [Act.put, List.getElem_toArray, List.getElem_cons_zero, List.getElem_cons_succ, List.setIfInBounds_toArray, List.set_cons_zero, List.set_cons_succ]
                  refine wpAnyH_done (by kernel_rfl) ?_ _
                  all_goals go_wp2_with fail
                  all_goals
                    go_meet
                    exact ⟨false, rfl, HT, Lib.hid BX⟩
                | true =>
                  rcases Nat.eq_zero_or_pos k with hk0 | hk0
                  · have HT : Hid ((true && Bd.stuckGo f ((prevO s.stuck (k + 1)).map (·.1)) (s.stuck.drop (k + 1))) = R2) := Lib.hid (by rw [← HG2.out]; subst hk0; rfl)
                    have z0 : ¬ (k : Int) > 0 := by omega
                    have z1 : ¬ 0 < k := by omega
                    clear hk0
                    refine wp_region_held_drew (S := fun W' => W'.cell? ⟨w.heap.size, 0, none⟩ = some (.int .i64 f.w) ∧ W'.cell? ⟨w.heap.size, 1, none⟩ = some (.int .i64 f.h) ∧ W'.cell? ⟨w.heap.size, 2, none⟩ = some (.int .i64 f.d) ∧ W'.cell? ⟨w.heap.size, 3, none⟩ = some (.slice a1 K c1) ∧ W'.cell? ⟨w.heap.size, 4, none⟩ = some (ov) ∧ W'.cell? ⟨wr.heap.size, 0, none⟩ = some (.int .i64 X) ∧ W'.cell? ⟨wr.heap.size, 1, none⟩ = some (.int .i64 Y)) (by kernel_rfl) ⟨p0, p1, p2, p3, p4, y0, y1⟩ (fun hHeld => ?_)
                    refine wpAnyH_take (i := 1) (oi := _) (v := ?_) rfl (by kernel_rfl) (by kernel_rfl) (by kernel_rfl) (fun _ _ _ h => h) (Or.inl ⟨by rfl, ?_⟩) (by assumption) ?_
                    rotate_left
                    · intro w hSw; obtain ⟨k0, k1, k2, k3, k4, k5, k6⟩ := hSw; go_simp; all_goals (with_reducible rfl)
                    try simp only [Act.put, List.getElem_toArray, List.getElem_cons_zero, List.getElem_cons_succ, List.setIfInBounds_toArray, List.set_cons_zero, List.set_cons_succ]
                    refine wpAnyH_take (i := 0) (oi := _) (v := ?_) rfl (by kernel_rfl) (by kernel_rfl) (by kernel_rfl) (fun _ _ _ h => h) (Or.inl ⟨by rfl, ?_⟩) (by assumption) ?_
                    rotate_left
                    · intro w hSw; obtain ⟨k0, k1, k2, k3, k4, k5, k6⟩ := hSw; go_simp; all_goals (with_reducible rfl)
                    try simp only [Act.put, List.getElem_toArray, List.getElem_cons_zero, List.getElem_cons_succ, List.setIfInBounds_toArray, List.set_cons_zero, List.set_cons_succ]
                    refine wpAnyH_take (i := 2) (oi := _) (v := ?_) rfl (by kernel_rfl) (by kernel_rfl) (by kernel_rfl) (fun _ _ _ h => h) (Or.inl ⟨by rfl, ?_⟩) (by assumption) ?_
                    rotate_left
                    · intro w hSw; obtain ⟨k0, k1, k2, k3, k4, k5, k6⟩ := hSw; go_simp; all_goals (with_reducible rfl)
                    try simp only [Act.put, List.getElem_toArray, List.getElem_cons_zero, List.getElem_cons_succ, List.setIfInBounds_toArray, List.set_cons_zero, List.set_cons_succ]
                    refine wpAnyH_ready (rs := [3]) (by kernel_rfl) (by simp) ?_
                    refine AllReadyH.cons (o := _) rfl (fun K hK => ?_) AllReadyH.nil
                    go_simp
                    refine hK.out _ _ ?_ (fun hHeld => ?_)
                    · exact ⟨(BX1.cell (p := ⟨w.heap.size, 0, none⟩) lw).trans p0, (BX1.cell (p := ⟨w.heap.size, 1, none⟩) lw).trans p1, (BX1.cell (p := ⟨w.heap.size, 2, none⟩) lw).trans p2, (BX1.cell (p := ⟨w.heap.size, 3, none⟩) lw).trans p3, (BX1.cell (p := ⟨w.heap.size, 4, none⟩) lw).trans p4, (BX1.cell (p := ⟨wr.heap.size, 0, none⟩) lx).trans y0, (BX1.cell (p := ⟨wr.heap.size, 1, none⟩) lx).trans y1⟩
                    clear hK K
                    try simp only [Act.put, List.getElem_toArray, List.getElem_cons_zero, List.getElem_cons_succ, List.setIfInBounds_toArray, List.set_cons_zero, List.set_cons_succ]
                    refine wpAnyH_ready (rs := [4]) (by kernel_rfl) (by simp) ?_
                    refine AllReadyH.cons (o := _) rfl (fun K hK => ?_) AllReadyH.nil
                    go_simp
                    go_at_call 86; with_reducible refine C1.out.mono ?_; rintro e w5 ⟨rfl, b5⟩
                    have BX : Below wa.heap.size wa w5 := BX1.trans (b5.mono BX1.size)
                    clear b5
                    go_wp2_with fail
                    refine hK.out _ _ ?_ (fun hHeld => ?_)
                    · exact ⟨(BX.cell (p := ⟨w.heap.size, 0, none⟩) lw).trans p0, (BX.cell (p := ⟨w.heap.size, 1, none⟩) lw).trans p1, (BX.cell (p := ⟨w.heap.size, 2, none⟩) lw).trans p2, (BX.cell (p := ⟨w.heap.size, 3, none⟩) lw).trans p3, (BX.cell (p := ⟨w.heap.size, 4, none⟩) lw).trans p4, (BX.cell (p := ⟨wr.heap.size, 0, none⟩) lx).trans y0, (BX.cell (p := ⟨wr.heap.size, 1, none⟩) lx).trans y1⟩
                    clear hK K
                    try simp only [Act.put, List.getElem_toArray, List.getElem_cons_zero, List.getElem_cons_succ, List.setIfInBounds_toArray, List.set_cons_zero, List.set_cons_succ]
                    refine wpAnyH_take (i := 5) (oi := _) (v := ?_) rfl (by kernel_rfl) (by kernel_rfl) (by kernel_rfl) (fun _ _ _ h => h) (Or.inl ⟨by rfl, ?_⟩) (by assumption) ?_
                    rotate_left
                    · intro w hSw; obtain ⟨k0, k1, k2, k3, k4, k5, k6⟩ := hSw; go_simp; all_goals (with_reducible rfl)
                    try simp only [Act.put, List.getElem_toArray, List.getElem_cons_zero, List.getElem_cons_succ, List.setIfInBounds_toArray, List.set_cons_zero, List.set_cons_succ]
                    refine wpAnyH_take (i := 6) (oi := _) (v := ?_) rfl (by kernel_rfl) (by kernel_rfl) (by kernel_rfl) (fun _ _ _ h => h) (Or.inl ⟨by rfl, ?_⟩) (by assumption) ?_
                    rotate_left
                    · intro w hSw; obtain ⟨k0, k1, k2, k3, k4, k5, k6⟩ := hSw; go_simp; all_goals (with_reducible rfl)
                    try simp only [Act.put, List.getElem_toArray, List.getElem_cons_zero, List.getElem_cons_succ, List.setIfInBounds_toArray, List.set_cons_zero, List.set_cons_succ]
                    refine wpAnyH_take (i := 7) (oi := _) (v := ?_) rfl (by kernel_rfl) (by kernel_rfl) (by kernel_rfl) (fun _ _ _ h => h) (Or.inl ⟨by rfl, ?_⟩) (by assumption) ?_
                    rotate_left
                    · intro w hSw; obtain ⟨k0, k1, k2, k3, k4, k5, k6⟩ := hSw; go_simp; all_goals (with_reducible rfl)
                    try simp only [Act.put, List.getElem_toArray, List.getElem_cons_zero, List.getElem_cons_succ, List.setIfInBounds_toArray, List.set_cons_zero, List.set_cons_succ]
                    refine wpAnyH_take (i := 8) (oi := _) (v := ?_) rfl (by kernel_rfl) (by kernel_rfl) (by kernel_rfl) (fun _ _ _ h => h) (Or.inl ⟨by rfl, ?_⟩) (by assumption) ?_
                    rotate_left
                    · intro w hSw; obtain ⟨k0, k1, k2, k3, k4, k5, k6⟩ := hSw; go_simp; all_goals (with_reducible rfl)
                    try simp only [Act.put, List.getElem_toArray, List.getElem_cons_zero, List.getElem_cons_succ, List.setIfInBounds_toArray, List.set_cons_zero, List.set_cons_succ]
                    refine wpAnyH_ready (rs := [9]) (by kernel_rfl) (by simp) ?_
                    refine AllReadyH.cons (o := _) rfl (fun K hK => ?_) AllReadyH.nil
                    go_simp
                    go_at_call 82; with_reducible refine (C2.out _).mono ?_; rintro e w6 ⟨rfl, rfl⟩
                    go_wp2_with fail
                    refine hK.out _ _ ?_ (fun hHeld => ?_)
                    · exact hHeld
                    clear hK K
                    try simp only [Act.put, List.getElem_toArray, List.getElem_cons_zero, List.getElem_cons_succ, List.setIfInBounds_toArray, List.set_cons_zero, List.set_cons_succ]
                    refine wpAnyH_take (i := 10) (oi := _) (v := ?_) rfl (by kernel_rfl) (by kernel_rfl) (by kernel_rfl) (fun _ _ _ h => h) (Or.inl ⟨by rfl, ?_⟩) (by assumption) ?_
                    rotate_left
                    · intro w hSw; obtain ⟨k0, k1, k2, k3, k4, k5, k6⟩ := hSw; go_simp; all_goals (with_reducible rfl)
                    try simp only [Act.put, List.getElem_toArray, List.getElem_cons_zero, List.getElem_cons_succ, List.setIfInBounds_toArray, List.set_cons_zero, List.set_cons_succ]
                    refine wpAnyH_take (i := 11) (oi := _) (v := ?_) rfl (by kernel_rfl) (by kernel_rfl) (by kernel_rfl) (fun _ _ _ h => h) (Or.inl ⟨by rfl, ?_⟩) (by assumption) ?_
                    rotate_left
                    · intro w hSw; obtain ⟨k0, k1, k2, k3, k4, k5, k6⟩ := hSw; go_simp; all_goals (with_reducible rfl)
                    try simp only [Act.put, List.getElem_toArray, List.getElem_cons_zero, List.getElem_cons_succ, List.setIfInBounds_toArray, List.set_cons_zero, List.set_cons_succ]
                    refine wpAnyH_take (i := 12) (oi := _) (v := ?_) rfl (by kernel_rfl) (by kernel_rfl) (by kernel_rfl) (fun _ _ _ h => h) (Or.inl ⟨by rfl, ?_⟩) (by assumption) ?_
                    rotate_left
                    · intro w hSw; obtain ⟨k0, k1, k2, k3, k4, k5, k6⟩ := hSw; go_simp; all_goals (with_reducible rfl)
                    try simp only [Act.put, List.getElem_toArray, List.getElem_cons_zero, List.getElem_cons_succ, List.setIfInBounds_toArray, List.set_cons_zero, List.set_cons_succ]
                    refine wpAnyH_take (i := 13) (oi := _) (v := ?_) rfl (by kernel_rfl) (by kernel_rfl) (by kernel_rfl) (fun _ _ _ h => h) (Or.inl ⟨by rfl, ?_⟩) (by assumption) ?_
                    rotate_left
                    · intro w hSw; obtain ⟨k0, k1, k2, k3, k4, k5, k6⟩ := hSw; go_simp; all_goals (with_reducible rfl)
                    try simp only [Act.put, List.getElem_toArray, List.getElem_cons_zero, List.getElem_cons_succ, List.setIfInBounds_toArray, List.set_cons_zero, List.set_cons_succ]
                    refine wpAnyH_take (i := 14) (oi := _) (v := ?_) rfl (by kernel_rfl) (by kernel_rfl) (by kernel_rfl) (fun _ _ _ h => h) (Or.inl ⟨by rfl, ?_⟩) (by assumption) ?_
                    rotate_left
                    · intro w hSw; obtain ⟨k0, k1, k2, k3, k4, k5, k6⟩ := hSw; go_simp; all_goals (with_reducible rfl)
                    try simp only [Act.put, List.getElem_toArray, List.getElem_cons_zero, List.getElem_cons_succ, List.setIfInBounds_toArray, List.set_cons_zero, List.set_cons_succ]
                    refine wpAnyH_take (i := 15) (oi := _) (v := ?_) rfl (by kernel_rfl) (by kernel_rfl) (by kernel_rfl) (fun _ _ _ h => h) (Or.inl ⟨by rfl, ?_⟩) (by assumption) ?_
                    rotate_left
                    · intro w hSw; obtain ⟨k0, k1, k2, k3, k4, k5, k6⟩ := hSw; go_simp; all_goals (with_reducible rfl)
                    try simp only [Act.put, List.getElem_toArray, List.getElem_cons_zero, List.getElem_cons_succ, List.setIfInBounds_toArray, List.set_cons_zero, List.set_cons_succ]
                    refine wpAnyH_take (i := 16) (oi := _) (v := undef) rfl (by kernel_rfl) (by kernel_rfl) (by kernel_rfl) (fun _ _ _ h => h) (Or.inr ⟨by rfl, rfl⟩) (by assumption) ?_
                    try simp only [Act.put, List.getElem_toArray, List.getElem_cons_zero, List.getElem_cons_succ, List.setIfInBounds_toArray, List.set_cons_zero, List.set_cons_succ]
                    refine wpAnyH_take (i := 17) (oi := _) (v := undef) rfl (by kernel_rfl) (by kernel_rfl) (by kernel_rfl) (fun _ _ _ h => h) (Or.inr ⟨by rfl, rfl⟩) (by assumption) ?_
                    try simp only [Act.put, List.getElem_toArray, List.getElem_cons_zero, List.getElem_cons_succ, List.setIfInBounds_toArray, List.set_cons_zero, List.set_cons_succ]
                    refine wpAnyH_take (i := 18) (oi := _) (v := undef) rfl (by kernel_rfl) (by kernel_rfl) (by kernel_rfl) (fun _ _ _ h => h) (Or.inr ⟨by rfl, rfl⟩) (by assumption) ?_
                    try simp only [Act.put, List.getElem_toArray, List.getElem_cons_zero, List.getElem_cons_succ, List.setIfInBounds_toArray, List.set_cons_zero, List.set_cons_succ]
                    refine wpAnyH_take (i := 19) (oi := _) (v := undef) rfl (by kernel_rfl) (by kernel_rfl) (by kernel_rfl) (fun _ _ _ h => h) (Or.inr ⟨by rfl, rfl⟩) (by assumption) ?_
                    try simp only [Act.put, List.getElem_toArray, List.getElem_cons_zero, List.getElem_cons_succ, List.setIfInBounds_toArray, List.set_cons_zero, List.set_cons_succ]
                    refine wpAnyH_take (i := 20) (oi := _) (v := undef) rfl (by kernel_rfl) (by kernel_rfl) (by kernel_rfl) (fun _ _ _ h => h) (Or.inr ⟨by rfl, rfl⟩) (by assumption) ?_
                    try simp only [Act.put, List.getElem_toArray, List.getElem_cons_zero, List.getElem_cons_succ, List.setIfInBounds_toArray, List.set_cons_zero, List.set_cons_succ]
                    refine wpAnyH_take (i := 21) (oi := _) (v := undef) rfl (by kernel_rfl) (by kernel_rfl) (by kernel_rfl) (fun _ _ _ h => h) (Or.inr ⟨by rfl, rfl⟩) (by assumption) ?_
                    try simp only [Act.put, List.getElem_toArray, List.getElem_cons_zero, List.getElem_cons_succ, List.setIfInBounds_toArray, List.set_cons_zero, List.set_cons_succ]
                    refine wpAnyH_take (i := 22) (oi := _) (v := undef) rfl (by kernel_rfl) (by kernel_rfl) (by kernel_rfl) (fun _ _ _ h => h) (Or.inr ⟨by rfl, rfl⟩) (by assumption) ?_
                    try simp only [Act.put, List.getElem_toArray, List.getElem_cons_zero, List.getElem_cons_succ, List.setIfInBounds_toArray, List.set_cons_zero, List.set_cons_succ]
                    refine wpAnyH_take (i := 23) (oi := _) (v := undef) rfl (by kernel_rfl) (by kernel_rfl) (by kernel_rfl) (fun _ _ _ h => h) (Or.inr ⟨by rfl, rfl⟩) (by assumption) ?_
                    try simp only [Act.put, List.getElem_toArray, List.getElem_cons_zero, List.getElem_cons_succ, List.setIfInBounds_toArray, List.set_cons_zero, List.set_cons_succ]
                    refine wpAnyH_take (i := 24) (oi := _) (v := undef) rfl (by kernel_rfl) (by kernel_rfl) (by kernel_rfl) (fun _ _ _ h => h) (Or.inr ⟨by rfl, rfl⟩) (by assumption) ?_
                    try simp only [Act.put, List.getElem_toArray, List.getElem_cons_zero, List.getElem_cons_succ, List.setIfInBounds_toArray, List.set_cons_zero, List.set_cons_succ]
                    refine wpAnyH_take (i := 25) (oi := _) (v := undef) rfl (by kernel_rfl) (by kernel_rfl) (by kernel_rfl) (fun _ _ _ h => h) (Or.inr ⟨by rfl, rfl⟩) (by assumption) ?_
                    try simp only [Act.put, List.getElem_toArray, List.getElem_cons_zero, List.getElem_cons_succ, List.setIfInBounds_toArray, List.set_cons_zero, List.set_cons_succ]
                    refine wpAnyH_take (i := 26) (oi := _) (v := ?_) rfl (by kernel_rfl) (by kernel_rfl) (by kernel_rfl) (fun _ _ _ h => h) (Or.inl ⟨by rfl, ?_⟩) (by assumption) ?_
                    rotate_left
                    · intro w hSw; obtain ⟨k0, k1, k2, k3, k4, k5, k6⟩ := hSw; go_simp; all_goals (with_reducible rfl)
                    try simp only [Act.put, List.getElem_toArray, List.getElem_cons_zero, List.getElem_cons_succ, List.setIfInBounds_toArray, List.set_cons_zero, List.set_cons_succ]
                    refine wpAnyH_take (i := 27) (oi := _) (v := ?_) rfl (by kernel_rfl) (by kernel_rfl) (by kernel_rfl) (fun _ _ _ h => h) (Or.inl ⟨by rfl, ?_⟩) (by assumption) ?_
                    rotate_left
                    · intro w hSw; obtain ⟨k0, k1, k2, k3, k4, k5, k6⟩ := hSw; go_simp; all_goals (with_reducible rfl)
                    try simp only [Act.put, List.getElem_toArray, List.getElem_cons_zero, List.getElem_cons_succ, List.setIfInBounds_toArray, List.set_cons_zero, List.set_cons_succ]
                    refine wpAnyH_done (by kernel_rfl) ?_ _
                    all_goals go_wp2_with fail
                    all_goals
                      go_meet
                      exact ⟨true, rfl, HT, Lib.hid BX⟩
                  · obtain ⟨j, hj⟩ : ∃ j, j + 1 = k := ⟨k - 1, by omega⟩
                    have hp := HPA.out j hj
                    have ho := HPO.out j hj
                    have j1 : IntKind.i64.wrap ((k : Int) - 1) = (j : Int) := by rw [show (k : Int) - 1 = (j : Int) by omega]; exact IntWalk.i64_in _ (by omega)
                    have j2 : (0 : Int) ≤ (j : Int) := by omega
                    have j3 : (j : Int) < (M : Int) := by omega
                    have j4 : (k : Int) > 0 := by omega
                    have j5 : 0 < k := by omega
                    have hjl : j < s.stuck.length := by omega
                    obtain ⟨D, hD⟩ : ∃ D, (s.stuck[j]'hjl).1 = D := ⟨_, rfl⟩
                    rw [hD] at hp ho
                    have HO := Lib.hid ho
                    clear hD hj hk0 ho
                    by_cases hlt : X ≤ D
                    · have HT : Hid ((false && Bd.stuckGo f ((prevO s.stuck (k + 1)).map (·.1)) (s.stuck.drop (k + 1))) = R2) := Lib.hid (by rw [← HG2.out, HO.out]; unfold ltO; dsimp only; rw [decide_eq_false (show ¬ D < X by omega)]; rfl)
                      have t9 : decide (X ≤ D) = true := decide_eq_true hlt
                      go_region_held3 (fun w' => w'.cell? ⟨w.heap.size, 0, none⟩ = some (.int .i64 f.w) ∧ w'.cell? ⟨w.heap.size, 1, none⟩ = some (.int .i64 f.h) ∧ w'.cell? ⟨w.heap.size, 2, none⟩ = some (.int .i64 f.d) ∧ w'.cell? ⟨w.heap.size, 3, none⟩ = some (.slice a1 K c1) ∧ w'.cell? ⟨w.heap.size, 4, none⟩ = some (ov) ∧ w'.cell? ⟨wr.heap.size, 0, none⟩ = some (.int .i64 X) ∧ w'.cell? ⟨wr.heap.size, 1, none⟩ = some (.int .i64 Y) ∧ w'.cell? ⟨w.heap.size + 1, 5, none⟩ = some (.slice (some ⟨db2, do2, none⟩) M c3) ∧ w'.cell? ⟨db2, do2 + j * 2, none⟩ = some (.int .i64 D)) (go_keep)
                        (first | (go_at_call 86; with_reducible refine C1.out.mono ?_; rintro e w5 ⟨rfl, b5⟩; have BX : Below wa.heap.size wa w5 := BX1.trans (b5.mono BX1.size); have s0 := (BX.cell (p := ⟨w.heap.size, 0, none⟩) lw).trans p0; have s1 := (BX.cell (p := ⟨w.heap.size, 1, none⟩) lw).trans p1; have s2 := (BX.cell (p := ⟨w.heap.size, 2, none⟩) lw).trans p2; have s3 := (BX.cell (p := ⟨w.heap.size, 3, none⟩) lw).trans p3; have s4 := (BX.cell (p := ⟨w.heap.size, 4, none⟩) lw).trans p4; have s5 := (BX.cell (p := ⟨wr.heap.size, 0, none⟩) lx).trans y0; have s6 := (BX.cell (p := ⟨wr.heap.size, 1, none⟩) lx).trans y1; have s7 := (BX.cell (p := ⟨w.heap.size + 1, 5, none⟩) ls).trans t5; have s8 := (BX.cell (p := ⟨db2, do2 + j * 2, none⟩) ld).trans hp; clear b5) | (go_at_call 82; with_reducible refine (C2.out _).mono ?_; rintro e w6 ⟨rfl, rfl⟩))
                      all_goals go_wp2_with fail
                      all_goals
                        go_meet
                        exact ⟨false, rfl, HT, Lib.hid BX⟩
                    · have HT : Hid ((true && Bd.stuckGo f ((prevO s.stuck (k + 1)).map (·.1)) (s.stuck.drop (k + 1))) = R2) := Lib.hid (by rw [← HG2.out, HO.out]; unfold ltO; dsimp only; rw [decide_eq_true (show D < X by omega)]; rfl)
                      have t9 : decide (X ≤ D) = false := decide_eq_false hlt
                      go_region_held3 (fun w' => w'.cell? ⟨w.heap.size, 0, none⟩ = some (.int .i64 f.w) ∧ w'.cell? ⟨w.heap.size, 1, none⟩ = some (.int .i64 f.h) ∧ w'.cell? ⟨w.heap.size, 2, none⟩ = some (.int .i64 f.d) ∧ w'.cell? ⟨w.heap.size, 3, none⟩ = some (.slice a1 K c1) ∧ w'.cell? ⟨w.heap.size, 4, none⟩ = some (ov) ∧ w'.cell? ⟨wr.heap.size, 0, none⟩ = some (.int .i64 X) ∧ w'.cell? ⟨wr.heap.size, 1, none⟩ = some (.int .i64 Y) ∧ w'.cell? ⟨w.heap.size + 1, 5, none⟩ = some (.slice (some ⟨db2, do2, none⟩) M c3) ∧ w'.cell? ⟨db2, do2 + j * 2, none⟩ = some (.int .i64 D)) (go_keep)
                        (first | (go_at_call 86; with_reducible refine C1.out.mono ?_; rintro e w5 ⟨rfl, b5⟩; have BX : Below wa.heap.size wa w5 := BX1.trans (b5.mono BX1.size); have s0 := (BX.cell (p := ⟨w.heap.size, 0, none⟩) lw).trans p0; have s1 := (BX.cell (p := ⟨w.heap.size, 1, none⟩) lw).trans p1; have s2 := (BX.cell (p := ⟨w.heap.size, 2, none⟩) lw).trans p2; have s3 := (BX.cell (p := ⟨w.heap.size, 3, none⟩) lw).trans p3; have s4 := (BX.cell (p := ⟨w.heap.size, 4, none⟩) lw).trans p4; have s5 := (BX.cell (p := ⟨wr.heap.size, 0, none⟩) lx).trans y0; have s6 := (BX.cell (p := ⟨wr.heap.size, 1, none⟩) lx).trans y1; have s7 := (BX.cell (p := ⟨w.heap.size + 1, 5, none⟩) ls).trans t5; have s8 := (BX.cell (p := ⟨db2, do2 + j * 2, none⟩) ld).trans hp; clear b5) | (go_at_call 82; with_reducible refine (C2.out _).mono ?_; rintro e w6 ⟨rfl, rfl⟩))
                      all_goals go_wp2_with fail
                      all_goals
                        go_meet
                        exact ⟨true, rfl, HT, Lib.hid BX⟩
            case rest =>
              obtain ⟨T, rfl, HT, HBX⟩ := hcut
              cases T with
              | false =>
                have HRf : Hid (R2 = false) := Lib.hid (by rw [← HT.out]; rfl)
                go_wp2_with fail
                go_ret
                exact ⟨by rw [HRf.out]; rfl, BWA.out.trans (HBX.out.mono BWA.out.size)⟩
              | true =>
                have HNX : Hid (Bd.stuckGo f ((prevO s.stuck (k + 1)).map (·.1)) (s.stuck.drop (k + 1)) = R2) := Lib.hid (by have := HT.out; rwa [Bool.true_and] at this)
                have HUX : Hid (Below w2.heap.size w2 wc) := Lib.hid (BUA.out.trans (HBX.out.mono BUA.out.size))
                go_wp2_with fail
                go_roundw
                case rel => exact ⟨k + 1, by omega, by go_num, HNX, HUX⟩
                case measure => simp [intOf]; omega
          · have HRt : Hid (true = R2) := Lib.hid (by have := HG.out; rwa [List.drop_eq_nil_of_le (by rw [HM.out]; omega)] at this)
            go_wp2_with fail
            go_ret
            exact ⟨by rw [← HRt.out]; rfl, B2.out.trans (HU.out.mono B2.out.size)⟩
end Go.Proofs.YtcdfmgobokjcnaaGreatDoor
