/- Parts Ue, Uf, Ug, Uk of this claim, laid one behind the other: walks and the plain laws behind them; each contract states its own conditions. -/
import Derived.Test.YtfcbcpfnaadpeaaGreatDoorMO
namespace Go.Proofs.YtfcbcpfnaadpeaaGreatDoor
set_option maxRecDepth 100000
set_option maxHeartbeats 64000000
set_option linter.unusedSimpArgs false
set_option linter.unusedVariables false
open Go.RowKit
theorem isSet_yes (n : Nat) (v : Value) (l : List Nat) (w : World) (h : Is w v (Si.nn l)) (hs : l.Pairwise (· < ·)) (hn : ∀ j ∈ l, j < n) :
 Calls Tryz.prog 65 #[.int .i64 n, v] w fun e w' => e = .returned (.bool true) ∧ w = w' := by
 obtain ⟨a, ca, rfl, hma⟩ := h.form
 have H := hid h
 have HS : Hid (∀ i, (h1 : i + 1 < l.length) → l[i]'(by omega) < l[i + 1]) := hid (fun i h1 => List.pairwise_iff_getElem.1 hs i (i + 1) (by omega) h1 (by omega))
 have HN := hid hn
 rw [nn_len] at hma H ⊢
 obtain ⟨m, hm⟩ : ∃ m, l.length = m := ⟨_, rfl⟩
 rw [hm] at hma H ⊢
 have HM := hid hm
 clear h hs hn hm
 go_enter Tryz.func65, Tryz.ntmps65
 go_wp2_with fail
 go_loop [9] (fun iv => ∃ k : Nat, k ≤ m ∧ iv = .int .i64 k) (fun iv => m - (intOf iv).toNat)
 case atStart => exact ⟨0, by omega, rfl⟩
 case round =>
  obtain ⟨k, hk, rfl⟩ := hrel
  by_cases hkm : k < m
  · have hkl : k < l.length := by rw [HM.out]; exact hkm
    obtain ⟨b, o, e1, c1⟩ := H.out.cell k (by rw [nn_len]; exact hkl)
    subst e1
    obtain ⟨x, hx⟩ : ∃ x, l[k] = x := ⟨_, rfl⟩
    rw [show (Si.nn l)[k]'(by rw [nn_len]; exact hkl) = (x : Int) by simp [Si.nn, hx]] at c1
    have hxn : x < n := by rw [← hx]; exact HN.out _ (List.getElem_mem hkl)
    have k0 : (0 : Int) ≤ (k : Int) := by omega
    have k1 : (k : Int) < (m : Int) := by omega
    have x0 : ((x : Int) < 0) = False := by first | (simp; done) | (simp; omega)
    have x1 : ((x : Int) ≥ (n : Int)) = False := by first | (simp; done) | (simp; omega)
    have d0 : decide ((x : Int) < 0) = false := by first | (simp; done) | (simp; omega)
    have d1 : decide ((x : Int) ≥ (n : Int)) = false := by first | (simp; done) | (simp; omega)
    by_cases hk0 : k = 0
    · subst hk0
      rw [Nat.add_zero] at c1
      clear hx
      go_wp2_with fail
      go_round
      case rel => exact ⟨1, by omega, by go_num⟩
      case measure => simp [intOf]; omega
    · obtain ⟨j, rfl⟩ : ∃ j, k = j + 1 := ⟨k - 1, by omega⟩
      have hlt := HS.out j hkl
      obtain ⟨b2, o2, e2, c2⟩ := H.out.cell j (by rw [nn_len]; omega)
      injection e2 with e2; injection e2 with e2 e3; subst e2 e3
      obtain ⟨y, hy⟩ : ∃ y, l[j]'(by omega) = y := ⟨_, rfl⟩
      rw [show (Si.nn l)[j]'(by rw [nn_len]; omega) = (y : Int) by simp [Si.nn, hy]] at c2
      rw [hx, hy] at hlt
      have d2 : decide (((j + 1 : Nat) : Int) > 0) = true := by first | (simp; done) | (simp; omega)
      have d3 : decide ((y : Int) ≥ (x : Int)) = false := by first | (simp; done) | (simp; omega)
      have e4 : ((j + 1 : Nat) : Int) - 1 = (j : Int) := by omega
      have j0 : (0 : Int) ≤ (j : Int) := by omega
      have j1 : (j : Int) < (m : Int) := by omega
      clear hx hy
      go_wp2_with fail
      go_round
      case rel => exact ⟨j + 1 + 1, by omega, by go_num⟩
      case measure => simp [intOf]; omega
  · obtain rfl : k = m := by omega
    go_wp2_with fail
    go_ret
    exact ⟨rfl, rfl⟩
theorem isSiphon_yes (n : Nat) (tv sv : Value) (l : List (List Int × List Int)) (m : List Nat) (w : World) (ht : Tr w tv l) (hl : ∀ t ∈ l, (∀ p ∈ t.1, 0 ≤ p ∧ p < 64) ∧ ∀ p ∈ t.2, 0 ≤ p ∧ p < 64) (hll : l.length ≤ 1000000)
 (hs : Is w sv (Si.nn m)) (hso : m.Pairwise (· < ·)) (hmn : ∀ j ∈ m, j < n) (hn : n ≤ 64) (hcl : Pt.closedW (l.map edgeOf) (Si.wordI (Si.nn m)) = true) :
 Calls Tryz.prog 18 #[.agg #[.int .i64 n, tv], sv] w fun e w' => e = .returned (.bool true) ∧ Below w.heap.size w w' := by
 have h64 : ∀ p ∈ Si.nn m, 0 ≤ p ∧ p < 64 := fun p hp => by
  unfold Si.nn at hp
  obtain ⟨j, hj, rfl⟩ := List.mem_map.1 hp
  have := hmn j hj
  exact ⟨by show (0 : Int) ≤ (j : Int); omega, by show (j : Int) < 64; omega⟩
 have H1 := hid (fun W (hW : Below w.heap.size w W) => isSet_yes n sv m W (hs.keep hW) hso hmn)
 have H2 := hid (fun W (hW : Below w.heap.size w W) => edges_any (n : Int) tv l W (ht.keep hW) hl hll)
 have H3 := hid (fun W (hW : Below w.heap.size w W) => word_any sv (Si.nn m) W (hs.keep hW) h64)
 have HEL : Hid (∀ e ∈ l.map edgeOf, e.1 < 18446744073709551616 ∧ e.2 < 18446744073709551616) := hid (by
  intro e he
  obtain ⟨t, ht, rfl⟩ := List.mem_map.1 he
  exact ⟨wordI_lt (hl t ht).2, wordI_lt (hl t ht).1⟩)
 have H4 := hid (fun u W (h : Es W u (l.map edgeOf)) => closed_any u (l.map edgeOf) (Si.wordI (Si.nn m)) W HEL.out (wordI_lt h64) h)
 rw [hcl] at H4
 obtain ⟨ta, tc, rfl, htm⟩ := ht.form
 obtain ⟨sa, sc, rfl, hsm⟩ := hs.form
 obtain ⟨p, hp⟩ : ∃ p, p = l.length := ⟨_, rfl⟩
 obtain ⟨q, hq⟩ : ∃ p, p = (Si.nn m).length := ⟨_, rfl⟩
 rw [← hp] at H2
 rw [← hq] at H1 H3
 rw [← hp, ← hq]
 clear ht hl hll hs hso hmn hn hcl htm hsm hp hq h64
 obtain ⟨W, hW⟩ : ∃ W, W = w.alloc (.cells #[.int .i64 (n : Int), .slice ta p tc] 35) := ⟨_, rfl⟩
 have BW : Hid (Below w.heap.size w W) := hid (by rw [hW]; exact (Below.refl _ _).alloc (Nat.le_refl _) _)
 have IW : Hid (W.heap[w.heap.size]? = some (.cells #[.int .i64 (n : Int), .slice ta p tc] 35 (0, 0))) := hid (by rw [hW]; exact heap_alloc_new _ _)
 have HW := hid hW
 have q0 : W.cell? ⟨w.heap.size, 0, none⟩ = some (.int .i64 (n : Int)) := cell_of_heap IW.out 0 rfl
 have q1 : W.cell? ⟨w.heap.size, 1, none⟩ = some (.slice ta p tc) := cell_of_heap IW.out 1 rfl
 clear hW
 go_enter Tryz.func18, Tryz.ntmps18
 go_upto_region 1 with fail
 rw [← HW.out]
 go_wp2_with fail
 go_at_call 65; refine (H1.out W BW.out).mono ?_; rintro e w2 ⟨rfl, rfl⟩
 go_wp2_with fail
 go_at_call 54; refine (H2.out W BW.out).mono ?_; rintro e w3 ⟨u, rfl, hu, b3⟩
 have B3 := hid (BW.out.trans (b3.mono BW.out.size))
 have HU := hid hu
 clear b3 hu
 go_wp2_with fail
 go_at_call 66; refine (H3.out w3 B3.out).mono ?_; rintro e w4 ⟨rfl, rfl⟩
 go_wp2_with fail
 go_at_call 64; refine (H4.out u w3 HU.out).mono ?_; rintro e w5 ⟨rfl, h5⟩
 have B5 := hid (B3.out.trans (h5.1.mono B3.out.size))
 clear h5
 go_wp2_with fail
 go_ret
 exact ⟨rfl, B5.out⟩
theorem netT_small {s : Si.Site} (hz : s.zones.length ≤ 64) : ∀ t ∈ Si.netT s, (∀ p ∈ t.1, 0 ≤ p ∧ p < 64) ∧ ∀ p ∈ t.2, 0 ≤ p ∧ p < 64 := by
 intro t ht
 unfold Si.netT at ht
 rw [List.mem_flatMap] at ht
 obtain ⟨a, ha, ht⟩ := ht
 rw [List.mem_map] at ht
 obtain ⟨b, hb, rfl⟩ := ht
 have h1 := (Si.mem_linksZ.1 hb).1
 rw [List.mem_range] at ha
 exact ⟨fun p hp => by simp at hp; omega, fun p hp => by simp at hp; omega⟩
theorem netT_len {s : Si.Site} (hz : s.zones.length ≤ 64) : (Si.netT s).length ≤ 1000000 := by
 have h1 := pairs_len s hz s.zones.length hz
 have h2 := congrArg List.length (pairs_net s)
 rw [List.length_map] at h2
 omega
theorem net_edges (s : Si.Site) : (Si.netT s).map edgeOf = Pt.edgesL (Si.linked s) s.zones.length := Si.edges_net s
theorem word_nn (l : List Nat) : Si.wordI (Si.nn l) = Pt.wordL l := by
 unfold Si.wordI Si.nn
 rw [List.map_map]
 congr 1
 conv => rhs; rw [← List.map_id l]
 rfl
theorem listW_sorted (x : Nat) : (Pt.listW x).Pairwise (· < ·) := by unfold Pt.listW; exact List.Pairwise.filter _ List.pairwise_lt_range
theorem endSip_any (s : Si.Site) (tv sv : Value) (sl : List Nat) (x : Nat) (w : World) (hz : s.zones.length ≤ 64) (ht : Tr w tv (Si.netT s)) (hsl : Pt.Sips (Si.linked s) s.zones.length sl) (hx : x ∈ sl) (hs : Is w sv (Si.nn (Pt.listW x))) :
 Calls Tryz.prog 18 #[.agg #[.int .i64 s.zones.length, tv], sv] w fun e w' => e = .returned (.bool true) ∧ Below w.heap.size w w' := by
 obtain ⟨h1, h2⟩ := (hsl.mem x).1 hx
 have h64 : x < 2 ^ 64 := Nat.lt_of_lt_of_le h1 (Nat.pow_le_pow_right (by omega) hz)
 refine isSiphon_yes s.zones.length tv sv (Si.netT s) (Pt.listW x) w ht (netT_small hz) (netT_len hz) hs (listW_sorted x) (fun j hj => Pt.sip_lt hz hsl hx hj) hz ?_
 rw [net_edges, word_nn, Pt.wordL_listW h64]
 exact h2.1
end Go.Proofs.YtfcbcpfnaadpeaaGreatDoor
