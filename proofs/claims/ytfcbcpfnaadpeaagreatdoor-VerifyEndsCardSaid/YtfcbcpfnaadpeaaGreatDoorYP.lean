/- Parts VeE, Uf, Ug, Uk, Uh of this claim, laid one behind the other: walks and the plain laws behind them; each contract states its own conditions. -/
import Derived.Test.YtfcbcpfnaadpeaaGreatDoorZA
import Derived.Test.YtfcbcpfnaadpeaaGreatDoorYO
/- What VerifyEnds reckons, in plain words. Nothing of the program is imported. -/
namespace Go.Proofs.YtfcbcpfnaadpeaaGreatDoor
namespace Ve

open Classical in
/-- Where there is a place, there is one from which one gets but to places from which one gets back. -/
theorem sink_some {lk : Nat → Nat → Bool} {n : Nat} : ∀ (m z : Nat), z < n → (List.range n).countP (fun j => decide (Pt.Star lk n z j)) ≤ m → ∃ y, y < n ∧ ∀ j, Pt.Star lk n y j → Pt.Star lk n j y := by
  intro m
  induction m with
  | zero =>
    intro z hz hm
    have h0 : 0 < (List.range n).countP (fun j => decide (Pt.Star lk n z j)) := List.countP_pos_iff.2 ⟨z, List.mem_range.2 hz, by simpa using Pt.Star.refl⟩
    omega
  | succ m ih =>
    intro z hz hm
    by_cases h : ∀ j, Pt.Star lk n z j → Pt.Star lk n j z
    · exact ⟨z, hz, h⟩
    · obtain ⟨j, hj⟩ := Classical.not_forall.1 h
      obtain ⟨h1, h2⟩ := Classical.not_imp.1 hj
      refine ih j (h1.lt hz) ?_
      have hlt : (List.range n).countP (fun x => decide (Pt.Star lk n j x)) < (List.range n).countP (fun x => decide (Pt.Star lk n z x)) := by
        have key : ∀ l : List Nat, (z ∈ l → l.countP (fun x => decide (Pt.Star lk n j x)) < l.countP (fun x => decide (Pt.Star lk n z x))) ∧ l.countP (fun x => decide (Pt.Star lk n j x)) ≤ l.countP (fun x => decide (Pt.Star lk n z x)) := by
          intro l
          induction l with
          | nil => exact ⟨fun h => by simp at h, Nat.le_refl _⟩
          | cons x l ih2 =>
            rw [List.countP_cons, List.countP_cons]
            have hx : (if decide (Pt.Star lk n j x) = true then 1 else 0) ≤ (if decide (Pt.Star lk n z x) = true then 1 else 0) := by
              by_cases h3 : Pt.Star lk n j x
              · rw [if_pos (by simpa using h3), if_pos (by simpa using h1.trans h3)]; exact Nat.le_refl _
              · rw [if_neg (by simpa using h3)]; omega
            refine ⟨fun hz2 => ?_, by omega⟩
            rcases List.mem_cons.1 hz2 with e | e
            · subst e
              rw [if_neg (by simpa using h2), if_pos (by simpa using Pt.Star.refl)]
              have := ih2.2
              omega
            · have := ih2.1 e
              omega
        exact (key _).1 (List.mem_range.2 hz)
      omega
/-- There is a siphon exactly where there is a place. -/
theorem sips_some {lk : Nat → Nat → Bool} {n : Nat} {sl : List Nat} (h : Pt.Sips lk n sl) : (sl ≠ [] ↔ 0 < n) := by
  constructor
  · intro hne
    obtain ⟨x, hx⟩ := List.exists_mem_of_ne_nil _ hne
    obtain ⟨h1, h2⟩ := (h.mem x).1 hx
    refine Nat.pos_of_ne_zero (fun e => ?_)
    subst e
    exact Pt.closed_ne h2.1 (by omega)
  · intro hn e
    obtain ⟨y, hy, hback⟩ := sink_some (lk := lk) (n := n) _ 0 hn (Nat.le_refl _)
    obtain ⟨w, h1, h2, -⟩ := Pt.star_least hy hback
    have := (h.mem w).2 ⟨h1, h2⟩
    rw [e] at this; cases this
/-- A link out of a siphon leads into it. -/
theorem sips_link {lk : Nat → Nat → Bool} {n : Nat} {sl : List Nat} (h : Pt.Sips lk n sl) (hn : n ≤ 64) {x z b : Nat} (hx : x ∈ sl) (hz : z ∈ Pt.listW x) (hb : b < n) (hl : lk z b = true) : b ∈ Pt.listW x := by
  obtain ⟨h1, h2⟩ := (h.mem x).1 hx
  have h64 : x < 2 ^ 64 := Nat.lt_of_lt_of_le h1 (Nat.pow_le_pow_right (by omega) hn)
  exact (Pt.mem_listW h64).2 ((Pt.least_star h1 h2 ((Pt.mem_listW h64).1 hz) b).2 (.step .refl hb hl))
end Ve
end Go.Proofs.YtfcbcpfnaadpeaaGreatDoor
/- Walks of package petri: isSet (of a set), IsSiphon (of a siphon). -/
namespace Go.Proofs.YtfcbcpfnaadpeaaGreatDoor
set_option linter.unusedSimpArgs false
set_option linter.unusedVariables false
open Go.RowKit

set_option maxRecDepth 100000 in
set_option maxHeartbeats 8000000 in
theorem isSet_yes (n : Nat) (v : Value) (l : List Nat) (w : World) (h : Is w v (Si.nn l)) (hs : l.Pairwise (· < ·)) (hn : ∀ j ∈ l, j < n) :
    Calls Tryz.prog 65 #[.int .i64 n, v] w fun e w' => e = .returned (.bool true) ∧ w = w' := by
  obtain ⟨a, ca, rfl, hma⟩ := h.form
  have H := Lib.hid h
  have HS : Hid (∀ i, (h1 : i + 1 < l.length) → l[i]'(by omega) < l[i + 1]) := Lib.hid (fun i h1 => List.pairwise_iff_getElem.1 hs i (i + 1) (by omega) h1 (by omega))
  have HN := Lib.hid hn
  rw [nn_len] at hma H ⊢
  obtain ⟨m, hm⟩ : ∃ m, l.length = m := ⟨_, rfl⟩
  rw [hm] at hma H ⊢
  have HM := Lib.hid hm
  clear h hs hn hm
  go_enter Tryz.func65, Tryz.ntmps65
  go_wp2_with fail
  go_loop [9] (fun iv => ∃ k : Nat, k ≤ m ∧ iv = .int .i64 k) (fun iv => m - (intOf iv).toNat)
  case atStart => exact ⟨0, by omega, rfl⟩
  case round =>
    obtain ⟨k, hk, rfl⟩ := hrel
    by_cases hkm : k < m
    · have hkl : k < l.length := by rw [HM.out]; exact hkm
      obtain ⟨b, o, e1, c1⟩ := H.out.cell k (by rw [nn_len]; exact hkl)
      subst e1
      obtain ⟨x, hx⟩ : ∃ x, l[k] = x := ⟨_, rfl⟩
      rw [show (Si.nn l)[k]'(by rw [nn_len]; exact hkl) = (x : Int) by simp [Si.nn, hx]] at c1
      have hxn : x < n := by rw [← hx]; exact HN.out _ (List.getElem_mem hkl)
      have k0 : (0 : Int) ≤ (k : Int) := by omega
      have k1 : (k : Int) < (m : Int) := by omega
      have x0 : ((x : Int) < 0) = False := by first | (simp; done) | (simp; omega)
      have x1 : ((x : Int) ≥ (n : Int)) = False := by first | (simp; done) | (simp; omega)
      have d0 : decide ((x : Int) < 0) = false := by first | (simp; done) | (simp; omega)
      have d1 : decide ((x : Int) ≥ (n : Int)) = false := by first | (simp; done) | (simp; omega)
      by_cases hk0 : k = 0
      · subst hk0
        rw [Nat.add_zero] at c1
        clear hx
        go_wp2_with fail
        go_round
        case rel => exact ⟨1, by omega, by go_num⟩
        case measure => simp [intOf]; omega
      · obtain ⟨j, rfl⟩ : ∃ j, k = j + 1 := ⟨k - 1, by omega⟩
        have hlt := HS.out j hkl
        obtain ⟨b2, o2, e2, c2⟩ := H.out.cell j (by rw [nn_len]; omega)
        injection e2 with e2; injection e2 with e2 e3; subst e2 e3
        obtain ⟨y, hy⟩ : ∃ y, l[j]'(by omega) = y := ⟨_, rfl⟩
        rw [show (Si.nn l)[j]'(by rw [nn_len]; omega) = (y : Int) by simp [Si.nn, hy]] at c2
        rw [hx, hy] at hlt
        have d2 : decide (((j + 1 : Nat) : Int) > 0) = true := by first | (simp; done) | (simp; omega)
        have d3 : decide ((y : Int) ≥ (x : Int)) = false := by first | (simp; done) | (simp; omega)
        have e4 : ((j + 1 : Nat) : Int) - 1 = (j : Int) := by omega
        have j0 : (0 : Int) ≤ (j : Int) := by omega
        have j1 : (j : Int) < (m : Int) := by omega
        clear hx hy
        go_wp2_with fail
        go_round
        case rel => exact ⟨j + 1 + 1, by omega, by go_num⟩
        case measure => simp [intOf]; omega
    · obtain rfl : k = m := by omega
      go_wp2_with fail
      go_ret
      exact ⟨rfl, rfl⟩
end Go.Proofs.YtfcbcpfnaadpeaaGreatDoor
/- Walks of package petri: IsSiphon (of a siphon). -/
namespace Go.Proofs.YtfcbcpfnaadpeaaGreatDoor
set_option linter.unusedSimpArgs false
set_option linter.unusedVariables false
open Go.RowKit

set_option maxRecDepth 100000 in
set_option maxHeartbeats 8000000 in
theorem isSiphon_yes (n : Nat) (tv sv : Value) (l : List (List Int × List Int)) (m : List Nat) (w : World) (ht : Tr w tv l) (hl : ∀ t ∈ l, (∀ p ∈ t.1, 0 ≤ p ∧ p < 64) ∧ ∀ p ∈ t.2, 0 ≤ p ∧ p < 64) (hll : l.length ≤ 1000000)
    (hs : Is w sv (Si.nn m)) (hso : m.Pairwise (· < ·)) (hmn : ∀ j ∈ m, j < n) (hn : n ≤ 64) (hcl : Pt.closedW (l.map edgeOf) (Si.wordI (Si.nn m)) = true) :
    Calls Tryz.prog 18 #[.agg #[.int .i64 n, tv], sv] w fun e w' => e = .returned (.bool true) ∧ Below w.heap.size w w' := by
  have h64 : ∀ p ∈ Si.nn m, 0 ≤ p ∧ p < 64 := fun p hp => by
    unfold Si.nn at hp
    obtain ⟨j, hj, rfl⟩ := List.mem_map.1 hp
    have := hmn j hj
    exact ⟨by show (0 : Int) ≤ (j : Int); omega, by show (j : Int) < 64; omega⟩
  have H1 := Lib.hid (fun W (hW : Below w.heap.size w W) => isSet_yes n sv m W (hs.keep hW) hso hmn)
  have H2 := Lib.hid (fun W (hW : Below w.heap.size w W) => edges_any (n : Int) tv l W (ht.keep hW) hl hll)
  have H3 := Lib.hid (fun W (hW : Below w.heap.size w W) => word_any sv (Si.nn m) W (hs.keep hW) h64)
  have HEL : Hid (∀ e ∈ l.map edgeOf, e.1 < 18446744073709551616 ∧ e.2 < 18446744073709551616) := Lib.hid (by
    intro e he
    obtain ⟨t, ht, rfl⟩ := List.mem_map.1 he
    exact ⟨wordI_lt (hl t ht).2, wordI_lt (hl t ht).1⟩)
  have H4 := Lib.hid (fun u W (h : Es W u (l.map edgeOf)) => closed_any u (l.map edgeOf) (Si.wordI (Si.nn m)) W HEL.out (wordI_lt h64) h)
  rw [hcl] at H4
  obtain ⟨ta, tc, rfl, htm⟩ := ht.form
  obtain ⟨sa, sc, rfl, hsm⟩ := hs.form
  obtain ⟨p, hp⟩ : ∃ p, p = l.length := ⟨_, rfl⟩
  obtain ⟨q, hq⟩ : ∃ p, p = (Si.nn m).length := ⟨_, rfl⟩
  rw [← hp] at H2
  rw [← hq] at H1 H3
  rw [← hp, ← hq]
  clear ht hl hll hs hso hmn hn hcl htm hsm hp hq h64
  obtain ⟨W, hW⟩ : ∃ W, W = w.alloc (.cells #[.int .i64 (n : Int), .slice ta p tc] 35) := ⟨_, rfl⟩
  have BW : Hid (Below w.heap.size w W) := Lib.hid (by rw [hW]; exact (Below.refl _ _).alloc (Nat.le_refl _) _)
  have IW : Hid (W.heap[w.heap.size]? = some (.cells #[.int .i64 (n : Int), .slice ta p tc] 35 (0, 0))) := Lib.hid (by rw [hW]; exact heap_alloc_new _ _)
  have HW := Lib.hid hW
  have q0 : W.cell? ⟨w.heap.size, 0, none⟩ = some (.int .i64 (n : Int)) := cell_of_heap IW.out 0 rfl
  have q1 : W.cell? ⟨w.heap.size, 1, none⟩ = some (.slice ta p tc) := cell_of_heap IW.out 1 rfl
  clear hW
  go_enter Tryz.func18, Tryz.ntmps18
  go_upto_region 1 with fail
  rw [← HW.out]
  go_wp2_with fail
  go_at_call 65; refine (H1.out W BW.out).mono ?_; rintro e w2 ⟨rfl, rfl⟩
  go_wp2_with fail
  go_at_call 54; refine (H2.out W BW.out).mono ?_; rintro e w3 ⟨u, rfl, hu, b3⟩
  have B3 := Lib.hid (BW.out.trans (b3.mono BW.out.size))
  have HU := Lib.hid hu
  clear b3 hu
  go_wp2_with fail
  go_at_call 66; refine (H3.out w3 B3.out).mono ?_; rintro e w4 ⟨rfl, rfl⟩
  go_wp2_with fail
  go_at_call 64; refine (H4.out u w3 HU.out).mono ?_; rintro e w5 ⟨rfl, h5⟩
  have B5 := Lib.hid (B3.out.trans (h5.1.mono B3.out.size))
  clear h5
  go_wp2_with fail
  go_ret
  exact ⟨rfl, B5.out⟩
end Go.Proofs.YtfcbcpfnaadpeaaGreatDoor
/- What the walk of VerifyEnds wants: each end is a siphon of the net; counts. -/
namespace Go.Proofs.YtfcbcpfnaadpeaaGreatDoor
set_option linter.unusedSimpArgs false
set_option linter.unusedVariables false
open Go.RowKit

theorem nn_has (l : List Nat) (j : Nat) : ((Si.nn l).any fun y => decide (y = (j : Int))) = decide (j ∈ l) := by
  rw [Bool.eq_iff_iff, List.any_eq_true, decide_eq_true_eq]
  constructor
  · rintro ⟨y, hy, h⟩
    obtain ⟨x, hx, rfl⟩ := List.mem_map.1 hy
    have e : x = j := by have : (x : Int) = (j : Int) := by simpa using h
                         omega
    subst e; exact hx
  · intro h
    exact ⟨(j : Int), List.mem_map.2 ⟨j, h, rfl⟩, by simp⟩
theorem hasN_any (v : Value) (l : List Nat) (j : Nat) (w : World) (h : Is w v (Si.nn l)) :
    Calls Tryz.prog 20 #[v, .int .i64 j] w fun e w' => e = .returned (.bool (decide (j ∈ l))) ∧ w = w' := by
  have := Has_any v (Si.nn l) (j : Int) w h
  rwa [nn_has] at this
theorem ins_small {lk : Nat → Nat → Bool} {n : Nat} {sl : List Nat} (h : Pt.Sips lk n sl) (j z : Nat) : (sl.take j).countP (fun w => w.testBit z) ≤ 1 :=
  Nat.le_trans (List.Sublist.countP_le (List.take_sublist ..)) (Pt.inside_le h z)
theorem ins_now {sl : List Nat} {n j : Nat} {cur : List Nat} {z : Nat} (hz : z < n) (h : z ∉ cur) : (Pt.insL sl n j cur)[z]? = some ((((sl.take j).countP (fun w => w.testBit z)) : Nat) : Int) := by
  rw [Pt.insL_get _ _ _ _ _ hz, if_neg h, Nat.add_zero]
theorem ins_end {sl : List Nat} {n z : Nat} (hz : z < n) : (Pt.insL sl n sl.length [])[z]? = some (((sl.countP (fun w => w.testBit z)) : Nat) : Int) := by
  rw [Pt.insL_get _ _ _ _ _ hz, List.take_length]; simp
theorem ints_get2 {l : List Int} {i : Nat} {n : Int} (h : l[i]? = some n) : (ints l).toArray[i]? = some (.int .i64 n) := by simp [ints, h]
theorem nodup_take_not {l : List Nat} (h : l.Nodup) {k : Nat} (hk : k < l.length) : l[k] ∉ l.take k := by
  intro hm
  obtain ⟨i, hi, e⟩ := List.getElem_of_mem hm
  rw [List.length_take] at hi
  rw [List.getElem_take] at e
  have := (List.nodup_iff_pairwise_ne.1 h)
  rw [List.pairwise_iff_getElem] at this
  exact this i k (by omega) hk (by omega) e
theorem netT_small {s : Si.Site} (hz : s.zones.length ≤ 64) : ∀ t ∈ Si.netT s, (∀ p ∈ t.1, 0 ≤ p ∧ p < 64) ∧ ∀ p ∈ t.2, 0 ≤ p ∧ p < 64 := by
  intro t ht
  unfold Si.netT at ht
  rw [List.mem_flatMap] at ht
  obtain ⟨a, ha, ht⟩ := ht
  rw [List.mem_map] at ht
  obtain ⟨b, hb, rfl⟩ := ht
  have h1 := (Si.mem_linksZ.1 hb).1
  rw [List.mem_range] at ha
  exact ⟨fun p hp => by simp at hp; omega, fun p hp => by simp at hp; omega⟩
theorem netT_len {s : Si.Site} (hz : s.zones.length ≤ 64) : (Si.netT s).length ≤ 1000000 := by
  have h1 := pairs_len s hz s.zones.length hz
  have h2 := congrArg List.length (pairs_net s)
  rw [List.length_map] at h2
  omega
theorem net_edges (s : Si.Site) : (Si.netT s).map edgeOf = Pt.edgesL (Si.linked s) s.zones.length := Si.edges_net s
theorem word_nn (l : List Nat) : Si.wordI (Si.nn l) = Pt.wordL l := by
  unfold Si.wordI Si.nn
  rw [List.map_map]
  congr 1
  conv => rhs; rw [← List.map_id l]
  rfl
theorem listW_sorted (x : Nat) : (Pt.listW x).Pairwise (· < ·) := by unfold Pt.listW; exact List.Pairwise.filter _ List.pairwise_lt_range
/-- The siphons of the net of a site: what petri.Siphons answers. -/
theorem sips20_any (s : Si.Site) (tv : Value) (sl : List Nat) (w : World) (hz : s.zones.length ≤ 14) (ht : Tr w tv (Si.netT s)) (hsl : Pt.Sips (Si.linked s) s.zones.length sl) (hE : Env w) :
    Calls Tryz.prog 16 #[.agg #[.int .i64 s.zones.length, tv]] w fun e w' => ∃ a c, e = .returned (.tuple #[.slice a sl.length c, .int .i64 0]) ∧ Below w.heap.size w w' ∧ Ll w' (.slice a sl.length c) (sl.map fun x => Si.nn (Pt.listW x)) := by
  refine (siphons_any s.zones.length tv (Si.netT s) w ht (netT_small (by omega)) (netT_len (by omega)) hz hE).mono ?_
  rintro e w' ⟨b, u, ws, rfl, hp, ho, hr⟩
  rw [net_edges] at hr
  have hs := sips_pick (lk := Si.linked s) (n := s.zones.length) (by omega) hp ho
  rw [Ve.sips_one hs hsl] at hr
  obtain ⟨a, c, rfl, -⟩ := hr.form
  exact ⟨a, c, rfl, b, hr.ll⟩
/-- An end is a siphon. -/
theorem endSip_any (s : Si.Site) (tv sv : Value) (sl : List Nat) (x : Nat) (w : World) (hz : s.zones.length ≤ 64) (ht : Tr w tv (Si.netT s)) (hsl : Pt.Sips (Si.linked s) s.zones.length sl) (hx : x ∈ sl) (hs : Is w sv (Si.nn (Pt.listW x))) :
    Calls Tryz.prog 18 #[.agg #[.int .i64 s.zones.length, tv], sv] w fun e w' => e = .returned (.bool true) ∧ Below w.heap.size w w' := by
  obtain ⟨h1, h2⟩ := (hsl.mem x).1 hx
  have h64 : x < 2 ^ 64 := Nat.lt_of_lt_of_le h1 (Nat.pow_le_pow_right (by omega) hz)
  refine isSiphon_yes s.zones.length tv sv (Si.netT s) (Pt.listW x) w ht (netT_small hz) (netT_len hz) hs (listW_sorted x) (fun j hj => Pt.sip_lt hz hsl hx hj) hz ?_
  rw [net_edges, word_nn, Pt.wordL_listW h64]
  exact h2.1
/-- Whether one gets from a zone to another one, at numbers of zones. -/
theorem getsN_any (s : Si.Site) (kv ov zv av sv rv : Value) (a b : Nat) (w : World) (h : SiV w kv ov zv av sv rv s) (hr : Si.Right s) (hk : Si.Ok s) (ha : a < s.zones.length) (hb : b < s.zones.length) :
    Calls Tryz.prog 19 #[siV s kv ov zv av sv rv, .int .i64 a, .int .i64 b] w fun e w' => e = .returned (.bool (Si.linked s a b)) ∧ Below w.heap.size w w' := by
  have := Gets_any s kv ov zv av sv rv (a : Int) (b : Int) w h hr hk
  rwa [getsB_nat s a b ha hb] at this
theorem same20_yes (va vb : Value) (xs : List (List Int)) (w : World) (hx : Ll w va xs) (hy : Ll w vb xs) :
    Calls Tryz.prog 17 #[va, vb] w fun e w' => e = .returned (.bool true) ∧ Below w.heap.size w w' := by
  have := rSame20_any va vb xs xs w hx hy
  rwa [decide_eq_true rfl] at this
theorem has_links {s : Si.Site} {a b : Nat} (hb : b < s.zones.length) : decide (b ∈ Si.linksZ s a) = Si.linked s a b := by
  rw [Bool.eq_iff_iff, decide_eq_true_eq, Si.mem_linksZ]
  exact ⟨fun h => h.2, fun h => ⟨hb, h⟩⟩
theorem sips_some20 {lk : Nat → Nat → Bool} {n : Nat} {sl : List Nat} (h : Pt.Sips lk n sl) : decide ((sl.length : Int) > 0) = decide ((n : Int) > 0) := by
  rw [Bool.eq_iff_iff, decide_eq_true_eq, decide_eq_true_eq]
  have h1 := Ve.sips_some h
  constructor
  · intro h2
    have h3 : sl ≠ [] := fun e => by subst e; simp at h2
    have := h1.1 h3; omega
  · intro h2
    have h3 := h1.2 (by omega)
    have := List.length_pos_iff.2 h3; omega
end Go.Proofs.YtfcbcpfnaadpeaaGreatDoor
/- The statement VerifyEnds: the walk. -/
namespace Go.Proofs.YtfcbcpfnaadpeaaGreatDoor
set_option linter.unusedSimpArgs false
set_option linter.unusedVariables false
open Go.RowKit

set_option maxRecDepth 100000 in
set_option maxHeartbeats 32000000 in
theorem VerifyEnds_any (s : Si.Site) (kv ov zv av sv rv : Value) (w : World) (h : SiV w kv ov zv av sv rv s) (hE : Env w) :
    Calls Tryz.prog 4 #[siV s kv ov zv av sv rv] w fun e w' => e = .returned (.bool true) ∧ Below w.heap.size w w' := by
  obtain ⟨a1, c1, a2, c2, a3, c3, a4, c4, a5, c5, a6, c6, rfl, rfl, rfl, rfl, rfl, rfl, m1, m2, m3, m4, m5, m6⟩ := h.open
  have HE := Lib.hid hE
  have HSM := Lib.hid (fun W (hb : Below w.heap.size w W) => small20_any W (hE.below hb))
  have HFA := Lib.hid (fun W (hb : Below w.heap.size w W) => fair20_any s (.slice a1 s.floor.kind.length c1) (.slice a2 s.floor.out.length c2) (.slice a3 s.zones.length c3) (.slice a4 s.aparts.length c4) (.slice a5 s.shelves.length c5) (.slice a6 s.robots.length c6) W (h.keep hb))
  have HEN := Lib.hid (fun (hf : FairV s) W (hb : Below w.heap.size w W) => Ends_any s (.slice a1 s.floor.kind.length c1) (.slice a2 s.floor.out.length c2) (.slice a3 s.zones.length c3) (.slice a4 s.aparts.length c4) (.slice a5 s.shelves.length c5) (.slice a6 s.robots.length c6) W (h.keep hb) hf.right hf.ok)
  have HNT := Lib.hid (fun (hf : FairV s) W (hb : Below w.heap.size w W) => Net_any s (.slice a1 s.floor.kind.length c1) (.slice a2 s.floor.out.length c2) (.slice a3 s.zones.length c3) (.slice a4 s.aparts.length c4) (.slice a5 s.shelves.length c5) (.slice a6 s.robots.length c6) W (h.keep hb) hf.ok)
  have HGT := Lib.hid (fun (hf : FairV s) (a b : Nat) ha hb W (hB : Below w.heap.size w W) => getsN_any s (.slice a1 s.floor.kind.length c1) (.slice a2 s.floor.out.length c2) (.slice a3 s.zones.length c3) (.slice a4 s.aparts.length c4) (.slice a5 s.shelves.length c5) (.slice a6 s.robots.length c6) a b W (h.keep hB) hf.right hf.ok ha hb)
  have HSP := Lib.hid (fun tv sl W hz ht (hsl : Pt.Sips (Si.linked s) s.zones.length sl) (hb : Below w.heap.size w W) => sips20_any s tv sl W hz ht hsl (hE.below hb))
  have HIS := Lib.hid (fun tv sv sl x W hz ht hsl hx hs => endSip_any s tv sv sl x W hz ht hsl hx hs)
  have HLK := Lib.hid (fun (hf : FairV s) W (hb : Below w.heap.size w W) => Links_any s (.slice a1 s.floor.kind.length c1) (.slice a2 s.floor.out.length c2) (.slice a3 s.zones.length c3) (.slice a4 s.aparts.length c4) (.slice a5 s.shelves.length c5) (.slice a6 s.robots.length c6) W (h.keep hb) hf.ok)
  obtain ⟨l1, e1⟩ : ∃ n, s.floor.kind.length = n := ⟨_, rfl⟩
  obtain ⟨l2, e2⟩ : ∃ n, s.floor.out.length = n := ⟨_, rfl⟩
  obtain ⟨l3, e3⟩ : ∃ n, s.zones.length = n := ⟨_, rfl⟩
  obtain ⟨l4, e4⟩ : ∃ n, s.aparts.length = n := ⟨_, rfl⟩
  obtain ⟨l5, e5⟩ : ∃ n, s.shelves.length = n := ⟨_, rfl⟩
  obtain ⟨l6, e6⟩ : ∃ n, s.robots.length = n := ⟨_, rfl⟩
  unfold siV at *
  rw [e1, e2, e3, e4, e5, e6] at HFA HEN HNT HGT HLK
  rw [e3] at HSP HIS
  rw [e1, e2, e3, e4, e5, e6]
  have E3 := Lib.hid e3
  clear h hE e1 e2 e3 e4 e5 e6
  obtain ⟨W, hW⟩ : ∃ W, W = w.alloc (.cells #[.int .i64 s.floor.w, .int .i64 s.floor.h, .int .i64 s.floor.d, .slice a1 l1 c1, .slice a2 l2 c2, .slice a3 l3 c3, .slice a4 l4 c4, .slice a5 l5 c5, .slice a6 l6 c6] 30) := ⟨_, rfl⟩
  have BW : Hid (Below w.heap.size w W) := Lib.hid (by rw [hW]; exact (Below.refl _ _).alloc (Nat.le_refl _) _)
  have IW : Hid (W.heap[w.heap.size]? = some (.cells #[.int .i64 s.floor.w, .int .i64 s.floor.h, .int .i64 s.floor.d, .slice a1 l1 c1, .slice a2 l2 c2, .slice a3 l3 c3, .slice a4 l4 c4, .slice a5 l5 c5, .slice a6 l6 c6] 30 (0, 0))) := Lib.hid (by rw [hW]; exact heap_alloc_new _ _)
  have HW := Lib.hid hW
  clear hW
  go_enter Tryz.func4, Tryz.ntmps4
  go_upto_region 1 with fail
  rw [← HW.out]
  go_wp2_with fail
  go_at_call 10; refine (HSM.out W BW.out).mono ?_; rintro e w1 ⟨rfl, b1⟩
  have B1 := Lib.hid (BW.out.trans (b1.mono BW.out.size))
  have I1 := Lib.hid (keep_heap IW.out b1)
  clear b1
  have p0 : w1.cell? ⟨w.heap.size, 0, none⟩ = some (.int .i64 s.floor.w) := cell_of_heap I1.out 0 rfl
  have p1 : w1.cell? ⟨w.heap.size, 1, none⟩ = some (.int .i64 s.floor.h) := cell_of_heap I1.out 1 rfl
  have p2 : w1.cell? ⟨w.heap.size, 2, none⟩ = some (.int .i64 s.floor.d) := cell_of_heap I1.out 2 rfl
  have p3 : w1.cell? ⟨w.heap.size, 3, none⟩ = some (.slice a1 l1 c1) := cell_of_heap I1.out 3 rfl
  have p4 : w1.cell? ⟨w.heap.size, 4, none⟩ = some (.slice a2 l2 c2) := cell_of_heap I1.out 4 rfl
  have p5 : w1.cell? ⟨w.heap.size, 5, none⟩ = some (.slice a3 l3 c3) := cell_of_heap I1.out 5 rfl
  have p6 : w1.cell? ⟨w.heap.size, 6, none⟩ = some (.slice a4 l4 c4) := cell_of_heap I1.out 6 rfl
  have p7 : w1.cell? ⟨w.heap.size, 7, none⟩ = some (.slice a5 l5 c5) := cell_of_heap I1.out 7 rfl
  have p8 : w1.cell? ⟨w.heap.size, 8, none⟩ = some (.slice a6 l6 c6) := cell_of_heap I1.out 8 rfl
  go_wp2_with fail
  go_at_call 11; refine (HFA.out w1 B1.out).mono ?_; rintro e w2 ⟨⟨rb, rfl, hrb⟩, b2⟩
  have HRB := Lib.hid hrb
  have B2 := Lib.hid (B1.out.trans (b2.mono B1.out.size))
  have I2 := Lib.hid (keep_heap I1.out b2)
  clear b2 hrb
  clear p0 p1 p2 p3 p4 p5 p6 p7 p8
  cases rb with
  | false =>
    go_wp2_with fail
    go_ret
    exact ⟨rfl, B2.out⟩
  | true =>
    have HF := Lib.hid (HRB.out rfl)
    clear HRB
    have p0 : w2.cell? ⟨w.heap.size, 0, none⟩ = some (.int .i64 s.floor.w) := cell_of_heap I2.out 0 rfl
    have p1 : w2.cell? ⟨w.heap.size, 1, none⟩ = some (.int .i64 s.floor.h) := cell_of_heap I2.out 1 rfl
    have p2 : w2.cell? ⟨w.heap.size, 2, none⟩ = some (.int .i64 s.floor.d) := cell_of_heap I2.out 2 rfl
    have p3 : w2.cell? ⟨w.heap.size, 3, none⟩ = some (.slice a1 l1 c1) := cell_of_heap I2.out 3 rfl
    have p4 : w2.cell? ⟨w.heap.size, 4, none⟩ = some (.slice a2 l2 c2) := cell_of_heap I2.out 4 rfl
    have p5 : w2.cell? ⟨w.heap.size, 5, none⟩ = some (.slice a3 l3 c3) := cell_of_heap I2.out 5 rfl
    have p6 : w2.cell? ⟨w.heap.size, 6, none⟩ = some (.slice a4 l4 c4) := cell_of_heap I2.out 6 rfl
    have p7 : w2.cell? ⟨w.heap.size, 7, none⟩ = some (.slice a5 l5 c5) := cell_of_heap I2.out 7 rfl
    have p8 : w2.cell? ⟨w.heap.size, 8, none⟩ = some (.slice a6 l6 c6) := cell_of_heap I2.out 8 rfl
    go_wp2_with fail
    go_at_call 14; refine (HEN.out HF.out w2 B2.out).mono ?_; rintro e w3 ⟨b3, ev, sl, rfl, hsl, hll⟩
    obtain ⟨ea, ec, rfl, hem⟩ := hll.form
    obtain ⟨SL, hSL⟩ : ∃ n, sl.length = n := ⟨_, rfl⟩
    rw [List.length_map, hSL] at hll hem ⊢
    have HSLn := Lib.hid hSL
    have HSL := Lib.hid hsl
    have HLL := Lib.hid hll
    have B3 := Lib.hid (B2.out.trans (b3.mono B2.out.size))
    have I3 := Lib.hid (keep_heap I2.out b3)
    clear b3 hsl hll hSL
    clear p0 p1 p2 p3 p4 p5 p6 p7 p8
    have p0 : w3.cell? ⟨w.heap.size, 0, none⟩ = some (.int .i64 s.floor.w) := cell_of_heap I3.out 0 rfl
    have p1 : w3.cell? ⟨w.heap.size, 1, none⟩ = some (.int .i64 s.floor.h) := cell_of_heap I3.out 1 rfl
    have p2 : w3.cell? ⟨w.heap.size, 2, none⟩ = some (.int .i64 s.floor.d) := cell_of_heap I3.out 2 rfl
    have p3 : w3.cell? ⟨w.heap.size, 3, none⟩ = some (.slice a1 l1 c1) := cell_of_heap I3.out 3 rfl
    have p4 : w3.cell? ⟨w.heap.size, 4, none⟩ = some (.slice a2 l2 c2) := cell_of_heap I3.out 4 rfl
    have p5 : w3.cell? ⟨w.heap.size, 5, none⟩ = some (.slice a3 l3 c3) := cell_of_heap I3.out 5 rfl
    have p6 : w3.cell? ⟨w.heap.size, 6, none⟩ = some (.slice a4 l4 c4) := cell_of_heap I3.out 6 rfl
    have p7 : w3.cell? ⟨w.heap.size, 7, none⟩ = some (.slice a5 l5 c5) := cell_of_heap I3.out 7 rfl
    have p8 : w3.cell? ⟨w.heap.size, 8, none⟩ = some (.slice a6 l6 c6) := cell_of_heap I3.out 8 rfl
    go_wp2_with fail
    go_at_call 15; refine (HNT.out HF.out w3 B3.out).mono ?_; rintro e w4 ⟨nv, rfl, hnt, b4⟩
    have HTR := Lib.hid hnt.tr
    have HPN := pairs_net s
    rw [E3.out] at HPN
    rw [HPN] at HTR
    clear HPN
    obtain ⟨na, nc, rfl, hnm⟩ := hnt.form
    obtain ⟨np, hnp⟩ : ∃ p, p = (pairsTo s l3).length := ⟨_, rfl⟩
    have HTL : Hid ((Si.netT s).length = np) := Lib.hid (by have h9 := congrArg List.length (pairs_net s); rw [E3.out, List.length_map] at h9; omega)
    rw [← hnp] at HTR hnm
    rw [← hnp]
    have B4 := Lib.hid (B3.out.trans (b4.mono B3.out.size))
    have I4 := Lib.hid (keep_heap I3.out b4)
    have HL4 := Lib.hid (HLL.out.keep b4)
    clear b4 hnt hnp
    clear p0 p1 p2 p3 p4 p5 p6 p7 p8
    obtain ⟨W5, hW5⟩ : ∃ W, W = w4.alloc (.cells #[.int .i64 (l3 : Int), .slice na np nc] 35) := ⟨_, rfl⟩
    have BA5 : Hid (Below w4.heap.size w4 W5) := Lib.hid (by rw [hW5]; exact (Below.refl _ _).alloc (Nat.le_refl _) _)
    have IN5 : Hid (W5.heap[w4.heap.size]? = some (.cells #[.int .i64 (l3 : Int), .slice na np nc] 35 (0, 0))) := Lib.hid (by rw [hW5]; exact heap_alloc_new _ _)
    have HW5 := Lib.hid hW5
    have B5 := Lib.hid (B4.out.trans (BA5.out.mono B4.out.size))
    have q0 : W5.cell? ⟨w4.heap.size, 0, none⟩ = some (.int .i64 (l3 : Int)) := cell_of_heap IN5.out 0 rfl
    have q1 : W5.cell? ⟨w4.heap.size, 1, none⟩ = some (.slice na np nc) := cell_of_heap IN5.out 1 rfl
    clear hW5
    have hz14 : l3 ≤ 10 := by have := HF.out.zn; rw [E3.out] at this; exact this
    have HP5 := Lib.hid (HSP.out (.slice na np nc) sl W5 (by omega) (HTR.out.keep BA5.out) HSL.out B5.out)
    go_upto_region 6 with fail
    rw [← HW5.out]
    go_wp2_with fail
    go_at_call 16; refine HP5.out.mono ?_; rintro e w6 ⟨pa, pc, rfl, b6, hp6⟩
    rw [HSLn.out] at hp6 ⊢
    have HP6 := Lib.hid hp6
    have B6 := Lib.hid (B5.out.trans (b6.mono B5.out.size))
    have I6 := Lib.hid (keep_heap (keep_heap I4.out BA5.out) b6)
    have IN6 := Lib.hid (keep_heap IN5.out b6)
    have HL6 := Lib.hid ((HL4.out.keep BA5.out).keep b6)
    have HT6 := Lib.hid ((HTR.out.keep BA5.out).keep b6)
    clear b6 hp6 q0 q1
    go_wp2_with fail
    go_at_call 17; refine (same20_yes (.slice ea SL ec) (.slice pa SL pc) _ w6 HL6.out HP6.out).mono ?_; rintro e w7 ⟨rfl, b7⟩
    have B7 := Lib.hid (B6.out.trans (b7.mono B6.out.size))
    have I7 := Lib.hid (keep_heap I6.out b7)
    have IN7 := Lib.hid (keep_heap IN6.out b7)
    have HL7 := Lib.hid (HL6.out.keep b7)
    have HT7 := Lib.hid (HT6.out.keep b7)
    have lw7 : w.heap.size < w7.heap.size := heap_lt I7.out
    have ln7 : w4.heap.size < w7.heap.size := heap_lt IN7.out
    clear b7 hnm
    have p5 : w7.cell? ⟨w.heap.size, 5, none⟩ = some (.slice a3 l3 c3) := cell_of_heap I7.out 5 rfl
    have hmk := make_ints l3 (l3 : Int) rfl (by omega)
    have Q0 : Hid ((w7.alloc (.cells (madeCells #[.int .i64 0] l3) 3)).heap[w7.heap.size]? = some (.cells (ints (Pt.insL sl l3 0 [])).toArray 3 (0, 0))) := Lib.hid (by
      rw [made_intsN, Pt.insL_zero]
      exact heap_alloc_new _ _)
    have R0 : Hid (Below w7.heap.size w7 (w7.alloc (.cells (madeCells #[.int .i64 0] l3) 3))) := Lib.hid ((Below.refl _ _).alloc (Nat.le_refl _) _)
    go_wp2_with fail
    go_loopw [9] (fun iv wr => ∃ j : Nat, j ≤ SL ∧ iv = .int .i64 j ∧ Hid (wr.heap[w7.heap.size]? = some (.cells (ints (Pt.insL sl l3 j [])).toArray 3 (0, 0))) ∧ Hid (Below w7.heap.size w7 wr)) (fun iv _ => SL - (intOf iv).toNat)
    case atStart => exact ⟨0, by omega, rfl, Q0, R0⟩
    case round =>
      clear Q0 R0 p5 hmk
      obtain ⟨j, hj, rfl, HQ, HB⟩ := hrel
      obtain ⟨wo, rfl⟩ : ∃ wo : World, wo = wr := ⟨_, rfl⟩
      have ino := keep_heap IN7.out HB.out
      have lno : w4.heap.size < wo.heap.size := heap_lt ino
      by_cases hjl : j < SL
      · have hjs : j < sl.length := by rw [HSLn.out]; exact hjl
        obtain ⟨sb, so, u, e4, hcu, hiu⟩ := HL7.out.cell j (by rw [List.length_map]; exact hjs)
        subst e4
        rw [List.getElem_map] at hiu
        have HXM : Hid (sl[j] ∈ sl) := Lib.hid (List.getElem_mem hjs)
        have HIN : Hid (sl[j] < 2 ^ 64 → Pt.insL sl l3 j (Pt.listW sl[j]) = Pt.insL sl l3 (j + 1) []) := Lib.hid (fun h => Pt.insL_next sl l3 j hjs h)
        obtain ⟨x, hx⟩ : ∃ x, sl[j] = x := ⟨_, rfl⟩
        rw [hx] at hiu HXM HIN
        have hx64 : x < 2 ^ 64 := Nat.lt_of_lt_of_le ((HSL.out.mem x).1 HXM.out).1 (Nat.pow_le_pow_right (by omega) (by omega))
        have HI2 := Lib.hid (HIN.out hx64)
        have hl64 := listW_len x
        have HLT : Hid (∀ i ∈ Pt.listW x, i < l3) := Lib.hid (fun i hi => Pt.sip_lt (by omega) HSL.out HXM.out hi)
        have HND : Hid ((Pt.listW x).Nodup) := Lib.hid (Pt.listW_nodup x)
        have HLN : Hid (∀ z b : Nat, z ∈ Pt.listW x → b < l3 → Si.linked s z b = true → decide (b ∈ Pt.listW x) = true) := Lib.hid (fun z b hz hb hl => decide_eq_true (Ve.sips_link HSL.out (by omega) HXM.out hz hb hl))
        have HS1 := Lib.hid (fun W hs => HIS.out (.slice na np nc) u sl x W (by omega) (HT7.out.keep hs) HSL.out HXM.out (hiu.keep hs))
        obtain ⟨LW, hLW⟩ : ∃ l, Pt.listW x = l := ⟨_, rfl⟩
        rw [hLW] at hiu hl64 HLT HND HI2 HLN
        obtain ⟨m, hm⟩ : ∃ m, LW.length = m := ⟨_, rfl⟩
        rw [hm] at hl64
        obtain ⟨ua, uc, hus, -⟩ := hiu.form
        subst hus
        rw [nn_len, hm] at hcu hiu HS1
        have HCU := Lib.hid hcu
        have HIU := Lib.hid hiu
        have HM := Lib.hid hm
        have j0 : (0 : Int) ≤ (j : Int) := by omega
        have j1 : (j : Int) < (SL : Int) := by omega
        have hcu2 : wo.cell? ⟨sb, so + j, none⟩ = some (.slice ua m uc) := (HB.out.cell (p := ⟨sb, so + j, none⟩) (cell_block_lt hcu)).trans hcu
        have q0 : wo.cell? ⟨w4.heap.size, 0, none⟩ = some (.int .i64 (l3 : Int)) := cell_of_heap ino 0 rfl
        have q1 : wo.cell? ⟨w4.heap.size, 1, none⟩ = some (.slice na np nc) := cell_of_heap ino 1 rfl
        have HS2 := Lib.hid (fun W' (hb : Below wo.heap.size wo W') => HS1.out W' (HB.out.trans (hb.mono HB.out.size)))
        have BX0 : Below wo.heap.size wo wo.drew := below_drewN _ _ 1
        have lsb : sb < wo.heap.size := cell_block_lt hcu2
        clear hiu hcu hm hx hLW hx64 HIN HS1 ino
        go_upto_region 13 with fail
        go_region_held3 (fun w' => w'.cell? ⟨w4.heap.size, 0, none⟩ = some (.int .i64 (l3 : Int)) ∧ w'.cell? ⟨w4.heap.size, 1, none⟩ = some (.slice na np nc) ∧ w'.cell? ⟨sb, so + j, none⟩ = some (.slice ua m uc)) (go_keep)
          ((go_at_call 18; refine (HS2.out _ BX0).mono ?_; rintro e w8 ⟨rfl, b8⟩; have BX : Below wo.heap.size wo w8 := BX0.trans b8; have s0 := (BX.cell (p := ⟨w4.heap.size, 0, none⟩) lno).trans q0; have s1 := (BX.cell (p := ⟨w4.heap.size, 1, none⟩) lno).trans q1; have s2 := (BX.cell (p := ⟨sb, so + j, none⟩) lsb).trans hcu2; clear b8))
        have HB8 := Lib.hid (HB.out.trans (BX.mono HB.out.size))
        have Q8 : Hid (w8.heap[w7.heap.size]? = some (.cells (ints (Pt.insL sl l3 j (LW.take 0))).toArray 3 (0, 0))) := Lib.hid (by rw [List.take_zero]; exact keep_heap HQ.out BX)
        clear BX BX0 s0 s1 s2 lsb q0 q1 hcu2 lno HQ HB HS2
        go_wp2_with fail
        go_loopw [10] (fun kv wr => ∃ k : Nat, k ≤ m ∧ kv = .int .i64 k ∧ Hid (wr.heap[w7.heap.size]? = some (.cells (ints (Pt.insL sl l3 j (LW.take k))).toArray 3 (0, 0))) ∧ Hid (Below w7.heap.size w7 wr)) (fun kv _ => m - (intOf kv).toNat)
        case atStart => exact ⟨0, by omega, rfl, Q8, HB8⟩
        case round =>
          clear Q8 HB8
          obtain ⟨k, hk, rfl, HQ, HB⟩ := hrel
          have hcu2 : wr.cell? ⟨sb, so + j, none⟩ = some (.slice ua m uc) := (HB.out.cell (p := ⟨sb, so + j, none⟩) (cell_block_lt HCU.out)).trans HCU.out
          by_cases hkm : k < m
          · have hkl : k < LW.length := by rw [HM.out]; exact hkm
            obtain ⟨ub, uo, e5, hcp⟩ := HIU.out.cell k (by rw [nn_len]; exact hkl)
            subst e5
            have hpa := HLT.out _ (List.getElem_mem hkl)
            have HNT2 := Lib.hid (nodup_take_not HND.out hkl)
            have HTK : Hid (LW.take (k + 1) = LW.take k ++ [LW[k]]) := Lib.hid (List.take_succ_eq_append_getElem hkl)
            have HLP := Lib.hid (fun b hb hl => HLN.out _ b (List.getElem_mem hkl) hb hl)
            obtain ⟨p, hp⟩ : ∃ p, LW[k] = p := ⟨_, rfl⟩
            rw [show (Si.nn LW)[k]'(by rw [nn_len]; exact hkl) = (p : Int) by simp [Si.nn, hp]] at hcp
            rw [hp] at hpa HNT2 HTK HLP
            have hcpr : wr.cell? ⟨ub, uo + k, none⟩ = some (.int .i64 p) := (HB.out.cell (p := ⟨ub, uo + k, none⟩) (cell_block_lt hcp)).trans hcp
            have hnw := ins_now (sl := sl) (n := l3) (j := j) (cur := LW.take k) hpa HNT2.out
            have hst := Pt.insL_step sl l3 j (LW.take k) p HNT2.out
            have hsm := ins_small HSL.out j p
            rw [← HTK.out] at hst
            obtain ⟨CC, hCC⟩ : ∃ c, (sl.take j).countP (fun w => w.testBit p) = c := ⟨_, rfl⟩
            rw [hCC] at hnw hst hsm
            have n0 : wr.cell? ⟨w7.heap.size, p, none⟩ = some (.int .i64 CC) := cell_of_heap HQ.out p (ints_get2 hnw)
            have n1 : wr.frozen? ⟨w7.heap.size, p, none⟩ = false := free_of_heap HQ.out p
            have lq : w7.heap.size < wr.heap.size := heap_lt HQ.out
            have k0 : (0 : Int) ≤ (k : Int) := by omega
            have k1 : (k : Int) < (m : Int) := by omega
            have pp0 : (0 : Int) ≤ (p : Int) := by omega
            have pp1 : (p : Int) < (l3 : Int) := by omega
            have dz1 : decide ((p : Int) < 0) = false := by first | (simp; done) | (simp; omega)
            have dz2 : decide (l3 ≤ p) = false := by first | (simp; done) | (simp; omega)
            have dz3 : decide ((p : Int) ≥ (l3 : Int)) = false := by first | (simp; done) | (simp; omega)
            have HQS : Hid ((wr.setCell ⟨w7.heap.size, p, none⟩ (.int .i64 ((CC : Int) + 1))).heap[w7.heap.size]? = some (.cells (ints (Pt.insL sl l3 j (LW.take (k + 1)))).toArray 3 (0, 0))) := Lib.hid (by
              have h9 := set_heap HQ.out p (.int .i64 ((CC : Int) + 1))
              rw [ints_set, ← hst] at h9
              exact h9)
            have HBS : Hid (Below w7.heap.size w7 (wr.setCell ⟨w7.heap.size, p, none⟩ (.int .i64 ((CC : Int) + 1)))) := Lib.hid (HB.out.setCell (Nat.le_refl _) _)
            clear hp hcp hnw hst hCC HNT2 HTK
            go_wp2_with fail
            go_loopw [12] (fun bv wr => ∃ b : Nat, b ≤ l3 ∧ bv = .int .i64 b ∧ Hid (wr.heap[w7.heap.size]? = some (.cells (ints (Pt.insL sl l3 j (LW.take (k + 1)))).toArray 3 (0, 0))) ∧ Hid (Below w7.heap.size w7 wr)) (fun bv _ => l3 - (intOf bv).toNat)
            case atStart => exact ⟨0, by omega, rfl, HQS, HBS⟩
            case round =>
              clear HQS HBS HQ HB hcu2 hcpr n0 n1 lq
              obtain ⟨b, hb, rfl, HQ, HB⟩ := hrel
              by_cases hbl : b < l3
              · have BR := Lib.hid (B7.out.trans (HB.out.mono B7.out.size))
                have JR := Lib.hid (keep_heap I7.out HB.out)
                have HG := Lib.hid (HGT.out HF.out p b hpa hbl wr BR.out)
                have HLB := Lib.hid (fun h => HLP.out b hbl h)
                obtain ⟨T, hT⟩ : ∃ T, Si.linked s p b = T := ⟨_, rfl⟩
                rw [hT] at HG HLB
                clear hT
                have b0 : (0 : Int) ≤ (b : Int) := by omega
                have b1 : (b : Int) < (l3 : Int) := by omega
                have hcu2 : wr.cell? ⟨sb, so + j, none⟩ = some (.slice (some ⟨ub, uo, none⟩) m uc) := (HB.out.cell (p := ⟨sb, so + j, none⟩) (cell_block_lt HCU.out)).trans HCU.out
                have lsb : sb < wr.heap.size := cell_block_lt hcu2
                have p0 : wr.cell? ⟨w.heap.size, 0, none⟩ = some (.int .i64 s.floor.w) := cell_of_heap JR.out 0 rfl
                have p1 : wr.cell? ⟨w.heap.size, 1, none⟩ = some (.int .i64 s.floor.h) := cell_of_heap JR.out 1 rfl
                have p2 : wr.cell? ⟨w.heap.size, 2, none⟩ = some (.int .i64 s.floor.d) := cell_of_heap JR.out 2 rfl
                have p3 : wr.cell? ⟨w.heap.size, 3, none⟩ = some (.slice a1 l1 c1) := cell_of_heap JR.out 3 rfl
                have p4 : wr.cell? ⟨w.heap.size, 4, none⟩ = some (.slice a2 l2 c2) := cell_of_heap JR.out 4 rfl
                have p5 : wr.cell? ⟨w.heap.size, 5, none⟩ = some (.slice a3 l3 c3) := cell_of_heap JR.out 5 rfl
                have p6 : wr.cell? ⟨w.heap.size, 6, none⟩ = some (.slice a4 l4 c4) := cell_of_heap JR.out 6 rfl
                have p7 : wr.cell? ⟨w.heap.size, 7, none⟩ = some (.slice a5 l5 c5) := cell_of_heap JR.out 7 rfl
                have p8 : wr.cell? ⟨w.heap.size, 8, none⟩ = some (.slice a6 l6 c6) := cell_of_heap JR.out 8 rfl
                go_wp2_with fail
                go_at_call 19; refine HG.out.mono ?_; rintro e w9 ⟨rfl, b9⟩
                have HB9 := Lib.hid (HB.out.trans (b9.mono HB.out.size))
                have HQ9 := Lib.hid (keep_heap HQ.out b9)
                have hcu9 : w9.cell? ⟨sb, so + j, none⟩ = some (.slice (some ⟨ub, uo, none⟩) m uc) := (b9.cell (p := ⟨sb, so + j, none⟩) lsb).trans hcu2
                clear b9 hcu2 lsb
                clear p0 p1 p2 p3 p4 p5 p6 p7 p8
                cases T with
                | false =>
                  go_wp2_with fail
                  go_roundw
                  case rel => exact ⟨b + 1, by omega, by go_num, HQ9, HB9⟩
                  case measure => simp [intOf]; omega
                | true =>
                  have HD := Lib.hid (HLB.out rfl)
                  have HH := Lib.hid (fun W (hW : Below w7.heap.size w7 W) => hasN_any (.slice (some ⟨ub, uo, none⟩) m uc) LW b W (HIU.out.keep hW))
                  rw [HD.out] at HH
                  go_wp2_with fail
                  go_at_call 20; refine (HH.out w9 HB9.out).mono ?_; rintro e w10 ⟨rfl, rfl⟩
                  go_wp2_with fail
                  go_roundw
                  case rel => exact ⟨b + 1, by omega, by go_num, HQ9, HB9⟩
                  case measure => simp [intOf]; omega
              · obtain rfl : l3 = b := by omega
                go_wp2_with fail
                go_roundw
                case rel => exact ⟨k + 1, by omega, by go_num, HQ, HB⟩
                case measure => simp [intOf]; omega
          · obtain rfl : m = k := by omega
            have HQ2 : Hid (wr.heap[w7.heap.size]? = some (.cells (ints (Pt.insL sl l3 (j + 1) [])).toArray 3 (0, 0))) := Lib.hid (by
              have h9 := HQ.out
              rw [List.take_of_length_le (by rw [HM.out]; omega), HI2.out] at h9
              exact h9)
            go_wp2_with fail
            go_roundw
            case rel => exact ⟨j + 1, by omega, by go_num, HQ2, HB⟩
            case measure => simp [intOf]; omega
      · obtain rfl : SL = j := by omega
        have HQE : Hid (wo.heap[w7.heap.size]? = some (.cells (ints (Pt.insL sl l3 sl.length [])).toArray 3 (0, 0))) := Lib.hid (by rw [HSLn.out]; exact HQ.out)
        have BO := Lib.hid (B7.out.trans (HB.out.mono B7.out.size))
        have IO := Lib.hid (keep_heap I7.out HB.out)
        have p0 : wo.cell? ⟨w.heap.size, 0, none⟩ = some (.int .i64 s.floor.w) := cell_of_heap IO.out 0 rfl
        have p1 : wo.cell? ⟨w.heap.size, 1, none⟩ = some (.int .i64 s.floor.h) := cell_of_heap IO.out 1 rfl
        have p2 : wo.cell? ⟨w.heap.size, 2, none⟩ = some (.int .i64 s.floor.d) := cell_of_heap IO.out 2 rfl
        have p3 : wo.cell? ⟨w.heap.size, 3, none⟩ = some (.slice a1 l1 c1) := cell_of_heap IO.out 3 rfl
        have p4 : wo.cell? ⟨w.heap.size, 4, none⟩ = some (.slice a2 l2 c2) := cell_of_heap IO.out 4 rfl
        have p5 : wo.cell? ⟨w.heap.size, 5, none⟩ = some (.slice a3 l3 c3) := cell_of_heap IO.out 5 rfl
        have p6 : wo.cell? ⟨w.heap.size, 6, none⟩ = some (.slice a4 l4 c4) := cell_of_heap IO.out 6 rfl
        have p7 : wo.cell? ⟨w.heap.size, 7, none⟩ = some (.slice a5 l5 c5) := cell_of_heap IO.out 7 rfl
        have p8 : wo.cell? ⟨w.heap.size, 8, none⟩ = some (.slice a6 l6 c6) := cell_of_heap IO.out 8 rfl
        clear HQ ino lno
        go_wp2_with fail
        go_at_call 21; refine (HLK.out HF.out wo BO.out).mono ?_; rintro e w9 ⟨g, n, rfl, hn, hlk, b9⟩
        obtain rfl : l3 = n := hn.symm
        have HLV := Lib.hid hlk
        have B9 := Lib.hid (BO.out.trans (b9.mono BO.out.size))
        have I9 := Lib.hid (keep_heap IO.out b9)
        have Q9 := Lib.hid (keep_heap HQE.out b9)
        have HLE : Hid ((Si.linksL s).length = l3) := Lib.hid (by rw [Si.linksL_len, E3.out])
        clear b9 hlk hn
        clear p0 p1 p2 p3 p4 p5 p6 p7 p8
        have lg9 : w.heap.size < w9.heap.size := heap_lt I9.out
        clear lw7 ln7
        go_wp2_with fail
        go_loopw [14] (fun av wr => ∃ a : Nat, a ≤ l3 ∧ av = .int .i64 a ∧ Hid (Below w9.heap.size w9 wr)) (fun av _ => l3 - (intOf av).toNat)
        case atStart => exact ⟨0, by omega, rfl, Lib.hid (Below.refl _ _)⟩
        case round =>
          obtain ⟨a, ha, rfl, HBA⟩ := hrel
          by_cases hal : a < l3
          · have ha0 : (0 : Int) ≤ (a : Int) := by omega
            have ha1 : (a : Int) < (l3 : Int) := by omega
            go_wp2_with fail
            go_loopw [15] (fun bv wr => ∃ b : Nat, b ≤ l3 ∧ bv = .int .i64 b ∧ Hid (Below w9.heap.size w9 wr)) (fun bv _ => l3 - (intOf bv).toNat)
            case atStart => exact ⟨0, by omega, rfl, HBA⟩
            case round =>
              clear HBA
              obtain ⟨b, hb, rfl, HBB⟩ := hrel
              by_cases hbl : b < l3
              · have BR := Lib.hid (B9.out.trans (HBB.out.mono B9.out.size))
                have JR := Lib.hid (keep_heap I9.out HBB.out)
                have QR := Lib.hid (keep_heap Q9.out HBB.out)
                have lwr : w.heap.size < wr.heap.size := heap_lt JR.out
                obtain ⟨gb, go', u, e4, hcu, hiu⟩ := (HLV.out.keep HBB.out).cell a (by rw [HLE.out]; exact hal)
                injection e4 with e4; injection e4 with e4 e5; subst e4 e5
                rw [Nat.zero_add] at hcu
                rw [Si.linksL_get s a (by rw [E3.out]; exact hal)] at hiu
                have HHL : Hid (decide (b ∈ Si.linksZ s a) = Si.linked s a b) := Lib.hid (has_links (by rw [E3.out]; exact hbl))
                have HH := Lib.hid (fun W' (hW : Below wr.heap.size wr W') => hasN_any u (Si.linksZ s a) b W' (hiu.keep hW))
                have HG := Lib.hid (fun W' (hW : Below wr.heap.size wr W') => HGT.out HF.out a b hal hbl W' (BR.out.trans (hW.mono BR.out.size)))
                rw [HHL.out] at HH
                obtain ⟨T, hT⟩ : ∃ T, Si.linked s a b = T := ⟨_, rfl⟩
                rw [hT] at HG HH
                obtain ⟨ua, uc, hus, -⟩ := hiu.form
                subst hus
                obtain ⟨m, hm⟩ : ∃ m, (Si.nn (Si.linksZ s a)).length = m := ⟨_, rfl⟩
                rw [hm] at hcu HH
                have hie := ins_end (sl := sl) (n := l3) hal
                have hil := Pt.inside_le HSL.out a
                obtain ⟨X, hX⟩ : ∃ c, sl.countP (fun w => w.testBit a) = c := ⟨_, rfl⟩
                rw [hX] at hie hil
                have x1 : wr.cell? ⟨w7.heap.size, a, none⟩ = some (.int .i64 X) := cell_of_heap QR.out a (ints_get2 hie)
                have dx : decide ((X : Int) > 1) = false := by first | (simp; done) | (simp; omega)
                have dx2 : ¬ (X : Int) > 1 := by omega
                have lg7 : w7.heap.size < wr.heap.size := heap_lt QR.out
                have lgg : g < wr.heap.size := cell_block_lt hcu
                have b0 : (0 : Int) ≤ (b : Int) := by omega
                have b1 : (b : Int) < (l3 : Int) := by omega
                have BX : Below wr.heap.size wr wr.drew := below_drewN _ _ 1
                clear hT hiu hm hie hX hil
                have p0 : wr.cell? ⟨w.heap.size, 0, none⟩ = some (.int .i64 s.floor.w) := cell_of_heap JR.out 0 rfl
                have p1 : wr.cell? ⟨w.heap.size, 1, none⟩ = some (.int .i64 s.floor.h) := cell_of_heap JR.out 1 rfl
                have p2 : wr.cell? ⟨w.heap.size, 2, none⟩ = some (.int .i64 s.floor.d) := cell_of_heap JR.out 2 rfl
                have p3 : wr.cell? ⟨w.heap.size, 3, none⟩ = some (.slice a1 l1 c1) := cell_of_heap JR.out 3 rfl
                have p4 : wr.cell? ⟨w.heap.size, 4, none⟩ = some (.slice a2 l2 c2) := cell_of_heap JR.out 4 rfl
                have p5 : wr.cell? ⟨w.heap.size, 5, none⟩ = some (.slice a3 l3 c3) := cell_of_heap JR.out 5 rfl
                have p6 : wr.cell? ⟨w.heap.size, 6, none⟩ = some (.slice a4 l4 c4) := cell_of_heap JR.out 6 rfl
                have p7 : wr.cell? ⟨w.heap.size, 7, none⟩ = some (.slice a5 l5 c5) := cell_of_heap JR.out 7 rfl
                have p8 : wr.cell? ⟨w.heap.size, 8, none⟩ = some (.slice a6 l6 c6) := cell_of_heap JR.out 8 rfl
                go_upto_region 36 with fail
                cases T
                all_goals
                  go_region_held3 (fun w' => w'.cell? ⟨w.heap.size, 0, none⟩ = some (.int .i64 s.floor.w) ∧ w'.cell? ⟨w.heap.size, 1, none⟩ = some (.int .i64 s.floor.h) ∧ w'.cell? ⟨w.heap.size, 2, none⟩ = some (.int .i64 s.floor.d) ∧ w'.cell? ⟨w.heap.size, 3, none⟩ = some (.slice a1 l1 c1) ∧ w'.cell? ⟨w.heap.size, 4, none⟩ = some (.slice a2 l2 c2) ∧ w'.cell? ⟨w.heap.size, 5, none⟩ = some (.slice a3 l3 c3) ∧ w'.cell? ⟨w.heap.size, 6, none⟩ = some (.slice a4 l4 c4) ∧ w'.cell? ⟨w.heap.size, 7, none⟩ = some (.slice a5 l5 c5) ∧ w'.cell? ⟨w.heap.size, 8, none⟩ = some (.slice a6 l6 c6) ∧ w'.cell? ⟨g, a, none⟩ = some (.slice ua m uc) ∧ w'.cell? ⟨w7.heap.size, a, none⟩ = some (.int .i64 X)) (go_keep)
                    (first | (go_at_call 19; refine (HG.out _ BX).mono ?_; rintro e w10 ⟨rfl, b10⟩; have BX : Below wr.heap.size wr w10 := BX.trans (b10.mono BX.size); have s0 := (BX.cell (p := ⟨w.heap.size, 0, none⟩) lwr).trans p0; have s1 := (BX.cell (p := ⟨w.heap.size, 1, none⟩) lwr).trans p1; have s2 := (BX.cell (p := ⟨w.heap.size, 2, none⟩) lwr).trans p2; have s3 := (BX.cell (p := ⟨w.heap.size, 3, none⟩) lwr).trans p3; have s4 := (BX.cell (p := ⟨w.heap.size, 4, none⟩) lwr).trans p4; have s5 := (BX.cell (p := ⟨w.heap.size, 5, none⟩) lwr).trans p5; have s6 := (BX.cell (p := ⟨w.heap.size, 6, none⟩) lwr).trans p6; have s7 := (BX.cell (p := ⟨w.heap.size, 7, none⟩) lwr).trans p7; have s8 := (BX.cell (p := ⟨w.heap.size, 8, none⟩) lwr).trans p8;  have s9 := (BX.cell (p := ⟨g, a, none⟩) lgg).trans hcu; have s10 := (BX.cell (p := ⟨w7.heap.size, a, none⟩) lg7).trans x1; clear b10) | (go_at_call 20; refine (HH.out _ BX).mono ?_; rintro e w11 ⟨rfl, rfl⟩))
                all_goals go_wp2_with fail
                all_goals
                  go_roundw
                  case rel => exact ⟨b + 1, by omega, by go_num, Lib.hid (HBB.out.trans (BX.mono HBB.out.size))⟩
                  case measure => simp [intOf]; omega
              · obtain rfl : l3 = b := by omega
                go_wp2_with fail
                go_roundw
                case rel => exact ⟨a + 1, by omega, by go_num, HBB⟩
                case measure => simp [intOf]; omega
          · obtain rfl : l3 = a := by omega
            have BE := Lib.hid (B9.out.trans (HBA.out.mono B9.out.size))
            have hsm := Ve.sips_some HSL.out
            by_cases hl0 : 0 < l3
            · have hs0 : 0 < SL := by rw [← HSLn.out]; exact List.length_pos_iff.2 (hsm.2 hl0)
              have e1 : decide ((SL : Int) > 0) = true := by simp; omega
              have e2 : decide ((l3 : Int) > 0) = true := by simp; omega
              have e3 : decide (0 < SL) = true := by simp; omega
              have e4 : decide (0 < l3) = true := by simp; omega
              clear hsm
              go_wp2_with fail
              go_ret
              exact ⟨by simp [hs0, hl0], BE.out⟩
            · have hs0 : ¬ 0 < SL := fun h => hl0 (hsm.1 (fun e => by have := HSLn.out; rw [e] at this; simp at this; omega))
              have e1 : decide ((SL : Int) > 0) = false := by simp; omega
              have e2 : decide ((l3 : Int) > 0) = false := by simp; omega
              have e3 : decide (0 < SL) = false := by simp; omega
              have e4 : decide (0 < l3) = false := by simp; omega
              clear hsm
              go_wp2_with fail
              go_ret
              exact ⟨by simp [hs0, hl0], BE.out⟩
end Go.Proofs.YtfcbcpfnaadpeaaGreatDoor
