/- Parts Vq, Vt, Vu of this claim, laid one behind the other: walks and the plain laws behind them; each contract states its own conditions. -/
import Derived.Test.YtfcbcpfnaadpeaaGreatDoorYG
import Derived.Deep.QuietTactic
import Derived.BigQuiet
import Derived.Test.YtfcbcpfnaadpeaaGreatDoorZK
import Derived.Deep.RegionLaw
import Derived.Deep.RegionHeld3
namespace Go.Proofs.YtfcbcpfnaadpeaaGreatDoor
set_option maxRecDepth 100000
set_option maxHeartbeats 64000000
set_option linter.unusedSimpArgs false
set_option linter.unusedVariables false
open Go.RowKit
theorem vdrop_eq (xs ys : List Int) (k : Nat) (hx : k < xs.length) (hy : k < ys.length) : decide (xs.drop k = ys.drop k) = (decide (xs[k] = ys[k]) && decide (xs.drop (k + 1) = ys.drop (k + 1))) := by
 rw [List.drop_eq_getElem_cons hx, List.drop_eq_getElem_cons hy, Bool.eq_iff_iff, Bool.and_eq_true, decide_eq_true_eq, decide_eq_true_eq, decide_eq_true_eq, List.cons.injEq]
def Dn (w w' : World) : Prop := ∃ q, w' = w.drewN q
theorem Dn.refl (w : World) : Dn w w := ⟨0, rfl⟩
theorem Dn.more {w w' : World} (h : Dn w w') (q : Nat) : Dn w (w'.drewN q) := by
 obtain ⟨p, rfl⟩ := h
 exact ⟨p + q, by simp⟩
theorem Dn.trans {a b c : World} (h : Dn a b) (k : Dn b c) : Dn a c := by
 obtain ⟨p, rfl⟩ := k
 exact h.more p
theorem Dn.below {w w' : World} (h : Dn w w') : Below w.heap.size w w' := by
 obtain ⟨p, rfl⟩ := h
 exact below_drewN _ _ _
theorem vequal_any (va vb : Value) (xs ys : List Int) (w : World) (hx : Is w va xs) (hy : Is w vb ys) :
 Calls Tryz.prog 133 #[va, vb] w fun e w' => e = .returned (.bool (decide (xs = ys))) ∧ Dn w w' := by
 obtain ⟨a, ca, rfl, hma⟩ := hx.form
 obtain ⟨b, cb, rfl, hmb⟩ := hy.form
 have HX := hid hx
 have HY := hid hy
 obtain ⟨G, hG⟩ : ∃ G, G = decide (xs = ys) := ⟨_, rfl⟩
 rw [← hG]
 have HG := hid hG
 by_cases hl : xs.length = ys.length
 · obtain ⟨n, hn⟩ : ∃ n, n = xs.length := ⟨_, rfl⟩
   have HN := hid hn
   have HN2 := hid (show n = ys.length by omega)
   have hn2 : ys.length = n := by omega
   have HG0 : Hid (G = decide (xs.drop 0 = ys.drop 0)) := HG
   rw [← hn] at hma HX ⊢
   rw [hn2] at HY ⊢
   have hne : ((n : Int) != (n : Int)) = false := by simp
   clear hx hy hG hn hn2 hl hmb HG
   go_enter Tryz.func133, Tryz.ntmps133
   go_wp2_with fail
   go_loopw [13] (fun iv wr => ∃ k : Nat, k ≤ n ∧ iv = .int .i64 k ∧ Hid (G = decide (xs.drop k = ys.drop k)) ∧ Hid (Dn w wr)) (fun iv _ => n - (intOf iv).toNat)
   case atStart => exact ⟨0, by omega, rfl, HG0, hid (Dn.refl _)⟩
   case round =>
    obtain ⟨k, hk, rfl, HR, HW⟩ := hrel
    by_cases hkn : k < n
    · have hx : k < xs.length := by rw [← HN.out]; exact hkn
      have hy : k < ys.length := by rw [← HN2.out]; exact hkn
      obtain ⟨b1, o1, e1, p1⟩ := (HX.out.keep HW.out.below).cell k hx
      obtain ⟨b2, o2, e2, p2⟩ := (HY.out.keep HW.out.below).cell k hy
      subst e1 e2
      have hst := HR.out.trans (vdrop_eq xs ys k hx hy)
      obtain ⟨x, hxe⟩ : ∃ x, x = xs[k] := ⟨_, rfl⟩
      obtain ⟨y, hye⟩ : ∃ y, y = ys[k] := ⟨_, rfl⟩
      rw [← hxe] at p1 hst
      rw [← hye] at p2 hst
      have kI0 : (0 : Int) ≤ (k : Int) := by omega
      have kI1 : (k : Int) < (n : Int) := by omega
      clear hxe hye
      by_cases hq : x = y
      · have HS : Hid (G = decide (xs.drop (k + 1) = ys.drop (k + 1))) := hid (by rw [hst, decide_eq_true hq, Bool.true_and])
        have hne2 : (x != y) = false := by rw [hq]; simp
        clear hst hq
        go_wp2_with fail
        go_quiet (fail)
        all_goals
         go_wp2_with fail
         go_roundw
         case rel => exact ⟨k + 1, by omega, by go_num, HS, hid (HW.out.more _)⟩
         case measure => simp [intOf]; omega
      · have HS : Hid (G = false) := hid (by rw [hst, decide_eq_false hq, Bool.false_and])
        have hne2 : (x != y) = true := by simpa using hq
        clear hst hq
        go_wp2_with fail
        go_quiet (fail)
        all_goals
         go_wp2_with fail
         go_ret
         exact ⟨by rw [HS.out]; rfl, HW.out.more _⟩
    · have HS : Hid (G = true) := hid (by
       rw [HR.out, List.drop_eq_nil_of_le (show xs.length ≤ k by rw [← HN.out]; omega), List.drop_eq_nil_of_le (show ys.length ≤ k by rw [← HN2.out]; omega)]
       simp)
      go_wp2_with fail
      go_ret
      exact ⟨by rw [HS.out]; rfl, HW.out⟩
 · have HS : Hid (G = false) := hid (by rw [hG]; exact decide_eq_false (fun h => hl (by rw [h])))
   have hne : ((xs.length : Int) != (ys.length : Int)) = true := by simp; omega
   obtain ⟨n, hn⟩ : ∃ n, n = xs.length := ⟨_, rfl⟩
   obtain ⟨m, hm⟩ : ∃ n, n = ys.length := ⟨_, rfl⟩
   rw [← hn] at hma hne ⊢
   rw [← hm] at hmb hne ⊢
   clear hx hy hG hn hm hl HX HY HG
   go_enter Tryz.func133, Tryz.ntmps133
   go_wp2_with fail
   go_ret
   exact ⟨by rw [HS.out]; rfl, Dn.refl _⟩
theorem qdn {P : Program} {f : Nat} {args : Array Value} {w : World} {n : Nat} {v : Value} (h : Calls P f args (w.drewN n) fun e w' => e = .returned v ∧ Dn (w.drewN n) w') : Calls P f args (w.drewN n) fun e w' => e = .returned v ∧ ∃ m, w' = w.drewN m :=
 h.mono fun e w' ⟨h1, q, h2⟩ => ⟨h1, n + q, by rw [h2]; simp⟩
theorem ends1_any (c : Nat) (Bo Bl : Nat) (ov lv : Value) (os : List (List Int)) (l : List Int) (w : World) (h1 : w.heap[Bo]? = some (.cells #[ov] 36 (0, 0))) (h2 : w.heap[Bl]? = some (.cells #[lv] 22 (0, 0)))
 (ho : Ll w ov os) (hl : Is w lv l) (hc : c < os.length) :
 Calls Tryz.prog 138 #[.int .i64 c, .pointer (some ⟨Bo, 0, none⟩), .pointer (some ⟨Bl, 0, none⟩)] w fun e w' => e = .returned (.bool (!decide (os[c] = l))) ∧ Dn w w' := by
 obtain ⟨oa, oc, rfl, hom⟩ := ho.form
 obtain ⟨la, lc, rfl, hlm⟩ := hl.form
 have q1 : w.cell? ⟨Bo, 0, none⟩ = some (.slice oa os.length oc) := cell_of_heap h1 0 rfl
 have q2 : w.cell? ⟨Bl, 0, none⟩ = some (.slice la l.length lc) := cell_of_heap h2 0 rfl
 obtain ⟨b, off, u, e1, q3, hu⟩ := ho.cell c hc
 subst e1
 have HE := hid (fun q => vequal_any u (.slice la l.length lc) os[c] l (w.drewN q) (hu.keep (below_drewN _ _ _)) (hl.keep (below_drewN _ _ _)))
 obtain ⟨G, hG⟩ : ∃ G, G = decide (os[c] = l) := ⟨_, rfl⟩
 rw [← hG] at HE ⊢
 obtain ⟨n, hn⟩ : ∃ n, n = os.length := ⟨_, rfl⟩
 obtain ⟨m, hm⟩ : ∃ m, m = l.length := ⟨_, rfl⟩
 rw [← hn] at q1 hom hc
 rw [← hm] at q2 hlm HE
 have c0 : (0 : Int) ≤ (c : Int) := by omega
 have c1 : (c : Int) < (n : Int) := by omega
 clear h1 h2 ho hl hn hm hG hu
 go_enter Tryz.func138, Tryz.ntmps138
 go_wp2_with fail
 go_quiet (first | (go_at_call 133; exact qdn (HE.out _)))
 go_wp2_with fail
 go_ret
 exact ⟨rfl, _, rfl⟩
theorem ends2_any (va vb : Value) (xs ys : List Nat) (w : World) (hx : Is w va (Si.nn xs)) (hy : Is w vb (Si.nn ys)) (hxl : xs.length ≤ 100000) (hyl : ys.length ≤ 100000) :
 Calls Tryz.prog 140 #[va, vb] w fun e w' => e = .returned (.int .i64 (Ve.cmpE xs ys)) ∧ w = w' := by
 have HC := hid (compare_any va vb xs ys w hx hy)
 obtain ⟨a, ca, rfl, hma⟩ := hx.form
 obtain ⟨b, cb, rfl, hmb⟩ := hy.form
 rw [nn_len xs] at hma HC ⊢
 rw [nn_len ys] at hmb HC ⊢
 have HE : Hid (Ve.cmpE xs ys = if xs.length ≠ ys.length then (xs.length : Int) - ys.length else Pt.cmpL xs ys) := hid rfl
 obtain ⟨R, hR⟩ : ∃ R, R = Ve.cmpE xs ys := ⟨_, rfl⟩
 obtain ⟨L, hL⟩ : ∃ R, R = Pt.cmpL xs ys := ⟨_, rfl⟩
 rw [← hR, ← hL] at HE
 rw [← hL] at HC
 rw [← hR]
 obtain ⟨n, hn⟩ : ∃ n, n = xs.length := ⟨_, rfl⟩
 obtain ⟨m, hm⟩ : ∃ m, m = ys.length := ⟨_, rfl⟩
 rw [← hn] at HE HC hma hxl ⊢
 rw [← hm] at HE HC hmb hyl ⊢
 clear hx hy hR hL hn hm
 by_cases h : n = m
 · have HS : Hid (R = L) := hid (by rw [HE.out, if_neg (by simpa using h)])
   subst h
   have hne : ((n : Int) != (n : Int)) = false := by simp
   go_enter Tryz.func140, Tryz.ntmps140
   go_wp2_with fail
   go_at_call 60; refine HC.out.mono ?_; rintro e w2 ⟨rfl, rfl⟩
   go_wp2_with fail
   go_ret
   exact ⟨by rw [HS.out]; rfl, rfl⟩
 · have HS : Hid (R = (n : Int) - (m : Int)) := hid (by rw [HE.out, if_pos h])
   have hne : ((n : Int) != (m : Int)) = true := by simp; omega
   go_enter Tryz.func140, Tryz.ntmps140
   go_wp2_with fail
   go_ret
   exact ⟨by rw [HS.out]; go_num, rfl⟩
open Go.RowKit Go.Sort
structure EndsOk (R : List (List Nat)) : Prop where
 nd : R.Nodup
 so : ∀ l ∈ R, l.Pairwise (· < ·)
 lt : ∀ l ∈ R, ∀ j ∈ l, j < 64
 ln : ∀ l ∈ R, l.length ≤ 100000
def cmpF (R : List (List Nat)) (i j : Fin R.length) : Int := Ve.cmpE R[i] R[j]
theorem cmpF_facts {R : List (List Nat)} (h : EndsOk R) (i j : Fin R.length) : (cmpF R i j < 0 ↔ Pt.cmpW (Pt.wordL R[i]) (Pt.wordL R[j]) < 0) ∧ (cmpF R i j = 0 → i = j) ∧ cmpF R j i = - cmpF R i j := by
 have hi : R[i] ∈ R := List.getElem_mem i.2
 have hj : R[j] ∈ R := List.getElem_mem j.2
 obtain ⟨a, b, c⟩ := Ve.cmpE_word (h.so _ hi) (h.so _ hj) (h.lt _ hi) (h.lt _ hj)
 refine ⟨a, fun e => ?_, c⟩
 have e2 := b e
 have hp := List.pairwise_iff_getElem.1 (List.nodup_iff_pairwise_ne.1 h.nd)
 rcases Nat.lt_trichotomy i.1 j.1 with h1 | h1 | h1
 · exact absurd e2 (hp i.1 j.1 i.2 j.2 h1)
 · exact Fin.ext h1
 · exact absurd e2.symm (hp j.1 i.1 j.2 i.2 h1)
theorem cmpF_swo {R : List (List Nat)} (h : EndsOk R) : SWO (ltOf (cmpF R)) := by
 have tot : ∀ x y : Fin R.length, ltOf (cmpF R) x y = false → ltOf (cmpF R) y x = true ∨ x = y := by
  intro x y hxy
  unfold ltOf at *
  obtain ⟨-, h0, h1⟩ := cmpF_facts h x y
  by_cases hz : cmpF R x y = 0
  · exact .inr (h0 hz)
  · refine .inl ?_
    simp at hxy ⊢
    omega
 have tr : ∀ x y z : Fin R.length, ltOf (cmpF R) x y = true → ltOf (cmpF R) y z = true → ltOf (cmpF R) x z = true := by
  intro x y z hxy hyz
  unfold ltOf at *
  simp at hxy hyz ⊢
  rw [(cmpF_facts h x z).1]
  exact Pt.cmpW_trans ((cmpF_facts h x y).1.1 hxy) ((cmpF_facts h y z).1.1 hyz)
 have irr : ∀ x : Fin R.length, ltOf (cmpF R) x x = false := by
  intro x
  unfold ltOf
  have := (cmpF_facts h x x).2.2
  simp; omega
 refine ⟨irr, tr, fun x y z hxy hyz => ?_⟩
 rcases tot x y hxy with h1 | rfl
 · rcases tot y z hyz with k1 | rfl
   · have h2 := tr _ _ _ k1 h1
     cases h3 : ltOf (cmpF R) x z
     · rfl
     · have := tr _ _ _ h2 h3
       rw [irr] at this; cases this
   · exact hxy
 · exact hyz
theorem cmpF_tot {R : List (List Nat)} (h : EndsOk R) (x y : Fin R.length) (h1 : ltOf (cmpF R) x y = false) (h2 : ltOf (cmpF R) y x = false) : x = y := by
 unfold ltOf at *
 obtain ⟨-, h0, hs⟩ := cmpF_facts h x y
 simp at h1 h2
 exact h0 (by omega)
theorem own_sort {α : Type} [Inhabited α] {enc : α → Value} {w : World} {blk off n : Nat} {d : Array α} {os : Array Obj} {base : Nat} {e t : TypeId} {sz m : Nat} {v : Value} {xs : List Value} {cs : Array Value} {fr : Nat × Nat} (h : w.ownsRow base e sz v m xs) (hb : w.heap[blk]? = some (.cells cs t fr)) (hne : e ≠ t) : (sortWorld enc w blk off n d os).ownsRow base e sz v m xs := by
 refine ⟨h.1, ?_⟩
 rcases h.2 with h | ⟨g, cap, cur, rfl, h1, h2, h3⟩
 · exact .inl h
 · refine .inr ⟨g, cap, cur, rfl, h1, (sort_heap enc w blk off n d os g (heap_lt h2) (fun e2 => ?_)).trans h2, h3⟩
   subst e2
   rw [hb] at h2
   injection h2 with h2
   injection h2 with _ h2 _
   exact hne h2.symm
def SortE (base : Nat) (v : Value) (R0 : List (List Nat)) (w : World) (e : Ending) (w' : World) : Prop :=
 e = .returned (.tuple #[]) ∧ ∃ R : List (List Nat), R.Perm R0 ∧ R.Pairwise (fun a b => Ve.cmpE a b ≤ 0) ∧ Ll w' v (R.map Si.nn) ∧ Below base w w'
theorem finRange_get {α : Type} (l : List α) : (List.finRange l.length).map (fun i : Fin l.length => l[i]) = l := by
 apply List.ext_getElem (by simp)
 intro i h1 h2
 simp
theorem sortE_any (b1 b2 : Nat) (v : Value) (R : List (List Nat)) (w : World) (hR : EndsOk R) (hlen : R.length < 4611686018427387904) (ho : RL w b1 b2 v (R.map Si.nn)) (hbw : b1 ≤ w.heap.size) :
 Calls Tryz.prog 139 #[v, .func (.func 140) #[] #[]] w (SortE b1 v R w) := by
 obtain ⟨us, hul, hown, hin⟩ := ho
 have hm := own_max hown
 rw [List.length_map] at hul hown hm
 rcases hown.2 with ⟨rfl, h0⟩ | ⟨g, cap, cur, rfl, hbg, hg, hnc, hcm, hcs, htake⟩
 · have h1 : R = [] := List.eq_nil_of_length_eq_zero h0
   subst h1
   refine (Tryz.slices_SortFunc_none_f139 (α := Nat) none 0 _ w).mono ?_
   rintro e w' ⟨rfl, rfl⟩
   exact ⟨rfl, [], by simp, List.Pairwise.nil, Ll.nil _, Below.refl _ _⟩
 · by_cases hz : R.length = 0
   · have h1 : R = [] := List.eq_nil_of_length_eq_zero hz
     subst h1
     refine (Tryz.slices_SortFunc_none_f139 (α := Nat) _ cap _ w).mono ?_
     rintro e w' ⟨rfl, rfl⟩
     refine ⟨rfl, [], by simp, List.Pairwise.nil, ⟨[], rfl, ?_, fun x hx => by cases hx⟩, Below.refl _ _⟩
     have h2 : us = [] := List.eq_nil_of_length_eq_zero hul
     subst h2
     exact Sl.of_own hown hm
   · haveI : Inhabited (Fin R.length) := ⟨⟨0, by omega⟩⟩
     have hg2 : g < w.heap.size := heap_lt hg
     obtain ⟨enc, henc⟩ : ∃ enc : Fin R.length → Value, enc = fun i => us[i.1]'(by rw [hul]; exact i.2) := ⟨_, rfl⟩
     have hrow : ∀ i : Fin R.length, w.ownsRow b2 3 1 (enc i) (Si.nn R[i]).length (ints (Si.nn R[i])) := fun i => by
      have := hin i.1 (by rw [List.length_map]; exact i.2) (by rw [hul]; exact i.2)
      rw [List.getElem_map] at this
      rw [henc]; exact this
     have h1 : OneCell enc := fun i => by
      obtain ⟨a, c, e, -⟩ := own_slice (hrow i)
      rw [e]; rfl
     have hcell : ∀ j (hj : j < R.length), w.cell? ⟨g, j, none⟩ = some (enc ⟨j, hj⟩) := fun j hj => by
      have := hown.cells (g := g) rfl j (enc ⟨j, hj⟩) (by rw [henc]; exact List.getElem?_eq_getElem (by rw [hul]; exact hj))
      rw [Addr.add_lit, Nat.zero_add] at this
      exact this
     have hD : R.length = (List.finRange R.length).toArray.size := by simp
     have hH : Holds enc w g 0 (List.finRange R.length).toArray := by
      intro j hj
      have hj2 : j < R.length := by simpa using hj
      refine ⟨?_, free_of_heap hg _⟩
      rw [Nat.zero_add, hcell j hj2]
      congr 2
      rw [getElem!_pos (List.finRange R.length).toArray j hj]; simp
     have hlays : CmpLays1 Tryz.prog 140 #[] enc (cmpF R) g 0 (List.finRange R.length).toArray.size w := by
      intro m os dk hs x y
      have k1 := own_sort (enc := enc) (n := m) (d := dk) (os := os) (off := 0) (hrow x) hg (by decide)
      have k2 := own_sort (enc := enc) (n := m) (d := dk) (os := os) (off := 0) (hrow y) hg (by decide)
      exact (ends2_any (enc x) (enc y) R[x] R[y] _ (Sl.of_own k1 (own_max k1)) (Sl.of_own k2 (own_max k2)) (hR.ln _ (List.getElem_mem x.2)) (hR.ln _ (List.getElem_mem y.2))).mono fun e w' ⟨he, hu⟩ => ⟨he, by rw [← hu]; exact (Up.refl _).grow⟩
     conv => arg 3; rw [hD]
     refine (Tryz.slices_SortFunc_total_f139 enc h1 (cmpF R) (cmpF_swo hR) 140 #[] g 0 cap (List.finRange R.length).toArray w (fun _ _ => by kernel_rfl) hlays hH hg2 (by simpa using hlen) (cmpF_tot hR)).mono ?_
     rintro e w' ⟨rfl, m, os, rfl⟩
     have e1 : (List.finRange R.length).toArray.toList = List.finRange R.length := by simp
     rw [e1]
     have hperm := List.mergeSort_perm (List.finRange R.length) fun x y => !(ltOf (cmpF R)) y x
     have hpair := List.pairwise_mergeSort (le := fun x y => !(ltOf (cmpF R)) y x) (fun a b c h k => by
      simp at h k ⊢
      exact (cmpF_swo hR).ntrans c b a k h) (fun a b => by
      cases h : ltOf (cmpF R) b a
      · simp
      · cases k : ltOf (cmpF R) a b
        · simp
        · have := (cmpF_swo hR).trans _ _ _ h k
          rw [(cmpF_swo hR).irrefl] at this; cases this) (List.finRange R.length)
     obtain ⟨s, hs⟩ : ∃ s, (List.finRange R.length).mergeSort (fun x y => !(ltOf (cmpF R)) y x) = s := ⟨_, rfl⟩
     rw [hs] at hperm hpair ⊢
     have hlen2 : s.length = R.length := by rw [hperm.length_eq]; simp
     have hH2 := SW.holds (W := sortWorld enc w g 0 m s.toArray os) ⟨m, os, rfl⟩ hg2 hH (by simp [hlen2])
     refine ⟨rfl, s.map (fun i => R[i]), ?_, ?_, ?_, ?_⟩
     · have := hperm.map (fun i : Fin R.length => R[i])
       rwa [finRange_get] at this
     · rw [List.pairwise_map]
       refine hpair.imp ?_
       intro a b hab
       have h2 := (cmpF_facts hR a b).2.2
       unfold ltOf at hab
       simp at hab
       show cmpF R a b ≤ 0
       omega
     · refine ⟨s.map (fun i => (Si.nn R[i], enc i)), ?_, ?_, ?_⟩
       · rw [List.map_map, List.map_map]; rfl
       · rw [List.map_map]
         refine ⟨some ⟨g, 0, none⟩, cap, by simp [hlen2], by simpa [hlen2] using hm, by simp, ?_⟩
         intro i hi
         have hi2 : i < s.length := by simpa using hi
         refine ⟨g, 0, rfl, ?_⟩
         rw [(hH2 i (by simpa using hi2)).1]
         congr 1
         rw [getElem!_pos s.toArray i (by simpa using hi2)]
         simp
       · intro x hx
         obtain ⟨i, -, rfl⟩ := List.mem_map.1 hx
         have k1 := own_sort (enc := enc) (n := m) (d := s.toArray) (os := os) (off := 0) (hrow i) hg (by decide)
         exact Sl.of_own k1 (own_max k1)
     · refine ⟨rfl, rfl, rfl, by unfold sortWorld; simp, fun k hk => sort_heap enc w g 0 m _ os k (by omega) (by omega)⟩
open Go.RowKit Go.Sort
theorem step_app_rl {w : World} {ops : Array Oper} {o : Oper} {a : Act} {K : Act → World → Prop} {Q : Exit → Act → World → Prop} {E : Prop} (hgd : o.guard = none) (s x : Operand)
 (ho : o.op = .call { callee := .builtin .append, args := #[s, x], argTypes := #[36, 36] })
 (b1 b2 : Nat) (v : Value) (n : Nat) (ls : List (List Int)) (hn : ls.length = n) (hs : a.eval s = v) (hR : RL w b1 b2 v ls)
 (g c : Nat) (y : List Int) (u : Value) (hx : a.eval x = .slice (some ⟨g, 0, none⟩) 1 c) (hg : w.heap[g]? = some (.cells #[u] 22 (0, 0)))
 (hu : w.ownsRow b2 3 1 u y.length (ints y)) (hsz : n + 1 ≤ 1000000000) (hbase : b1 ≤ w.heap.size)
 (h : ∀ a' c' w', RL w' b1 b2 (.slice a' (n + 1) c') (ls ++ [y]) → GT 22 w w' → Below b1 w w' → K (a.put o.dst (.slice a' (n + 1) c')) w') :
 if Region.wanted o (yielded ops a.tmps) = true then Oper.wp Tryz.prog o a w K Q else E := by
 subst hn
 obtain ⟨i, hi, hz, hsize, hby⟩ := info_parts Tryz.rowInfo
 obtain ⟨us, hul, hown, hin⟩ := hR
 obtain ⟨ua, uc, hus, -⟩ := own_slice hu
 refine step_append_lies _ hgd s x _ ho b1 22 i _ 1 24 Tryz.underlying36 hi hz hsize hby rfl (by decide) v ls.length us hs hown ⟨g, 0, none⟩ 1 c [u] hx rfl (news_one hg) ?_ (by omega) (by unfold maxLen; omega) (by omega) hbase _ rfl ?_
 · intro z hz
   obtain rfl := List.mem_singleton.1 hz
   rw [hus]; rfl
 · intro g' c' w' h2 h3 _ _
   have hgt := GT.of_own hown h3
   refine h _ c' w' ⟨us ++ [u], by simp [hul], by simpa using h2, fun i k1 k2 => ?_⟩ hgt (below_own hown h3 (Nat.le_refl _) hbase)
   by_cases hi2 : i < ls.length
   · rw [List.getElem_append_left (by omega), List.getElem_append_left hi2]
     exact hgt.row (hin i hi2 (by omega)) (by decide)
   · have e : i = ls.length := by simp at k1; omega
     subst e
     rw [List.getElem_append_right (by omega), List.getElem_append_right (by omega)]
     simp only [hul, Nat.sub_self, List.getElem_singleton]
     exact hgt.row hu (by decide)
theorem RL.set {w : World} {b1 b2 N : Nat} {v x : Value} {ls : List (List Int)} {cs : Array Value} {t : TypeId} {fr : Nat × Nat} (h : RL w b1 b2 v ls) (hN : w.heap[N]? = some (.cells cs t fr)) (h1 : 22 ≠ t) (h2 : 3 ≠ t) (i : Nat) : RL (w.setCell ⟨N, i, none⟩ x) b1 b2 v ls := by
 obtain ⟨us, a, b, c⟩ := h
 exact ⟨us, a, own_set b hN h1 i x, fun j k1 k2 => own_set (c j k1 k2) hN h2 i x⟩
theorem RL.row {w : World} {b1 b2 : Nat} {a : Option Addr} {m c : Nat} {ls : List (List Int)} (h : RL w b1 b2 (.slice a m c) ls) {k : Nat} (hk : k < ls.length) : ∃ g u, a = some ⟨g, 0, none⟩ ∧ b1 ≤ g ∧ w.cell? ⟨g, k, none⟩ = some u ∧ w.ownsRow b2 3 1 u ls[k].length (ints ls[k]) := by
 obtain ⟨us, hul, hown, hin⟩ := h
 rcases hown.2 with ⟨e, h0⟩ | ⟨g, cap, cur, e, hbg, hg, h3⟩
 · rw [h0] at hul; simp at hul; omega
 · injection e with e1 e2 e3
   subst e1 e2 e3
   refine ⟨g, us[k]'(by omega), rfl, hbg, ?_, hin k hk (by omega)⟩
   have := hown.cells (g := g) rfl k (us[k]'(by omega)) (List.getElem?_eq_getElem (by omega))
   rw [Addr.add_lit, Nat.zero_add] at this
   exact this
theorem nn_inj {a b : List Nat} (h : Si.nn a = Si.nn b) : a = b := by
 have h2 : ∀ l : List Nat, (Si.nn l).map Int.toNat = l := fun l => by
  unfold Si.nn
  rw [List.map_map]
  apply List.ext_getElem (by simp)
  intro i h1 h2
  rw [List.getElem_map]; rfl
 rw [← h2 a, h, h2]
theorem endsAny (l : List Nat) (Bo Bl : Nat) (ov lv : Value) (os : List (List Nat)) (w : World) (h1 : w.heap[Bo]? = some (.cells #[ov] 36 (0, 0))) (h2 : w.heap[Bl]? = some (.cells #[lv] 22 (0, 0)))
 (ho : Ll w ov (os.map Si.nn)) (hl : Is w lv (Si.nn l)) (hc : ∀ c ∈ l, c < os.length) :
 Calls Tryz.prog 137 #[lv, .func (.func 138) #[] #[.pointer (some ⟨Bo, 0, none⟩), .pointer (some ⟨Bl, 0, none⟩)]] w fun e w' => e = .returned (.bool (l.any fun b => !decide (os.getD b [] = l))) ∧ Dn w w' := by
 obtain ⟨a, cap, rfl, hm⟩ := hl.form
 rw [nn_len] at hm hl h2 ⊢
 by_cases h0 : l.length = 0
 · have e : l = [] := List.eq_nil_of_length_eq_zero h0
   subst e
   refine (Tryz.slices_ContainsFunc_empty_f137 (α := Int) a cap _ w).mono ?_
   rintro e w' ⟨rfl, rfl⟩
   exact ⟨rfl, Dn.refl _⟩
 · have h0 : 0 < l.length := by omega
   obtain ⟨b, off, rfl, -⟩ := hl.cell 0 (by rw [nn_len]; exact h0)
   have hL : 0 < os.length := by have := hc l[0] (List.getElem_mem h0); omega
   have eg : ∀ args w, (callFunc 138 args).run Tryz.prog w = .ok (.enter 138 args) w := enters_of Tryz.func138 (by kernel_rfl) rfl
   haveI : Inhabited (Fin os.length) := ⟨⟨0, hL⟩⟩
   obtain ⟨zs, hzs⟩ : ∃ zs : List (Fin os.length), zs.map (·.1) = l := by
    have : ∀ m : List Nat, (∀ c ∈ m, c < os.length) → ∃ zs : List (Fin os.length), zs.map (·.1) = m := by
     intro m
     induction m with
     | nil => exact fun _ => ⟨[], rfl⟩
     | cons x m ih =>
      intro hm
      obtain ⟨z, hz⟩ := ih (fun c hc => hm c (List.mem_cons_of_mem _ hc))
      exact ⟨⟨x, hm x (List.mem_cons_self ..)⟩ :: z, by simp [hz]⟩
    exact this l hc
   have hzl : zs.length = l.length := by rw [← hzs]; simp
   refine (Tryz.slices_ContainsFunc_f137 (α := Fin os.length) (fun i => .int .i64 (i.1 : Nat)) (fun i => !decide (os.getD i.1 [] = l)) 138 #[.pointer (some ⟨Bo, 0, none⟩), .pointer (some ⟨Bl, 0, none⟩)] eg b off l.length cap zs w
    (fun W x hb => (ends1_any x.1 Bo Bl ov _ (os.map Si.nn) (Si.nn l) W (keep_heap h1 hb) (keep_heap h2 hb) (ho.keep hb) (hl.keep hb) (by rw [List.length_map]; exact x.2)).mono fun e w' ⟨h1, h2⟩ => ⟨by
     rw [h1]
     congr 3
     rw [Bool.eq_iff_iff, decide_eq_true_eq, decide_eq_true_eq, List.getElem_map, getD_lt _ _ _ x.2]
     constructor
     · intro e; exact nn_inj e
     · intro e; rw [e], h2⟩) (by omega) hm (fun j hj => ?_)).mono ?_
   · obtain ⟨b2, off2, e, hce⟩ := hl.cell j (by rw [nn_len]; omega)
     cases e
     rw [hce, getElem!_pos zs j hj]
     congr 1
     unfold Si.nn
     rw [List.getElem_map]
     have : l[j]'(by omega) = (zs[j]).1 := by
      have h9 : (zs.map (·.1))[j]'(by simpa using hj) = l[j]'(by omega) := by congr 1
      rw [← h9, List.getElem_map]
     rw [this]; rfl
   · rintro e w' ⟨rfl, q, rfl⟩
     refine ⟨?_, q, rfl⟩
     congr 2
     rw [List.take_of_length_le (by omega)]
     conv => rhs; rw [← hzs]
     rw [List.any_map, hzs]; rfl
end Go.Proofs.YtfcbcpfnaadpeaaGreatDoor
