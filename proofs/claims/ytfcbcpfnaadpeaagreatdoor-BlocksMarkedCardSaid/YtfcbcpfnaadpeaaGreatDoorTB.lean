/- Parts TeQ, TeR, TeS, TeT, TeU, TeV of this claim, laid one behind the other: walks and the plain laws behind them; each contract states its own conditions. -/
import Derived.Test.YtfcbcpfnaadpeaaGreatDoorMS
import Derived.Test.YtfcbcpfnaadpeaaGreatDoorTA
namespace Go.Proofs.YtfcbcpfnaadpeaaGreatDoor
set_option maxRecDepth 100000
set_option maxHeartbeats 64000000
set_option linter.unusedSimpArgs false
set_option linter.unusedVariables false
open Go.RowKit
def ClashPost (w : World) (e : Ending) (w' : World) : Prop := (∃ (k : Int) (b : Bool), e = .returned (.tuple #[.int .i64 k, .bool b])) ∧ Below w.heap.size w w'
theorem r14clash_any (v : Value) (l : List Int) (w : World) (h : Is w v l) (hl : l.length ≤ 100000) :
 Calls Tryz.prog 77 #[v] w (ClashPost w) := by
 obtain ⟨va, vc, rfl, hvm⟩ := h.form
 obtain ⟨n, hn⟩ : ∃ n, l.length = n := ⟨_, rfl⟩
 rw [hn] at h hl hvm ⊢
 have HL := hid (fun W (hW : Below w.heap.size w W) => h.keep hW)
 have HN := hid hn
 have Z0 : Hid (Below w.heap.size w w) := hid (Below.refl _ _)
 clear h hn
 go_enter Tryz.func77, Tryz.ntmps77
 go_wp2_with fail
 go_loopw [4, 5, 6] (fun fv bv iv wr => ∃ (i : Nat) (F : Bool) (B : Int), i ≤ n ∧ iv = .int .i64 i ∧ fv = .bool F ∧ bv = .int .i64 B ∧ Hid (Below w.heap.size w wr)) (fun _ _ iv _ => n - (intOf iv).toNat)
 case atStart => exact ⟨0, false, 0, by omega, rfl, rfl, rfl, Z0⟩
 case round =>
  clear Z0
  obtain ⟨i, F, B, hin, rfl, rfl, rfl, HB⟩ := hrel
  obtain ⟨wA, hwA⟩ : ∃ W, W = wr := ⟨_, rfl⟩
  subst hwA
  by_cases hil : i < n
  · have d0 : (0 : Int) ≤ (i : Int) := by omega
    have d1 : (i : Int) < (n : Int) := by omega
    go_wp2_with fail
    go_loopw [4, 5, 7] (fun fv bv kv wr => ∃ (k : Nat) (F : Bool) (B : Int), k ≤ i ∧ kv = .int .i64 k ∧ fv = .bool F ∧ bv = .int .i64 B ∧ Hid (Below w.heap.size w wr)) (fun _ _ kv _ => i - (intOf kv).toNat)
    case atStart => exact ⟨0, F, B, by omega, rfl, rfl, rfl, HB⟩
    case round =>
     clear HB
     obtain ⟨k, F2, B2, hk, rfl, rfl, rfl, HB⟩ := hrel
     obtain ⟨wB, hwB⟩ : ∃ W, W = wr := ⟨_, rfl⟩
     subst hwB
     by_cases hki : k < i
     · have e0 : (0 : Int) ≤ (k : Int) := by omega
       have e1 : (k : Int) < (i : Int) := by omega
       have e2 : (k : Int) < (n : Int) := by omega
       have hls : i < l.length := by rw [HN.out]; exact hil
       have hks : k < l.length := by rw [HN.out]; omega
       obtain ⟨b, o, es, c0⟩ := (HL.out wB HB.out).cell i hls
       subst es
       obtain ⟨b2, o2, es, c1⟩ := (HL.out wB HB.out).cell k hks
       injection es with es; injection es with es1 es2; subst es1 es2
       obtain ⟨x, hx⟩ : ∃ x, l[i] = x := ⟨_, rfl⟩
       obtain ⟨y, hy⟩ : ∃ x, l[k] = x := ⟨_, rfl⟩
       rw [hx] at c0
       rw [hy] at c1
       have hbk := cell_block_lt c0
       clear hx hy hls hks
       by_cases g1 : x = y
       · subst g1
         cases F2 with
         | false =>
          go_wp2_with fail
          go_quiet (fail)
          go_upto_region 10 with fail
          generalize hwq : wB.drewN _ = wq
          have BQ : Hid (Below wB.heap.size wB wq) := hid (by rw [← hwq]; exact below_drewN _ _ _)
          have BW := hid (HB.out.trans (BQ.out.mono HB.out.size))
          have cq := (BQ.out.cell (p := ⟨b, o + i, none⟩) hbk).trans c0
          clear hwq c0 c1
          go_wp2_with fail
          go_roundw
          case rel => exact ⟨k + 1, true, x, by omega, by go_num, rfl, rfl, BW⟩
          case measure => simp [intOf]; omega
         | true =>
          by_cases g2 : x < B2
          · skip
            go_wp2_with fail
            go_quiet (fail)
            go_upto_region 10 with fail
            generalize hwq : wB.drewN _ = wq
            have BQ : Hid (Below wB.heap.size wB wq) := hid (by rw [← hwq]; exact below_drewN _ _ _)
            have BW := hid (HB.out.trans (BQ.out.mono HB.out.size))
            have cq := (BQ.out.cell (p := ⟨b, o + i, none⟩) hbk).trans c0
            clear hwq c0 c1
            go_wp2_with fail
            go_roundw
            case rel => exact ⟨k + 1, true, x, by omega, by go_num, rfl, rfl, BW⟩
            case measure => simp [intOf]; omega
          · skip
            go_wp2_with fail
            go_quiet (fail)
            go_upto_region 8 with fail
            generalize hwq : wB.drewN _ = wq
            have BQ : Hid (Below wB.heap.size wB wq) := hid (by rw [← hwq]; exact below_drewN _ _ _)
            have BW := hid (HB.out.trans (BQ.out.mono HB.out.size))
            have cq := (BQ.out.cell (p := ⟨b, o + i, none⟩) hbk).trans c0
            clear hwq c0 c1
            go_wp2_with fail
            go_roundw
            case rel => exact ⟨k + 1, true, B2, by omega, by go_num, rfl, rfl, BW⟩
            case measure => simp [intOf]; omega
       · skip
         go_wp2_with fail
         go_quiet (fail)
         go_upto_region 8 with fail
         generalize hwq : wB.drewN _ = wq
         have BQ : Hid (Below wB.heap.size wB wq) := hid (by rw [← hwq]; exact below_drewN _ _ _)
         have BW := hid (HB.out.trans (BQ.out.mono HB.out.size))
         have cq := (BQ.out.cell (p := ⟨b, o + i, none⟩) hbk).trans c0
         clear hwq c0 c1
         go_wp2_with fail
         go_roundw
         case rel => exact ⟨k + 1, F2, B2, by omega, by go_num, rfl, rfl, BW⟩
         case measure => simp [intOf]; omega
     · have k9 : ¬ (k : Int) < (i : Int) := by omega
       go_wp2_with fail
       go_roundw
       case rel => exact ⟨i + 1, F2, B2, by omega, by go_num, rfl, rfl, HB⟩
       case measure => simp [intOf]; omega
  · have k9 : ¬ (i : Int) < (n : Int) := by omega
    go_wp2_with fail
    go_ret2
    exact ⟨⟨_, _, rfl⟩, HB.out⟩
theorem r14shelf_any (st : Bd.State) (shv rov pev dev skv : Value) (c : Int) (w : World) (h : Is w shv st.shelves) (hro : RoV w rov st.robots) (hb : ∀ x ∈ st.shelves, -1152921504606846976 ≤ x ∧ x ≤ 1152921504606846976) :
 Calls Tryz.prog 153 #[stV st shv rov pev dev skv, .int .i64 c] w (RowPost 1 w) := by
 have HCA := hid (fun W (hW : Below w.heap.size w W) => r14carrier_any st shv rov pev dev skv c W (hro.keep hW))
 obtain ⟨sa, sc, rfl, hsm⟩ := h.form
 unfold stV at HCA ⊢
 obtain ⟨n, hn⟩ : ∃ n, st.shelves.length = n := ⟨_, rfl⟩
 rw [hn] at h hsm HCA ⊢
 have HL := hid (fun W (hW : Below w.heap.size w W) => h.keep hW)
 have HN := hid hn
 have HBB := hid hb
 obtain ⟨w1, hw1⟩ : ∃ w1, w1 = w.alloc (.cells #[.int .i64 st.tick, .slice sa n sc, rov, pev, dev, skv] 58) := ⟨_, rfl⟩
 have B1 : Hid (Below w.heap.size w w1) := hid (by rw [hw1]; exact (Below.refl _ w).alloc (Nat.le_refl _) _)
 have I1 : Hid (w1.heap[w.heap.size]? = some (.cells #[.int .i64 st.tick, .slice sa n sc, rov, pev, dev, skv] 58 (0, 0))) := hid (by rw [hw1]; exact heap_alloc_new _ _)
 have HW1 := hid hw1
 have hs1 := B1.out.size
 have p0 : w1.cell? ⟨w.heap.size, 0, none⟩ = some (.int .i64 st.tick) := cell_of_heap I1.out 0 rfl
 have p1 : w1.cell? ⟨w.heap.size, 1, none⟩ = some (.slice sa n sc) := cell_of_heap I1.out 1 rfl
 have p2 : w1.cell? ⟨w.heap.size, 2, none⟩ = some rov := cell_of_heap I1.out 2 rfl
 have p3 : w1.cell? ⟨w.heap.size, 3, none⟩ = some pev := cell_of_heap I1.out 3 rfl
 have p4 : w1.cell? ⟨w.heap.size, 4, none⟩ = some dev := cell_of_heap I1.out 4 rfl
 have p5 : w1.cell? ⟨w.heap.size, 5, none⟩ = some skv := cell_of_heap I1.out 5 rfl
 have HE : Hid (∀ W, Below w.heap.size w W → RowPost 1 w (.returned (.slice none 0 0)) W) := hid (fun W hW => ⟨⟨_, [], rfl, World.ownsRow_nil .., by simp⟩, hW⟩)
 clear h hn hb hro hw1
 by_cases h0 : c < 0
 · go_enter Tryz.func153, Tryz.ntmps153
   go_upto_region 1 with fail
   rw [← HW1.out]
   go_wp2_with fail
   go_ret
   exact HE.out _ B1.out
 · by_cases h1 : (n : Int) ≤ c
   · go_enter Tryz.func153, Tryz.ntmps153
     go_upto_region 1 with fail
     rw [← HW1.out]
     go_wp2_with fail
     go_ret
     exact HE.out _ B1.out
   · obtain ⟨x, rfl⟩ := Int.eq_ofNat_of_zero_le (show 0 ≤ c by omega)
     have hx : x < st.shelves.length := by rw [HN.out]; omega
     have x0 : (0 : Int) ≤ (x : Int) := by omega
     have x1 : (x : Int) < (n : Int) := by omega
     have HC := hid (HCA.out w1 B1.out)
     clear h0 h1 HCA
     go_enter Tryz.func153, Tryz.ntmps153
     go_upto_region 1 with fail
     rw [← HW1.out]
     go_wp2_with fail
     go_at_call 76; refine HC.out.mono ?_; rintro e w2 ⟨⟨k, rfl⟩, b2⟩
     have B2 := hid (B1.out.trans (b2.mono hs1))
     have I2 := hid (keep_heap I1.out b2)
     clear b2 HC p0 p1 p2 p3 p4 p5
     by_cases hk : 0 ≤ k
     · go_wp2_with fail
       go_ret
       exact HE.out _ B2.out
     · obtain ⟨b, o, e1, c0⟩ := (HL.out w2 B2.out).cell x hx
       subst e1
       have hv := HBB.out _ (List.getElem_mem hx)
       obtain ⟨y, hy⟩ : ∃ y, st.shelves[x] = y := ⟨_, rfl⟩
       rw [hy] at c0 hv
       have q1 : w2.cell? ⟨w.heap.size, 1, none⟩ = some (.slice (some ⟨b, o, none⟩) n sc) := cell_of_heap I2.out 1 rfl
       obtain ⟨v1, v2⟩ := hv
       have u1 : -9223372036854775808 ≤ 2 * y := by omega
       have u2 : 2 * y ≤ 9223372036854775807 := by omega
       have u3 : -9223372036854775808 ≤ 2 * y + 1 := by omega
       have u4 : 2 * y + 1 ≤ 9223372036854775807 := by omega
       have HO : Hid ((w2.alloc (.cells #[.int .i64 (2 * y + 1)] 3)).ownsRow w.heap.size 3 1 (.slice (some ⟨w2.heap.size, 0, none⟩) 1 1) 1 (ints [2 * y + 1])) := hid (by
        have h9 := World.ownsRow_lit (base := w.heap.size) (e := 3) (size := 1) w2 #[.int .i64 (2 * y + 1)] 1 B2.out.size (by unfold maxLen; omega) rfl
        simpa [ints] using h9)
       have BX := hid (B2.out.alloc B2.out.size (.cells #[.int .i64 (2 * y + 1)] 3))
       clear hy hx v1 v2
       go_wp2_with fail
       go_ret
       exact ⟨⟨_, [2 * y + 1], rfl, HO.out, by simp⟩, BX.out⟩
theorem r14robot_any (st : Bd.State) (shv rov pev dev skv : Value) (x : Nat) (w : World) (h : RoV w rov st.robots) (hx : x < st.robots.length) (hb : ∀ r ∈ st.robots, -1152921504606846976 ≤ r.cell ∧ r.cell ≤ 1152921504606846976) :
 Calls Tryz.prog 152 #[stV st shv rov pev dev skv, .int .i64 x] w (RowPost 2 w) := by
 obtain ⟨ra, rc, rfl, hrm⟩ := h.form
 unfold stV
 have hbr := hb _ (List.getElem_mem hx)
 obtain ⟨n, hn⟩ : ∃ n, st.robots.length = n := ⟨_, rfl⟩
 rw [hn] at h hrm ⊢
 have HL := hid (fun W (hW : Below w.heap.size w W) => h.keep hW)
 obtain ⟨w1, hw1⟩ : ∃ w1, w1 = w.alloc (.cells #[.int .i64 st.tick, shv, .slice ra n rc, pev, dev, skv] 58) := ⟨_, rfl⟩
 have B1 : Hid (Below w.heap.size w w1) := hid (by rw [hw1]; exact (Below.refl _ w).alloc (Nat.le_refl _) _)
 have I1 : Hid (w1.heap[w.heap.size]? = some (.cells #[.int .i64 st.tick, shv, .slice ra n rc, pev, dev, skv] 58 (0, 0))) := hid (by rw [hw1]; exact heap_alloc_new _ _)
 have HW1 := hid hw1
 have hs1 := B1.out.size
 obtain ⟨b, o, e1, hbk, t0, t1, t2, t3, t4, t5⟩ := (HL.out w1 B1.out).cell x hx
 subst e1
 obtain ⟨R, hR⟩ : ∃ R, st.robots[x] = R := ⟨_, rfl⟩
 rw [hR] at t0 t1 t2 t3 t4 t5 hbr
 have p2 : w1.cell? ⟨w.heap.size, 2, none⟩ = some (.slice (some ⟨b, o, none⟩) n rc) := cell_of_heap I1.out 2 rfl
 have x0 : (0 : Int) ≤ (x : Int) := by omega
 have x1 : (x : Int) < (n : Int) := by omega
 have HAT := hid (fun W => r14at_any R R.cell W hbr)
 unfold robC at HAT
 unfold RowPost at HAT
 clear h hn hb hx hR hw1 hbr
 go_enter Tryz.func152, Tryz.ntmps152
 go_upto_region 1 with fail
 rw [← HW1.out]
 go_upto_region 3 with fail
 refine wp_region_held_drew (S := fun W' => W'.cell? ⟨w.heap.size, 2, none⟩ = some (.slice (some ⟨b, o, none⟩) n rc) ∧ W'.cell? ⟨b, o + x * 6, none⟩ = some (.int .i64 R.cell) ∧ W'.cell? ⟨b, o + x * 6 + 1, none⟩ = some (.int .i64 R.load) ∧ W'.cell? ⟨b, o + x * 6 + 2, none⟩ = some (.int .i64 R.charge) ∧ W'.cell? ⟨b, o + x * 6 + 3, none⟩ = some (.int .i64 R.rest) ∧ W'.cell? ⟨b, o + x * 6 + 4, none⟩ = some (.int .i64 R.mute) ∧ W'.cell? ⟨b, o + x * 6 + 5, none⟩ = some (.bool R.dead)) (by kernel_rfl) ⟨p2, t0, t1, t2, t3, t4, t5⟩ (fun hHeld => ?_)
 obtain ⟨wx, hwx⟩ : ∃ W, W = w1.drew := ⟨_, rfl⟩
 rw [← hwx] at hHeld ⊢
 have HBX : Hid (Below w.heap.size w wx) := hid (B1.out.trans (by subst hwx; exact ⟨rfl, rfl, rfl, Nat.le_refl _, fun _ _ => rfl⟩))
 clear hwx
 refine tk 0 ?_
 try simp only [Act.put, zA, zB, zC, zD, zE, zF]
 refine tk 1 ?_
 try simp only [Act.put, zA, zB, zC, zD, zE, zF]
 refine tk 2 ?_
 try simp only [Act.put, zA, zB, zC, zD, zE, zF]
 refine tk 3 ?_
 try simp only [Act.put, zA, zB, zC, zD, zE, zF]
 refine tk 4 ?_
 try simp only [Act.put, zA, zB, zC, zD, zE, zF]
 refine tk 5 ?_
 try simp only [Act.put, zA, zB, zC, zD, zE, zF]
 refine tk 6 ?_
 try simp only [Act.put, zA, zB, zC, zD, zE, zF]
 refine tk 7 ?_
 try simp only [Act.put, zA, zB, zC, zD, zE, zF]
 refine tk 8 ?_
 try simp only [Act.put, zA, zB, zC, zD, zE, zF]
 refine tk 9 ?_
 try simp only [Act.put, zA, zB, zC, zD, zE, zF]
 refine tk 10 ?_
 try simp only [Act.put, zA, zB, zC, zD, zE, zF]
 refine wpAnyH_ready (rs := [11]) (by kernel_rfl) (by simp) ?_
 refine AllReadyH.cons (o := _) rfl (fun K hK => ?_) AllReadyH.nil
 go_simp
 go_at_call 224; with_reducible refine (HAT.out wx).mono ?_; rintro e w5 ⟨⟨v5, l5, rfl, ho5, hl5⟩, b5⟩
 have HO5 := hid (own_baseB ho5 HBX.out.size)
 have B5 := hid (HBX.out.trans (b5.mono HBX.out.size))
 have HE : Hid ((∃ v l, Ending.returned v5 = .returned v ∧ w5.ownsRow w.heap.size 3 1 v l.length (ints l) ∧ l.length ≤ 2) ∧ Below w.heap.size w w5) := hid ⟨⟨v5, l5, rfl, HO5.out, hl5⟩, B5.out⟩
 obtain ⟨a5, c5, rfl⟩ := own_form3 ho5
 go_wp2_with fail
 refine hK.out _ _ ?_ (fun hHeld => ?_)
 · obtain ⟨k0, k1, k2, k3, k4, k5, k6⟩ := hHeld; exact ⟨(b5.cell (p := ⟨w.heap.size, 2, none⟩) (cell_block_lt k0)).trans k0, (b5.cell (p := ⟨b, o + x * 6, none⟩) (cell_block_lt k1)).trans k1, (b5.cell (p := ⟨b, o + x * 6 + 1, none⟩) (cell_block_lt k2)).trans k2, (b5.cell (p := ⟨b, o + x * 6 + 2, none⟩) (cell_block_lt k3)).trans k3, (b5.cell (p := ⟨b, o + x * 6 + 3, none⟩) (cell_block_lt k4)).trans k4, (b5.cell (p := ⟨b, o + x * 6 + 4, none⟩) (cell_block_lt k5)).trans k5, (b5.cell (p := ⟨b, o + x * 6 + 5, none⟩) (cell_block_lt k6)).trans k6⟩
 clear hK K ho5 b5
 try simp only [Act.put, zA, zB, zC, zD, zE, zF]
 refine tk 12 ?_
 try simp only [Act.put, zA, zB, zC, zD, zE, zF]
 refine wpAnyH_done (by kernel_rfl) ?_ _
 go_wp2_with fail
 go_ret
 exact HE.out
theorem r14person_any (st : Bd.State) (shv rov pev dev skv : Value) (x : Nat) (w : World) (h : Is w pev st.people) (hx : x < st.people.length) (hb : ∀ r ∈ st.people, -1152921504606846976 ≤ r ∧ r ≤ 1152921504606846976) :
 Calls Tryz.prog 154 #[stV st shv rov pev dev skv, .int .i64 x] w (RowPost 2 w) := by
 obtain ⟨ra, rc, rfl, hrm⟩ := h.form
 unfold stV
 obtain ⟨h1, h2⟩ := hb _ (List.getElem_mem hx)
 obtain ⟨n, hn⟩ : ∃ n, st.people.length = n := ⟨_, rfl⟩
 rw [hn] at h hrm ⊢
 have HL := hid (fun W (hW : Below w.heap.size w W) => h.keep hW)
 obtain ⟨w1, hw1⟩ : ∃ w1, w1 = w.alloc (.cells #[.int .i64 st.tick, shv, rov, .slice ra n rc, dev, skv] 58) := ⟨_, rfl⟩
 have B1 : Hid (Below w.heap.size w w1) := hid (by rw [hw1]; exact (Below.refl _ w).alloc (Nat.le_refl _) _)
 have I1 : Hid (w1.heap[w.heap.size]? = some (.cells #[.int .i64 st.tick, shv, rov, .slice ra n rc, dev, skv] 58 (0, 0))) := hid (by rw [hw1]; exact heap_alloc_new _ _)
 have HW1 := hid hw1
 have hs1 := B1.out.size
 obtain ⟨b, o, e1, t0⟩ := (HL.out w1 B1.out).cell x hx
 subst e1
 obtain ⟨y, hy⟩ : ∃ y, st.people[x] = y := ⟨_, rfl⟩
 rw [hy] at t0 h1 h2
 have p3 : w1.cell? ⟨w.heap.size, 3, none⟩ = some (.slice (some ⟨b, o, none⟩) n rc) := cell_of_heap I1.out 3 rfl
 have x0 : (0 : Int) ≤ (x : Int) := by omega
 have x1 : (x : Int) < (n : Int) := by omega
 have m1 : -9223372036854775808 ≤ 2 * y := by omega
 have m2 : 2 * y ≤ 9223372036854775807 := by omega
 have m3 : -9223372036854775808 ≤ 2 * y + 1 := by omega
 have m4 : 2 * y + 1 ≤ 9223372036854775807 := by omega
 have HE : Hid (∀ W, Below w1.heap.size w1 W → ∀ p q : Int, RowPost 2 w (.returned (.slice (some ⟨W.heap.size, 0, none⟩) 2 2)) (W.alloc (.cells #[.int .i64 p, .int .i64 q] 3))) := hid (fun W hW p q => by
  have hB := B1.out.trans (hW.mono hs1)
  refine ⟨⟨_, [p, q], rfl, ?_, by simp⟩, hB.alloc hB.size _⟩
  have h9 := World.ownsRow_lit (base := w.heap.size) (e := 3) (size := 1) W #[.int .i64 p, .int .i64 q] 2 hB.size (by unfold maxLen; omega) rfl
  simpa [ints] using h9)
 clear h hn hb hx hy hw1 h1 h2
 go_enter Tryz.func154, Tryz.ntmps154
 go_upto_region 1 with fail
 rw [← HW1.out]
 go_upto_region 3 with fail
 refine wp_region_held_drew (S := fun W' => W'.cell? ⟨w.heap.size, 3, none⟩ = some (.slice (some ⟨b, o, none⟩) n rc) ∧ W'.cell? ⟨b, o + x, none⟩ = some (.int .i64 y)) (by kernel_rfl) ⟨p3, t0⟩ (fun hHeld => ?_)
 obtain ⟨wx, hwx⟩ : ∃ W, W = w1.drew := ⟨_, rfl⟩
 rw [← hwx] at hHeld ⊢
 have HBX : Hid (Below w1.heap.size w1 wx) := hid (by subst hwx; exact ⟨rfl, rfl, rfl, Nat.le_refl _, fun _ _ => rfl⟩)
 clear hwx
 refine tk 0 ?_
 try simp only [Act.put, zA, zB, zC, zD, zE, zF]
 refine tk 1 ?_
 try simp only [Act.put, zA, zB, zC, zD, zE, zF]
 refine tk 2 ?_
 try simp only [Act.put, zA, zB, zC, zD, zE, zF]
 refine tk 3 ?_
 try simp only [Act.put, zA, zB, zC, zD, zE, zF]
 refine tk 4 ?_
 try simp only [Act.put, zA, zB, zC, zD, zE, zF]
 refine tk 5 ?_
 try simp only [Act.put, zA, zB, zC, zD, zE, zF]
 refine tk 6 ?_
 try simp only [Act.put, zA, zB, zC, zD, zE, zF]
 refine tk 7 ?_
 try simp only [Act.put, zA, zB, zC, zD, zE, zF]
 refine tk 8 ?_
 try simp only [Act.put, zA, zB, zC, zD, zE, zF]
 refine tk 9 ?_
 try simp only [Act.put, zA, zB, zC, zD, zE, zF]
 refine tk 10 ?_
 try simp only [Act.put, zA, zB, zC, zD, zE, zF]
 refine tk 11 ?_
 try simp only [Act.put, zA, zB, zC, zD, zE, zF]
 refine tk 12 ?_
 try simp only [Act.put, zA, zB, zC, zD, zE, zF]
 refine wpAnyH_ready (rs := [13]) (by kernel_rfl) (by simp) ?_
 refine AllReadyH.cons (o := _) rfl (fun K hK => ?_) AllReadyH.nil
 go_simp
 go_wp2_with fail
 refine hK.out _ _ ?_ (fun hHeld2 => ?_)
 · obtain ⟨k0, k1⟩ := hHeld; exact ⟨(((Below.refl _ wx).alloc (Nat.le_refl _) _).cell (p := ⟨w.heap.size, 3, none⟩) (cell_block_lt k0)).trans k0, (((Below.refl _ wx).alloc (Nat.le_refl _) _).cell (p := ⟨b, o + x, none⟩) (cell_block_lt k1)).trans k1⟩
 clear hK K
 try simp only [Act.put, zA, zB, zC, zD, zE, zF]
 refine tk 14 ?_
 try simp only [Act.put, zA, zB, zC, zD, zE, zF]
 refine wpAnyH_done (by kernel_rfl) ?_ _
 go_wp2_with fail
 go_ret
 exact HE.out wx HBX.out _ _
theorem r14all_any (st : Bd.State) (shv rov pev dev skv : Value) (w : World) (h : StV w shv rov pev dev skv st) (hf : Few4 st) :
 Calls Tryz.prog 78 #[stV st shv rov pev dev skv] w (RowPost 60 w) := by
 have HRB := hid (fun W (hW : Below w.heap.size w W) x hx => r14robot_any st shv rov pev dev skv x W (h.keep hW).ro hx hf.roB)
 have HSH := hid (fun W (hW : Below w.heap.size w W) (x : Nat) => r14shelf_any st shv rov pev dev skv (x : Int) W (h.keep hW).sh (h.keep hW).ro hf.shB)
 have HPE := hid (fun W (hW : Below w.heap.size w W) x hx => r14person_any st shv rov pev dev skv x W (h.keep hW).pe hx hf.peB)
 have g1 := hf.ro
 have g2 := hf.sh
 have g3 := hf.pe
 obtain ⟨sa, sc, rfl, hsm⟩ := h.sh.form
 obtain ⟨ra, rc, rfl, hrm⟩ := h.ro.form
 obtain ⟨pa, pc, rfl, hpm⟩ := h.pe.form
 unfold stV at *
 unfold RowPost at HRB HSH HPE
 obtain ⟨ns, e1⟩ : ∃ n, st.shelves.length = n := ⟨_, rfl⟩
 obtain ⟨nr, e2⟩ : ∃ n, st.robots.length = n := ⟨_, rfl⟩
 obtain ⟨np, e3⟩ : ∃ n, st.people.length = n := ⟨_, rfl⟩
 rw [e1, e2, e3] at HRB HPE
 rw [e1, e2, e3] at HSH ⊢
 rw [e2] at g1
 rw [e1] at g2
 rw [e3] at g3
 obtain ⟨w1, hw1⟩ : ∃ w1, w1 = w.alloc (.cells #[.int .i64 st.tick, .slice sa ns sc, .slice ra nr rc, .slice pa np pc, dev, skv] 58) := ⟨_, rfl⟩
 have B1 : Hid (Below w.heap.size w w1) := hid (by rw [hw1]; exact (Below.refl _ w).alloc (Nat.le_refl _) _)
 have I1 : Hid (w1.heap[w.heap.size]? = some (.cells #[.int .i64 st.tick, .slice sa ns sc, .slice ra nr rc, .slice pa np pc, dev, skv] 58 (0, 0))) := hid (by rw [hw1]; exact heap_alloc_new _ _)
 have HW1 := hid hw1
 have hs1 : w.heap.size + 1 = w1.heap.size := by rw [hw1]; simp
 have O0 : Hid (w1.ownsRow w1.heap.size 3 1 (.slice none 0 0) 0 (ints [])) := hid (World.ownsRow_nil ..)
 have Z0 : Hid (Below w1.heap.size w1 w1) := hid (Below.refl _ _)
 clear h hf e1 e2 e3 hsm hrm hpm hw1
 go_enter Tryz.func78, Tryz.ntmps78
 go_upto_region 1 with fail
 rw [← HW1.out]
 go_wp2_with fail
 go_loopw [3, 4] (fun ov iv wr => ∃ (i k : Nat) (R : List Int) (oa : Option Addr) (oc : Nat), i ≤ nr ∧ iv = .int .i64 i ∧ ov = .slice oa k oc ∧ k ≤ 0 + 2 * i ∧ Hid (wr.ownsRow w1.heap.size 3 1 (.slice oa k oc) k (ints R)) ∧ Hid (Below w1.heap.size w1 wr)) (fun _ iv _ => nr - (intOf iv).toNat)
 case atStart => exact ⟨0, 0, [], none, 0, by omega, rfl, rfl, by omega, O0, Z0⟩
 case round =>
  clear O0 Z0
  obtain ⟨i, k, R, oa, oc, hin, rfl, rfl, hk, HO, HB⟩ := hrel
  obtain ⟨wA, hwA⟩ : ∃ W, W = wr := ⟨_, rfl⟩
  subst hwA
  have hsA := HB.out.size
  have BT := hid (B1.out.trans (HB.out.mono B1.out.size))
  have J1 := hid (keep_heap I1.out HB.out)
  obtain ⟨p0, p1, p2, p3, p4, p5⟩ := cells6 J1.out
  by_cases hil : i < nr
  · have d0 : (0 : Int) ≤ (i : Int) := by omega
    have d1 : (i : Int) < (nr : Int) := by omega
    have HC := hid (HRB.out wA BT.out i hil)
    go_wp2_with fail
    go_at_call 152; refine HC.out.mono ?_; rintro e w2 ⟨⟨v2, R2, rfl, ho2, hl2⟩, b2⟩
    have HB2 := hid (HB.out.trans (b2.mono hsA))
    have HO2 := hid (own_keepB HO.out b2)
    have HS2 := hid (Sl.of_own ho2 (own_max ho2))
    have hs2 := HB2.out.size
    obtain ⟨a2, c2, rfl⟩ := own_form3 ho2
    obtain ⟨m, hm⟩ : ∃ m, R2.length = m := ⟨_, rfl⟩
    have HM : Hid ((ints R2).length = m) := hid (by simp [ints, hm])
    rw [hm] at HS2 hl2 ⊢
    clear ho2 b2 hm HC
    go_wp2_with (at_builtin; refine wpList_append_sl rfl _ _ 22 rfl w1.heap.size 3 (.int .i64 0) 8 Tryz.underlying22 teIInfo rfl (.slice oa k oc) k _ rfl HO2.out (.slice a2 m c2) (ints R2) rfl HS2.out ?qc3 ?qc4 ?qc5 ?qc6 ?_)
    case qc3 => intro u hu; simp only [ints, List.mem_map] at hu; obtain ⟨y, -, rfl⟩ := hu; rfl
    case qc4 => rw [HM.out]; unfold maxLen; omega
    case qc5 => rw [HM.out]; omega
    case qc6 => omega
    intro v' w8 hown hgrow
    rw [HM.out] at hown
    obtain ⟨la', lc', rfl⟩ := own_form3 hown
    have hbb : Below w1.heap.size w2 w8 := (Below.refl _ w2).grown hgrow hs2 (fun g hg => (HO2.out.lt g hg).1)
    have HB8 := hid (HB2.out.trans hbb)
    have HO8 : Hid (w8.ownsRow w1.heap.size 3 1 (.slice la' (k + m) lc') (k + m) (ints (R ++ R2))) := hid (by rw [show ints (R ++ R2) = ints R ++ ints R2 by simp [ints]]; exact hown)
    clear hown hgrow hbb HM HS2
    go_wp2_with fail
    go_roundw
    case rel => exact ⟨i + 1, k + m, _, la', lc', by omega, by go_num, rfl, by omega, HO8, HB8⟩
    case measure => simp [intOf]; omega
  · have k9 : ¬ (i : Int) < (nr : Int) := by omega
    go_wp2_with fail
    have hk0 : k ≤ 24 := by omega
    clear hk k9 hin p0 p1 p2 p3 p4 p5
    go_loopw [3, 5] (fun ov iv wr => ∃ (i k : Nat) (R : List Int) (oa : Option Addr) (oc : Nat), i ≤ ns ∧ iv = .int .i64 i ∧ ov = .slice oa k oc ∧ k ≤ 24 + 1 * i ∧ Hid (wr.ownsRow w1.heap.size 3 1 (.slice oa k oc) k (ints R)) ∧ Hid (Below w1.heap.size w1 wr)) (fun _ iv _ => ns - (intOf iv).toNat)
    case atStart => exact ⟨0, k, R, oa, oc, by omega, rfl, rfl, by omega, HO, HB⟩
    case round =>
     clear hk0 HO HB BT J1 hsA
     obtain ⟨i, k, R, oa, oc, hin, rfl, rfl, hk, HO, HB⟩ := hrel
     obtain ⟨wA, hwA⟩ : ∃ W, W = wr := ⟨_, rfl⟩
     subst hwA
     have hsA := HB.out.size
     have BT := hid (B1.out.trans (HB.out.mono B1.out.size))
     have J1 := hid (keep_heap I1.out HB.out)
     obtain ⟨p0, p1, p2, p3, p4, p5⟩ := cells6 J1.out
     by_cases hil : i < ns
     · have d0 : (0 : Int) ≤ (i : Int) := by omega
       have d1 : (i : Int) < (ns : Int) := by omega
       have HC := hid (HSH.out wA BT.out i)
       go_wp2_with fail
       go_at_call 153; refine HC.out.mono ?_; rintro e w2 ⟨⟨v2, R2, rfl, ho2, hl2⟩, b2⟩
       have HB2 := hid (HB.out.trans (b2.mono hsA))
       have HO2 := hid (own_keepB HO.out b2)
       have HS2 := hid (Sl.of_own ho2 (own_max ho2))
       have hs2 := HB2.out.size
       obtain ⟨a2, c2, rfl⟩ := own_form3 ho2
       obtain ⟨m, hm⟩ : ∃ m, R2.length = m := ⟨_, rfl⟩
       have HM : Hid ((ints R2).length = m) := hid (by simp [ints, hm])
       rw [hm] at HS2 hl2 ⊢
       clear ho2 b2 hm HC
       go_wp2_with (at_builtin; refine wpList_append_sl rfl _ _ 22 rfl w1.heap.size 3 (.int .i64 0) 8 Tryz.underlying22 teIInfo rfl (.slice oa k oc) k _ rfl HO2.out (.slice a2 m c2) (ints R2) rfl HS2.out ?qc3 ?qc4 ?qc5 ?qc6 ?_)
       case qc3 => intro u hu; simp only [ints, List.mem_map] at hu; obtain ⟨y, -, rfl⟩ := hu; rfl
       case qc4 => rw [HM.out]; unfold maxLen; omega
       case qc5 => rw [HM.out]; omega
       case qc6 => omega
       intro v' w8 hown hgrow
       rw [HM.out] at hown
       obtain ⟨la', lc', rfl⟩ := own_form3 hown
       have hbb : Below w1.heap.size w2 w8 := (Below.refl _ w2).grown hgrow hs2 (fun g hg => (HO2.out.lt g hg).1)
       have HB8 := hid (HB2.out.trans hbb)
       have HO8 : Hid (w8.ownsRow w1.heap.size 3 1 (.slice la' (k + m) lc') (k + m) (ints (R ++ R2))) := hid (by rw [show ints (R ++ R2) = ints R ++ ints R2 by simp [ints]]; exact hown)
       clear hown hgrow hbb HM HS2
       go_wp2_with fail
       go_roundw
       case rel => exact ⟨i + 1, k + m, _, la', lc', by omega, by go_num, rfl, by omega, HO8, HB8⟩
       case measure => simp [intOf]; omega
     · have k9 : ¬ (i : Int) < (ns : Int) := by omega
       go_wp2_with fail
       have hk0 : k ≤ 36 := by omega
       clear hk k9 hin p0 p1 p2 p3 p4 p5
       go_loopw [3, 6] (fun ov iv wr => ∃ (i k : Nat) (R : List Int) (oa : Option Addr) (oc : Nat), i ≤ np ∧ iv = .int .i64 i ∧ ov = .slice oa k oc ∧ k ≤ 36 + 2 * i ∧ Hid (wr.ownsRow w1.heap.size 3 1 (.slice oa k oc) k (ints R)) ∧ Hid (Below w1.heap.size w1 wr)) (fun _ iv _ => np - (intOf iv).toNat)
       case atStart => exact ⟨0, k, R, oa, oc, by omega, rfl, rfl, by omega, HO, HB⟩
       case round =>
        clear hk0 HO HB BT J1 hsA
        obtain ⟨i, k, R, oa, oc, hin, rfl, rfl, hk, HO, HB⟩ := hrel
        obtain ⟨wA, hwA⟩ : ∃ W, W = wr := ⟨_, rfl⟩
        subst hwA
        have hsA := HB.out.size
        have BT := hid (B1.out.trans (HB.out.mono B1.out.size))
        have J1 := hid (keep_heap I1.out HB.out)
        obtain ⟨p0, p1, p2, p3, p4, p5⟩ := cells6 J1.out
        by_cases hil : i < np
        · have d0 : (0 : Int) ≤ (i : Int) := by omega
          have d1 : (i : Int) < (np : Int) := by omega
          have HC := hid (HPE.out wA BT.out i hil)
          go_wp2_with fail
          go_at_call 154; refine HC.out.mono ?_; rintro e w2 ⟨⟨v2, R2, rfl, ho2, hl2⟩, b2⟩
          have HB2 := hid (HB.out.trans (b2.mono hsA))
          have HO2 := hid (own_keepB HO.out b2)
          have HS2 := hid (Sl.of_own ho2 (own_max ho2))
          have hs2 := HB2.out.size
          obtain ⟨a2, c2, rfl⟩ := own_form3 ho2
          obtain ⟨m, hm⟩ : ∃ m, R2.length = m := ⟨_, rfl⟩
          have HM : Hid ((ints R2).length = m) := hid (by simp [ints, hm])
          rw [hm] at HS2 hl2 ⊢
          clear ho2 b2 hm HC
          go_wp2_with (at_builtin; refine wpList_append_sl rfl _ _ 22 rfl w1.heap.size 3 (.int .i64 0) 8 Tryz.underlying22 teIInfo rfl (.slice oa k oc) k _ rfl HO2.out (.slice a2 m c2) (ints R2) rfl HS2.out ?qc3 ?qc4 ?qc5 ?qc6 ?_)
          case qc3 => intro u hu; simp only [ints, List.mem_map] at hu; obtain ⟨y, -, rfl⟩ := hu; rfl
          case qc4 => rw [HM.out]; unfold maxLen; omega
          case qc5 => rw [HM.out]; omega
          case qc6 => omega
          intro v' w8 hown hgrow
          rw [HM.out] at hown
          obtain ⟨la', lc', rfl⟩ := own_form3 hown
          have hbb : Below w1.heap.size w2 w8 := (Below.refl _ w2).grown hgrow hs2 (fun g hg => (HO2.out.lt g hg).1)
          have HB8 := hid (HB2.out.trans hbb)
          have HO8 : Hid (w8.ownsRow w1.heap.size 3 1 (.slice la' (k + m) lc') (k + m) (ints (R ++ R2))) := hid (by rw [show ints (R ++ R2) = ints R ++ ints R2 by simp [ints]]; exact hown)
          clear hown hgrow hbb HM HS2
          go_wp2_with fail
          go_roundw
          case rel => exact ⟨i + 1, k + m, _, la', lc', by omega, by go_num, rfl, by omega, HO8, HB8⟩
          case measure => simp [intOf]; omega
        · have k9 : ¬ (i : Int) < (np : Int) := by omega
          have HRK : Hid (R.length = k) := hid (by have h9 := HO.out.1; simp [ints] at h9; omega)
          have HIR : Hid (Is wA (.slice oa k oc) R) := hid (Sl.of_own HO.out (own_max HO.out))
          have HC := hid (r14sorted_any (.slice oa k oc) R wA HIR.out (by rw [HRK.out]; omega))
          go_wp2_with fail
          go_at_call 155; refine HC.out.mono ?_; rintro e w2 ⟨⟨v2, R2, rfl, ho2, hl2⟩, b2⟩
          rw [HRK.out] at hl2
          have HF : Hid (RowPost 60 w (.returned v2) w2) := hid ⟨⟨v2, R2, rfl, own_baseB ho2 BT.out.size, by omega⟩, BT.out.trans (b2.mono BT.out.size)⟩
          clear ho2 b2 HC
          go_wp2_with fail
          go_ret
          exact HF.out
end Go.Proofs.YtfcbcpfnaadpeaaGreatDoor
