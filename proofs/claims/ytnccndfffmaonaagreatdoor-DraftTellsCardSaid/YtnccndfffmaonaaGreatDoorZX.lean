/- Parts DtE of this claim, laid one behind the other: walks and the plain laws behind them; each contract states its own conditions. -/
import Derived.Test.YtnccndfffmaonaaGreatDoorZW
import Derived.Test.YtnccndfffmaonaaGreatDoorZS
/- The reference of layer 10: Print. -/
namespace Go.Proofs.YtnccndfffmaonaaGreatDoor
set_option linter.unusedSimpArgs false
set_option linter.unusedVariables false
open Go.RowKit

theorem fm_drop {α : Type} (f : α → List UInt8) (ls : List α) (k : Nat) (h : k < ls.length) : (ls.drop k).flatMap f = f ls[k] ++ (ls.drop (k + 1)).flatMap f := by
  rw [List.drop_eq_getElem_cons h, List.flatMap_cons]

set_option maxRecDepth 100000 in
set_option maxHeartbeats 32000000 in
theorem rPrint_no (va ia : Value) (d : Dr.Draft) (w : World) (hd : DV w va ia d) (hz : DrSize d) (hR : Dr.rightD d = false) :
    Calls Tryz.prog 15 #[.agg #[va, ia]] w fun e w' => e = .returned (.string ⟨(Dr.printB d).toArray⟩) ∧ Below w.heap.size w w' := by
  have B1 := Lib.hid ((Below.refl _ w).alloc (Nat.le_refl _) (.cells #[va, ia] 25))
  have HC := Lib.hid (rRight_any va ia d _ (hd.keep B1.out) hz)
  have HP : Hid (Dr.printB d = []) := Lib.hid (by unfold Dr.printB; rw [hR]; rfl)
  obtain ⟨a1, n1, c1, rfl⟩ : ∃ a n c, va = .slice a n c := by obtain ⟨⟨us, h, -⟩, -⟩ := hd; obtain ⟨a, c, rfl, -⟩ := h.slice; exact ⟨_, _, _, rfl⟩
  obtain ⟨a3, n3, c3, rfl⟩ : ∃ a n c, ia = .slice a n c := by obtain ⟨-, l, -, ⟨a, c, rfl, -⟩, -⟩ := hd; exact ⟨_, _, _, rfl⟩
  rw [hR] at HC
  clear hd hz hR
  go_enter Tryz.func15, Tryz.ntmps15
  go_wp2_with fail
  go_at_call 13; refine HC.out.mono ?_; rintro e w2 ⟨rfl, b2⟩
  have B2 := Lib.hid (B1.out.trans (b2.mono B1.out.size))
  clear b2
  go_wp2_with fail
  go_ret
  exact ⟨by rw [HP.out]; rfl, B2.out⟩

set_option maxRecDepth 100000 in
set_option maxHeartbeats 64000000 in
theorem rPrint_yes (va ia : Value) (d : Dr.Draft) (w : World) (hd : DV w va ia d) (hz : DrSize d) (hR : Dr.rightD d = true) (hm : ∀ x ∈ d.items, ∀ n ∈ x.n, n ≤ 9223372036854775807) (hL : (Dr.bodyB d).length ≤ 100000000) :
    Calls Tryz.prog 15 #[.agg #[va, ia]] w fun e w' => e = .returned (.string ⟨(Dr.printB d).toArray⟩) ∧ Below w.heap.size w w' := by
  have B1 := Lib.hid ((Below.refl _ w).alloc (Nat.le_refl _) (.cells #[va, ia] 25))
  have HC := Lib.hid (rRight_any va ia d _ (hd.keep B1.out) hz)
  obtain ⟨S, hS⟩ : ∃ S : ByteArray, S = ⟨(Dr.printB d).toArray⟩ := ⟨_, rfl⟩
  have hSb : bs S = d.decks.flatMap Dr.deckB ++ d.items.flatMap Dr.lineB := by rw [hS, bs_lit0]; unfold Dr.printB; rw [hR]; rfl
  rw [← hS]
  have hlen : (bs S).length ≤ 100000000 := by rw [hSb]; exact hL
  have HLEN := Lib.hid hlen
  have HIT : Hid (∀ x ∈ d.items, Dr.rightI x = true) := Lib.hid (by unfold Dr.rightD at hR; simp only [Bool.and_eq_true, List.all_eq_true] at hR; exact hR.2.2.2)
  have HM := Lib.hid hm
  rw [hR] at HC
  obtain ⟨⟨dvs, hu, hul, hus⟩, l, hl, hI, hIs⟩ := hd
  obtain ⟨a1, c1, rfl, m1, -, hk⟩ := hu
  obtain ⟨a3, c3, rfl, m3, -, hk3⟩ := hI
  obtain ⟨n, hn⟩ : ∃ n, n = dvs.length := ⟨_, rfl⟩
  obtain ⟨n3, hn3⟩ : ∃ n, n = l.length := ⟨_, rfl⟩
  have HX := Lib.hid hk
  have HX3 := Lib.hid hk3
  have US := Lib.hid hus
  have VS := Lib.hid hIs
  have HN := Lib.hid (show n = d.decks.length by omega)
  have HNV := Lib.hid hn
  have HN3 := Lib.hid hn3
  have HLL := Lib.hid hl
  rw [← hn] at m1 HC ⊢
  rw [← hn3] at m3 HC ⊢
  rw [← hn, ← hn3] at B1
  have hmx : n ≤ 9223372036854775807 := by unfold maxLen at m1; omega
  have hmx3 : n3 ≤ 9223372036854775807 := by unfold maxLen at m3; omega
  have i1 : (w.alloc (.cells #[.slice a1 n c1, .slice a3 n3 c3] 25)).heap[w.heap.size]? = some (.cells #[.slice a1 n c1, .slice a3 n3 c3] 25 (0, 0)) := heap_alloc_new _ _
  have I1 := Lib.hid i1
  have HA0 : Hid (bs ⟨#[]⟩ ++ ((d.decks.drop 0).flatMap Dr.deckB ++ d.items.flatMap Dr.lineB) = bs S) := Lib.hid (by rw [hSb]; rfl)
  clear hz hR hm hL hul hus hl hIs hk hk3 hn hn3 i1 m1 m3 hS hSb hlen
  go_enter Tryz.func15, Tryz.ntmps15
  go_wp2_with fail
  go_at_call 13; refine HC.out.mono ?_; rintro e w2 ⟨rfl, b2⟩
  have B2 := Lib.hid (B1.out.trans (b2.mono B1.out.size))
  have i2 := (b2.block w.heap.size (by simp)).trans I1.out
  have I2 := Lib.hid i2
  have hws : w.heap.size < w2.heap.size := (Array.getElem?_eq_some_iff.1 i2).1
  clear b2 i2 B1 HC I1
  go_wp2_with fail
  go_loopw [3, 4] (fun sv iv wr => ∃ (k : Nat) (A : ByteArray), k ≤ n ∧ sv = .string A ∧ iv = .int .i64 k ∧ Hid (bs A ++ ((d.decks.drop k).flatMap Dr.deckB ++ d.items.flatMap Dr.lineB) = bs S) ∧ Hid (Below w2.heap.size w2 wr)) (fun _ iv _ => n - (intOf iv).toNat)
  case atStart => exact ⟨0, _, by omega, rfl, rfl, HA0, Lib.hid (Below.refl _ _)⟩
  case round =>
    obtain ⟨k, A, hk, rfl, rfl, HR, HB⟩ := hrel
    clear HA0
    have hh := (HB.out.block w.heap.size hws).trans I2.out
    have hsr := HB.out.size
    have d0 : wr.cell? ⟨w.heap.size, 0, none⟩ = some (.slice a1 n c1) := cell_of_heap hh 0 rfl
    have d1 : wr.cell? ⟨w.heap.size, 1, none⟩ = some (.slice a3 n3 c3) := cell_of_heap hh 1 rfl
    have hA : A.size ≤ 100000000 := by
      have h := congrArg List.length HR.out
      have h2 := HLEN.out
      rw [List.length_append, bs_len] at h
      omega
    clear hh
    by_cases hkn : k < n
    · have hkd : k < d.decks.length := by rw [← HN.out]; exact hkn
      have hku : k < dvs.length := by rw [← HNV.out]; exact hkn
      obtain ⟨b, off, e1, p0⟩ := HX.out k hku
      subst e1
      have sk := US.out k hkd hku
      have hst := HR.out
      rw [fm_drop Dr.deckB _ k hkd] at hst
      obtain ⟨u, hu⟩ : ∃ u, u = dvs[k] := ⟨_, rfl⟩
      obtain ⟨rows, hx⟩ : ∃ x, x = d.decks[k] := ⟨_, rfl⟩
      rw [← hu] at p0 sk
      rw [← hx] at sk hst
      obtain ⟨REST, hREST⟩ : ∃ R, R = (d.decks.drop (k + 1)).flatMap Dr.deckB ++ d.items.flatMap Dr.lineB := ⟨_, rfl⟩
      rw [List.append_assoc, ← hREST] at hst
      have lt1 := cell_block_lt p0
      have hBB := B2.out.trans (HB.out.mono B2.out.size)
      have S1 := Lib.hid (sk.below B2.out)
      have p0 : w2.cell? ⟨b, off + k, none⟩ = _ := (B2.out.cell (p := ⟨b, off + k, none⟩) lt1).trans p0
      have lt2 := cell_block_lt p0
      have P0 := Lib.hid p0
      have kI0 : (0 : Int) ≤ (k : Int) := by omega
      have kI1 : (k : Int) < (n : Int) := by omega
      obtain ⟨ua, uc, rfl, hml⟩ := sk.slice
      rw [strs_len2] at hml P0 S1
      obtain ⟨m, hmr⟩ : ∃ m, m = rows.length := ⟨_, rfl⟩
      rw [← hmr] at P0 S1 hml
      have hmm : m ≤ 9223372036854775807 := by unfold maxLen at hml; omega
      have HMR := Lib.hid hmr
      have HRE := Lib.hid hREST
      have HA1 : Hid (bs (A ++ ⟨#[100, 101, 99, 107, 10]⟩) ++ ((rows.drop 0).flatMap Dr.rowB ++ REST) = bs S) := Lib.hid (by
        rw [← hst, bs_app3, show bs ⟨#[100, 101, 99, 107, 10]⟩ = [100, 101, 99, 107, 10] from rfl, List.drop_zero]
        simp [Dr.deckB, Dr.wDeck])
      clear hst hx hu sk lt1 lt2 hmr hml hREST HR p0 hBB
      go_wp2_with fail
      go_loopw [3, 5] (fun sv jv wr => ∃ (j : Nat) (A : ByteArray), j ≤ m ∧ sv = .string A ∧ jv = .int .i64 j ∧ Hid (bs A ++ ((rows.drop j).flatMap Dr.rowB ++ REST) = bs S) ∧ Hid (Below w2.heap.size w2 wr)) (fun _ jv _ => m - (intOf jv).toNat)
      case atStart => exact ⟨0, _, by omega, rfl, rfl, HA1, HB⟩
      case round =>
        obtain ⟨j, A, hj, rfl, rfl, HR, HB⟩ := hrel
        clear HA1
        have hh := (HB.out.block w.heap.size hws).trans I2.out
        have hsr := HB.out.size
        have d0 : wr.cell? ⟨w.heap.size, 0, none⟩ = some (.slice (some ⟨b, off, none⟩) n c1) := cell_of_heap hh 0 rfl
        have hA : A.size ≤ 100000000 := by
          have h := congrArg List.length HR.out
          have h2 := HLEN.out
          rw [List.length_append, bs_len] at h
          omega
        have lt2 := cell_block_lt P0.out
        have p0 : wr.cell? ⟨b, off + k, none⟩ = some (.slice ua m uc) := (HB.out.cell (p := ⟨b, off + k, none⟩) lt2).trans P0.out
        clear hh lt2
        by_cases hjm : j < m
        · have hjr : j < rows.length := by rw [← HMR.out]; exact hjm
          obtain ⟨rb, ro, rc, e1, -, hcs⟩ := (S1.out.below HB.out).some (by rw [strs_len2]; omega)
          injection e1 with e1 e2 e3
          subst e1
          have q0 := (hcs j (by rw [strs_len2]; exact hjr)).trans (show _ = some (Value.string ⟨(rows[j]).toArray⟩) by simp [strs])
          have hst := HR.out
          rw [fm_drop Dr.rowB rows j hjr] at hst
          obtain ⟨s, hs⟩ : ∃ s, s = rows[j] := ⟨_, rfl⟩
          rw [← hs] at q0 hst
          have hql := quote_len2 s
          have jI0 : (0 : Int) ≤ (j : Int) := by omega
          have jI1 : (j : Int) < (m : Int) := by omega
          obtain ⟨QB, hQB⟩ : ∃ QB : ByteArray, QB = ⟨(quote s).toArray⟩ := ⟨_, rfl⟩
          have hQs : QB.size = (quote s).length := by rw [hQB, ← bs_len, bs_lit0]
          have HQB : Hid (bs QB = quote s) := Lib.hid (by rw [hQB, bs_lit0])
          have hfit : (quote s).length ≤ 100000000 := by
            have h := congrArg List.length hst
            have h2 := HLEN.out
            rw [List.length_append, List.length_append, List.length_append, rowB_len] at h
            omega
          have hQ2 : QB.size ≤ 100000000 := by omega
          have HC2 := Lib.hid (rQuote_l s wr (by omega))
          rw [← hQB] at HC2
          have HST := Lib.hid hst
          clear hcs e2 e3 hst hs hql hQB hQs hfit HR
          go_wp2_with fail
          go_at_call 38; refine HC2.out.mono ?_; rintro e w4 ⟨rfl, b4⟩
          have HB3 := Lib.hid (HB.out.trans (b4.mono HB.out.size))
          clear b4
          have HA2 : Hid (bs (A ++ ⟨#[114, 111, 119, 32]⟩ ++ QB ++ ⟨#[10]⟩) ++ ((rows.drop (j + 1)).flatMap Dr.rowB ++ REST) = bs S) := Lib.hid (by
            rw [← HST.out, bs_app3, bs_app3, bs_app3, HQB.out, rowB_eq, show bs ⟨#[114, 111, 119, 32]⟩ = rowPre from rfl, show bs ⟨#[10]⟩ = [10] from rfl]; simp)
          go_wp2_with fail
          go_roundw
          case rel => exact ⟨j + 1, _, by omega, rfl, by go_num, HA2, HB3⟩
          case measure => simp [intOf]; omega
        · have HA2 : Hid (bs A ++ ((d.decks.drop (k + 1)).flatMap Dr.deckB ++ d.items.flatMap Dr.lineB) = bs S) := Lib.hid (by
            rw [← HR.out, show rows.drop j = [] from List.drop_eq_nil_of_le (by rw [← HMR.out]; omega), HRE.out]; rfl)
          clear HR
          go_wp2_with fail
          go_roundw
          case rel => exact ⟨k + 1, _, by omega, rfl, by go_num, HA2, HB⟩
          case measure => simp [intOf]; omega
    · have HA1 : Hid (bs A ++ (d.items.drop 0).flatMap Dr.lineB = bs S) := Lib.hid (by
        rw [← HR.out, show d.decks.drop k = [] from List.drop_eq_nil_of_le (by rw [← HN.out]; omega)]; rfl)
      clear HR
      go_wp2_with fail
      go_loopw [3, 6] (fun sv jv wr => ∃ (j : Nat) (A : ByteArray), j ≤ n3 ∧ sv = .string A ∧ jv = .int .i64 j ∧ Hid (bs A ++ (d.items.drop j).flatMap Dr.lineB = bs S) ∧ Hid (Below w2.heap.size w2 wr)) (fun _ jv _ => n3 - (intOf jv).toNat)
      case atStart => exact ⟨0, _, by omega, rfl, rfl, HA1, HB⟩
      case round =>
        obtain ⟨j, A, hj, rfl, rfl, HR, HB⟩ := hrel
        clear HA1
        have hh := (HB.out.block w.heap.size hws).trans I2.out
        have hsr := HB.out.size
        have d1 : wr.cell? ⟨w.heap.size, 1, none⟩ = some (.slice a3 n3 c3) := cell_of_heap hh 1 rfl
        have hA : A.size ≤ 100000000 := by
          have h := congrArg List.length HR.out
          have h2 := HLEN.out
          rw [List.length_append, bs_len] at h
          omega
        have HB3 := Lib.hid (B2.out.trans (HB.out.mono B2.out.size))
        clear hh
        by_cases hjn : j < n3
        · have hjl : j < l.length := by rw [← HN3.out]; exact hjn
          have hji : j < d.items.length := by rw [← HLL.out, List.length_map]; exact hjl
          obtain ⟨b, off, e1, p0, p1, p2, p3, p4⟩ := HX3.out j hjl
          subst e1
          have s1 := (VS.out l[j] (List.getElem_mem hjl)).1
          have hxe : d.items[j] = l[j].1 := by
            have := HLL.out
            simp only [← this, List.getElem_map]
          have hst := HR.out
          rw [fm_drop Dr.lineB _ j hji, hxe] at hst
          have hir := HIT.out _ (List.getElem_mem hji)
          have hmj := HM.out _ (List.getElem_mem hji)
          rw [hxe] at hir hmj
          obtain ⟨⟨x, nx⟩, hx⟩ : ∃ u, u = l[j] := ⟨_, rfl⟩
          rw [← hx] at p0 p1 p2 p3 p4 s1 hst hir hmj
          dsimp only at p0 p1 p2 p3 p4 s1 hst hir hmj
          have lt1 := cell_block_lt p0
          have p0 : wr.cell? ⟨b, off + j * 5, none⟩ = _ := (HB3.out.cell (p := ⟨b, off + j * 5, none⟩) lt1).trans p0
          have p1 : wr.cell? ⟨b, off + j * 5 + 1, none⟩ = _ := (HB3.out.cell (p := ⟨b, off + j * 5 + 1, none⟩) lt1).trans p1
          have p2 : wr.cell? ⟨b, off + j * 5 + 2, none⟩ = _ := (HB3.out.cell (p := ⟨b, off + j * 5 + 2, none⟩) lt1).trans p2
          have p3 : wr.cell? ⟨b, off + j * 5 + 3, none⟩ = _ := (HB3.out.cell (p := ⟨b, off + j * 5 + 3, none⟩) lt1).trans p3
          have p4 : wr.cell? ⟨b, off + j * 5 + 4, none⟩ = _ := (HB3.out.cell (p := ⟨b, off + j * 5 + 4, none⟩) lt1).trans p4
          have S2 := Lib.hid (s1.below HB3.out)
          obtain ⟨ua, uc, rfl, hml⟩ := s1.slice
          have jI0 : (0 : Int) ≤ (j : Int) := by omega
          have jI1 : (j : Int) < (n3 : Int) := by omega
          obtain ⟨LB, hLB⟩ : ∃ LB : ByteArray, LB = ⟨(Dr.lineB x).toArray⟩ := ⟨_, rfl⟩
          have HLB : Hid (bs LB = Dr.lineB x) := Lib.hid (by rw [hLB, bs_lit0])
          have hLs : LB.size ≤ 100000000 := by
            have h := congrArg List.length hst
            have h2 := HLEN.out
            rw [List.length_append, List.length_append, ← HLB.out, bs_len LB] at h
            omega
          have HST := Lib.hid hst
          have HIR := Lib.hid hir
          have HMJ := Lib.hid hmj
          clear hst hx hxe s1 lt1 hml hLB hir hmj HR
          go_wp2_with fail
          go_at_call 39; refine (Line_any x HIR.out _ _ S2.out HMJ.out LB HLB.out (by omega)).mono ?_; rintro e w4 ⟨rfl, b4⟩
          have HB4 := Lib.hid (HB.out.trans (b4.mono HB.out.size))
          clear b4
          have HA2 : Hid (bs (A ++ LB) ++ (d.items.drop (j + 1)).flatMap Dr.lineB = bs S) := Lib.hid (by
            rw [← HST.out, bs_app3, HLB.out, List.append_assoc])
          go_wp2_with fail
          go_roundw
          case rel => exact ⟨j + 1, _, by omega, rfl, by go_num, HA2, HB4⟩
          case measure => simp [intOf]; omega
        · have HF : Hid (A = S) := Lib.hid (bs_inj' (by
            rw [← HR.out, List.drop_eq_nil_of_le (by rw [← HLL.out, List.length_map, ← HN3.out]; omega)]; simp))
          clear HR
          go_wp2_with fail
          go_ret
          exact ⟨by rw [HF.out]; rfl, HB3.out⟩
theorem rPrint_any (va ia : Value) (d : Dr.Draft) (w : World) (hd : DV w va ia d) (hz : DrSize d) (hm : ∀ x ∈ d.items, ∀ n ∈ x.n, n ≤ 9223372036854775807) (hL : (Dr.bodyB d).length ≤ 100000000) :
    Calls Tryz.prog 15 #[.agg #[va, ia]] w fun e w' => e = .returned (.string ⟨(Dr.printB d).toArray⟩) ∧ Below w.heap.size w w' := by
  cases hR : Dr.rightD d with
  | false => exact rPrint_no va ia d w hd hz hR
  | true => exact rPrint_yes va ia d w hd hz hR hm hL
end Go.Proofs.YtnccndfffmaonaaGreatDoor
