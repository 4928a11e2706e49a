/- Parts DrZ, DsA, DsB, DsC of this claim, laid one behind the other: walks and the plain laws behind them; each contract states its own conditions. -/
import Derived.Test.YtnccndfffmaonaaGreatDoorZL
import Derived.Test.YtnccndfffmaonaaGreatDoorZK
import Derived.Test.YtnccndfffmaonaaGreatDoorZJ
import Derived.BigQuiet
import Derived.Deep.QuietTactic
import Derived.Test.YtnccndfffmaonaaGreatDoorZI
import Derived.Test.YtnccndfffmaonaaGreatDoorZA
/- Walks of package draft: Print. -/
namespace Go.Proofs.YtnccndfffmaonaaGreatDoor
set_option linter.unusedSimpArgs false
set_option linter.unusedVariables false
open Go.RowKit Go.Maps

theorem bs_app3 (a b : ByteArray) : bs (a ++ b) = bs a ++ bs b := by simp [bs]
theorem size_app3 (a b : ByteArray) : (a ++ b).size = a.size + b.size := by rw [← bs_len, bs_app3, List.length_append, bs_len, bs_len]
theorem Bw.alloc2 {w0 : World} {l : List UInt8} {w : World} (h : Bw w0 l w) (o : Obj) : Bw w0 l (w.alloc o) := h.keep ((Below.refl _ _).alloc (Nat.le_refl _) o)
theorem fm_take2 {α : Type} (f : α → List UInt8) (ls : List α) (k : Nat) (h : k < ls.length) : (ls.take (k + 1)).flatMap f = (ls.take k).flatMap f ++ f ls[k] := by
  rw [List.take_succ_eq_append_getElem h, List.flatMap_append]; congr 1; exact List.append_nil _
theorem fm_le2 {α : Type} (f : α → List UInt8) (ls : List α) (k : Nat) (h : k < ls.length) : ((ls.take k).flatMap f).length + (f ls[k]).length ≤ (ls.flatMap f).length := by
  have e : ls.flatMap f = (ls.take (k + 1)).flatMap f ++ (ls.drop (k + 1)).flatMap f := by
    conv => lhs; rw [← List.take_append_drop (k + 1) ls]
    exact List.flatMap_append
  rw [e, fm_take2 f ls k h, List.length_append, List.length_append]; omega
theorem quote_len2 (l : List UInt8) : l.length ≤ (quote l).length := by
  have := Dr.qb_more l
  unfold quote; simp; omega
theorem rowB_len (s : List UInt8) : (Dr.rowB s).length = (quote s).length + 5 := by unfold Dr.rowB Dr.wRow; simp
def rowPre : List UInt8 := [114, 111, 119, 32]
theorem rowB_eq (s : List UInt8) : Dr.rowB s = (rowPre ++ quote s) ++ [10] := by simp [Dr.rowB, Dr.wRow, rowPre]

set_option maxRecDepth 100000 in
set_option maxHeartbeats 32000000 in
theorem Print_no (va ia : Value) (d : Dr.Draft) (w : World) (hd : DV w va ia d) (hz : DrSize d) (hR : Dr.rightD d = false) :
    Calls Tryz.prog 14 #[.agg #[va, ia]] w fun e w' => e = .returned (.string ⟨(Dr.printB d).toArray⟩) ∧ Below w.heap.size w w' := by
  have B1 := Lib.hid ((Below.refl _ w).alloc (Nat.le_refl _) (.cells #[va, ia] 25))
  have HC := Lib.hid (Right_any va ia d _ (hd.keep B1.out) hz)
  have HP : Hid (Dr.printB d = []) := Lib.hid (by unfold Dr.printB; rw [hR]; rfl)
  obtain ⟨a1, n1, c1, rfl⟩ : ∃ a n c, va = .slice a n c := by obtain ⟨⟨us, h, -⟩, -⟩ := hd; obtain ⟨a, c, rfl, -⟩ := h.slice; exact ⟨_, _, _, rfl⟩
  obtain ⟨a3, n3, c3, rfl⟩ : ∃ a n c, ia = .slice a n c := by obtain ⟨-, l, -, ⟨a, c, rfl, -⟩, -⟩ := hd; exact ⟨_, _, _, rfl⟩
  rw [hR] at HC
  clear hd hz hR
  go_enter Tryz.func14, Tryz.ntmps14
  go_wp2_with fail
  go_at_call 12; refine HC.out.mono ?_; rintro e w2 ⟨rfl, b2⟩
  have B2 := Lib.hid (B1.out.trans (b2.mono B1.out.size))
  clear b2
  go_wp2_with fail
  go_ret
  exact ⟨by rw [HP.out]; rfl, B2.out⟩

set_option maxRecDepth 100000 in
set_option maxHeartbeats 64000000 in
theorem Print_yes (va ia : Value) (d : Dr.Draft) (w : World) (hd : DV w va ia d) (hz : DrSize d) (hR : Dr.rightD d = true) (hm : ∀ x ∈ d.items, ∀ n ∈ x.n, n ≤ 9223372036854775807) (hL : (Dr.bodyB d).length ≤ 1000000000) (hE : Env w) :
    Calls Tryz.prog 14 #[.agg #[va, ia]] w fun e w' => e = .returned (.string ⟨(Dr.printB d).toArray⟩) ∧ Below w.heap.size w w' := by
  have B1 := Lib.hid ((Below.refl _ w).alloc (Nat.le_refl _) (.cells #[va, ia] 25))
  have HC := Lib.hid (Right_any va ia d _ (hd.keep B1.out) hz)
  have HP : Hid (Dr.printB d = d.decks.flatMap Dr.deckB ++ d.items.flatMap Dr.lineB) := Lib.hid (by unfold Dr.printB; rw [hR]; rfl)
  have HIT : Hid (∀ x ∈ d.items, Dr.rightI x = true) := Lib.hid (by unfold Dr.rightD at hR; simp only [Bool.and_eq_true, List.all_eq_true] at hR; exact hR.2.2.2)
  have hlen : (d.decks.flatMap Dr.deckB).length + (d.items.flatMap Dr.lineB).length ≤ 1000000000 := by unfold Dr.bodyB at hL; rw [List.length_append] at hL; exact hL
  have HM := Lib.hid hm
  have HE := Lib.hid hE
  rw [hR] at HC
  obtain ⟨⟨dvs, hu, hul, hus⟩, l, hl, hI, hIs⟩ := hd
  obtain ⟨a1, c1, rfl, m1, -, hk⟩ := hu
  obtain ⟨a3, c3, rfl, m3, -, hk3⟩ := hI
  obtain ⟨n, hn⟩ : ∃ n, n = dvs.length := ⟨_, rfl⟩
  obtain ⟨n3, hn3⟩ : ∃ n, n = l.length := ⟨_, rfl⟩
  have HX := Lib.hid hk
  have HX3 := Lib.hid hk3
  have US := Lib.hid hus
  have VS := Lib.hid hIs
  have HN := Lib.hid (show n = d.decks.length by omega)
  have HNV := Lib.hid hn
  have HN3 := Lib.hid hn3
  have HLL := Lib.hid hl
  rw [← hn] at m1 HC ⊢
  rw [← hn3] at m3 HC ⊢
  rw [← hn, ← hn3] at B1
  have hmx : n ≤ 9223372036854775807 := by unfold maxLen at m1; omega
  have hmx3 : n3 ≤ 9223372036854775807 := by unfold maxLen at m3; omega
  have i1 : (w.alloc (.cells #[.slice a1 n c1, .slice a3 n3 c3] 25)).heap[w.heap.size]? = some (.cells #[.slice a1 n c1, .slice a3 n3 c3] 25 (0, 0)) := heap_alloc_new _ _
  have I1 := Lib.hid i1
  clear hz hR hm hL hE hul hus hl hIs hk hk3 hn hn3 i1 m1 m3
  go_enter Tryz.func14, Tryz.ntmps14
  go_wp2_with fail
  go_at_call 12; refine HC.out.mono ?_; rintro e w2 ⟨rfl, b2⟩
  have B2 := Lib.hid (B1.out.trans (b2.mono B1.out.size))
  have i2 := (b2.block w.heap.size (by simp)).trans I1.out
  have I2 := Lib.hid i2
  have hws : w.heap.size < w2.heap.size := (Array.getElem?_eq_some_iff.1 i2).1
  have d0 : w2.cell? ⟨w.heap.size, 0, none⟩ = some (.slice a1 n c1) := cell_of_heap i2 0 rfl
  have H0 := Lib.hid (Bw.start w2)
  clear b2 i2 B1 HC I1
  go_wp2_with fail
  clear d0
  go_loopw [16] (fun iv wr => ∃ k : Nat, k ≤ n ∧ iv = .int .i64 k ∧ Hid (Bw w2 ((d.decks.take k).flatMap Dr.deckB) wr)) (fun iv _ => n - (intOf iv).toNat)
  case atStart => exact ⟨0, by omega, rfl, H0⟩
  case round =>
    obtain ⟨k, hk, rfl, HB⟩ := hrel
    clear H0
    by_cases hkn : k < n
    · have hkd : k < d.decks.length := by rw [← HN.out]; exact hkn
      have hku : k < dvs.length := by rw [← HNV.out]; exact hkn
      obtain ⟨b, off, e1, p0⟩ := HX.out k hku
      subst e1
      have sk := US.out k hkd hku
      have htk := fm_take2 Dr.deckB d.decks k hkd
      have hle := fm_le2 Dr.deckB d.decks k hkd
      obtain ⟨u, hu⟩ : ∃ u, u = dvs[k] := ⟨_, rfl⟩
      obtain ⟨rows, hx⟩ : ∃ x, x = d.decks[k] := ⟨_, rfl⟩
      rw [← hu] at p0 sk
      rw [← hx] at sk htk hle
      have lt1 := cell_block_lt p0
      have hBB := B2.out.trans (HB.out.below.mono B2.out.size)
      have p0 : wr.cell? ⟨b, off + k, none⟩ = _ := (hBB.cell (p := ⟨b, off + k, none⟩) lt1).trans p0
      have kI0 : (0 : Int) ≤ (k : Int) := by omega
      have kI1 : (k : Int) < (n : Int) := by omega
      have S1 := Lib.hid (sk.below B2.out)
      obtain ⟨ua, uc, rfl, hml⟩ := sk.slice
      rw [strs_len2] at hml p0 S1
      obtain ⟨m, hmr⟩ : ∃ m, m = rows.length := ⟨_, rfl⟩
      rw [← hmr] at p0 S1 hml
      have hmm : m ≤ 9223372036854775807 := by unfold maxLen at hml; omega
      have HMR := Lib.hid hmr
      obtain ⟨L, hLe⟩ : ∃ L, (d.decks.take k).flatMap Dr.deckB = L := ⟨_, rfl⟩
      rw [hLe] at htk hle HB
      have hdk : (Dr.deckB rows).length = (rows.flatMap Dr.rowB).length + 5 := by unfold Dr.deckB Dr.wDeck; simp
      have hLL : L.length + 5 + (rows.flatMap Dr.rowB).length ≤ 1000000000 := by omega
      have HTK := Lib.hid htk
      clear htk hle hx hu sk lt1 hBB hmr hLe hdk
      go_wp2_with fail
      go_at_call 34; refine (HB.out.writeString ⟨#[100, 101, 99, 107, 10]⟩ (by rw [show (⟨#[100, 101, 99, 107, 10]⟩ : ByteArray).size = 5 from rfl]; omega)).mono ?_; rintro e w3 ⟨rfl, h2⟩
      have h2' : Bw w2 (L ++ (Dr.wDeck ++ [10])) w3 := h2
      have HB2 : Hid (Bw w2 (L ++ (Dr.wDeck ++ [10]) ++ (rows.take 0).flatMap Dr.rowB) w3) := Lib.hid (by rw [List.take_zero, List.flatMap_nil, List.append_nil]; exact h2')
      clear h2 h2' HB p0
      go_wp2_with fail
      go_loopw [23] (fun jv wr => ∃ j : Nat, j ≤ m ∧ jv = .int .i64 j ∧ Hid (Bw w2 (L ++ (Dr.wDeck ++ [10]) ++ (rows.take j).flatMap Dr.rowB) wr)) (fun jv _ => m - (intOf jv).toNat)
      case atStart => exact ⟨0, by omega, rfl, HB2⟩
      case round =>
        obtain ⟨j, hj, rfl, HB⟩ := hrel
        clear HB2
        by_cases hjm : j < m
        · have hjr : j < rows.length := by rw [← HMR.out]; exact hjm
          obtain ⟨rb, ro, rc, e1, -, hcs⟩ := (S1.out.below HB.out.below).some (by rw [strs_len2]; omega)
          injection e1 with e1 e2 e3
          subst e1
          have q0 := (hcs j (by rw [strs_len2]; exact hjr)).trans (show _ = some (Value.string ⟨(rows[j]).toArray⟩) by simp [strs])
          have htk := fm_take2 Dr.rowB rows j hjr
          have hle := fm_le2 Dr.rowB rows j hjr
          obtain ⟨s, hs⟩ : ∃ s, s = rows[j] := ⟨_, rfl⟩
          rw [← hs] at q0 htk hle
          obtain ⟨R, hRe⟩ : ∃ R, (rows.take j).flatMap Dr.rowB = R := ⟨_, rfl⟩
          rw [hRe] at htk hle HB
          rw [rowB_len] at hle
          have hql := quote_len2 s
          have jI0 : (0 : Int) ≤ (j : Int) := by omega
          have jI1 : (j : Int) < (m : Int) := by omega
          have HTR := Lib.hid htk
          obtain ⟨QB, hQB⟩ : ∃ QB : ByteArray, QB = ⟨(quote s).toArray⟩ := ⟨_, rfl⟩
          have hQs : QB.size = (quote s).length := by rw [hQB, ← bs_len, bs_lit0]
          have HQB : Hid (bs QB = quote s) := Lib.hid (by rw [hQB, bs_lit0])
          have hQ2 : QB.size ≤ 1000000000 := by omega
          have HC2 := Lib.hid (Quote_l s wr (by omega))
          rw [← hQB] at HC2
          have hfit : R.length + QB.size + 5 ≤ (rows.flatMap Dr.rowB).length := by omega
          clear hcs e2 e3 htk hle hs hRe hql hQB hQs
          go_wp2_with fail
          go_at_call 35; refine HC2.out.mono ?_; rintro e w4 ⟨rfl, b4⟩
          have HB3 := Lib.hid (HB.out.keep b4)
          clear b4
          go_wp2_with fail
          go_at_call 34; refine (HB3.out.writeString _ (by rw [size_app3, size_app3, show (⟨#[114, 111, 119, 32]⟩ : ByteArray).size = 4 from rfl, show (⟨#[10]⟩ : ByteArray).size = 1 from rfl]; simp [Dr.wDeck]; omega)).mono ?_; rintro e w5 ⟨rfl, h5⟩
          rw [bs_app3, bs_app3, HQB.out] at h5
          have HB4 : Hid (Bw w2 (L ++ (Dr.wDeck ++ [10]) ++ (rows.take (j + 1)).flatMap Dr.rowB) w5) := Lib.hid (by rw [HTR.out, rowB_eq, ← List.append_assoc]; exact h5)
          clear h5
          go_wp2_with fail
          go_roundw
          case rel => exact ⟨j + 1, by omega, by go_num, HB4⟩
          case measure => simp [intOf]; omega
        · have hjn : rows.take j = rows := List.take_of_length_le (by rw [← HMR.out]; omega)
          have HB3 : Hid (Bw w2 ((d.decks.take (k + 1)).flatMap Dr.deckB) wr) := Lib.hid (by
            have h := HB.out
            rw [hjn] at h
            rw [HTK.out]
            have e : Dr.deckB rows = (Dr.wDeck ++ [10]) ++ rows.flatMap Dr.rowB := by simp [Dr.deckB]
            rw [e, ← List.append_assoc]; exact h)
          clear hjn
          go_wp2_with fail
          go_roundw
          case rel => exact ⟨k + 1, by omega, by go_num, HB3⟩
          case measure => simp [intOf]; omega
    · have hkn2 : d.decks.take k = d.decks := List.take_of_length_le (by rw [← HN.out]; omega)
      rw [hkn2] at HB
      have hBB := B2.out.trans (HB.out.below.mono B2.out.size)
      have hh := (HB.out.below.block w.heap.size hws).trans I2.out
      have d1 : wr.cell? ⟨w.heap.size, 1, none⟩ = some (.slice a3 n3 c3) := cell_of_heap hh 1 rfl
      obtain ⟨L, hLe⟩ : ∃ L, d.decks.flatMap Dr.deckB = L := ⟨_, rfl⟩
      rw [hLe] at HB hlen HP
      have HB1 : Hid (Bw w2 (L ++ (d.items.take 0).flatMap Dr.lineB) wr) := Lib.hid (by rw [List.take_zero, List.flatMap_nil, List.append_nil]; exact HB.out)
      clear hkn2 hBB hh HB hLe
      go_wp2_with fail
      clear d1
      go_loopw [37] (fun iv wr => ∃ k : Nat, k ≤ n3 ∧ iv = .int .i64 k ∧ Hid (Bw w2 (L ++ (d.items.take k).flatMap Dr.lineB) wr)) (fun iv _ => n3 - (intOf iv).toNat)
      case atStart => exact ⟨0, by omega, rfl, HB1⟩
      case round =>
        obtain ⟨j, hj, rfl, HB⟩ := hrel
        clear HB1
        by_cases hjm : j < n3
        · have hjl : j < l.length := by rw [← HN3.out]; exact hjm
          have hji : j < d.items.length := by rw [← HLL.out, List.length_map]; exact hjl
          obtain ⟨b, off, e1, p0, p1, p2, p3, p4⟩ := HX3.out j hjl
          subst e1
          have s1 := VS.out l[j] (List.getElem_mem hjl)
          have hxe : d.items[j] = l[j].1 := by
            have := HLL.out
            simp only [← this, List.getElem_map]
          have htk := fm_take2 Dr.lineB d.items j hji
          have hle := fm_le2 Dr.lineB d.items j hji
          have hri := HIT.out d.items[j] (List.getElem_mem hji)
          have hmi := HM.out d.items[j] (List.getElem_mem hji)
          rw [hxe] at htk hle hri hmi
          obtain ⟨⟨x, nx⟩, hx⟩ : ∃ u, u = l[j] := ⟨_, rfl⟩
          rw [← hx] at p0 p1 p2 p3 p4 s1 htk hle hri hmi
          dsimp only at p0 p1 p2 p3 p4 s1 htk hle hri hmi
          have lt1 := cell_block_lt p0
          have hBB := B2.out.trans (HB.out.below.mono B2.out.size)
          have p0 : wr.cell? ⟨b, off + j * 5, none⟩ = _ := (hBB.cell (p := ⟨b, off + j * 5, none⟩) lt1).trans p0
          have p1 : wr.cell? ⟨b, off + j * 5 + 1, none⟩ = _ := (hBB.cell (p := ⟨b, off + j * 5 + 1, none⟩) lt1).trans p1
          have p2 : wr.cell? ⟨b, off + j * 5 + 2, none⟩ = _ := (hBB.cell (p := ⟨b, off + j * 5 + 2, none⟩) lt1).trans p2
          have p3 : wr.cell? ⟨b, off + j * 5 + 3, none⟩ = _ := (hBB.cell (p := ⟨b, off + j * 5 + 3, none⟩) lt1).trans p3
          have p4 : wr.cell? ⟨b, off + j * 5 + 4, none⟩ = _ := (hBB.cell (p := ⟨b, off + j * 5 + 4, none⟩) lt1).trans p4
          obtain ⟨hk0, hk6, -⟩ := Dr.right_parts hri
          have hsl := s1.1
          have hcp := s1.2
          obtain ⟨ua, uc, rfl, hxm⟩ := hsl.slice
          obtain ⟨LB, hLB⟩ : ∃ LB : ByteArray, LB = ⟨(Dr.lineB x).toArray⟩ := ⟨_, rfl⟩
          have hLs : LB.size = (Dr.lineB x).length := by rw [hLB, ← bs_len, bs_lit0]
          have HLB : Hid (bs LB = Dr.lineB x) := Lib.hid (by rw [hLB, bs_lit0])
          have HCl := Lib.hid (lineI_any x x.kind.toNat (by omega) (by omega) _ (wr.alloc (.cells #[.int .i64 x.kind, .int .i64 x.line, .string ⟨x.name.toArray⟩, .string ⟨x.other.toArray⟩, .slice ua (ints x.n).length uc] 34)) hri ((hsl.below hBB).below ((Below.refl _ _).alloc (Nat.le_refl _) _)) hcp hmi ((HE.out.below hBB).below ((Below.refl _ _).alloc (Nat.le_refl _) _)))
          rw [← hLB] at HCl
          obtain ⟨R, hRe⟩ : ∃ R, (d.items.take j).flatMap Dr.lineB = R := ⟨_, rfl⟩
          rw [hRe] at htk hle HB
          have hfit : L.length + R.length + LB.size ≤ 1000000000 := by omega
          have HTR := Lib.hid htk
          have jI0 : (0 : Int) ≤ (j : Int) := by omega
          have jI1 : (j : Int) < (n3 : Int) := by omega
          clear htk hle hri hmi hxe hx s1 lt1 hBB hk0 hk6 hsl hcp hxm hLB hLs hRe
          go_wp2_with fail
          go_at_call 36; refine HCl.out.mono ?_; rintro e w4 ⟨rfl, b4⟩
          have HB3 := Lib.hid ((HB.out.alloc2 _).keep b4)
          clear b4
          go_wp2_with fail
          go_at_call 34; refine (HB3.out.writeString _ (by rw [List.length_append]; omega)).mono ?_; rintro e w5 ⟨rfl, h5⟩
          rw [HLB.out] at h5
          have HB4 : Hid (Bw w2 (L ++ (d.items.take (j + 1)).flatMap Dr.lineB) w5) := Lib.hid (by rw [HTR.out, ← List.append_assoc]; exact h5)
          clear h5
          go_wp2_with fail
          go_roundw
          case rel => exact ⟨j + 1, by omega, by go_num, HB4⟩
          case measure => simp [intOf]; omega
        · have hjn : d.items.take j = d.items := List.take_of_length_le (by rw [← HLL.out, List.length_map, ← HN3.out]; omega)
          rw [hjn] at HB
          clear hjn
          go_wp2_with fail
          go_at_call 37; refine HB.out.string.mono ?_; rintro e w3 ⟨rfl, h3⟩
          have HB3 := Lib.hid (B2.out.trans (h3.below.mono B2.out.size))
          clear h3
          go_wp2_with fail
          go_ret
          exact ⟨by rw [HP.out]; rfl, HB3.out⟩
end Go.Proofs.YtnccndfffmaonaaGreatDoor
/- The statements about drafts: SameInts. -/
namespace Go.Proofs.YtnccndfffmaonaaGreatDoor
set_option linter.unusedSimpArgs false
set_option linter.unusedVariables false
open Go.RowKit

theorem drop_eq {α : Type} [DecidableEq α] (xs ys : List α) (k : Nat) (h : k < xs.length) (h' : k < ys.length) : decide (xs.drop k = ys.drop k) = (decide (xs[k] = ys[k]) && decide (xs.drop (k + 1) = ys.drop (k + 1))) := by
  rw [List.drop_eq_getElem_cons h, List.drop_eq_getElem_cons h']
  by_cases h1 : xs[k] = ys[k]
  · rw [decide_eq_true h1, Bool.true_and, h1]; exact decide_eq_decide.2 ⟨fun e => (by injection e), fun e => (by rw [e])⟩
  · rw [decide_eq_false h1, Bool.false_and]; exact decide_eq_false (fun e => h1 (by injection e))
theorem drop_all2 {α : Type} [DecidableEq α] (xs ys : List α) (k : Nat) (h : xs.length ≤ k) (h' : ys.length ≤ k) : decide (xs.drop k = ys.drop k) = true := by
  rw [List.drop_eq_nil_of_le h, List.drop_eq_nil_of_le h']; rfl
set_option maxRecDepth 100000 in
set_option maxHeartbeats 8000000 in
theorem SameInts_any (va vb : Value) (xs ys : List Int) (w : World) (ha : Sl w va (ints xs)) (hb : Sl w vb (ints ys)) :
    Calls Tryz.prog 18 #[va, vb] w fun e w' => e = .returned (.bool (decide (xs = ys))) ∧ Below w.heap.size w w' := by
  have hav := ha
  have hbv := hb
  obtain ⟨a1, c1, rfl, m1⟩ := hav.slice
  obtain ⟨a2, c2, rfl, m2⟩ := hbv.slice
  rw [ints_len] at m1 m2 ⊢
  rw [ints_len]
  have mx1 : xs.length ≤ 9223372036854775807 := by unfold maxLen at m1; omega
  have mx2 : ys.length ≤ 9223372036854775807 := by unfold maxLen at m2; omega
  by_cases hl : xs.length = ys.length
  · have HA := Lib.hid ha
    have HB := Lib.hid hb
    obtain ⟨G, hG⟩ : ∃ G, G = decide (xs = ys) := ⟨_, rfl⟩
    rw [← hG]
    have HG := Lib.hid hG
    obtain ⟨n, hn⟩ : ∃ n, n = xs.length := ⟨_, rfl⟩
    have HN := Lib.hid hn
    have HN2 := Lib.hid (show n = ys.length by omega)
    have hn2 : ys.length = n := by omega
    rw [← hn] at mx1 ⊢
    rw [hn2]
    have hne : ((n : Int) != (n : Int)) = false := by simp
    clear ha hb hav hbv hG hn hn2 hl m1 m2 mx2
    go_enter Tryz.func18, Tryz.ntmps18
    go_wp2_with fail
    go_loopw [5] (fun iv wr => ∃ k : Nat, k ≤ n ∧ iv = .int .i64 k ∧ Hid (G = decide (xs.drop k = ys.drop k)) ∧ Hid (Below w.heap.size w wr)) (fun iv _ => n - (intOf iv).toNat)
    case atStart => exact ⟨0, by omega, rfl, HG, Lib.hid (Below.refl _ _)⟩
    case round =>
      obtain ⟨k, hk, rfl, HR, HW⟩ := hrel
      by_cases hkn : k < n
      · have hx : k < xs.length := by rw [← HN.out]; exact hkn
        have hy : k < ys.length := by rw [← HN2.out]; exact hkn
        obtain ⟨b1, o1, c1', e1, -, k1⟩ := (HA.out.below HW.out).some (by rw [ints_len]; omega)
        obtain ⟨b2, o2, c2', e2, -, k2⟩ := (HB.out.below HW.out).some (by rw [ints_len]; omega)
        injection e1 with e1 e3 e4
        injection e2 with e2 e5 e6
        subst e1 e2
        have p1 : wr.cell? ⟨b1, o1 + k, none⟩ = some (.int .i64 xs[k]) := (k1 k (by rw [ints_len]; exact hx)).trans (by simp [ints])
        have p2 : wr.cell? ⟨b2, o2 + k, none⟩ = some (.int .i64 ys[k]) := (k2 k (by rw [ints_len]; exact hy)).trans (by simp [ints])
        have hst := HR.out.trans (drop_eq xs ys k hx hy)
        obtain ⟨x, hxe⟩ : ∃ x, x = xs[k] := ⟨_, rfl⟩
        obtain ⟨y, hye⟩ : ∃ y, y = ys[k] := ⟨_, rfl⟩
        rw [← hxe] at p1 hst
        rw [← hye] at p2 hst
        have kI0 : (0 : Int) ≤ (k : Int) := by omega
        have kI1 : (k : Int) < (n : Int) := by omega
        clear k1 k2 e3 e4 e5 e6 hxe hye
        by_cases hq : x = y
        · have HS : Hid (G = decide (xs.drop (k + 1) = ys.drop (k + 1))) := Lib.hid (by rw [hst, decide_eq_true hq, Bool.true_and])
          have hne2 : (x != y) = false := by rw [hq]; simp
          clear hst hq
          go_wp2_with fail
          go_quiet (fail)
          all_goals
            go_wp2_with fail
            go_roundw
            case rel => exact ⟨k + 1, by omega, by go_num, HS, Lib.hid (HW.out.trans (below_drewN _ _ _))⟩
            case measure => simp [intOf]; omega
        · have HS : Hid (G = false) := Lib.hid (by rw [hst, decide_eq_false hq, Bool.false_and])
          have hne2 : (x != y) = true := by simpa using hq
          clear hst hq
          go_wp2_with fail
          go_quiet (fail)
          all_goals
            go_wp2_with fail
            go_ret
            exact ⟨by rw [HS.out]; rfl, HW.out.trans (below_drewN _ _ _)⟩
      · have hS := HR.out.trans (drop_all2 xs ys k (by rw [← HN.out]; omega) (by rw [← HN2.out]; omega))
        have HS := Lib.hid hS
        clear hS
        go_wp2_with fail
        go_ret
        exact ⟨by rw [HS.out]; rfl, HW.out⟩
  · have HS : Hid (decide (xs = ys) = false) := Lib.hid (decide_eq_false (fun h => hl (by rw [h])))
    have hne : ((xs.length : Int) != (ys.length : Int)) = true := by simp; omega
    obtain ⟨n, hn⟩ : ∃ n, n = xs.length := ⟨_, rfl⟩
    obtain ⟨m, hm⟩ : ∃ m, m = ys.length := ⟨_, rfl⟩
    rw [← hn] at hne ⊢
    rw [← hm] at hne ⊢
    clear ha hb hav hbv m1 m2 mx1 mx2 hl hn hm
    go_enter Tryz.func18, Tryz.ntmps18
    go_wp2_with fail
    go_ret
    exact ⟨by rw [HS.out]; rfl, Below.refl _ _⟩
end Go.Proofs.YtnccndfffmaonaaGreatDoor
/- The statements about drafts: bad, small. -/
namespace Go.Proofs.YtnccndfffmaonaaGreatDoor
set_option linter.unusedSimpArgs false
set_option linter.unusedVariables false
open Go.RowKit

theorem Parse_ok (src : ByteArray) (d : Dr.Draft) (h : Dr.read (bs src) = .ok d) (w : World) (hE : Env w) (hs : src.size ≤ 20000) :
    Calls Tryz.prog 9 #[.string src] w fun e w' => ∃ dv iv, e = .returned (.tuple #[.agg #[dv, iv], .int .i64 0, .int .i64 0]) ∧ DV w' dv iv d ∧ Below w.heap.size w w' := by
  have h1 := Parse_any src w hE hs
  rw [h] at h1; exact h1
theorem Parse_bad (src : ByteArray) (z ln : Nat) (h : Dr.read (bs src) = .error (z, ln)) (w : World) (hE : Env w) (hs : src.size ≤ 20000) :
    Calls Tryz.prog 9 #[.string src] w fun e w' => e = .returned (.tuple #[.agg #[.slice none 0 0, .slice none 0 0], .int .i64 z, .int .i64 ln]) ∧ Below w.heap.size w w' := by
  have h1 := Parse_any src w hE hs
  rw [h] at h1; exact h1
set_option maxHeartbeats 2000000 in
theorem bad_is_dr (src : ByteArray) (h : Dr.read (bs src) = .error (11, 1)) (w : World) (hE : Env w) (hs : src.size ≤ 20000) :
    Calls Tryz.prog 19 #[.string src] w fun e w' => e = .returned (.bool true) ∧ Below w.heap.size w w' := by
  have HC := Lib.hid (Parse_bad src 11 1 h w hE hs)
  clear h hE hs
  go_enter Tryz.func19, Tryz.ntmps19
  go_wp2_with fail
  go_at_call 9; refine HC.out.mono ?_; rintro e w1 ⟨rfl, B⟩
  go_wp2_with fail
  go_ret
  exact ⟨rfl, B.alloc B.size _⟩

/-- A slice of its own block. -/
theorem Sl_new (w : World) (l : List Int) (hm : l.length ≤ 1000) : Sl (w.alloc (.cells (ints l).toArray 3)) (.slice (some ⟨w.heap.size, 0, none⟩) l.length l.length) (ints l) := by
  refine ⟨some ⟨w.heap.size, 0, none⟩, l.length, by rw [ints_len], by rw [ints_len]; unfold maxLen; omega, (fun h => by cases h), fun i hi => ⟨w.heap.size, 0, rfl, ?_⟩⟩
  rw [Nat.zero_add]
  exact cell_of_heap (heap_alloc_new _ _) i (by simp [hi])
theorem DVi.one {w : World} {iv : Value} {x : Dr.Item} (h : DVi w iv [x]) : ∃ (b off cap : Nat) (na : Option Addr) (nc : Nat), iv = .slice (some ⟨b, off, none⟩) 1 cap ∧ b < w.heap.size ∧
    w.cell? ⟨b, off, none⟩ = some (.int .i64 x.kind) ∧ w.cell? ⟨b, off + 1, none⟩ = some (.int .i64 x.line) ∧ w.cell? ⟨b, off + 2, none⟩ = some (.string ⟨x.name.toArray⟩) ∧
    w.cell? ⟨b, off + 3, none⟩ = some (.string ⟨x.other.toArray⟩) ∧ w.cell? ⟨b, off + 4, none⟩ = some (.slice na x.n.length nc) ∧ Sl w (.slice na x.n.length nc) (ints x.n) := by
  obtain ⟨l, hl, ⟨a, cap, rfl, hm, hn, hc⟩, hs⟩ := h
  obtain ⟨u, rfl⟩ : ∃ u, l = [u] := by
    cases l with
    | nil => cases hl
    | cons u t => cases t with
      | nil => exact ⟨u, rfl⟩
      | cons _ _ => cases hl
  obtain ⟨y, nv⟩ := u
  have hy : y = x := by injection hl
  subst hy
  obtain ⟨b, off, rfl, p0, p1, p2, p3, p4⟩ := hc 0 (by simp)
  have hsl := (hs (y, nv) (List.mem_cons_self ..)).1
  obtain ⟨na, nc, hnv, -⟩ := hsl.slice
  rw [ints_len] at hnv
  dsimp only at hnv hsl
  subst hnv
  exact ⟨b, off, cap, na, nc, rfl, cell_block_lt p0, p0, p1, p2, p3, p4, hsl⟩
theorem DVd.one {w : World} {dv : Value} {r : List UInt8} (h : DVd w dv [[r]]) : ∃ (b off cap g o2 c2 : Nat), dv = .slice (some ⟨b, off, none⟩) 1 cap ∧ b < w.heap.size ∧ g < w.heap.size ∧
    w.cell? ⟨b, off, none⟩ = some (.slice (some ⟨g, o2, none⟩) 1 c2) ∧ w.cell? ⟨g, o2, none⟩ = some (.string ⟨r.toArray⟩) := by
  obtain ⟨dvs, h1, h2, h3⟩ := h
  obtain ⟨u, rfl⟩ : ∃ u, dvs = [u] := by
    cases dvs with
    | nil => cases h2
    | cons u t => cases t with
      | nil => exact ⟨u, rfl⟩
      | cons _ _ => cases h2
  obtain ⟨b, off, cap, rfl, -, hc⟩ := h1.some (by simp)
  have p0 := hc 0 (by simp)
  obtain ⟨g, o2, c2, e, -, hc2⟩ := (h3 0 (by simp) (by simp)).some (by simp [strs])
  have p1 := hc2 0 (by simp [strs])
  simp only [List.getElem_cons_zero] at e p0
  subst e
  exact ⟨b, off, cap, g, o2, c2, rfl, cell_block_lt p0, cell_block_lt p1, p0, p1⟩
theorem DVd.nil {w : World} {dv : Value} (h : DVd w dv []) : ∃ a cap, dv = .slice a 0 cap := by
  obtain ⟨dvs, h1, h2, h3⟩ := h
  obtain ⟨a, cap, rfl, -⟩ := h1.slice
  exact ⟨a, cap, by rw [h2]; rfl⟩

def srcA : ByteArray := ⟨#[100, 101, 99, 107, 10, 114, 111, 119, 32, 34, 35, 46, 80, 34, 10, 122, 111, 110, 101, 32, 97, 32, 48, 32, 49, 32, 48, 32, 50, 32, 48, 32, 49, 32, 48, 10]⟩
def srcB : ByteArray := ⟨#[111, 110, 101, 119, 97, 121, 32, 48, 32, 49, 32, 49, 32, 115, 111, 117, 116, 104]⟩
def drA : Dr.Draft := ⟨[[[35, 46, 80]]], [⟨0, 3, [97], [], [0, 1, 0, 2, 0, 1, 0]⟩]⟩
def drB : Dr.Draft := ⟨[], [⟨2, 1, [], [], [0, 1, 1, 1]⟩]⟩
theorem read_A : Dr.read (bs srcA) = .ok drA := by kernel_rfl
theorem read_B : Dr.read (bs srcB) = .ok drB := by kernel_rfl
theorem read_b1 : Dr.read (bs ⟨#[114, 111, 119, 32, 34, 35, 34]⟩) = .error (11, 1) := by kernel_rfl
theorem read_b2 : Dr.read (bs ⟨#[115, 104, 101, 108, 102, 32, 48, 32, 49]⟩) = .error (11, 1) := by kernel_rfl
theorem read_b3 : Dr.read (bs ⟨#[122, 111, 110, 101, 32, 53]⟩) = .error (11, 1) := by kernel_rfl
theorem print_A : Dr.printB drA = bs srcA := by kernel_rfl
theorem right_A : Dr.rightD drA = true := by kernel_rfl
theorem size_A : DrSize drA := by
  refine ⟨?_, ?_⟩
  · intro rows h s hs
    obtain rfl := List.mem_singleton.1 h
    obtain rfl := List.mem_singleton.1 hs
    decide
  · intro x h
    obtain rfl := List.mem_singleton.1 h
    exact ⟨by decide, by decide⟩
theorem max_A : ∀ x ∈ drA.items, ∀ n ∈ x.n, n ≤ 9223372036854775807 := by
  intro x h
  obtain rfl := List.mem_singleton.1 h
  decide

theorem SameInts_same (va vb : Value) (xs : List Int) (w : World) (ha : Sl w va (ints xs)) (hb : Sl w vb (ints xs)) :
    Calls Tryz.prog 18 #[va, vb] w fun e w' => e = .returned (.bool true) ∧ Below w.heap.size w w' := by
  have h := SameInts_any va vb xs xs w ha hb
  rw [decide_eq_true rfl] at h; exact h
theorem Print_A (va ia : Value) (w : World) (hd : DV w va ia drA) (hE : Env w) : Calls Tryz.prog 14 #[.agg #[va, ia]] w fun e w' => e = .returned (.string srcA) ∧ Below w.heap.size w w' := by
  have h := Print_yes va ia drA w hd size_A right_A max_A (by rw [show Dr.bodyB drA = bs srcA by kernel_rfl, bs_len]; decide) hE
  rw [print_A, show (⟨(bs srcA).toArray⟩ : ByteArray) = srcA from mk_data _] at h; exact h
set_option maxRecDepth 100000 in
set_option maxHeartbeats 16000000 in
theorem small_any_dr (w : World) (hE : Env w) : Calls Tryz.prog 7 #[] w fun e w' => e = .returned (.bool true) ∧ Below w.heap.size w w' := by
  have HE := Lib.hid hE
  clear hE
  go_enter Tryz.func7, Tryz.ntmps7
  go_wp2_with fail
  go_at_call 9; refine (Parse_ok srcA drA read_A _ HE.out (by decide)).mono ?_; rintro e w1 ⟨dv1, iv1, rfl, D1, B⟩
  obtain ⟨db, do', dc, rb, ro, rc, rfl, -⟩ := D1.1.one
  obtain ⟨ib, io, ic, na, nc, rfl, -⟩ := D1.2.one
  have D1 := Lib.hid D1
  have B := Lib.hid B
  go_wp2_with fail
  generalize hW : World.alloc w1 _ = W1
  have b1 : Below w1.heap.size w1 W1 := hW ▸ (Below.refl _ _).alloc (Nat.le_refl _) _
  have h1 : W1.heap[w1.heap.size]? = some (.cells #[.slice (some ⟨db, do', none⟩) 1 dc, .slice (some ⟨ib, io, none⟩) 1 ic] 25 (0, 0)) := hW ▸ heap_alloc_new _ _
  have B1 := Lib.hid (B.out.trans (b1.mono B.out.size))
  have D11 := Lib.hid (D1.out.keep b1)
  have H1 := Lib.hid h1
  clear hW b1 h1 B D1
  go_at_call 9; refine (Parse_ok srcB drB read_B _ (HE.out.below B1.out) (by decide)).mono ?_; rintro e w2 ⟨dv2, iv2, rfl, D2, b⟩
  have h2 := (b.block _ (Array.getElem?_eq_some_iff.1 H1.out).1).trans H1.out
  have D12 := D11.out.keep b
  have B2 := Lib.hid (B1.out.trans (b.mono B1.out.size))
  obtain ⟨a2, c2, rfl⟩ := D2.1.nil
  obtain ⟨jb, jo, jc, ma, mc, rfl, jl, j0, j1, j2, j3, j4, js⟩ := D2.2.one
  obtain ⟨db2, do2, dc2, rb2, ro2, rc2, e1, l1, l2, q0, q1⟩ := D12.1.one
  injection e1 with e1 e3 e4
  injection e1 with e1
  injection e1 with e1 e5 e6
  subst e1 e4 e5
  obtain ⟨ib2, io2, ic2, na2, nc2, e1, l3, p0, p1, p2, p3, p4, ps⟩ := D12.2.one
  injection e1 with e1 e3 e4
  injection e1 with e1
  injection e1 with e1 e5 e6
  subst e1 e4 e5
  have D13 := Lib.hid D12
  have l4 : w1.heap.size < w2.heap.size := (Array.getElem?_eq_some_iff.1 h2).1
  have g0 : w2.cell? ⟨w1.heap.size, 0, none⟩ = some (.slice (some ⟨db, do', none⟩) 1 dc) := cell_of_heap h2 0 rfl
  have g1 : w2.cell? ⟨w1.heap.size, 1, none⟩ = some (.slice (some ⟨ib, io, none⟩) 1 ic) := cell_of_heap h2 1 rfl
  have PS := Lib.hid ps
  have JS := Lib.hid js
  have h2' := Lib.hid h2
  clear b h2 D12 D2 D11 B1 H1 ps js
  simp only [drA, drB, List.length_cons, List.length_nil, Nat.zero_add, Nat.reduceAdd] at p0 p1 p2 p3 p4 j0 j1 j2 j3 j4
  go_wp2_with fail
  have bA : Below w2.heap.size w2 (((w2.alloc (.cells #[.slice a2 0 c2, .slice (some ⟨jb, jo, none⟩) 1 jc] 25)).alloc (.cells #[.int .i64 0, .int .i64 3, .string ⟨#[97]⟩, .string ⟨#[]⟩, .slice na2 7 nc2] 34)).alloc (.cells #[.int .i64 0, .int .i64 1, .int .i64 0, .int .i64 2, .int .i64 0, .int .i64 1, .int .i64 0] 3)) := (((Below.refl _ w2).alloc (Nat.le_refl _) _).alloc (by simp) _).alloc (by simp; omega) _
  have SN := Sl_new ((w2.alloc (.cells #[.slice a2 0 c2, .slice (some ⟨jb, jo, none⟩) 1 jc] 25)).alloc (.cells #[.int .i64 0, .int .i64 3, .string ⟨#[97]⟩, .string ⟨#[]⟩, .slice na2 7 nc2] 34)) [0, 1, 0, 2, 0, 1, 0] (by decide)
  rw [show ((w2.alloc (.cells #[.slice a2 0 c2, .slice (some ⟨jb, jo, none⟩) 1 jc] 25)).alloc (.cells #[.int .i64 0, .int .i64 3, .string ⟨#[97]⟩, .string ⟨#[]⟩, .slice na2 7 nc2] 34)).heap.size = w2.heap.size + 1 + 1 by simp] at SN
  go_at_call 18; refine (SameInts_same _ _ [0, 1, 0, 2, 0, 1, 0] _ (PS.out.below bA) SN).mono ?_; rintro e w3 ⟨rfl, b3⟩
  have bB := bA.trans (b3.mono bA.size)
  have i3 := (b3.block w2.heap.size (by simp; omega)).trans (heap3 w2 _ _ _).1
  have h3 := (bB.block w1.heap.size l4).trans h2'.out
  have B3 := Lib.hid (B2.out.trans (bB.mono B2.out.size))
  have D14 := Lib.hid (D13.out.keep bB)
  have JS3 := Lib.hid (JS.out.below bB)
  have j0 : w3.cell? ⟨jb, jo, none⟩ = _ := (bB.cell (p := ⟨jb, jo, none⟩) jl).trans j0
  have j4 : w3.cell? ⟨jb, jo + 4, none⟩ = _ := (bB.cell (p := ⟨jb, jo + 4, none⟩) jl).trans j4
  have k0 : w3.cell? ⟨w2.heap.size, 1, none⟩ = some (.slice (some ⟨jb, jo, none⟩) 1 jc) := cell_of_heap i3 1 rfl
  have ls := bB.size
  have ls2 : jb < w3.heap.size := by omega
  have ls3 : w2.heap.size < w3.heap.size := (Array.getElem?_eq_some_iff.1 i3).1
  have H3 := Lib.hid h3
  clear p0 p1 p2 p3 p4 j1 j2 j3 q0 q1 g0 g1 bA bB SN b3 i3 h3 D13 PS JS B2
  go_wp2_with fail
  have bA : Below w3.heap.size w3 (w3.alloc (.cells #[.int .i64 0, .int .i64 1, .int .i64 1, .int .i64 1] 3)) := (Below.refl _ w3).alloc (Nat.le_refl _) _
  have SN := Sl_new w3 [0, 1, 1, 1] (by decide)
  go_at_call 18; refine (SameInts_same _ _ [0, 1, 1, 1] _ (JS3.out.below bA) SN).mono ?_; rintro e w4 ⟨rfl, b4⟩
  have bB := bA.trans (b4.mono bA.size)
  have B4 := Lib.hid (B3.out.trans (bB.mono B3.out.size))
  have D15 := Lib.hid (D14.out.keep bB)
  have H4 := Lib.hid ((bB.block w1.heap.size (by omega)).trans H3.out)
  clear j0 j4 k0 ls ls2 ls3 bA SN b4 bB B3 D14 H3 JS3
  go_wp2_with fail
  go_at_call 19; refine (bad_is_dr ⟨#[114, 111, 119, 32, 34, 35, 34]⟩ read_b1 _ (HE.out.below B4.out) (by decide)).mono ?_; rintro e w5 ⟨rfl, b⟩
  have B5 := Lib.hid (B4.out.trans (b.mono B4.out.size))
  have D16 := Lib.hid (D15.out.keep b)
  have H5 := Lib.hid ((b.block w1.heap.size (Array.getElem?_eq_some_iff.1 H4.out).1).trans H4.out)
  clear b B4 D15 H4
  go_wp2_with fail
  go_at_call 19; refine (bad_is_dr ⟨#[115, 104, 101, 108, 102, 32, 48, 32, 49]⟩ read_b2 _ (HE.out.below B5.out) (by decide)).mono ?_; rintro e w6 ⟨rfl, b⟩
  have B6 := Lib.hid (B5.out.trans (b.mono B5.out.size))
  have D17 := Lib.hid (D16.out.keep b)
  have H6 := Lib.hid ((b.block w1.heap.size (Array.getElem?_eq_some_iff.1 H5.out).1).trans H5.out)
  clear b B5 D16 H5
  go_wp2_with fail
  go_at_call 19; refine (bad_is_dr ⟨#[122, 111, 110, 101, 32, 53]⟩ read_b3 _ (HE.out.below B6.out) (by decide)).mono ?_; rintro e w7 ⟨rfl, b⟩
  have B7 := Lib.hid (B6.out.trans (b.mono B6.out.size))
  have D18 := Lib.hid (D17.out.keep b)
  have H7 := Lib.hid ((b.block w1.heap.size (Array.getElem?_eq_some_iff.1 H6.out).1).trans H6.out)
  clear b B6 D17 H6
  have g0 : w7.cell? ⟨w1.heap.size, 0, none⟩ = some (.slice (some ⟨db, do', none⟩) 1 dc) := cell_of_heap H7.out 0 rfl
  have g1 : w7.cell? ⟨w1.heap.size, 1, none⟩ = some (.slice (some ⟨ib, io, none⟩) 1 ic) := cell_of_heap H7.out 1 rfl
  go_wp2_with fail
  go_at_call 14; refine (Print_A _ _ _ D18.out (HE.out.below B7.out)).mono ?_; rintro e w8 ⟨rfl, b⟩
  have B8 := Lib.hid (B7.out.trans (b.mono B7.out.size))
  clear b
  unfold srcA
  go_wp2_with fail
  go_ret
  exact ⟨rfl, B8.out⟩
end Go.Proofs.YtnccndfffmaonaaGreatDoor
/- Drafts in plain words: the lines of what is read; drafts that are equal but for the lines. -/
namespace Go.Proofs.YtnccndfffmaonaaGreatDoor
namespace Dr
open Lx (Tok)

theorem setName_line (x : Item) (j : Nat) (t : List UInt8) : (setName x j t).line = x.line := by unfold setName; split <;> rfl
theorem fields_line : ∀ (ps : List UInt8) (j : Nat) (x : Item) (ts : List Tok) (y : Item) (us : List Tok), fields ps j x ts = .ok (y, us) → y.line = x.line
  | [], j, x, ts, y, us, h => by cases h; rfl
  | p :: ps, j, x, [], y, us, h => by cases h
  | p :: ps, j, x, t :: r, y, us, h => by
    rw [fields] at h
    by_cases hp : p = 110
    · rw [if_pos hp] at h
      by_cases hk : t.kind = 1
      · rw [if_pos hk] at h; have := fields_line _ _ _ _ _ _ h; exact this
      · rw [if_neg hk] at h; cases h
    rw [if_neg hp] at h
    by_cases hd : p = 100
    · rw [if_pos hd] at h
      by_cases hk : t.kind = 0
      · rw [if_pos hk] at h
        cases he : dirOf t.text with
        | none => rw [he] at h; cases h
        | some k => rw [he] at h; have := fields_line _ _ _ _ _ _ h; exact this
      · rw [if_neg hk] at h; cases h
    rw [if_neg hd] at h
    by_cases hk : t.kind = 0
    · rw [if_pos hk] at h; exact (fields_line _ _ _ _ _ _ h).trans (setName_line _ _ _)
    · rw [if_neg hk] at h
      by_cases hw : p = 119
      · rw [if_pos hw] at h; cases h
      · rw [if_neg hw] at h; exact fields_line _ _ _ _ _ _ h
def LnOk (M : Nat) (d : Draft) : Prop := ∀ x ∈ d.items, 0 ≤ x.line ∧ x.line ≤ M
theorem line_lnok {M : Nat} {d : Draft} {t : Tok} {r : List Tok} {d' : Draft} {us : List Tok} (hd : LnOk M d) (ht : t.line ≤ M) (h : line d t r = .ok (d', us)) : LnOk M d' := by
  unfold line at h
  by_cases h3 : t.kind = 3
  · rw [if_pos h3] at h; cases h; exact hd
  rw [if_neg h3] at h
  by_cases h0 : t.kind ≠ 0
  · rw [if_pos h0] at h; cases h
  rw [if_neg h0] at h
  by_cases hdk : t.text = wDeck
  · rw [if_pos hdk] at h
    by_cases h4 : 4 ≤ d.decks.length
    · rw [if_pos h4] at h; cases h
    · rw [if_neg h4] at h; cases h; exact hd
  rw [if_neg hdk] at h
  by_cases hrw : t.text = wRow
  · rw [if_pos hrw] at h
    by_cases h5 : d.decks = []
    · rw [if_pos h5] at h; cases h
    rw [if_neg h5] at h
    by_cases h6 : 4096 ≤ (d.decks.getLastD []).length
    · rw [if_pos h6] at h; cases h
    rw [if_neg h6] at h
    cases r with
    | nil => cases h
    | cons u s =>
      dsimp only at h
      by_cases h7 : u.kind ≠ 2
      · rw [if_pos h7] at h; cases h
      rw [if_neg h7] at h
      by_cases h8 : 4096 < u.text.length
      · rw [if_pos h8] at h; cases h
      · rw [if_neg h8] at h; cases h; exact hd
  rw [if_neg hrw] at h
  cases hk : kindOf t.text with
  | none => rw [hk] at h; cases h
  | some k =>
    rw [hk] at h
    dsimp only at h
    by_cases h5 : 5000 ≤ d.items.length
    · rw [if_pos h5] at h; cases h
    rw [if_neg h5] at h
    cases hf : fields (partsOf k) 0 ⟨k, t.line, [], [], []⟩ r with
    | error us => rw [hf] at h; cases h
    | ok x =>
      rw [hf] at h
      obtain ⟨x, vs⟩ := x
      cases h
      have hx := fields_line _ _ _ _ _ _ hf
      intro y hy
      rcases List.mem_append.1 hy with hy | hy
      · exact hd y hy
      · obtain rfl := List.mem_singleton.1 hy
        rw [hx]; dsimp only; omega
theorem parse_lnok (M : Nat) : ∀ (k : Nat) (ts : List Tok) (d d' : Draft), ts.length ≤ k → LnOk M d → (∀ t ∈ ts, t.line ≤ M) → parse d ts = .ok d' → LnOk M d' := by
  intro k
  induction k with
  | zero =>
    intro ts d d' hk _ _ h
    obtain rfl : ts = [] := List.eq_nil_of_length_eq_zero (by omega)
    cases h
  | succ k ih =>
    intro ts d d' hk hd ht h
    cases ts with
    | nil => cases h
    | cons t r =>
      rw [parse_cons] at h
      by_cases h4 : t.kind = 4
      · rw [if_pos h4] at h; cases h; exact hd
      rw [if_neg h4] at h
      cases hl : line d t r with
      | error e => rw [hl] at h; cases h
      | ok x =>
        rw [hl] at h
        obtain ⟨d1, us⟩ := x
        have hln := line_len hl
        have hd1 := line_lnok hd (ht t (List.mem_cons_self ..)) hl
        obtain ⟨⟨f, hf⟩, -⟩ := line_left2 hl
        have hus : ∀ u ∈ us, u.line ≤ M := fun u hu => ht u (by rw [hf]; exact List.mem_append.2 (.inr hu))
        dsimp only at h
        cases us with
        | nil => cases h
        | cons u vs =>
          rw [after] at h
          by_cases hu4 : u.kind = 4
          · rw [if_pos hu4] at h; cases h; exact hd1
          rw [if_neg hu4] at h
          by_cases hu : u.kind = 3
          · rw [if_pos hu] at h
            exact ih vs d1 d' (by simp at hk hln; omega) hd1 (fun v hv => hus v (List.mem_cons_of_mem _ hv)) h
          · rw [if_neg hu] at h; cases h
theorem read_parts {s : List UInt8} {d : Draft} (h : read s = .ok d) : ∃ ts, Lx.lex s 1 = .ok ts ∧ parse .none ts = .ok d := by
  unfold read at h
  cases hl : Lx.lex s 1 with
  | error e => rw [hl] at h; cases h
  | ok ts => rw [hl] at h; exact ⟨ts, rfl, h⟩
theorem read_of {s : List UInt8} {d : Draft} {ts : List Tok} (hl : Lx.lex s 1 = .ok ts) (h : parse .none ts = .ok d) : read s = .ok d := by unfold read; rw [hl]; exact h
theorem read_lines {s : List UInt8} {d : Draft} (h : read s = .ok d) : ∀ x ∈ d.items, 0 ≤ x.line ∧ x.line ≤ ((1 + s.length : Nat) : Int) := by
  obtain ⟨ts, hl, hp⟩ := read_parts h
  exact parse_lnok (1 + s.length) _ ts .none d (Nat.le_refl _) (fun _ h => by cases h) (lexed hl).2.2.2 hp
theorem sameL_map {α : Type} (p : α → α → Bool) (f : α → α) (h : ∀ a, p (f a) a = true) : ∀ l : List α, sameL p (l.map f) l = true
  | [] => rfl
  | a :: l => by rw [List.map_cons, sameL, h, sameL_map p f h l]; rfl
theorem same_later (n : Nat) (d : Draft) : same (d.later n) d = true := by
  unfold same
  rw [show (d.later n).decks = d.decks from rfl, sameL_refl _ (fun a => by simp), show (d.later n).items = d.items.map (Item.later n) from rfl, sameL_map _ _ (fun x => by simp [sameI, Item.later])]
  rfl
theorem read_blanks {src c : List UInt8} {n : Nat} {d : Draft} (hc : ∀ x ∈ c, x ≠ 10) (h : read src = .ok d) :
    read (35 :: (c ++ 10 :: (List.replicate n 10 ++ (src ++ (32 :: 32 :: 32 :: 35 :: c))))) = .ok (d.later (n + 1)) := by
  obtain ⟨ts, hl, hp⟩ := read_parts h
  obtain ⟨tc, h1, h2⟩ := blanks src c n ts d hc hl hp
  exact read_of h1 h2
theorem line_code {d : Draft} {t : Tok} {r : List Tok} {z ln : Nat} (h : line d t r = .error (z, ln)) : z = 6 ∨ z = 11 := by
  unfold line at h
  by_cases h3 : t.kind = 3
  · rw [if_pos h3] at h; cases h
  rw [if_neg h3] at h
  by_cases h0 : t.kind ≠ 0
  · rw [if_pos h0] at h; cases h; exact .inr rfl
  rw [if_neg h0] at h
  by_cases hdk : t.text = wDeck
  · rw [if_pos hdk] at h
    by_cases h4 : 4 ≤ d.decks.length
    · rw [if_pos h4] at h; cases h; exact .inl rfl
    · rw [if_neg h4] at h; cases h
  rw [if_neg hdk] at h
  by_cases hrw : t.text = wRow
  · rw [if_pos hrw] at h
    by_cases h5 : d.decks = []
    · rw [if_pos h5] at h; cases h; exact .inr rfl
    rw [if_neg h5] at h
    by_cases h6 : 4096 ≤ (d.decks.getLastD []).length
    · rw [if_pos h6] at h; cases h; exact .inl rfl
    rw [if_neg h6] at h
    cases r with
    | nil => cases h; exact .inr rfl
    | cons u s =>
      dsimp only at h
      by_cases h7 : u.kind ≠ 2
      · rw [if_pos h7] at h; cases h; exact .inr rfl
      rw [if_neg h7] at h
      by_cases h8 : 4096 < u.text.length
      · rw [if_pos h8] at h; cases h; exact .inl rfl
      · rw [if_neg h8] at h; cases h
  rw [if_neg hrw] at h
  cases hk : kindOf t.text with
  | none => rw [hk] at h; cases h; exact .inr rfl
  | some k =>
    rw [hk] at h
    dsimp only at h
    by_cases h5 : 5000 ≤ d.items.length
    · rw [if_pos h5] at h; cases h; exact .inl rfl
    rw [if_neg h5] at h
    cases hf : fields (partsOf k) 0 ⟨k, t.line, [], [], []⟩ r with
    | error us => rw [hf] at h; cases h; exact .inr rfl
    | ok x => rw [hf] at h; cases h
theorem parse_code (m : Nat) : ∀ (k : Nat) (front : List Tok) (d : Draft) (z ln : Nat), front.length ≤ k → (∀ t ∈ front, t.kind ≠ 4) → parse d (front ++ [⟨4, [], 0, m⟩]) = .error (z, ln) → z = 6 ∨ z = 11 := by
  intro k
  induction k with
  | zero =>
    intro front d z ln hk hf h
    obtain rfl : front = [] := List.eq_nil_of_length_eq_zero (by omega)
    rw [List.nil_append, parse_end] at h
    cases h
  | succ k ih =>
    intro front d z ln hk hf h
    cases front with
    | nil => rw [List.nil_append, parse_end] at h; cases h
    | cons t r =>
      have ht : t.kind ≠ 4 := hf t (List.mem_cons_self ..)
      rw [List.cons_append, parse_cons, if_neg ht] at h
      cases hl : line d t (r ++ [⟨4, [], 0, m⟩]) with
      | error e => rw [hl] at h; cases h; exact line_code hl
      | ok x =>
        rw [hl] at h
        obtain ⟨d1, us⟩ := x
        obtain ⟨r', h1, h2, h3, -⟩ := line_append m ⟨3, [], 0, 0⟩ rfl [] d t r d1 us ht (fun u hu => hf u (List.mem_cons_of_mem _ hu)) hl
        subst h1
        dsimp only at h
        cases r' with
        | nil =>
          rw [List.nil_append, after, if_pos rfl] at h
          cases h
        | cons u vs =>
          rw [List.cons_append, after, if_neg (h3 u (List.mem_cons_self ..))] at h
          by_cases hu : u.kind = 3
          · rw [if_pos hu] at h
            exact ih vs d1 z ln (by simp at hk h2; omega) (fun v hv => h3 v (List.mem_cons_of_mem _ hv)) h
          · rw [if_neg hu] at h; cases h; exact .inr rfl
theorem read_code {s : List UInt8} {z ln : Nat} (h : read s = .error (z, ln)) : z ≠ 0 := by
  unfold read at h
  cases hl : Lx.lex s 1 with
  | error e =>
    rw [hl] at h
    injection h with h
    have := (Lx.lex_codes _ s 1 e (Nat.lt_succ_self _) hl).1
    rw [h] at this
    dsimp only at this; omega
  | ok ts =>
    rw [hl] at h
    have hg := (Lx.lex_good _ s 1 ts (Nat.lt_succ_self _) hl).1
    obtain ⟨-, ⟨front, m, rfl⟩, -⟩ := lexed hl
    have := parse_code m _ front .none z ln (Nat.le_refl _) (goods_front front 1 m hg) h
    omega
end Dr
end Go.Proofs.YtnccndfffmaonaaGreatDoor
