/- Parts Bld, Wr0, Wr1, Wr2, Wr3, Uo of this claim, laid one behind the other: walks and the plain laws behind them; each contract states its own conditions. -/
import Derived.Test.YtfcbcpfnaadpeaaGreatDoorRows
import Derived.Shelf.Strings.BuilderK
import Derived.WalkKit
import Derived.WalkSpells
import Derived.WalkLawsBesides
import Derived.Test.YtfcbcpfnaadpeaaGreatDoorShelf
import Derived.Test.YtfcbcpfnaadpeaaGreatDoorZB
import Derived.Test.YtfcbcpfnaadpeaaGreatDoorZA
import Derived.WalkSmall
import Derived.ChangeBears2
import Derived.Lib.SmallJoins
import Derived.Test.YtfcbcpfnaadpeaaGreatDoorYJ
import Derived.Test.YtfcbcpfnaadpeaaGreatDoorYM
namespace Go.Proofs.YtfcbcpfnaadpeaaGreatDoor
set_option maxRecDepth 100000
set_option maxHeartbeats 64000000
open Go.RowKit
set_option linter.unusedSimpArgs false
set_option linter.unusedVariables false
theorem Tryz.gPow : Tryz.prog.globalNamed "internal/strconv.uint64pow10" = some 4 := by kernel_rfl
def PowT (w : World) : Prop := Lib.TabIs Tryz.prog w "internal/strconv.uint64pow10" .u64 Lib.pow10Tab
theorem PowT.below {w w' : World} (h : PowT w) (hb : Below w.heap.size w w') : PowT w' := by
 have h0 : w.cell? ⟨4, 0, none⟩ = some (.int .u64 1) := by
  rw [World.var?_cell Tryz.gPow h 0]; rfl
 exact var?_below hb Tryz.gPow (cell_block_lt h0) h
def bs (s : ByteArray) : List UInt8 := s.data.toList
theorem bs_len (s : ByteArray) : (bs s).length = s.size := by simp [bs]
theorem bs_lit0 (l : List UInt8) : bs ⟨l.toArray⟩ = l := by simp [bs]
def SP (l : List UInt8) (w : World) (e : Ending) (w' : World) : Prop := ∃ D : ByteArray, bs D = l ∧ D.size = l.length ∧ e = .returned (.string D) ∧ Below w.heap.size w w'
theorem builder_below {T e : TypeId} {B b : Nat} {p : Value} {l : List Value} {w w' : World} (h : Lib.BuilderAtF T e B b p l w) (hb : Below w.heap.size w w') : Lib.BuilderAtF T e B b p l w' := by
 obtain ⟨hB, v, hv, hown, hne⟩ := h
 exact ⟨hB, v, keep_heap hv hb, hown.kept (row := none) ⟨hb.os, hb.tape, hb.output, hb.size, fun k hk _ => hb.block k hk⟩ (Classical.em _), hne⟩
def Bw (w0 : World) (l : List UInt8) (w : World) : Prop := Lib.IsBuilderF 136 5 w0.heap.size w0.heap.size (Lib.byteCells l) w ∧ Below w0.heap.size w0 w
theorem Bw.start (w : World) : Bw w [] (w.alloc (.cells #[.pointer none, .slice none 0 0] 136)) :=
 ⟨Lib.IsBuilderF.of (Lib.fresh_isBuilder _ _ w), (Below.refl _ w).alloc (Nat.le_refl _) _⟩
theorem Bw.below {w0 : World} {l : List UInt8} {w : World} (h : Bw w0 l w) : Below w0.heap.size w0 w := h.2
theorem Bw.string {w0 : World} {l : List UInt8} {w : World} (h : Bw w0 l w) :
 Calls Tryz.prog 96 #[.pointer (some ⟨w0.heap.size, 0, none⟩)] w fun e w' => ∃ D : ByteArray, bs D = l ∧ D.size = l.length ∧ e = .returned (.string D) ∧ Bw w0 l w' := by
 refine (Tryz.Builder_String_any_k w0.heap.size w0.heap.size l w h.1 h.2.size).mono ?_
 rintro e w' ⟨rfl, h1, h2, -⟩
 exact ⟨_, bs_lit0 _, by rw [← bs_len, bs_lit0], rfl, h1, h.2.trans h2⟩
theorem Bw.grow {w0 : World} {l : List UInt8} {w w' : World} (h : Bw w0 l w) (hb : Below w.heap.size w w') : Bw w0 l w' := by
 refine ⟨?_, h.2.trans (hb.mono h.2.size)⟩
 rcases h.1 with h1 | h1
 · exact .inl (builder_below h1 hb)
 · exact .inr (builder_below h1 hb)
def TS (t : List Int × List Int) : Prop := Wr.T64 t ∧ t.1.length ≤ 1000 ∧ t.2.length ≤ 1000
theorem TS.len {t : List Int × List Int} (h : TS t) : (Wr.transB t).length ≤ 50000 := by
 have h1 := Wr.nums_len h.1.1
 have h2 := Wr.nums_len h.1.2
 obtain ⟨-, h3, h4⟩ := h
 unfold Wr.transB
 rw [List.length_append]; omega
structure CS (c : Ve.Cert) : Prop where
 pl : Wr.I64 c.places
 rb : Wr.I64 c.robots
 ca : c.caps.length ≤ 1000000 ∧ ∀ x ∈ c.caps, Wr.I64 x
 ke : c.keeps.length ≤ 1000000 ∧ ∀ x ∈ c.keeps, Wr.I64 x
 tl : c.trans.length ≤ 1000000
 tr : ∀ t ∈ c.trans, TS t
 sn : c.sips.length ≤ 1000000
 si : ∀ l ∈ c.sips, Wr.Is64 l ∧ l.length ≤ 1000
theorem CS.net {c : Ve.Cert} (h : CS c) : (Wr.netB c.places c.trans).length ≤ 1000000000000 := Ve.netB_len h.pl h.tl (fun t ht => (h.tr t ht).1) (fun t ht => (h.tr t ht).2)
theorem rFew20_any (c : Ve.Cert) (tv cv ke se : Value) (w : World) (h : CertV w tv cv ke se c) :
 Calls Tryz.prog 22 #[.agg (certA c tv cv ke se), .int .i64 100] w fun e w' => TruePost (Ve.Few c 100) e ∧ Below w.heap.size w w' := by
 obtain ⟨ta, tc, rfl, htm⟩ := h.tr.form
 obtain ⟨ca, cc, rfl, hcm⟩ := h.ca.form
 obtain ⟨ka, kc, rfl, hkm⟩ := h.ke.form
 obtain ⟨sa, sc, rfl, hsm⟩ := h.si.form
 have HFIN : Hid ((∀ t ∈ c.trans, t.1.length ≤ 100 ∧ t.2.length ≤ 100) → (∀ l ∈ c.sips, l.length ≤ 100) → c.trans.length ≤ 100 → c.caps.length ≤ 100 → c.keeps.length ≤ 100 → c.sips.length ≤ 100 → Ve.Few c 100) := hid (fun h1 h2 h3 h4 h5 h6 => ⟨h3, h1, h4, h5, h6, h2⟩)
 have HT0 := hid h.tr
 have HS0 := hid h.si
 unfold certA
 obtain ⟨P, hP⟩ : ∃ P, c.places = P := ⟨_, rfl⟩
 obtain ⟨R, hR⟩ : ∃ P, c.robots = P := ⟨_, rfl⟩
 obtain ⟨n1, hn1⟩ : ∃ P, c.trans.length = P := ⟨_, rfl⟩
 obtain ⟨n2, hn2⟩ : ∃ P, c.caps.length = P := ⟨_, rfl⟩
 obtain ⟨n3, hn3⟩ : ∃ P, c.keeps.length = P := ⟨_, rfl⟩
 obtain ⟨n4, hn4⟩ : ∃ P, c.sips.length = P := ⟨_, rfl⟩
 rw [hn1, hn2, hn3, hn4] at HFIN
 rw [hn1] at htm HT0
 rw [hn2] at hcm
 rw [hn3] at hkm
 rw [hn4] at hsm HS0
 rw [hP, hR, hn1, hn2, hn3, hn4]
 have HN1 := hid hn1
 have HN4 := hid hn4
 clear h hP hR hn1 hn2 hn3 hn4
 obtain ⟨W, hW⟩ : ∃ W, W = w.alloc (.cells #[.int .i64 P, .slice ta n1 tc, .slice ca n2 cc, .slice ka n3 kc, .int .i64 R, .slice sa n4 sc] 38) := ⟨_, rfl⟩
 have BW : Hid (Below w.heap.size w W) := hid (by rw [hW]; exact (Below.refl _ _).alloc (Nat.le_refl _) _)
 have IW : Hid (W.heap[w.heap.size]? = some (.cells #[.int .i64 P, .slice ta n1 tc, .slice ca n2 cc, .slice ka n3 kc, .int .i64 R, .slice sa n4 sc] 38 (0, 0))) := hid (by rw [hW]; exact heap_alloc_new _ _)
 have HW := hid hW
 have HTR := hid (HT0.out.keep BW.out)
 have HSI := hid (HS0.out.keep BW.out)
 clear hW
 go_enter Tryz.func22, Tryz.ntmps22
 go_upto_region 1 with fail
 rw [← HW.out]
 have F10 : Hid (∀ t ∈ c.trans.take 0, t.1.length ≤ 100 ∧ t.2.length ≤ 100) := hid (by simp)
 go_wp2_with fail
 go_loop [5] (fun iv => ∃ k : Nat, k ≤ n1 ∧ k ≤ 101 ∧ iv = .int .i64 k ∧ Hid (∀ t ∈ c.trans.take k, t.1.length ≤ 100 ∧ t.2.length ≤ 100)) (fun iv => n1 - (intOf iv).toNat)
 case atStart => exact ⟨0, by omega, by omega, rfl, F10⟩
 case round =>
  clear F10
  obtain ⟨k, hk, hk1, rfl, HF⟩ := hrel
  have x1 : W.cell? ⟨w.heap.size, 1, none⟩ = some (.slice ta n1 tc) := cell_of_heap IW.out 1 rfl
  by_cases hkn : k < n1
  · have k1 : (k : Int) < (n1 : Int) := by omega
    have d1 : decide ((k : Int) < (n1 : Int)) = true := by simp; omega
    have k0 : (0 : Int) ≤ (k : Int) := by omega
    by_cases hkc : k ≤ 100
    · have d2 : decide ((k : Int) ≤ 100) = true := by simp; omega
      have d2' : (k : Int) ≤ 100 := by omega
      have hkl : k < c.trans.length := by rw [HN1.out]; exact hkn
      obtain ⟨b, o, u1, u2, e1, hb, y1, y2, hu1, hu2⟩ := HTR.out.cell k hkl
      subst e1
      have HTK : Hid (c.trans.take (k + 1) = c.trans.take k ++ [c.trans[k]]) := hid (List.take_succ_eq_append_getElem hkl)
      obtain ⟨x, hx⟩ : ∃ x, c.trans[k] = x := ⟨_, rfl⟩
      rw [hx] at hu1 hu2 HTK
      obtain ⟨ux, uc, rfl, hum⟩ := hu1.form
      obtain ⟨ux2, uc2, rfl, hum2⟩ := hu2.form
      obtain ⟨m, hm⟩ : ∃ m, x.1.length = m := ⟨_, rfl⟩
      obtain ⟨m2, hm2⟩ : ∃ m, x.2.length = m := ⟨_, rfl⟩
      rw [hm] at y1 hum
      rw [hm2] at y2 hum2
      have HM := hid hm
      have HM2 := hid hm2
      clear hx hu1 hu2 hm hm2
      by_cases hm1 : m ≤ 100
      · have d3 : decide ((m : Int) > 100) = false := by simp; omega
        have d3' : ¬ (m : Int) > 100 := by omega
        by_cases hm3 : m2 ≤ 100
        · have d4 : decide ((m2 : Int) > 100) = false := by simp; omega
          have d4' : ¬ (m2 : Int) > 100 := by omega
          have HFN : Hid (∀ t ∈ c.trans.take (k + 1), t.1.length ≤ 100 ∧ t.2.length ≤ 100) := hid (by
           rw [HTK.out]
           intro l hl
           rcases List.mem_append.1 hl with h | h
           · exact HF.out l h
           · rw [List.mem_singleton] at h; subst h; rw [HM.out, HM2.out]; exact ⟨hm1, hm3⟩)
          clear hm1 hm3
          go_wp2_with fail
          go_round
          case rel => exact ⟨k + 1, by omega, by omega, by go_num, HFN⟩
          case measure => simp [intOf]; omega
        · have d4 : decide ((m2 : Int) > 100) = true := by simp; omega
          have d4' : (m2 : Int) > 100 := by omega
          clear hm1 hm3
          go_wp2_with fail
          go_ret
          exact ⟨TruePost.no _, BW.out⟩
      · have d3 : decide ((m : Int) > 100) = true := by simp; omega
        have d3' : (m : Int) > 100 := by omega
        clear hm1
        go_wp2_with fail
        go_ret
        exact ⟨TruePost.no _, BW.out⟩
    · have d2 : decide ((k : Int) ≤ 100) = false := by simp; omega
      have d2' : ¬ (k : Int) ≤ 100 := by omega
      have F1 : Hid (n1 ≤ 100 → ∀ t ∈ c.trans, t.1.length ≤ 100 ∧ t.2.length ≤ 100) := hid (fun h => by omega)
      have F20 : Hid (∀ l ∈ c.sips.take 0, l.length ≤ 100) := hid (by simp)
      go_wp2_with fail
      go_loop [6] (fun iv => ∃ k : Nat, k ≤ n4 ∧ k ≤ 101 ∧ iv = .int .i64 k ∧ Hid (∀ l ∈ c.sips.take k, l.length ≤ 100)) (fun iv => n4 - (intOf iv).toNat)
      case atStart => exact ⟨0, by omega, by omega, rfl, F20⟩
      case round =>
       clear F20
       obtain ⟨k, hk, hk1, rfl, HF⟩ := hrel
       have x5 : W.cell? ⟨w.heap.size, 5, none⟩ = some (.slice sa n4 sc) := cell_of_heap IW.out 5 rfl
       by_cases hkn : k < n4
       · have k1 : (k : Int) < (n4 : Int) := by omega
         have d1 : decide ((k : Int) < (n4 : Int)) = true := by simp; omega
         have k0 : (0 : Int) ≤ (k : Int) := by omega
         by_cases hkc : k ≤ 100
         · have d2 : decide ((k : Int) ≤ 100) = true := by simp; omega
           have d2' : (k : Int) ≤ 100 := by omega
           have hkl : k < c.sips.length := by rw [HN4.out]; exact hkn
           obtain ⟨b, o, u, e1, y1, hu⟩ := HSI.out.cell k hkl
           subst e1
           have HTK : Hid (c.sips.take (k + 1) = c.sips.take k ++ [c.sips[k]]) := hid (List.take_succ_eq_append_getElem hkl)
           obtain ⟨x, hx⟩ : ∃ x, c.sips[k] = x := ⟨_, rfl⟩
           rw [hx] at hu HTK
           obtain ⟨ux, uc, rfl, hum⟩ := hu.form
           obtain ⟨m, hm⟩ : ∃ m, x.length = m := ⟨_, rfl⟩
           rw [hm] at y1 hum
           have HM := hid hm
           clear hx hu hm
           by_cases hm1 : m ≤ 100
           · have d3 : decide ((m : Int) > 100) = false := by simp; omega
             have d3' : ¬ (m : Int) > 100 := by omega
             have HFN : Hid (∀ l ∈ c.sips.take (k + 1), l.length ≤ 100) := hid (by
              rw [HTK.out]
              intro l hl
              rcases List.mem_append.1 hl with h | h
              · exact HF.out l h
              · rw [List.mem_singleton] at h; subst h; rw [HM.out]; exact hm1)
             clear hm1
             go_wp2_with fail
             go_round
             case rel => exact ⟨k + 1, by omega, by omega, by go_num, HFN⟩
             case measure => simp [intOf]; omega
           · have d3 : decide ((m : Int) > 100) = true := by simp; omega
             have d3' : (m : Int) > 100 := by omega
             clear hm1
             go_wp2_with fail
             go_ret
             exact ⟨TruePost.no _, BW.out⟩
         · have d2 : decide ((k : Int) ≤ 100) = false := by simp; omega
           have d2' : ¬ (k : Int) ≤ 100 := by omega
           have F2 : Hid (n4 ≤ 100 → ∀ l ∈ c.sips, l.length ≤ 100) := hid (fun h => by omega)
           obtain ⟨wr, hwr⟩ : ∃ x, x = W := ⟨_, rfl⟩
           subst hwr
           have IR := IW
           have BR := BW
           have c0 : wr.cell? ⟨w.heap.size, 1, none⟩ = some (.slice ta n1 tc) := cell_of_heap IR.out 1 rfl
           have c2 : wr.cell? ⟨w.heap.size, 2, none⟩ = some (.slice ca n2 cc) := cell_of_heap IR.out 2 rfl
           have c3 : wr.cell? ⟨w.heap.size, 3, none⟩ = some (.slice ka n3 kc) := cell_of_heap IR.out 3 rfl
           have c5 : wr.cell? ⟨w.heap.size, 5, none⟩ = some (.slice sa n4 sc) := cell_of_heap IR.out 5 rfl
           have t1 : decide ((n1 : Int) ≤ 100) = false := by simp; omega
           have t1' : ¬ (n1 : Int) ≤ 100 := by omega
           go_wp2_with fail
           go_ret
           exact ⟨TruePost.no _, BR.out⟩
       · obtain rfl : n4 = k := by omega
         have d1 : decide ((n4 : Int) < (n4 : Int)) = false := by simp
         have d1' : ¬ (n4 : Int) < (n4 : Int) := by omega
         have F2 : Hid (n4 ≤ 100 → ∀ l ∈ c.sips, l.length ≤ 100) := hid (fun h l hl => HF.out l (by rw [List.take_of_length_le (by rw [HN4.out]; exact Nat.le_refl _)]; exact hl))
         obtain ⟨wr, hwr⟩ : ∃ x, x = W := ⟨_, rfl⟩
         subst hwr
         have IR := IW
         have BR := BW
         have c0 : wr.cell? ⟨w.heap.size, 1, none⟩ = some (.slice ta n1 tc) := cell_of_heap IR.out 1 rfl
         have c2 : wr.cell? ⟨w.heap.size, 2, none⟩ = some (.slice ca n2 cc) := cell_of_heap IR.out 2 rfl
         have c3 : wr.cell? ⟨w.heap.size, 3, none⟩ = some (.slice ka n3 kc) := cell_of_heap IR.out 3 rfl
         have c5 : wr.cell? ⟨w.heap.size, 5, none⟩ = some (.slice sa n4 sc) := cell_of_heap IR.out 5 rfl
         have t1 : decide ((n1 : Int) ≤ 100) = false := by simp; omega
         have t1' : ¬ (n1 : Int) ≤ 100 := by omega
         go_wp2_with fail
         go_ret
         exact ⟨TruePost.no _, BR.out⟩
  · obtain rfl : n1 = k := by omega
    have d1 : decide ((n1 : Int) < (n1 : Int)) = false := by simp
    have d1' : ¬ (n1 : Int) < (n1 : Int) := by omega
    have F1 : Hid (n1 ≤ 100 → ∀ t ∈ c.trans, t.1.length ≤ 100 ∧ t.2.length ≤ 100) := hid (fun h l hl => HF.out l (by rw [List.take_of_length_le (by rw [HN1.out]; exact Nat.le_refl _)]; exact hl))
    have F20 : Hid (∀ l ∈ c.sips.take 0, l.length ≤ 100) := hid (by simp)
    go_wp2_with fail
    go_loop [6] (fun iv => ∃ k : Nat, k ≤ n4 ∧ k ≤ 101 ∧ iv = .int .i64 k ∧ Hid (∀ l ∈ c.sips.take k, l.length ≤ 100)) (fun iv => n4 - (intOf iv).toNat)
    case atStart => exact ⟨0, by omega, by omega, rfl, F20⟩
    case round =>
     clear F20
     obtain ⟨k, hk, hk1, rfl, HF⟩ := hrel
     have x5 : W.cell? ⟨w.heap.size, 5, none⟩ = some (.slice sa n4 sc) := cell_of_heap IW.out 5 rfl
     by_cases hkn : k < n4
     · have k1 : (k : Int) < (n4 : Int) := by omega
       have d1 : decide ((k : Int) < (n4 : Int)) = true := by simp; omega
       have k0 : (0 : Int) ≤ (k : Int) := by omega
       by_cases hkc : k ≤ 100
       · have d2 : decide ((k : Int) ≤ 100) = true := by simp; omega
         have d2' : (k : Int) ≤ 100 := by omega
         have hkl : k < c.sips.length := by rw [HN4.out]; exact hkn
         obtain ⟨b, o, u, e1, y1, hu⟩ := HSI.out.cell k hkl
         subst e1
         have HTK : Hid (c.sips.take (k + 1) = c.sips.take k ++ [c.sips[k]]) := hid (List.take_succ_eq_append_getElem hkl)
         obtain ⟨x, hx⟩ : ∃ x, c.sips[k] = x := ⟨_, rfl⟩
         rw [hx] at hu HTK
         obtain ⟨ux, uc, rfl, hum⟩ := hu.form
         obtain ⟨m, hm⟩ : ∃ m, x.length = m := ⟨_, rfl⟩
         rw [hm] at y1 hum
         have HM := hid hm
         clear hx hu hm
         by_cases hm1 : m ≤ 100
         · have d3 : decide ((m : Int) > 100) = false := by simp; omega
           have d3' : ¬ (m : Int) > 100 := by omega
           have HFN : Hid (∀ l ∈ c.sips.take (k + 1), l.length ≤ 100) := hid (by
            rw [HTK.out]
            intro l hl
            rcases List.mem_append.1 hl with h | h
            · exact HF.out l h
            · rw [List.mem_singleton] at h; subst h; rw [HM.out]; exact hm1)
           clear hm1
           go_wp2_with fail
           go_round
           case rel => exact ⟨k + 1, by omega, by omega, by go_num, HFN⟩
           case measure => simp [intOf]; omega
         · have d3 : decide ((m : Int) > 100) = true := by simp; omega
           have d3' : (m : Int) > 100 := by omega
           clear hm1
           go_wp2_with fail
           go_ret
           exact ⟨TruePost.no _, BW.out⟩
       · have d2 : decide ((k : Int) ≤ 100) = false := by simp; omega
         have d2' : ¬ (k : Int) ≤ 100 := by omega
         have F2 : Hid (n4 ≤ 100 → ∀ l ∈ c.sips, l.length ≤ 100) := hid (fun h => by omega)
         obtain ⟨wr, hwr⟩ : ∃ x, x = W := ⟨_, rfl⟩
         subst hwr
         have IR := IW
         have BR := BW
         have c0 : wr.cell? ⟨w.heap.size, 1, none⟩ = some (.slice ta n1 tc) := cell_of_heap IR.out 1 rfl
         have c2 : wr.cell? ⟨w.heap.size, 2, none⟩ = some (.slice ca n2 cc) := cell_of_heap IR.out 2 rfl
         have c3 : wr.cell? ⟨w.heap.size, 3, none⟩ = some (.slice ka n3 kc) := cell_of_heap IR.out 3 rfl
         have c5 : wr.cell? ⟨w.heap.size, 5, none⟩ = some (.slice sa n4 sc) := cell_of_heap IR.out 5 rfl
         by_cases g1 : n1 ≤ 100
         · have t1 : decide ((n1 : Int) ≤ 100) = true := by simp; omega
           have t1' : (n1 : Int) ≤ 100 := by omega
           by_cases g2 : n2 ≤ 100
           · have t2 : decide ((n2 : Int) ≤ 100) = true := by simp; omega
             have t2' : (n2 : Int) ≤ 100 := by omega
             by_cases g3 : n3 ≤ 100
             · have t3 : decide ((n3 : Int) ≤ 100) = true := by simp; omega
               have t3' : (n3 : Int) ≤ 100 := by omega
               have t4 : decide ((n4 : Int) ≤ 100) = false := by simp; omega
               have t4' : ¬ (n4 : Int) ≤ 100 := by omega
               go_wp2_with fail
               go_ret
               exact ⟨TruePost.no _, BR.out⟩
             · have t3 : decide ((n3 : Int) ≤ 100) = false := by simp; omega
               have t3' : ¬ (n3 : Int) ≤ 100 := by omega
               go_wp2_with fail
               go_ret
               exact ⟨TruePost.no _, BR.out⟩
           · have t2 : decide ((n2 : Int) ≤ 100) = false := by simp; omega
             have t2' : ¬ (n2 : Int) ≤ 100 := by omega
             go_wp2_with fail
             go_ret
             exact ⟨TruePost.no _, BR.out⟩
         · have t1 : decide ((n1 : Int) ≤ 100) = false := by simp; omega
           have t1' : ¬ (n1 : Int) ≤ 100 := by omega
           go_wp2_with fail
           go_ret
           exact ⟨TruePost.no _, BR.out⟩
     · obtain rfl : n4 = k := by omega
       have d1 : decide ((n4 : Int) < (n4 : Int)) = false := by simp
       have d1' : ¬ (n4 : Int) < (n4 : Int) := by omega
       have F2 : Hid (n4 ≤ 100 → ∀ l ∈ c.sips, l.length ≤ 100) := hid (fun h l hl => HF.out l (by rw [List.take_of_length_le (by rw [HN4.out]; exact Nat.le_refl _)]; exact hl))
       obtain ⟨wr, hwr⟩ : ∃ x, x = W := ⟨_, rfl⟩
       subst hwr
       have IR := IW
       have BR := BW
       have c0 : wr.cell? ⟨w.heap.size, 1, none⟩ = some (.slice ta n1 tc) := cell_of_heap IR.out 1 rfl
       have c2 : wr.cell? ⟨w.heap.size, 2, none⟩ = some (.slice ca n2 cc) := cell_of_heap IR.out 2 rfl
       have c3 : wr.cell? ⟨w.heap.size, 3, none⟩ = some (.slice ka n3 kc) := cell_of_heap IR.out 3 rfl
       have c5 : wr.cell? ⟨w.heap.size, 5, none⟩ = some (.slice sa n4 sc) := cell_of_heap IR.out 5 rfl
       by_cases g1 : n1 ≤ 100
       · have t1 : decide ((n1 : Int) ≤ 100) = true := by simp; omega
         have t1' : (n1 : Int) ≤ 100 := by omega
         by_cases g2 : n2 ≤ 100
         · have t2 : decide ((n2 : Int) ≤ 100) = true := by simp; omega
           have t2' : (n2 : Int) ≤ 100 := by omega
           by_cases g3 : n3 ≤ 100
           · have t3 : decide ((n3 : Int) ≤ 100) = true := by simp; omega
             have t3' : (n3 : Int) ≤ 100 := by omega
             by_cases g4 : n4 ≤ 100
             · have t4 : decide ((n4 : Int) ≤ 100) = true := by simp; omega
               have t4' : (n4 : Int) ≤ 100 := by omega
               have HP := hid (HFIN.out (F1.out g1) (F2.out g4) g1 g2 g3 g4)
               go_wp2_with fail
               go_ret
               exact ⟨⟨_, rfl, fun _ => HP.out⟩, BR.out⟩
             · have t4 : decide ((n4 : Int) ≤ 100) = false := by simp; omega
               have t4' : ¬ (n4 : Int) ≤ 100 := by omega
               go_wp2_with fail
               go_ret
               exact ⟨TruePost.no _, BR.out⟩
           · have t3 : decide ((n3 : Int) ≤ 100) = false := by simp; omega
             have t3' : ¬ (n3 : Int) ≤ 100 := by omega
             go_wp2_with fail
             go_ret
             exact ⟨TruePost.no _, BR.out⟩
         · have t2 : decide ((n2 : Int) ≤ 100) = false := by simp; omega
           have t2' : ¬ (n2 : Int) ≤ 100 := by omega
           go_wp2_with fail
           go_ret
           exact ⟨TruePost.no _, BR.out⟩
       · have t1 : decide ((n1 : Int) ≤ 100) = false := by simp; omega
         have t1' : ¬ (n1 : Int) ≤ 100 := by omega
         go_wp2_with fail
         go_ret
         exact ⟨TruePost.no _, BR.out⟩
end Go.Proofs.YtfcbcpfnaadpeaaGreatDoor
