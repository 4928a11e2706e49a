/- Parts Ry, Rr of this claim, laid one behind the other: walks and the plain laws behind them; each contract states its own conditions. -/
import Derived.Test.YtfcbcpfnaadpeaaGreatDoorZC
/- Walks of package taquinref11, one value whatever the world: Name, Apart. -/
namespace Go.Proofs.YtfcbcpfnaadpeaaGreatDoor
set_option linter.unusedSimpArgs false
set_option linter.unusedVariables false
open Go.RowKit

def digI (x : Int) : Bool := decide (48 ≤ x) && decide (x ≤ 57)
def chrI (x : Int) : Bool := (decide (97 ≤ x) && decide (x ≤ 122)) || ((decide (65 ≤ x) && decide (x ≤ 90)) || (digI x || (decide (x = 95) || decide (x = 45))))
def badI (k : Nat) (x : Int) : Bool := !chrI x || (decide (k = 0) && digI x)
set_option maxRecDepth 100000 in
set_option maxHeartbeats 8000000 in
theorem rName_ex (b : ByteArray) (hb : b.size ≤ 1000000) :
    ∃ r : Bool, ∀ w, Calls Tryz.prog 168 #[.string b] w fun e w' => e = .returned (.bool r) ∧ w = w' := by
  obtain ⟨R, hR⟩ : ∃ R : Bool, R = true ↔ ((∀ i, (h : i < b.size) → badI i (b[i].toNat : Int) = false) ∧ (1 ≤ b.size ∧ b.size ≤ 20)) := ⟨@decide _ (Classical.propDecidable _), @decide_eq_true_iff _ (Classical.propDecidable _)⟩
  refine ⟨R, fun w => ?_⟩
  obtain ⟨n, hn⟩ : ∃ n, b.size = n := ⟨_, rfl⟩
  have HN := Lib.hid hn
  have HR := Lib.hid hR
  rw [hn] at hb
  clear hR
  go_enter Tryz.func168, Tryz.ntmps168
  go_wp2_with fail
  go_loop [3] (fun iv => ∃ k : Nat, k ≤ n ∧ iv = .int .i64 k ∧ Hid (∀ i, (h : i < b.size) → i < k → badI i (b[i].toNat : Int) = false)) (fun iv => n - (intOf iv).toNat)
  case atStart => exact ⟨0, by omega, rfl, Lib.hid (fun i _ h => by omega)⟩
  case round =>
    obtain ⟨k, hk, rfl, HK⟩ := hrel
    by_cases hkn : k < n
    · have k1 : (k : Int) < (n : Int) := by omega
      have k0 : (0 : Int) ≤ (k : Int) := by omega
      have k2 : k < b.size := by omega
      have HBAD : Hid (badI k (b[k].toNat : Int) = true → R = false) := Lib.hid (fun h => by
        cases hRR : R with
        | false => rfl
        | true => have := (HR.out.1 hRR).1 k k2; rw [h] at this; cases this)
      have HGOOD : Hid (badI k (b[k].toNat : Int) = false → ∀ i, (h : i < b.size) → i < k + 1 → badI i (b[i].toNat : Int) = false) := Lib.hid (fun h i hi hik => by
        by_cases e : i = k
        · subst e; exact h
        · exact HK.out i hi (by omega))
      go_upto_region 5 with fail
      go_cut [5] (fun v wx => v = .bool (digI (b[k].toNat : Int)) ∧ wx = w)
      case first =>
        go_wp2_with fail
        all_goals
          go_meet
          refine ⟨?_, rfl⟩
          congr 1; simp [digI]; omega
      case rest =>
        obtain ⟨rfl, rfl⟩ := hcut
        obtain ⟨x, hx⟩ : ∃ x, (b[k].toNat : Int) = x := ⟨_, rfl⟩
        obtain ⟨dg, hdg⟩ : ∃ dg, digI x = dg := ⟨_, rfl⟩
        rw [hx] at HBAD HGOOD ⊢
        rw [hdg]
        have HDG := Lib.hid hdg
        have HX := Lib.hid hx
        clear hdg hx
        go_upto_region 6 with fail
        go_cut [3, 4, 53] (fun iv cv v wx => iv = .int .i64 (k : Int) ∧ v = .bool (badI k x) ∧ wx = wc)
        case first =>
          cases dg
          all_goals go_wp2_with fail
          all_goals
            go_meet
            refine ⟨by first | rfl | (congr 1; omega), ?_, rfl⟩
            have h1 := HDG.out
            first
              | (congr 1; simp [badI, chrI, h1]; omega)
              | (congr 1; simp [badI, chrI, h1])
        case rest =>
          obtain ⟨rfl, rfl, rfl⟩ := hcut
          cases hbd : badI k x
          · have HF := Lib.hid (HGOOD.out hbd)
            go_wp2_with fail
            go_round
            case rel => exact ⟨k + 1, by omega, by go_num, HF⟩
            case measure => simp [intOf]; omega
          · have HF := Lib.hid (HBAD.out hbd)
            go_wp2_with fail
            go_ret
            exact ⟨by rw [HF.out]; rfl, rfl⟩
    · have HA : Hid (∀ i, (h : i < b.size) → badI i (b[i].toNat : Int) = false) := Lib.hid (fun i h => HK.out i h (by have := HN.out; omega))
      have HT : Hid (1 ≤ n → n ≤ 20 → R = true) := Lib.hid (fun h1 h2 => HR.out.2 ⟨HA.out, by have := HN.out; omega⟩)
      have HFF : Hid (¬ (1 ≤ n ∧ n ≤ 20) → R = false) := Lib.hid (fun h1 => by
        cases hRR : R with
        | false => rfl
        | true => exact absurd (by have := (HR.out.1 hRR).2; have := HN.out; omega) h1)
      by_cases g1 : 1 ≤ n
      · by_cases g2 : n ≤ 20
        · have HF := Lib.hid (HT.out g1 g2)
          have j1 : (n : Int) ≥ 1 := by omega
          have j2 : (n : Int) ≤ 20 := by omega
          go_wp2_with fail
          go_ret
          exact ⟨by rw [HF.out]; rfl, rfl⟩
        · have HF := Lib.hid (HFF.out (fun h => g2 h.2))
          have j1 : (n : Int) ≥ 1 := by omega
          have j2 : ¬ (n : Int) ≤ 20 := by omega
          go_wp2_with fail
          go_ret
          exact ⟨by rw [HF.out]; rfl, rfl⟩
      · have HF := Lib.hid (HFF.out (fun h => g1 h.1))
        have j1 : ¬ (n : Int) ≥ 1 := by omega
        go_wp2_with fail
        go_ret
        exact ⟨by rw [HF.out]; rfl, rfl⟩
/-- A rule of two classes says of them. -/
def hitA (y z s t : List UInt8) : Prop := (y = s ∧ z = t) ∨ (y = t ∧ z = s)
set_option maxRecDepth 100000 in
set_option maxHeartbeats 8000000 in
theorem Apart_ex (l : List (List UInt8 × List UInt8)) (s t : ByteArray) :
    ∃ r : Bool, ∀ v w, ApV w v l → Calls Tryz.prog 169 #[v, .string s, .string t] w fun e w' => e = .returned (.bool r) ∧ w = w' := by
  obtain ⟨R, hR⟩ : ∃ R : Bool, R = true ↔ (s.toList ≠ [] ∧ t.toList ≠ [] ∧ ∃ i, ∃ h : i < l.length, hitA (⟨l[i].1.toArray⟩ : ByteArray).toList (⟨l[i].2.toArray⟩ : ByteArray).toList s.toList t.toList) := ⟨@decide _ (Classical.propDecidable _), @decide_eq_true_iff _ (Classical.propDecidable _)⟩
  refine ⟨R, fun v w h => ?_⟩
  obtain ⟨a, cap, rfl, hm⟩ := two_form h
  have H := Lib.hid h
  have HR := Lib.hid hR
  have HS0 : Hid (s.toList = [] → R = false) := Lib.hid (fun h => by
    cases hRR : R with
    | false => rfl
    | true => exact absurd h (HR.out.1 hRR).1)
  have HT0 : Hid (((!s.toList.isEmpty) = false ∨ (!t.toList.isEmpty) = false) → R = false) := Lib.hid (fun h => by
    cases hRR : R with
    | false => rfl
    | true =>
      obtain ⟨h1, h2, -⟩ := HR.out.1 hRR
      exfalso
      rcases h with h | h
      · exact h1 (by simpa using h)
      · exact h2 (by simpa using h))
  obtain ⟨n, hn⟩ : ∃ n, l.length = n := ⟨_, rfl⟩
  rw [hn] at hm H ⊢
  have HN := Lib.hid hn
  clear h hn hR
  go_enter Tryz.func169, Tryz.ntmps169
  go_wp2_with fail
  go_loop [7] (fun iv => ∃ k : Nat, k ≤ n ∧ iv = .int .i64 k ∧ Hid (∀ i, (h : i < l.length) → i < k → ¬ hitA (⟨l[i].1.toArray⟩ : ByteArray).toList (⟨l[i].2.toArray⟩ : ByteArray).toList s.toList t.toList)) (fun iv => n - (intOf iv).toNat)
  case atStart => exact ⟨0, by omega, rfl, Lib.hid (fun i _ h => by omega)⟩
  case round =>
    obtain ⟨k, hk, rfl, HK⟩ := hrel
    by_cases hkn : k < n
    · have hkl : k < l.length := by rw [HN.out]; exact hkn
      obtain ⟨b, off, e1, -, c0, c1⟩ := H.out.cell k hkl
      subst e1
      have HHIT : Hid (s.toList ≠ [] → t.toList ≠ [] → hitA (⟨l[k].1.toArray⟩ : ByteArray).toList (⟨l[k].2.toArray⟩ : ByteArray).toList s.toList t.toList → R = true) := Lib.hid (fun h1 h2 h3 => HR.out.2 ⟨h1, h2, k, hkl, h3⟩)
      have HMISS : Hid (¬ hitA (⟨l[k].1.toArray⟩ : ByteArray).toList (⟨l[k].2.toArray⟩ : ByteArray).toList s.toList t.toList → ∀ i, (h : i < l.length) → i < k + 1 → ¬ hitA (⟨l[i].1.toArray⟩ : ByteArray).toList (⟨l[i].2.toArray⟩ : ByteArray).toList s.toList t.toList) := Lib.hid (fun h1 i hi hik => by
        by_cases e : i = k
        · subst e; exact h1
        · exact HK.out i hi (by omega))
      obtain ⟨y, hy⟩ : ∃ y : ByteArray, ⟨l[k].1.toArray⟩ = y := ⟨_, rfl⟩
      obtain ⟨z, hz⟩ : ∃ y : ByteArray, ⟨l[k].2.toArray⟩ = y := ⟨_, rfl⟩
      rw [hy] at c0
      rw [hz] at c1
      rw [hy, hz] at HHIT HMISS
      have k1 : (k : Int) < (n : Int) := by omega
      have k0 : (0 : Int) ≤ (k : Int) := by omega
      clear hy hz
      go_wp2_with fail
      all_goals first
        | (go_ret; refine ⟨?_, rfl⟩; rw [HS0.out]; all_goals first | rfl | assumption)
        | (go_ret; refine ⟨?_, rfl⟩; rw [HT0.out]; all_goals first | rfl | assumption)
        | (go_ret; refine ⟨?_, rfl⟩; rw [HHIT.out]; all_goals first | rfl | assumption | (simp_all [hitA]; done))
        | (go_round
           case rel => refine ⟨k + 1, by omega, by go_num, Lib.hid (HMISS.out ?_)⟩; simp_all [hitA]
           case measure => simp [intOf]; omega)
    · have HF : Hid (R = false) := Lib.hid (by
        cases hRR : R with
        | false => rfl
        | true =>
          obtain ⟨-, -, i, hi, h⟩ := HR.out.1 hRR
          exact absurd h (HK.out i hi (by have := HN.out; omega)))
      go_wp2_with fail
      all_goals
        go_ret
        exact ⟨by rw [HF.out]; rfl, rfl⟩
end Go.Proofs.YtfcbcpfnaadpeaaGreatDoor
/- Walks of package taquinref07: Right. -/
namespace Go.Proofs.YtfcbcpfnaadpeaaGreatDoor
set_option linter.unusedSimpArgs false
set_option linter.unusedVariables false
open Go.RowKit

def RFPost (f : Fl.Floor) (e : Ending) : Prop := ∃ r : Bool, e = .returned (.bool r) ∧ (r = true → Fl.Right f)
/-- The first cells are right. -/
def okTo (f : Fl.Floor) (k : Nat) : Prop := ∀ i, i < k → (∀ h : i < f.kind.length, 0 ≤ f.kind[i] ∧ f.kind[i] < 7) ∧ ∀ h : i < f.out.length, 0 ≤ f.out[i] ∧ f.out[i] ≤ 63
theorem right_of {f : Fl.Floor} (hb : FB f) (hs : f.size ≤ 4096) (h1 : (f.kind.length : Int) = f.size) (h2 : (f.out.length : Int) = f.size) (h : okTo f f.kind.length) : Fl.Right f := by
  have e : f.out.length = f.kind.length := by omega
  refine ⟨hb.w1, hb.h1, hb.d1, hb.w2, hb.h2, hb.d2, h1, e, hs, fun k hk => ?_, fun o ho => ?_⟩
  · obtain ⟨i, hi, rfl⟩ := List.getElem_of_mem hk
    exact (h i hi).1 hi
  · obtain ⟨i, hi, rfl⟩ := List.getElem_of_mem ho
    exact (h i (by omega)).2 hi
set_option maxRecDepth 100000 in
set_option maxHeartbeats 8000000 in
theorem rFloor_any (f : Fl.Floor) (kv ov : Value) (w : World) (h : FlV w kv ov f) :
    Calls Tryz.prog 166 #[flV f kv ov] w fun e w' => RFPost f e ∧ Below w.heap.size w w' := by
  obtain ⟨a1, c1, rfl, m1⟩ := h.kind.form
  obtain ⟨a2, c2, rfl, m2⟩ := h.out.form
  have B1 := Lib.hid ((Below.refl _ w).alloc (Nat.le_refl _) (.cells #[.int .i64 f.w, .int .i64 f.h, .int .i64 f.d, .slice a1 f.kind.length c1, .slice a2 f.out.length c2] 24))
  by_cases hb : FB f
  · obtain ⟨⟨p1, p2⟩, p3, p4⟩ := hb.size
    obtain ⟨b1, b2, b3, b4, b5, b6⟩ := (⟨hb.w1, hb.h1, hb.d1, hb.w2, hb.h2, hb.d2⟩ : 1 ≤ f.w ∧ 1 ≤ f.h ∧ 1 ≤ f.d ∧ f.w ≤ 4096 ∧ f.h ≤ 4096 ∧ f.d ≤ 4)
    by_cases hg : f.w * f.h * f.d ≤ 4096 ∧ (f.kind.length : Int) = f.w * f.h * f.d ∧ (f.out.length : Int) = f.w * f.h * f.d
    · obtain ⟨g1, g2, g3⟩ := hg
      have HFL := Lib.hid h
      have HGO : Hid (okTo f f.kind.length → Fl.Right f) := Lib.hid (fun ho => right_of hb g1 g2 g3 ho)
      have HO0 : Hid (okTo f 0) := Lib.hid (fun i hi => absurd hi (by omega))
      obtain ⟨n, hn⟩ : ∃ n, f.kind.length = n := ⟨_, rfl⟩
      obtain ⟨n2, hn2⟩ : ∃ n, f.out.length = n := ⟨_, rfl⟩
      rw [hn] at g2 m1 HFL HGO B1 ⊢
      rw [hn2] at g3 m2 HFL B1 ⊢
      have HN := Lib.hid hn
      have HN2 := Lib.hid hn2
      obtain rfl : n2 = n := by omega
      have e1 : ((n2 : Int) != f.w * f.h * f.d) = false := by rw [g2]; simp
      unfold flV
      clear h hb hn hn2 g3
      go_enter Tryz.func166, Tryz.ntmps166
      go_upto_region 7 with fail
      go_wp2_with fail
      go_loopw [4] (fun iv wr => ∃ k : Nat, k ≤ n2 ∧ iv = .int .i64 k ∧ Hid (okTo f k) ∧ Hid (Below w.heap.size w wr) ∧ Hid (wr.heap[w.heap.size]? = some (.cells #[.int .i64 f.w, .int .i64 f.h, .int .i64 f.d, .slice a1 n2 c1, .slice a2 n2 c2] 24 (0, 0)))) (fun iv _ => n2 - (intOf iv).toNat)
      case atStart => exact ⟨0, by omega, rfl, HO0, B1, Lib.hid (heap_alloc_new _ _)⟩
      case round =>
        obtain ⟨k, hk, rfl, HO, HB, HI⟩ := hrel
        have d0 := cell_of_heap HI.out 3 (v := .slice a1 n2 c1) rfl
        have d1 := cell_of_heap HI.out 4 (v := .slice a2 n2 c2) rfl
        by_cases hkn : k < n2
        · have hk1 : k < f.kind.length := by rw [HN.out]; exact hkn
          have hk2 : k < f.out.length := by rw [HN2.out]; exact hkn
          obtain ⟨x1, y1, q1, t1⟩ := (HFL.out.keep HB.out).kind.cell k hk1
          obtain ⟨x2, y2, q2, t2⟩ := (HFL.out.keep HB.out).out.cell k hk2
          subst q1 q2
          obtain ⟨K, hK⟩ : ∃ K, f.kind[k] = K := ⟨_, rfl⟩
          obtain ⟨O, hO⟩ : ∃ O, f.out[k] = O := ⟨_, rfl⟩
          rw [hK] at t1
          rw [hO] at t2
          have HNX : Hid (0 ≤ K → K < 7 → 0 ≤ O → O ≤ 63 → okTo f (k + 1)) := Lib.hid (by
            intro r1 r2 r3 r4 i hi
            by_cases hik : i < k
            · exact HO.out i hik
            · obtain rfl : i = k := by omega
              exact ⟨fun _ => by rw [hK]; exact ⟨r1, r2⟩, fun _ => by rw [hO]; exact ⟨r3, r4⟩⟩)
          have k0 : (0 : Int) ≤ (k : Int) := by omega
          have k1 : (k : Int) < (n2 : Int) := by omega
          have k2 : (k : Int) < f.w * f.h * f.d := by omega
          clear hK hO
          go_wp2_with fail
          all_goals first
            | (go_ret; exact ⟨⟨false, rfl, fun h => by cases h⟩, HB.out⟩)
            | (go_roundw
               case rel => exact ⟨k + 1, by omega, by go_num, Lib.hid (HNX.out (by omega) (by omega) (by omega) (by omega)), HB, HI⟩
               case measure => simp [intOf]; omega)
        · obtain rfl : k = n2 := by omega
          have k2 : ((k : Int) < f.w * f.h * f.d) = False := by simp only [eq_iff_iff, iff_false]; omega
          go_wp2_with fail
          go_ret
          exact ⟨⟨true, rfl, fun _ => HGO.out HO.out⟩, HB.out⟩
    · obtain ⟨S, hS⟩ : ∃ S, f.w * f.h * f.d = S := ⟨_, rfl⟩
      have key : S > 4096 ∨ (S ≤ 4096 ∧ (f.kind.length : Int) ≠ S) ∨ (S ≤ 4096 ∧ (f.kind.length : Int) = S ∧ (f.out.length : Int) ≠ S) := by
        rw [hS] at hg
        by_cases q1 : S ≤ 4096
        · by_cases q2 : (f.kind.length : Int) = S
          · exact .inr (.inr ⟨q1, q2, fun q3 => hg ⟨q1, q2, q3⟩⟩)
          · exact .inr (.inl ⟨q1, q2⟩)
        · exact .inl (by omega)
      subst hS
      unfold flV
      clear h hb hg
      rcases key with q1 | ⟨q1, q2⟩ | ⟨q1, q2, q3⟩
      · go_enter Tryz.func166, Tryz.ntmps166
        go_wp2_with fail
        go_ret
        exact ⟨⟨false, rfl, fun h => by cases h⟩, B1.out⟩
      · have e2 : ((f.kind.length : Int) != f.w * f.h * f.d) = true := by simp [q2]
        clear q2
        go_enter Tryz.func166, Tryz.ntmps166
        go_wp2_with fail
        go_ret
        exact ⟨⟨false, rfl, fun h => by cases h⟩, B1.out⟩
      · have e2 : ((f.kind.length : Int) != f.w * f.h * f.d) = false := by simp [q2]
        have e3 : ((f.out.length : Int) != f.w * f.h * f.d) = true := by simp [q3]
        clear q2 q3
        go_enter Tryz.func166, Tryz.ntmps166
        go_wp2_with fail
        go_ret
        exact ⟨⟨false, rfl, fun h => by cases h⟩, B1.out⟩
  · have H := Lib.hid hb
    unfold flV
    clear h
    go_enter Tryz.func166, Tryz.ntmps166
    go_upto_region 3 with fail
    all_goals first
      | (go_ret; exact ⟨⟨false, rfl, fun h => by cases h⟩, B1.out⟩)
      | (exfalso; exact H.out ⟨by omega, by omega, by omega, by omega, by omega, by omega⟩)
end Go.Proofs.YtfcbcpfnaadpeaaGreatDoor
