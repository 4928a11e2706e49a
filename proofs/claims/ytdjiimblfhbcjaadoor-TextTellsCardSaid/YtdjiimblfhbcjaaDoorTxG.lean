/- Walks: Unlines; taquinref02.Same where the lists are equal. -/
import Derived.Test.YtdjiimblfhbcjaaDoorTxU
import Derived.Test.YtdjiimblfhbcjaaDoorTxN
namespace Go.Proofs.YtdjiimblfhbcjaaDoor
set_option linter.unusedSimpArgs false
open Go.RowKit

theorem Sl.len {w : World} {v : Value} {xs : List Value} (h : Sl w v xs) : ∃ a cap, v = .slice a xs.length cap ∧ xs.length ≤ 9223372036854775807 := by
  obtain ⟨a, cap, rfl, hm, -⟩ := h
  exact ⟨a, cap, rfl, hm⟩
theorem strs_len (l : List (List UInt8)) : (strs l).length = l.length := by simp [strs]
theorem Sl.str {w : World} {v : Value} {ls : List (List UInt8)} (h : Sl w v (strs ls)) (n : Nat) (hn : n = ls.length) (k : Nat) (hk : k < ls.length) :
    ∃ (b off cap : Nat), v = .slice (some ⟨b, off, none⟩) n cap ∧ w.cell? ⟨b, off + k, none⟩ = some (.string ⟨ls[k].toArray⟩) := by
  subst hn
  obtain ⟨a, cap, rfl, -, -, hc⟩ := h
  obtain ⟨b, off, rfl, h2⟩ := hc k (by rw [strs_len]; exact hk)
  refine ⟨b, off, cap, by rw [strs_len], ?_⟩
  rw [h2]; simp [strs]
theorem below_sm {B : Nat} {a x w' : World} (h : Below B a x) (e : w'.os = x.os ∧ w'.tape = x.tape ∧ w'.output = x.output ∧ w'.heap = x.heap) : Below B a w' :=
  ⟨e.1.trans h.os, e.2.1.trans h.tape, e.2.2.1.trans h.output, by rw [e.2.2.2]; exact h.size, fun k hk => by rw [e.2.2.2]; exact h.block k hk⟩

theorem unl_take (ls : List (List UInt8)) (k : Nat) (hk : k < ls.length) : unl (ls.take (k + 1)) = unl (ls.take k) ++ (ls[k] ++ [10]) := by
  rw [List.take_succ_eq_append_getElem hk]
  unfold unl
  rw [List.flatMap_append]; congr 1; exact List.append_nil _
theorem unl_le (ls : List (List UInt8)) (k : Nat) : (unl (ls.take k)).length ≤ (unl ls).length := by
  have h : unl ls = unl (ls.take k) ++ unl (ls.drop k) := by
    conv => lhs; rw [← List.take_append_drop k ls]
    unfold unl
    exact List.flatMap_append
  rw [h, List.length_append]; omega
theorem unl1_le (ls : List (List UInt8)) (k : Nat) (hk : k < ls.length) : (unl (ls.take k)).length + (ls[k].length + 1) ≤ (unl ls).length := by
  have := unl_le ls (k + 1)
  rw [unl_take ls k hk, List.length_append, List.length_append, List.length_singleton] at this; exact this

set_option maxRecDepth 100000 in
set_option maxHeartbeats 16000000 in
theorem Unlines_any (v : Value) (ls : List (List UInt8)) (w : World) (h : Sl w v (strs ls)) (hs : (unl ls).length ≤ 1000000) :
    Calls Tryd.prog 16 #[v] w fun e w' => e = .returned (.string ⟨(unl ls).toArray⟩) ∧ Below w.heap.size w w' := by
  obtain ⟨a, ca, rfl, hla⟩ := h.len
  rw [strs_len] at h hla ⊢
  obtain ⟨n, hn⟩ : ∃ n, n = ls.length := ⟨_, rfl⟩
  rw [← hn] at h hla ⊢
  have HT := Lib.hid h
  have HN := Lib.hid hn
  have H0 := Lib.hid (Bw.start w)
  clear h hn
  go_enter Tryd.func16, Tryd.ntmps16
  go_wp2_with fail
  go_loopw [8] (fun i wr => ∃ k : Nat, k ≤ n ∧ i = .int .i64 k ∧ Hid (Bw w (unl (ls.take k)) wr)) (fun i _ => n - (intOf i).toNat)
  case atStart => exact ⟨0, by omega, rfl, H0⟩
  case round =>
    obtain ⟨k, hk, rfl, HB⟩ := hrel
    clear H0
    by_cases hlt : k < n
    · have hkt : k < ls.length := by rw [← HN.out]; exact hlt
      obtain ⟨b, off, cb, e1, q0⟩ := (HT.out.below HB.out.below).str n HN.out k hkt
      cases e1
      have kI0 : (0 : Int) ≤ (k : Int) := by omega
      have kI1 : (k : Int) < (n : Int) := by omega
      have kI2 : (k : Int).toNat = k := by omega
      have hw1 := unl1_le ls k hkt
      have hwt := Lib.hid (unl_take ls k hkt)
      generalize ls[k] = t at *
      generalize hWl : unl (ls.take k) = L at *
      clear hWl
      go_wp2_with fail
      go_at_call 47; refine (HB.out.writeString _ (by rw [← bs_len, bs_lit0]; omega)).mono ?_; rintro e w' ⟨rfl, h2⟩
      rw [bs_lit0] at h2
      have HB2 := Lib.hid h2
      clear h2
      go_wp2_with fail
      go_at_call 48; refine (HB2.out.writeByte 10 (by rw [List.length_append]; omega)).mono ?_; rintro e w2 ⟨rfl, h2⟩
      have HB3 := Lib.hid h2
      clear h2
      go_wp2_with fail
      go_roundw
      case rel => exact ⟨k + 1, by omega, by go_num, Lib.hid (by rw [hwt.out, ← List.append_assoc]; exact HB3.out)⟩
      case measure => simp [intOf]; omega
    · have hkn : ls.take k = ls := List.take_of_length_le (by rw [← HN.out]; omega)
      rw [hkn] at HB
      clear hkn
      go_wp2_with fail
      go_at_call 49; refine HB.out.string.mono ?_; rintro e w2 ⟨rfl, h2⟩
      have HB2 := Lib.hid h2
      clear h2
      go_wp2_with fail
      go_ret
      exact ⟨rfl, HB2.out.below⟩
set_option maxRecDepth 100000 in
set_option maxHeartbeats 8000000 in
theorem r2Same_k (va vb : Value) (ls : List (List UInt8)) {w : World} (ha : Sl w va (strs ls)) (hb : Sl w vb (strs ls)) :
    Calls Tryd.prog 14 #[va, vb] w fun e w' => e = .returned (.bool true) ∧ Below w.heap.size w w' := by
  obtain ⟨a, ca, rfl, hla⟩ := ha.len
  obtain ⟨b, cb, rfl, hlb⟩ := hb.len
  rw [strs_len] at ha hb hla hlb ⊢
  obtain ⟨n, hn⟩ : ∃ n, n = ls.length := ⟨_, rfl⟩
  rw [← hn] at ha hb hla hlb ⊢
  have HA := Lib.hid ha
  have HB := Lib.hid hb
  have HN := Lib.hid hn
  have hne : ((n : Int) != (n : Int)) = false := by simp
  clear ha hb hn
  go_enter Tryd.func14, Tryd.ntmps14
  go_wp2_with fail
  go_loopw [5] (fun i wr => ∃ k : Nat, k ≤ n ∧ i = .int .i64 k ∧ Hid (Below w.heap.size w wr)) (fun i _ => n - (intOf i).toNat)
  case atStart => exact ⟨0, by omega, rfl, Lib.hid (Below.refl _ _)⟩
  case round =>
    obtain ⟨k, hk, rfl, B⟩ := hrel
    by_cases hlt : k < n
    · have hkt : k < ls.length := by rw [← HN.out]; exact hlt
      obtain ⟨ba, oa, ca', e1, q0⟩ := (HA.out.below B.out).str n HN.out k hkt
      obtain ⟨bb, ob, cb', e2, p0⟩ := (HB.out.below B.out).str n HN.out k hkt
      cases e1
      cases e2
      have kI0 : (0 : Int) ≤ (k : Int) := by omega
      have kI1 : (k : Int) < (n : Int) := by omega
      have kI2 : (k : Int).toNat = k := by omega
      generalize (⟨ls[k].toArray⟩ : ByteArray) = t at *
      go_wp2_with fail
      go_quiet (fail)
      go_wp2_with fail
      go_roundw
      case rel => exact ⟨k + 1, by omega, by go_num, Lib.hid (below_sm B.out ⟨rfl, rfl, rfl, rfl⟩)⟩
      case measure => simp [intOf]; omega
    · go_wp2_with fail
      go_ret
      exact ⟨rfl, B.out⟩
end Go.Proofs.YtdjiimblfhbcjaaDoor
