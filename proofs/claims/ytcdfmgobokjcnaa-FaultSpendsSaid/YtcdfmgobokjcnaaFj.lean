/- Walks of package arena: kind, live; slices.Contains. -/
import Derived.Test.YtcdfmgobokjcnaaBd
import Derived.Test.YtcdfmgobokjcnaaAl
import Derived.Test.YtcdfmgobokjcnaaShelf
namespace Go.Proofs.Ytcdfmgobokjcnaa
set_option linter.unusedSimpArgs false
set_option linter.unusedVariables false
open Go.RowKit

theorem containsI_any (v : Value) (l : List Int) (x : Int) (w : World) (h : Is w v l) :
    Calls Try.prog 38 #[v, .int .i64 x] w fun e w' => e = .returned (.bool (l.contains x)) ∧ w' = w := by
  by_cases h0 : l.length = 0
  · obtain ⟨a, cap, rfl, hm⟩ := h.form
    obtain rfl := List.eq_nil_of_length_eq_zero h0
    exact Try.slices_Contains_int_empty a cap x w
  · obtain ⟨a, cap, rfl, hm⟩ := h.form
    obtain ⟨b, off, rfl, -⟩ := h.cell 0 (by omega)
    have := Try.slices_Contains_int b off l.length cap l x w (Nat.le_refl _) hm (fun j hj => by
      obtain ⟨b2, off2, e, hc⟩ := h.cell j hj
      injection e with e; injection e with e1 e2; subst e1 e2
      rw [hc]; simp [List.getD, hj])
    rwa [List.take_length] at this
set_option maxRecDepth 100000 in
set_option maxHeartbeats 4000000 in
theorem kindA_any (f : Fl.Floor) (kv ov : Value) (c : Int) (w : World) (h : FlV w kv ov f) :
    Calls Try.prog 40 #[flV f kv ov, .int .i64 c] w fun e w' => e = .returned (.int .i64 (Fa.kindF f c)) ∧ Below w.heap.size w w' := by
  obtain ⟨ka, kc, rfl, hkm⟩ := h.kind.form
  have H := Lib.hid h
  obtain ⟨L, hL⟩ : ∃ L, f.kind.length = L := ⟨_, rfl⟩
  have HK : Hid (Fa.kindF f c = if 0 ≤ c ∧ c < (L : Int) then f.kind.getD c.toNat 0 else 0) := Lib.hid (by unfold Fa.kindF; rw [hL])
  unfold flV
  rw [hL] at H hkm ⊢
  have HL := Lib.hid hL
  have B1 := Lib.hid ((Below.refl _ w).alloc (Nat.le_refl _) (.cells #[.int .i64 f.w, .int .i64 f.h, .int .i64 f.d, .slice ka L kc, ov] 37))
  clear h hL
  by_cases h0 : 0 ≤ c
  · by_cases h1 : c < (L : Int)
    · obtain ⟨n, rfl⟩ := Int.eq_ofNat_of_zero_le h0
      have hn : n < f.kind.length := by rw [HL.out]; omega
      obtain ⟨kb, ko, rfl, r0⟩ := H.out.kind.cell n hn
      have hkb := cell_block_lt r0
      dsimp only at hkb
      have HK2 : Hid (Fa.kindF f (n : Int) = f.kind[n]) := Lib.hid (by rw [HK.out, if_pos ⟨h0, h1⟩]; simp [List.getD, hn])
      obtain ⟨X, hX⟩ : ∃ X, f.kind[n] = X := ⟨_, rfl⟩
      rw [hX] at r0 HK2
      rw [← B1.out.cell (p := ⟨kb, ko + n, none⟩) hkb] at r0
      clear hX hn HK
      go_enter Try.func40, Try.ntmps40
      go_wp2_with fail
      go_ret
      exact ⟨by rw [HK2.out]; rfl, B1.out⟩
    · have HK2 : Hid (Fa.kindF f c = 0) := Lib.hid (by rw [HK.out, if_neg (by omega)])
      go_enter Try.func40, Try.ntmps40
      go_wp2_with fail
      go_ret
      exact ⟨by rw [HK2.out]; rfl, B1.out⟩
  · have HK2 : Hid (Fa.kindF f c = 0) := Lib.hid (by rw [HK.out, if_neg (by omega)])
    go_enter Try.func40, Try.ntmps40
    go_wp2_with fail
    go_ret
    exact ⟨by rw [HK2.out]; rfl, B1.out⟩
set_option maxRecDepth 100000 in
set_option maxHeartbeats 4000000 in
theorem live_any (s : Bd.State) (sv rv pv dv kv : Value) (i : Int) (w : World) (h : StV w sv rv pv dv kv s) :
    Calls Try.prog 39 #[stV s sv rv pv dv kv, .int .i64 i] w fun e w' => e = .returned (.bool (Fa.live s i)) ∧ Below w.heap.size w w' := by
  obtain ⟨ra, rc, rfl, hrm⟩ := h.ro.form
  have H := Lib.hid h
  obtain ⟨L, hL⟩ : ∃ L, s.robots.length = L := ⟨_, rfl⟩
  have HK : Hid (Fa.live s i = (decide (0 ≤ i) && (decide (i < (L : Int)) && !Fa.deadAt s i.toNat))) := Lib.hid (by unfold Fa.live; rw [hL])
  unfold stV
  rw [hL] at H hrm ⊢
  have HL := Lib.hid hL
  have B1 := Lib.hid ((Below.refl _ w).alloc (Nat.le_refl _) (.cells #[.int .i64 s.tick, sv, .slice ra L rc, pv, dv, kv] 47))
  clear h hL
  by_cases h0 : 0 ≤ i
  · by_cases h1 : i < (L : Int)
    · obtain ⟨n, rfl⟩ := Int.eq_ofNat_of_zero_le h0
      have hn : n < s.robots.length := by rw [HL.out]; omega
      obtain ⟨kb, ko, rfl, hkb, r0, r1, r2, r3, r4, r5⟩ := H.out.ro.cell n hn
      have HK2 : Hid (Fa.live s (n : Int) = !s.robots[n].dead) := Lib.hid (by
        rw [HK.out, decide_eq_true h0, decide_eq_true h1]
        unfold Fa.deadAt
        rw [Int.toNat_natCast, List.getElem?_eq_getElem hn]; rfl)
      obtain ⟨X, hX⟩ : ∃ X, s.robots[n].dead = X := ⟨_, rfl⟩
      rw [hX] at r5 HK2
      rw [← B1.out.cell (p := ⟨kb, ko + n * 6 + 5, none⟩) hkb] at r5
      clear hX hn HK r0 r1 r2 r3 r4
      go_enter Try.func39, Try.ntmps39
      go_wp2_with fail
      go_ret
      exact ⟨by rw [HK2.out]; rfl, B1.out⟩
    · have HK2 : Hid (Fa.live s i = false) := Lib.hid (by rw [HK.out, decide_eq_false h1]; simp)
      go_enter Try.func39, Try.ntmps39
      go_wp2_with fail
      go_ret
      exact ⟨by rw [HK2.out]; rfl, B1.out⟩
  · have HK2 : Hid (Fa.live s i = false) := Lib.hid (by rw [HK.out, decide_eq_false h0]; rfl)
    go_enter Try.func39, Try.ntmps39
    go_wp2_with fail
    go_ret
    exact ⟨by rw [HK2.out]; rfl, B1.out⟩
end Go.Proofs.Ytcdfmgobokjcnaa
