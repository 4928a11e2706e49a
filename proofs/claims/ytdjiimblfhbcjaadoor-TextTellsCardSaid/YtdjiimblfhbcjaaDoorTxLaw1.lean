/- TextPlain. -/
import Derived.Test.YtdjiimblfhbcjaaDoorTxS
import Derived.Test.YtdjiimblfhbcjaaDoorTxM
namespace Go.Proofs.YtdjiimblfhbcjaaDoor
set_option linter.unusedSimpArgs false
open Go.RowKit

theorem escB_es1 (c : UInt8) : escB c = Pat.es1 c := by
  unfold escB Pat.es1 Pat.sp
  by_cases h1 : c = 42
  · subst h1; rfl
  by_cases h2 : c = 63
  · subst h2; rfl
  by_cases h3 : c = 91
  · subst h3; rfl
  by_cases h4 : c = 92
  · subst h4; rfl
  have : Lib.indexByte [42, 63, 91, 92] c = -1 := by
    rw [indexByte_find]
    simp [List.findIdx?_cons, Ne.symm h1, Ne.symm h2, Ne.symm h3, Ne.symm h4]
  rw [this]; simp [h1, h2, h3, h4]
theorem esc_es (l : List UInt8) : esc l = Pat.es l := by
  unfold esc Pat.es; rw [funext escB_es1]
theorem Escape_k (s : ByteArray) (w : World) (hs : s.size ≤ 1073741824) :
    Calls Tryd.prog 19 #[.string s] w fun e w' => ∃ E, bs E = Pat.es (bs s) ∧ E.size ≤ 2 * s.size ∧ e = .returned (.string E) ∧ Below w.heap.size w w' := by
  refine (Escape_any s w hs).mono ?_
  rintro e w' ⟨rfl, hb⟩
  refine ⟨_, by rw [bs_lit, esc_es], ?_, rfl, hb⟩
  rw [← bs_len, bs_lit, ← bs_len]; exact esc_len _
theorem Plain_k (s : ByteArray) (w : World) (hs : s.size ≤ 1073741824) :
    Calls Tryd.prog 29 #[.string s] w fun e w' => ∃ E, bs E = Pat.pl (bs s) ∧ E.size ≤ s.size ∧ e = .returned (.string E) ∧ Below w.heap.size w w' := by
  refine (Plain_any s w hs).mono ?_
  rintro e w' ⟨rfl, hb⟩
  refine ⟨_, by rw [bs_lit], ?_, rfl, hb⟩
  rw [← bs_len, bs_lit, ← bs_len]; exact Pat.pl_len _ _ (Nat.le_refl _)
theorem Pattern_k (p s : ByteArray) (r : Bool) (hr : Pat.pat (bs p) (bs s) = r) (w : World) (hp : p.size ≤ 140737488355328) (hs : s.size ≤ 140737488355328) :
    Calls Tryd.prog 18 #[.string p, .string s] w fun e w' => e = .returned (.bool r) ∧ Below w.heap.size w w' := by
  refine (Pattern_any p s w hp hs).mono ?_
  rintro e w' ⟨rfl, k, rfl⟩; exact ⟨by rw [hr], below_drewN _ _ _⟩
theorem Magic_k (p : ByteArray) (r : Bool) (hr : Pat.mg (bs p) = r) (w : World) (hp : p.size ≤ 140737488355328) :
    Calls Tryd.prog 28 #[.string p] w fun e w' => e = .returned (.bool r) ∧ Below w.heap.size w w' := by
  refine (Magic_any p w hp).mono ?_
  rintro e w' ⟨rfl, k, rfl⟩; exact ⟨by rw [hr], below_drewN _ _ _⟩
theorem bs_inj {a b : ByteArray} (h : bs a = bs b) : a = b := by
  rw [← mk_data a, ← mk_data b]; exact congrArg (fun l : List UInt8 => (⟨l.toArray⟩ : ByteArray)) h
theorem Plain_is (E s : ByteArray) (h : Pat.pl (bs E) = bs s) (w : World) (hs : E.size ≤ 1073741824) :
    Calls Tryd.prog 29 #[.string E] w fun e w' => e = .returned (.string s) ∧ Below w.heap.size w w' := by
  refine (Plain_k E w hs).mono ?_
  rintro e w' ⟨X, hX, -, rfl, hb⟩
  exact ⟨by rw [bs_inj (hX.trans h)], hb⟩
theorem pat_self (t : List UInt8) : Pat.pat (Pat.es t) t = true := by
  have := Pat.pat_escaped t [] []
  rw [List.append_nil, List.append_nil] at this; rw [this]; rfl

set_option maxHeartbeats 4000000 in
theorem TextPlain_any (p s : ByteArray) (w : World) (hE : Env w) :
    Calls Tryd.prog 9 #[.string p, .string s] w fun e w' => e = .returned (.bool true) ∧ Below w.heap.size w w' := by
  have HE := Lib.hid hE
  clear hE
  by_cases hp : p.size ≤ 100
  · by_cases hs : s.size ≤ 300
    · cases hm : Pat.mg (bs p) with
      | true =>
        have HM := Lib.hid hm
        clear hm
        go_enter Tryd.func9, Tryd.ntmps9
        go_wp2_with fail
        go_at_call 13; refine (small_any _ HE.out).mono ?_; rintro e w1 ⟨rfl, B⟩
        go_wp2_with fail
        go_at_call 19; refine (Escape_k s _ (by omega)).mono ?_; rintro e w2 ⟨E, hEs, hEl, rfl, b⟩
        replace B := B.trans (b.mono B.size)
        have HS := Lib.hid hEs
        clear b hEs
        go_wp2_with fail
        go_at_call 28; refine (Magic_k p true HM.out _ (by omega)).mono ?_; rintro e w2 ⟨rfl, b⟩
        replace B := B.trans (b.mono B.size)
        clear b
        go_wp2_with fail
        go_at_call 28; refine (Magic_k E false (by rw [HS.out]; exact Pat.mg_es _) _ (by omega)).mono ?_; rintro e w2 ⟨rfl, b⟩
        replace B := B.trans (b.mono B.size)
        clear b
        go_wp2_with fail
        go_at_call 29; refine (Plain_is E s (by rw [HS.out]; exact Pat.pl_es _) _ (by omega)).mono ?_; rintro e w2 ⟨rfl, b⟩
        replace B := B.trans (b.mono B.size)
        clear b
        go_wp2_with fail
        go_at_call 18; refine (Pattern_k E s true (by rw [HS.out]; exact pat_self _) _ (by omega) (by omega)).mono ?_; rintro e w2 ⟨rfl, b⟩
        replace B := B.trans (b.mono B.size)
        clear b
        go_wp2_with fail
        go_ret
        exact ⟨rfl, B⟩
      | false =>
        have HM := Lib.hid hm
        clear hm
        obtain ⟨P0, hP⟩ : ∃ P0, bs P0 = Pat.pl (bs p) := ⟨⟨(Pat.pl (bs p)).toArray⟩, bs_lit _⟩
        have hPl : P0.size ≤ p.size := by rw [← bs_len, hP, ← bs_len]; exact Pat.pl_len _ _ (Nat.le_refl _)
        have HP := Lib.hid hP
        clear hP
        by_cases hq : s = P0
        · have hq1 : (s.toList == P0.toList) = true := by rw [hq]; exact beq_self_eq_true _
          have HQ := Lib.hid hq
          clear hq
          go_enter Tryd.func9, Tryd.ntmps9
          go_wp2_with fail
          go_at_call 13; refine (small_any _ HE.out).mono ?_; rintro e w1 ⟨rfl, B⟩
          go_wp2_with fail
          go_at_call 19; refine (Escape_k s _ (by omega)).mono ?_; rintro e w2 ⟨E, hEs, hEl, rfl, b⟩
          replace B := B.trans (b.mono B.size)
          have HS := Lib.hid hEs
          clear b hEs
          go_wp2_with fail
          go_at_call 28; refine (Magic_k p false HM.out _ (by omega)).mono ?_; rintro e w2 ⟨rfl, b⟩
          replace B := B.trans (b.mono B.size)
          clear b
          go_wp2_with fail
          go_at_call 29; refine (Plain_is p P0 HP.out.symm _ (by omega)).mono ?_; rintro e w2 ⟨rfl, b⟩
          replace B := B.trans (b.mono B.size)
          clear b
          go_wp2_with fail
          go_at_call 18; refine (Pattern_k p P0 true (by rw [Pat.pat_plain HM.out, HP.out]; simp) _ (by omega) (by omega)).mono ?_; rintro e w2 ⟨rfl, b⟩
          replace B := B.trans (b.mono B.size)
          clear b
          go_wp2_with fail
          go_at_call 18; refine (Pattern_k p s true (by rw [Pat.pat_plain HM.out, HQ.out, HP.out]; simp) _ (by omega) (by omega)).mono ?_; rintro e w2 ⟨rfl, b⟩
          replace B := B.trans (b.mono B.size)
          clear b
          go_wp2_with fail
          go_at_call 29; refine (Plain_is p P0 HP.out.symm _ (by omega)).mono ?_; rintro e w2 ⟨rfl, b⟩
          replace B := B.trans (b.mono B.size)
          clear b
          go_wp2_with fail
          go_at_call 28; refine (Magic_k E false (by rw [HS.out]; exact Pat.mg_es _) _ (by omega)).mono ?_; rintro e w2 ⟨rfl, b⟩
          replace B := B.trans (b.mono B.size)
          clear b
          go_wp2_with fail
          go_at_call 29; refine (Plain_is E s (by rw [HS.out]; exact Pat.pl_es _) _ (by omega)).mono ?_; rintro e w2 ⟨rfl, b⟩
          replace B := B.trans (b.mono B.size)
          clear b
          go_wp2_with fail
          go_at_call 18; refine (Pattern_k E s true (by rw [HS.out]; exact pat_self _) _ (by omega) (by omega)).mono ?_; rintro e w2 ⟨rfl, b⟩
          replace B := B.trans (b.mono B.size)
          clear b
          go_wp2_with fail
          go_ret
          exact ⟨rfl, B⟩
        · have hq1 : (s.toList == P0.toList) = false := by rw [toList_bs, toList_bs]; exact beq_eq_false_iff_ne.2 fun h => hq (bs_inj h)
          have HQ := Lib.hid hq
          clear hq
          go_enter Tryd.func9, Tryd.ntmps9
          go_wp2_with fail
          go_at_call 13; refine (small_any _ HE.out).mono ?_; rintro e w1 ⟨rfl, B⟩
          go_wp2_with fail
          go_at_call 19; refine (Escape_k s _ (by omega)).mono ?_; rintro e w2 ⟨E, hEs, hEl, rfl, b⟩
          replace B := B.trans (b.mono B.size)
          have HS := Lib.hid hEs
          clear b hEs
          go_wp2_with fail
          go_at_call 28; refine (Magic_k p false HM.out _ (by omega)).mono ?_; rintro e w2 ⟨rfl, b⟩
          replace B := B.trans (b.mono B.size)
          clear b
          go_wp2_with fail
          go_at_call 29; refine (Plain_is p P0 HP.out.symm _ (by omega)).mono ?_; rintro e w2 ⟨rfl, b⟩
          replace B := B.trans (b.mono B.size)
          clear b
          go_wp2_with fail
          go_at_call 18; refine (Pattern_k p P0 true (by rw [Pat.pat_plain HM.out, HP.out]; simp) _ (by omega) (by omega)).mono ?_; rintro e w2 ⟨rfl, b⟩
          replace B := B.trans (b.mono B.size)
          clear b
          go_wp2_with fail
          go_at_call 18; refine (Pattern_k p s false (by rw [Pat.pat_plain HM.out, ← HP.out]; exact decide_eq_false fun h => HQ.out (bs_inj h)) _ (by omega) (by omega)).mono ?_; rintro e w2 ⟨rfl, b⟩
          replace B := B.trans (b.mono B.size)
          clear b
          go_wp2_with fail
          go_at_call 29; refine (Plain_is p P0 HP.out.symm _ (by omega)).mono ?_; rintro e w2 ⟨rfl, b⟩
          replace B := B.trans (b.mono B.size)
          clear b
          go_wp2_with fail
          go_at_call 28; refine (Magic_k E false (by rw [HS.out]; exact Pat.mg_es _) _ (by omega)).mono ?_; rintro e w2 ⟨rfl, b⟩
          replace B := B.trans (b.mono B.size)
          clear b
          go_wp2_with fail
          go_at_call 29; refine (Plain_is E s (by rw [HS.out]; exact Pat.pl_es _) _ (by omega)).mono ?_; rintro e w2 ⟨rfl, b⟩
          replace B := B.trans (b.mono B.size)
          clear b
          go_wp2_with fail
          go_at_call 18; refine (Pattern_k E s true (by rw [HS.out]; exact pat_self _) _ (by omega) (by omega)).mono ?_; rintro e w2 ⟨rfl, b⟩
          replace B := B.trans (b.mono B.size)
          clear b
          go_wp2_with fail
          go_ret
          exact ⟨rfl, B⟩
    · have hs' : (300 : Int) < (s.size : Int) := by omega
      go_enter Tryd.func9, Tryd.ntmps9
      go_wp2_with fail
      go_at_call 13; refine (small_any _ HE.out).mono ?_; rintro e w1 ⟨rfl, B⟩
      go_wp2_with fail
      go_ret
      exact ⟨rfl, B⟩
  · have hp' : (100 : Int) < (p.size : Int) := by omega
    go_enter Tryd.func9, Tryd.ntmps9
    go_wp2_with fail
    go_at_call 13; refine (small_any _ HE.out).mono ?_; rintro e w1 ⟨rfl, B⟩
    go_wp2_with fail
    go_ret
    exact ⟨rfl, B⟩
end Go.Proofs.YtdjiimblfhbcjaaDoor
