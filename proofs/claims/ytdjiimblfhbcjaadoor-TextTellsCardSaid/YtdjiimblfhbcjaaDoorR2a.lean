/- Walks of taquinref02: Decimal, Int. -/
import Derived.Test.YtdjiimblfhbcjaaDoorRpl
import Derived.Test.YtdjiimblfhbcjaaDoorTxLaw3
namespace Go.Proofs.YtdjiimblfhbcjaaDoor
set_option linter.unusedSimpArgs false
open Go.RowKit

theorem conv1b (c : UInt8) (w : World) : Sem.run Tryd.prog (convert 46 9 (.slice (some ⟨w.heap.size, 0, none⟩) 1 1)) (w.alloc (.cells #[.int .u8 c.toNat] 5)) = .ok (.string ⟨#[c]⟩) (w.alloc (.cells #[.int .u8 c.toNat] 5)) := by
  have h := run_convert_bytes_back (P := Tryd.prog) (w.alloc (.cells #[.int .u8 c.toNat] 5)) 46 9 5 ⟨w.heap.size, 0, none⟩ 1 [c] Tryd.underlying46 Tryd.underlying5 Tryd.underlying9
  exact h (fun j hj => by
    have h0 : j = 0 := by simpa using hj
    subst h0
    simp [Addr.add])
/-- What the reference's Decimal comes to. -/
def DecPost (n : Int) (w : World) (e : Ending) (w' : World) : Prop := ∃ D : ByteArray, bs D = Lib.itoa n ∧ e = .returned (.string D) ∧ Below w.heap.size w w'
set_option maxRecDepth 100000 in
set_option maxHeartbeats 1000000 in
theorem rDec_small (n : Int) (h0 : 0 ≤ n) (h1 : n < 10) (w : World) : Calls Tryd.prog 36 #[.int .i64 n] w (DecPost n w) := by
  have hi := itoa_digit n h0 h1
  obtain ⟨c, hc⟩ : ∃ c, c = UInt8.ofNat (48 + n.toNat) := ⟨_, rfl⟩
  rw [← hc] at hi
  have hcn : (48 : Int) + n = (c.toNat : Int) := by rw [hc, dig_ofNat _ (by omega)]; omega
  have hcv := conv1b c w
  rw [← hcn] at hcv
  have HI := Lib.hid hi
  have HC := Lib.hid hcn
  clear hi hc hcn
  go_enter Tryd.func36, Tryd.ntmps36
  go_wp2_with fail
  go_ret
  exact ⟨_, by rw [HI.out]; rfl, rfl, (Below.refl _ _).alloc (Nat.le_refl _) _⟩
theorem bs_app3 (a b : ByteArray) : bs (a ++ b) = bs a ++ bs b := by simp [bs]
theorem dec_size {n : Int} (h0 : -9223372036854775808 ≤ n) (h1 : n ≤ 9223372036854775807) {D : ByteArray} (h : bs D = Lib.itoa n) : D.size ≤ 20 := by
  rw [← bs_len, h]; exact itoa_len20 n h0 h1
set_option maxRecDepth 100000 in
set_option maxHeartbeats 4000000 in
theorem rDec_any (k : Nat) : ∀ (n : Int) (w : World), n.natAbs ≤ k → -9223372036854775808 ≤ n → n ≤ 9223372036854775807 → Calls Tryd.prog 36 #[.int .i64 n] w (DecPost n w) := by
  induction k with
  | zero => intro n w h _ _; exact rDec_small n (by omega) (by omega) w
  | succ k ih =>
    intro n w hk h0 h1
    by_cases hs : 0 ≤ n ∧ n < 10
    · exact rDec_small n hs.1 hs.2 w
    · have IH := Lib.hid ih
      clear ih
      by_cases hp : 10 ≤ n
      · have hn : (0 : Int) < n := by omega
        have HI := Lib.hid (itoa_step n hp)
        clear hs
        go_enter Tryd.func36, Tryd.ntmps36
        go_wp2_with fail
        refine (IH.out (n / 10) _ (by omega) (by omega) (by omega)).mono ?_; rintro e w1 ⟨D1, d1, rfl, b1⟩
        have hd1 := dec_size (by omega) (by omega) d1
        have HD1 := Lib.hid d1
        clear d1
        go_wp2_with fail
        refine (IH.out (n % 10) _ (by omega) (by omega) (by omega)).mono ?_; rintro e w2 ⟨D2, d2, rfl, b2⟩
        have hd2 := dec_size (by omega) (by omega) d2
        have HD2 := Lib.hid d2
        clear d2
        go_wp2_with fail
        go_ret
        exact ⟨_, by rw [bs_app3, HD1.out, HD2.out, HI.out], rfl, b1.trans (b2.mono b1.size)⟩
      · have hn : n < 0 := by omega
        clear hs
        by_cases hq : -10 < n
        · have HI := Lib.hid (itoa_minus n hn)
          go_enter Tryd.func36, Tryd.ntmps36
          go_wp2_with fail
          refine (rDec_small (-n) (by omega) (by omega) _).mono ?_; rintro e w1 ⟨D1, d1, rfl, b1⟩
          have hd1 := dec_size (by omega) (by omega) d1
          have HD1 := Lib.hid d1
          clear d1
          go_wp2_with fail
          go_ret
          exact ⟨_, by rw [bs_app3, HD1.out, HI.out]; rfl, rfl, b1⟩
        · have HI := Lib.hid (itoa_neg_step n (by omega))
          have e1 : n.tdiv 10 = -((-n) / 10) := by
            have h1 : (-n).tdiv 10 = -(n.tdiv 10) := Int.neg_tdiv ..
            have h2 := Int.tdiv_eq_ediv_of_nonneg (a := -n) (b := 10) (by omega)
            omega
          have e2 : n.tmod 10 = -((-n) % 10) := by
            have h1 : (-n).tmod 10 = -(n.tmod 10) := Int.neg_tmod ..
            have h2 := Int.tmod_eq_emod_of_nonneg (a := -n) (b := 10) (by omega)
            omega
          obtain ⟨x, hx⟩ : ∃ x, x = n.tdiv 10 := ⟨_, rfl⟩
          obtain ⟨y, hy⟩ : ∃ y, y = n.tmod 10 := ⟨_, rfl⟩
          have hx1 : x.natAbs ≤ k := by omega
          have hx2 : -9223372036854775808 ≤ x := by omega
          have hx3 : x ≤ 9223372036854775807 := by omega
          have hy1 : 0 ≤ -y := by omega
          have hy2 : -y < 10 := by omega
          have HII := Lib.hid (show Lib.itoa n = Lib.itoa x ++ Lib.itoa (-y) by rw [hx, hy]; exact HI.out)
          have gx := hx.symm
          have gy := hy.symm
          clear hx hy e1 e2 HI
          go_enter Tryd.func36, Tryd.ntmps36
          go_wp2_with fail
          refine (IH.out x _ hx1 hx2 hx3).mono ?_; rintro e w1 ⟨D1, d1, rfl, b1⟩
          have hd1 := dec_size hx2 hx3 d1
          have HD1 := Lib.hid d1
          clear d1
          go_wp2_with fail
          refine (rDec_small (-y) hy1 hy2 _).mono ?_; rintro e w2 ⟨D2, d2, rfl, b2⟩
          have hd2 := dec_size (by omega) (by omega) d2
          have HD2 := Lib.hid d2
          clear d2
          go_wp2_with fail
          go_ret
          exact ⟨_, by rw [bs_app3, HD1.out, HD2.out, HII.out], rfl, b1.trans (b2.mono b1.size)⟩
theorem rDec_is (n : Int) (s : ByteArray) (h : Lib.itoa n = bs s) (h0 : -9223372036854775808 ≤ n) (h1 : n ≤ 9223372036854775807) (w : World) :
    Calls Tryd.prog 36 #[.int .i64 n] w fun e w' => e = .returned (.string s) ∧ Below w.heap.size w w' := by
  refine (rDec_any _ n w (Nat.le_refl _) h0 h1).mono ?_
  rintro e w' ⟨D, hD, rfl, hb⟩
  exact ⟨by rw [bs_inj' (hD.trans h)], hb⟩
end Go.Proofs.YtdjiimblfhbcjaaDoor
