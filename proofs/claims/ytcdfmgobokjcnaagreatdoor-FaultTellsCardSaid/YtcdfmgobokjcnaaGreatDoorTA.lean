/- Parts RfA, RfB, RfC of this claim, laid one behind the other: walks and the plain laws behind them; each contract states its own conditions. -/
import Derived.Test.YtcdfmgobokjcnaaGreatDoorWC
/- Walks of taquinref01: digits, Int. -/
namespace Go.Proofs.YtcdfmgobokjcnaaGreatDoor
set_option linter.unusedSimpArgs false
set_option linter.unusedVariables false
open Go.RowKit

theorem conv1b (c : UInt8) (w : World) : Sem.run Tryz.prog (convert 147 9 (.slice (some ⟨w.heap.size, 0, none⟩) 1 1)) (w.alloc (.cells #[.int .u8 c.toNat] 5)) = .ok (.string ⟨#[c]⟩) (w.alloc (.cells #[.int .u8 c.toNat] 5)) := by
  have h := run_convert_bytes_back (P := Tryz.prog) (w.alloc (.cells #[.int .u8 c.toNat] 5)) 147 9 5 ⟨w.heap.size, 0, none⟩ 1 [c] Tryz.underlying147 Tryz.underlying5 Tryz.underlying9
  exact h (fun j hj => by
    have h0 : j = 0 := by simpa using hj
    subst h0
    simp [Addr.add])
theorem bs_appR (a b : ByteArray) : bs (a ++ b) = bs a ++ bs b := by simp [bs]
theorem dec_small (u : Nat) (h : u < 10) : Lib.decDigits u = [UInt8.ofNat (48 + u)] := by rw [Lib.decDigits, dif_pos h]
theorem dec_big (u : Nat) (h : 10 ≤ u) : Lib.decDigits u = Lib.decDigits (u / 10) ++ [UInt8.ofNat (48 + u % 10)] := by rw [Lib.decDigits, dif_neg (by omega)]
theorem dec_len20 (u : Nat) (h : u ≤ 9223372036854775808) : (Lib.decDigits u).length ≤ 20 := by
  have := dec_len 20 u (by omega) (by have e : (10 : Nat) ^ 20 = 100000000000000000000 := by decide
                                      omega)
  omega
/-- What digits comes to. -/
def DigPost (u : Nat) (w : World) (e : Ending) (w' : World) : Prop := ∃ D : ByteArray, bs D = Lib.decDigits u ∧ e = .returned (.string D) ∧ Below w.heap.size w w'
set_option maxRecDepth 100000 in
set_option maxHeartbeats 4000000 in
theorem digits_small (n : Int) (w : World) (h0 : -10 < n) (h1 : n ≤ 0) : Calls Tryz.prog 67 #[.int .i64 n] w (DigPost n.natAbs w) := by
  obtain ⟨u, hu⟩ : ∃ u, n.natAbs = u := ⟨_, rfl⟩
  have hy0 : n.tmod 10 = n := by
    have h1 : (-n).tmod 10 = -(n.tmod 10) := Int.neg_tmod ..
    have h2 := Int.tmod_eq_emod_of_nonneg (a := -n) (b := 10) (by omega)
    omega
  obtain ⟨c, hc⟩ : ∃ c, c = UInt8.ofNat (48 + u) := ⟨_, rfl⟩
  have hcn : (48 : Int) - n = (c.toNat : Int) := by rw [hc, dig_ofNat _ (by omega)]; omega
  have hcv := conv1b c w
  rw [← hcn] at hcv
  rw [hu]
  have HC := Lib.hid hc
  have HD := Lib.hid (dec_small u (by omega))
  clear hc hcn hu
  go_enter Tryz.func67, Tryz.ntmps67
  go_wp2_with fail
  go_ret
  exact ⟨_, by rw [HD.out, ← HC.out]; rfl, rfl, (Below.refl _ _).alloc (Nat.le_refl _) _⟩
set_option maxRecDepth 100000 in
set_option maxHeartbeats 4000000 in
theorem digits_any (k : Nat) : ∀ (n : Int) (w : World), n.natAbs ≤ k → -9223372036854775808 ≤ n → n ≤ 0 → Calls Tryz.prog 67 #[.int .i64 n] w (DigPost n.natAbs w) := by
  induction k with
  | zero =>
    intro n w h _ _
    exact digits_small n w (by omega) (by omega)
  | succ k ih =>
    intro n w hk h0 h1
    have IH := Lib.hid ih
    clear ih
    obtain ⟨u, hu⟩ : ∃ u, n.natAbs = u := ⟨_, rfl⟩
    have hy0 : n.tmod 10 = -((u % 10 : Nat) : Int) := by
      have h1 : (-n).tmod 10 = -(n.tmod 10) := Int.neg_tmod ..
      have h2 := Int.tmod_eq_emod_of_nonneg (a := -n) (b := 10) (by omega)
      omega
    have hx0 : n.tdiv 10 = -((u / 10 : Nat) : Int) := by
      have h1 : (-n).tdiv 10 = -(n.tdiv 10) := Int.neg_tdiv ..
      have h2 := Int.tdiv_eq_ediv_of_nonneg (a := -n) (b := 10) (by omega)
      omega
    obtain ⟨c, hc⟩ : ∃ c, c = UInt8.ofNat (48 + u % 10) := ⟨_, rfl⟩
    obtain ⟨y, hy⟩ : ∃ y, n.tmod 10 = y := ⟨_, rfl⟩
    obtain ⟨x, hx⟩ : ∃ x, n.tdiv 10 = x := ⟨_, rfl⟩
    have hcn : (48 : Int) - y = (c.toNat : Int) := by rw [hc, dig_ofNat _ (by omega)]; omega
    have hy1 : -9 ≤ y := by omega
    have hy2 : y ≤ 0 := by omega
    have hx1 : -9223372036854775808 ≤ x := by omega
    have hx2 : x ≤ 0 := by omega
    have hcv := conv1b c w
    rw [← hcn] at hcv
    have HC := Lib.hid hc
    by_cases hs : -10 < n
    · exact digits_small n w hs h1
    · rw [hu]
      have HD := Lib.hid (dec_big u (by omega))
      have HX : Hid (x.natAbs = u / 10) := Lib.hid (by omega)
      have hxk : x.natAbs ≤ k := by omega
      have HI := Lib.hid (fun W => IH.out x W hxk hx1 hx2)
      rw [HX.out] at HI
      have hl := dec_len20 (u / 10) (by omega)
      clear hc hcn hu hy0 hx0 IH hxk
      go_enter Tryz.func67, Tryz.ntmps67
      go_wp2_with fail
      go_at_call 67; refine (HI.out _).mono ?_; rintro e w1 ⟨D1, d1, rfl, b1⟩
      have hd1 : D1.size ≤ 20 := by rw [← bs_len, d1]; exact hl
      have HD1 := Lib.hid d1
      clear d1 hl
      go_wp2_with fail
      go_ret
      exact ⟨_, by rw [bs_appR, HD1.out, HD.out, ← HC.out]; rfl, rfl, ((Below.refl _ _).alloc (Nat.le_refl _) _).trans (b1.mono (by simp))⟩
set_option maxRecDepth 100000 in
set_option maxHeartbeats 4000000 in
theorem rInt_any (n : Int) (w : World) (h0 : -9223372036854775808 ≤ n) (h1 : n ≤ 9223372036854775807) : Calls Tryz.prog 42 #[.int .i64 n] w (SP (Wr.int n) w) := by
  by_cases hn : n < 0
  · have HI := Lib.hid (fun W => digits_any _ n W (Nat.le_refl _) h0 (by omega))
    have HT : Hid (Lib.itoa n = 45 :: Lib.decDigits n.natAbs) := Lib.hid (by rw [Lib.itoa, if_pos hn])
    have hl := dec_len20 n.natAbs (by omega)
    go_enter Tryz.func42, Tryz.ntmps42
    go_wp2_with fail
    go_at_call 67; refine (HI.out _).mono ?_; rintro e w1 ⟨D1, d1, rfl, b1⟩
    have hd1 : D1.size ≤ 20 := by rw [← bs_len, d1]; exact hl
    have HD1 := Lib.hid d1
    clear d1 hl
    go_wp2_with fail
    go_ret
    have hb : bs (ByteArray.mk #[45] ++ D1 ++ ByteArray.mk #[59]) = Wr.int n := by rw [bs_appR, bs_appR, HD1.out]; unfold Wr.int; rw [HT.out]; rfl
    exact ⟨_, hb, by rw [← bs_len, hb], rfl, b1⟩
  · have HI := Lib.hid (fun W => digits_any _ (-n) W (Nat.le_refl _) (by omega) (by omega))
    have HT : Hid (Lib.itoa n = Lib.decDigits (-n).natAbs) := Lib.hid (by rw [Lib.itoa, if_neg hn]; congr 1; omega)
    have hl := dec_len20 (-n).natAbs (by omega)
    go_enter Tryz.func42, Tryz.ntmps42
    go_wp2_with fail
    go_at_call 67; refine (HI.out _).mono ?_; rintro e w1 ⟨D1, d1, rfl, b1⟩
    have hd1 : D1.size ≤ 20 := by rw [← bs_len, d1]; exact hl
    have HD1 := Lib.hid d1
    clear d1 hl
    go_wp2_with fail
    go_ret
    have hb : bs (D1 ++ ByteArray.mk #[59]) = Wr.int n := by rw [bs_appR, HD1.out]; unfold Wr.int; rw [HT.out]; rfl
    exact ⟨_, hb, by rw [← bs_len, hb], rfl, b1⟩
end Go.Proofs.YtcdfmgobokjcnaaGreatDoor
/- Walks of taquinref01: Back. -/
namespace Go.Proofs.YtcdfmgobokjcnaaGreatDoor
set_option linter.unusedSimpArgs false
set_option linter.unusedVariables false
open Go.RowKit

theorem bs_get (s : ByteArray) (k : Nat) (h : k < s.size) : (bs s)[k]? = some s[k] := by
  have : k < (bs s).length := by rw [bs_len]; exact h
  rw [List.getElem?_eq_getElem this]; rfl
theorem bs_drop (s : ByteArray) (k : Nat) (h : k < s.size) : (bs s).drop k = s[k] :: (bs s).drop (k + 1) := by
  have hk : k < (bs s).length := by rw [bs_len]; exact h
  rw [List.drop_eq_getElem_cons hk]; rfl
theorem bs_take (s : ByteArray) (k : Nat) (h : k < s.size) : (bs s).take (k + 1) = (bs s).take k ++ [s[k]] := by
  have hk : k < (bs s).length := by rw [bs_len]; exact h
  rw [List.take_succ_eq_append_getElem hk]; rfl
theorem u8_eq (a b : UInt8) : ((a.toNat : Int) == (b.toNat : Int)) = (a == b) := by
  rw [Bool.eq_iff_iff, beq_iff_eq, beq_iff_eq, ← UInt8.toNat_inj]; omega
theorem u8_ne {a b : UInt8} (h : a ≠ b) : ((a.toNat : Int) == (b.toNat : Int)) = false := by rw [u8_eq]; simpa using h
theorem u8_is {a b : UInt8} (h : a = b) : ((a.toNat : Int) == (b.toNat : Int)) = true := by rw [u8_eq]; simpa using h
theorem u8_le {a b : UInt8} (h : a ≤ b) : (a.toNat : Int) ≤ (b.toNat : Int) := by have := UInt8.le_iff_toNat_le.1 h; omega
theorem u8_lt {a b : UInt8} (h : ¬ a ≤ b) : (b.toNat : Int) < (a.toNat : Int) := by rw [UInt8.le_iff_toNat_le] at h; omega

theorem accN_bd (z : Int) (l : List UInt8) (h : -9223372036854775808 ≤ z ∧ z ≤ 9223372036854775807) : -9223372036854775808 ≤ accN z l ∧ accN z l ≤ 9223372036854775807 := by
  induction l generalizing z with
  | nil => exact h
  | cons c l ih => exact ih _ (by unfold wrap64; omega)
theorem refN_bd (l : List UInt8) : -9223372036854775808 ≤ refN l ∧ refN l ≤ 9223372036854775807 := by
  unfold refN
  split
  · exact accN_bd _ _ (by omega)
  · unfold wrap64; omega
theorem digs_snoc (l : List UInt8) (c : UInt8) (h : l ≠ [] ∨ c ≠ 45) : digs (l ++ [c]) = digs l ++ [c] := by
  cases l with
  | nil =>
    rcases h with h | h
    · exact absurd rfl h
    · rw [List.nil_append, digs_plain c [] h]; rfl
  | cons d l =>
    by_cases hd : d = 45
    · subst hd; rfl
    · rw [List.cons_append, digs_plain d _ hd, digs_plain d _ hd]; rfl
theorem toList_bs (s : ByteArray) : s.toList = bs s := by
  obtain ⟨⟨l⟩⟩ := s
  simp [bs]
/-- What Back comes to. -/
def BackPost (l : List UInt8) (w : World) (e : Ending) (w' : World) : Prop :=
  (∃ (n : Int) (ok : Bool), e = .returned (.tuple #[.int .i64 n, .bool ok]) ∧ (ok = true → Lib.itoa n = l ∧ Wr.I64 n) ∧ ∀ v, Wr.I64 v → Lib.itoa v = l → n = v ∧ ok = true) ∧ Below w.heap.size w w'
theorem BackPost.none {l : List UInt8} {w w' : World} (h : ∀ v, Wr.I64 v → Lib.itoa v ≠ l) (hb : Below w.heap.size w w') : BackPost l w (.returned (.tuple #[.int .i64 0, .bool false])) w' :=
  ⟨⟨0, false, rfl, (fun hf => nomatch hf), fun v h1 h2 => absurd h2 (h v h1)⟩, hb⟩
/-- A numeral has at most twenty bytes, and digits behind its sign. -/
theorem canon {v : Int} (h : Wr.I64 v) {l : List UInt8} (e : Lib.itoa v = l) : l.length ≤ 20 ∧ ∀ c ∈ digs l, 48 ≤ c.toNat ∧ c.toNat ≤ 57 := by
  subst e
  refine ⟨itoa_len20 v h.1 h.2, ?_⟩
  rcases itoa_shape v with ⟨h1, e⟩ | ⟨h1, e, hh⟩
  · rw [e, digs_minus]; exact fun c hc => dec_dig _ c hc
  · have hd : digs (Lib.itoa v) = Lib.decDigits v.toNat := by
      rw [e]
      cases hd : Lib.decDigits v.toNat with
      | nil => exact absurd hd (dec_ne _)
      | cons c r =>
        rw [digs_plain]
        rintro rfl
        rw [e, hd] at hh; exact hh rfl
    rw [hd]; exact fun c hc => dec_dig _ c hc
theorem digs_mem {l : List UInt8} {k : Nat} {c : UInt8} (h : l[k]? = some c) (hk : 0 < k ∨ c ≠ 45) : c ∈ digs l := by
  cases l with
  | nil => simp at h
  | cons d r =>
    by_cases hd : d = 45
    · subst hd
      rw [digs_minus]
      cases k with
      | zero =>
        simp at h
        rcases hk with h1 | h1
        · omega
        · exact absurd h.symm h1
      | succ k => exact List.mem_of_getElem? (by simpa using h)
    · rw [digs_plain d r hd]
      exact List.mem_of_getElem? h
set_option maxRecDepth 100000 in
set_option maxHeartbeats 16000000 in
theorem Back_any (s : ByteArray) (w : World) (hs : s.size ≤ 1000000) :
    Calls Tryz.prog 107 #[.string s] w (BackPost (bs s) w) := by
  have HIN := Lib.hid (fun n W h0 h1 => rInt_any n W h0 h1)
  have HCN : Hid (∀ v, Wr.I64 v → Lib.itoa v = bs s → s.size ≤ 20 ∧ ∀ c ∈ digs (bs s), 48 ≤ c.toNat ∧ c.toNat ≤ 57) := Lib.hid (fun v h1 h2 => by
    have h3 := canon h1 h2
    rwa [bs_len] at h3)
  -- how it begins
  have hbeg : (∃ F : Nat, (F = 0 ∨ F = 1) ∧ F ≤ s.size ∧ Hid (digs ((bs s).take F) = []) ∧ Hid ((F = 1) ↔ (bs s).head? = some 45) ∧ ((F = 0 ∧ s.size = 0) ∨ (∃ h : 0 < s.size, F = 0 ∧ s[0] ≠ 45) ∨ (∃ h : 0 < s.size, F = 1 ∧ s[0] = 45))) := by
    by_cases h0 : s.size = 0
    · have hn : bs s = [] := List.eq_nil_of_length_eq_zero (by rw [bs_len]; exact h0)
      exact ⟨0, .inl rfl, by omega, Lib.hid rfl, Lib.hid (by rw [hn]; simp), .inl ⟨rfl, h0⟩⟩
    · have hp : 0 < s.size := by omega
      have hh : (bs s).head? = some s[0] := by
        have := bs_drop s 0 hp
        rw [List.drop_zero] at this
        rw [this]; rfl
      by_cases h45 : s[0] = 45
      · refine ⟨1, .inr rfl, hp, Lib.hid ?_, Lib.hid (by rw [hh, h45]; simp), .inr (.inr ⟨hp, rfl, h45⟩)⟩
        rw [bs_take s 0 hp, h45]; rfl
      · exact ⟨0, .inl rfl, by omega, Lib.hid rfl, Lib.hid (by rw [hh]; simpa using h45), .inr (.inl ⟨hp, rfl, h45⟩)⟩
  obtain ⟨F, hF, hFs, HF1, HF2, hways⟩ := hbeg
  have HWY := Lib.hid hways
  have hsz : (s.size : Int) ≤ 1000000 := by omega
  go_enter Tryz.func107, Tryz.ntmps107
  go_upto_region 2 with fail
  go_cut [14] (fun v wz => v = .bool (decide (F = 1)) ∧ w = wz)
  case first =>
    rcases hways with ⟨rfl, h0⟩ | ⟨hp, rfl, h45⟩ | ⟨hp, rfl, h45⟩
    · have hz : (s.size : Int) = 0 := by omega
      go_wp2_with fail
      go_meet
      exact ⟨rfl, rfl⟩
    · have hpI : (0 : Int) < (s.size : Int) := by omega
      have em : ((s[0].toNat : Int) == 45) = false := u8_ne (b := 45) h45
      go_wp2_with fail
      go_meet
      exact ⟨rfl, rfl⟩
    · have hpI : (0 : Int) < (s.size : Int) := by omega
      have em : ((s[0].toNat : Int) == 45) = true := u8_is (b := 45) h45
      go_wp2_with fail
      go_meet
      exact ⟨rfl, rfl⟩
  case rest =>
  obtain ⟨rfl, rfl⟩ := hcut
  clear hways
  go_upto_if 14 with fail
  go_cut [4] (fun v wz => v = .int .i64 (F : Int) ∧ w = wz)
  case first =>
    rcases hF with rfl | rfl
    · go_wp2_with fail
      go_meet
      exact ⟨rfl, rfl⟩
    · go_wp2_with fail
      go_meet
      exact ⟨rfl, rfl⟩
  case rest =>
    obtain ⟨rfl, rfl⟩ := hcut
    have HFF := Lib.hid hF
    obtain ⟨V, hV⟩ : ∃ V, refN (bs s) = V := ⟨_, rfl⟩
    have HV := Lib.hid hV
    have hvb := refN_bd (bs s)
    rw [hV] at hvb
    obtain ⟨v0, v1⟩ := hvb
    have hFi : (F : Int) ≤ 1 := by omega
    clear hV hF
    go_wp2_with fail
    go_loop [5, 6] (fun zv iv => ∃ (j : Nat) (z : Int), j ≤ s.size ∧ F ≤ j ∧ -9223372036854775808 ≤ z ∧ z ≤ 9223372036854775807 ∧ iv = .int .i64 (j : Int) ∧ zv = .int .i64 z ∧ Hid (z = accN 0 (digs ((bs s).take j)))) (fun _ iv => s.size - (intOf iv).toNat)
    case atStart => exact ⟨F, 0, by omega, by omega, by omega, by omega, rfl, rfl, Lib.hid (by rw [HF1.out]; rfl)⟩
    case round =>
      obtain ⟨j, z, hj, hFj, z0, z1, rfl, rfl, HZ⟩ := hrel
      by_cases hlt : j < s.size
      · by_cases hd : (48 ≤ s[j] ∧ s[j] ≤ 57) ∧ j ≤ 20
        · obtain ⟨hd, hj20⟩ := hd
          have d1 : (48 : Int) ≤ (s[j].toNat : Int) := u8_le hd.1
          have d2 : (s[j].toNat : Int) ≤ 57 := u8_le hd.2
          have HN : Hid (wrap64 (wrap64 (10 * z) - ((s[j].toNat : Int) - 48)) = accN 0 (digs ((bs s).take (j + 1)))) := Lib.hid (by
            rw [bs_take s j hlt, digs_snoc, accN_snoc, HZ.out, Int.mul_comm]
            right; intro e
            rw [e] at d1
            exact absurd d1 (by decide))
          have b0 : -9223372036854775808 ≤ wrap64 (wrap64 (10 * z) - ((s[j].toNat : Int) - 48)) := by unfold wrap64; omega
          have b1 : wrap64 (wrap64 (10 * z) - ((s[j].toNat : Int) - 48)) ≤ 9223372036854775807 := by unfold wrap64; omega
          have B0 := Lib.hid b0
          have B1 := Lib.hid b1
          have jj : (j : Int) ≤ 20 := by omega
          clear HZ hd b0 b1
          go_wp2_with fail
          go_round
          case rel => exact ⟨j + 1, _, by omega, by omega, B0.out, B1.out, by go_num, rfl, HN⟩
          case measure => simp [intOf]; omega
        · have HI : Hid (∀ v, Wr.I64 v → Lib.itoa v ≠ bs s) := Lib.hid (fun v h1 h2 => by
            obtain ⟨h3, h4⟩ := HCN.out v h1 h2
            refine hd ⟨?_, by omega⟩
            have h5 := h4 s[j] (digs_mem (bs_get s j hlt) (by
              by_cases hj0 : j = 0
              · right; intro e
                have h6 := HF2.out.2 (by
                  subst hj0
                  have := bs_get s 0 hlt
                  rw [e] at this
                  rw [List.head?_eq_getElem?]; exact this)
                omega
              · left; omega))
            exact ⟨by rw [UInt8.le_iff_toNat_le]; exact h5.1, by rw [UInt8.le_iff_toNat_le]; exact h5.2⟩)
          have hdd : (s[j].toNat : Int) < 48 ∨ ((48 : Int) ≤ (s[j].toNat : Int) ∧ (57 : Int) < (s[j].toNat : Int)) ∨ ((48 : Int) ≤ (s[j].toNat : Int) ∧ (s[j].toNat : Int) ≤ 57 ∧ (20 : Int) < (j : Int)) := by
            by_cases h1 : 48 ≤ s[j]
            · by_cases h2 : s[j] ≤ 57
              · exact .inr (.inr ⟨u8_le h1, u8_le h2, by have : ¬ j ≤ 20 := fun h => hd ⟨⟨h1, h2⟩, h⟩
                                                         omega⟩)
              · exact .inr (.inl ⟨u8_le h1, u8_lt (a := s[j]) (b := 57) h2⟩)
            · exact .inl (u8_lt h1)
          clear HZ hd
          rcases hdd with d1 | ⟨d1, d2⟩ | ⟨d1, d2, d3⟩
          all_goals
            go_wp2_with fail
            go_ret2
            exact BackPost.none HI.out (Below.refl _ _)
      · obtain rfl : j = s.size := by omega
        have hts : (bs s).take s.size = bs s := by rw [← bs_len, List.take_length]
        have hz := HZ.out
        rw [hts] at hz
        have HQV : Hid (∀ v, Wr.I64 v → Lib.itoa v = bs s → V = v) := Lib.hid (fun v h1 h2 => by rw [← HV.out, ← h2]; exact refN_itoa v h1.1 h1.2)
        have HPB : Hid (∀ (D : ByteArray), bs D = Wr.int V → (D.toList == (s ++ ByteArray.mk #[59]).toList) = decide (Lib.itoa V = bs s)) := Lib.hid (fun D hD => by
          rw [toList_bs, toList_bs, bs_appR, hD]
          unfold Wr.int
          by_cases h : Lib.itoa V = bs s
          · rw [h, decide_eq_true rfl]; exact beq_self_eq_true _
          · rw [decide_eq_false h]
            refine beq_eq_false_iff_ne.2 (fun e => h (List.append_cancel_right (bs := [59]) e)))
        have HEND : Hid (∀ W', Below w.heap.size w W' → BackPost (bs s) w (.returned (.tuple #[.int .i64 V, .bool (decide (Lib.itoa V = bs s))])) W') := Lib.hid (fun W' hb => ⟨⟨V, _, rfl, fun h => ⟨of_decide_eq_true h, v0, v1⟩, fun v h1 h2 => by
          have h3 := HQV.out v h1 h2
          exact ⟨h3, decide_eq_true (by rw [h3]; exact h2)⟩⟩, hb⟩)
        have HI2 := Lib.hid (fun W => rInt_any V W v0 v1)
        obtain ⟨B, hB⟩ : ∃ B, decide (Lib.itoa V = bs s) = B := ⟨_, rfl⟩
        rw [hB] at HPB HEND
        rcases HFF.out with rfl | rfl
        · have hv : V = wrap64 (-z) := by
            rw [← HV.out, hz]
            unfold refN
            rw [if_neg (fun h => by have := HF2.out.2 h; omega)]
          have gv := hv.symm
          clear HZ hts hz hv hB
          go_wp2_with fail
          go_at_call 42; refine (HI2.out _).mono ?_; rintro e w2 ⟨D, hD, hDs, rfl, b⟩
          have q1 := HPB.out D hD
          have HBL := Lib.hid b
          clear hD b
          go_wp2_with fail
          go_ret2
          exact HEND.out _ HBL.out
        · have hv : z = V := by
            rw [← HV.out, hz]
            unfold refN
            rw [if_pos (HF2.out.1 rfl)]
          subst hv
          clear HZ hts hz hB
          go_wp2_with fail
          go_at_call 42; refine (HI2.out _).mono ?_; rintro e w2 ⟨D, hD, hDs, rfl, b⟩
          have q1 := HPB.out D hD
          have HBL := Lib.hid b
          clear hD b
          go_wp2_with fail
          go_ret2
          exact HEND.out _ HBL.out
end Go.Proofs.YtcdfmgobokjcnaaGreatDoor
/- Walks of taquinref01: the reader: fail, ahead, Int, Done, Open. -/
namespace Go.Proofs.YtcdfmgobokjcnaaGreatDoor
set_option linter.unusedSimpArgs false
set_option linter.unusedVariables false
open Go.RowKit

/-- The reference's reader's block. -/
def Rr (w : World) (b : Nat) (D : ByteArray) (bad : Bool) : Prop := w.heap[b]? = some (.cells #[.string D, .bool bad] 98 (0, 0))
/-- The reader reads what the plain reader reads. -/
def RrS (w : World) (b : Nat) (s : Wr.St) : Prop := ∃ D : ByteArray, bs D = s.1 ∧ Rr w b D s.2
theorem Rr.below {w w' : World} {b : Nat} {D : ByteArray} {bad : Bool} (h : Rr w b D bad) (hb : Below w.heap.size w w') : Rr w' b D bad := (hb.block b (heap_lt h)).trans h
theorem RrS.below {w w' : World} {b : Nat} {s : Wr.St} (h : RrS w b s) (hb : Below w.heap.size w w') : RrS w' b s := by
  obtain ⟨D, h1, h2⟩ := h; exact ⟨D, h1, h2.below hb⟩
theorem Rr.set0 {w : World} {b : Nat} {D E : ByteArray} {bad : Bool} (h : Rr w b D bad) : Rr (w.setCell ⟨b, 0, none⟩ (.string E)) b E bad := set_heap h 0 (.string E)
theorem Rr.set1 {w : World} {b : Nat} {D : ByteArray} {bad c : Bool} (h : Rr w b D bad) : Rr (w.setCell ⟨b, 1, none⟩ (.bool c)) b D c := set_heap h 1 (.bool c)
theorem atoi_64 {l : List UInt8} {n : Int} (h : Lib.atoiAll l = .ok n) : Wr.I64 n := by
  unfold Lib.atoiAll at h
  split at h
  · cases h
  · dsimp only at h
    split at h
    · cases h
    · cases h
    · split at h
      · cases h
      · split at h
        · cases h
        · injection h with h
          subst h
          unfold Wr.I64
          split <;> omega
set_option maxRecDepth 100000 in
set_option maxHeartbeats 4000000 in
theorem rfFail_any (b : Nat) (D : ByteArray) (bad : Bool) (w : World) (h : Rr w b D bad) :
    Calls Tryz.prog 106 #[.pointer (some ⟨b, 0, none⟩)] w fun e w' => e = .returned (.int .i64 0) ∧ NB b w w' ∧ Rr w' b ⟨#[]⟩ true := by
  have hlt := heap_lt h
  have HR := Lib.hid h
  have f0 : w.frozen? ⟨b, 0, none⟩ = false := free_of_heap h 0
  have f1 : w.frozen? ⟨b, 1, none⟩ = false := free_of_heap h 1
  have c0 : w.cell? ⟨b, 0, none⟩ = some (.string D) := cell_of_heap h 0 rfl
  have c1 : w.cell? ⟨b, 1, none⟩ = some (.bool bad) := cell_of_heap h 1 rfl
  clear h
  go_enter Tryz.func106, Tryz.ntmps106
  go_wp2_with fail
  go_ret
  exact ⟨rfl, ((NB.refl b w).set 0 _).set 1 _, (Rr.set0 HR.out).set1⟩
theorem find_none {e : UInt8} {l : List UInt8} {m : Nat} (h : ∀ i, i < m → l[i]? ≠ some e) (hm : m = l.length ∨ 21 ≤ m) : (l.take 21).findIdx? (· == e) = none := by
  rw [List.findIdx?_eq_none_iff]
  intro x hx
  obtain ⟨i, hi⟩ := List.getElem?_of_mem hx
  rw [List.getElem?_take] at hi
  split at hi
  · rename_i h21
    have hl := (List.getElem?_eq_some_iff.1 hi).1
    refine beq_eq_false_iff_ne.2 (fun e1 => h i (by omega) (by rw [hi, e1]))
  · cases hi
theorem find_some {e : UInt8} {l : List UInt8} {m : Nat} (h : ∀ i, i < m → l[i]? ≠ some e) (hm : l[m]? = some e) (h21 : m < 21) : (l.take 21).findIdx? (· == e) = some m := by
  have hl := (List.getElem?_eq_some_iff.1 hm).1
  rw [List.findIdx?_eq_some_iff_getElem]
  refine ⟨by rw [List.length_take]; omega, ?_, fun j hj => ?_⟩
  · rw [List.getElem_take]
    have := (List.getElem?_eq_some_iff.1 hm).2
    rw [this]; exact beq_self_eq_true _
  · rw [List.getElem_take]
    intro e1
    exact h j hj (by rw [List.getElem?_eq_getElem (by omega)]; exact congrArg some (eq_of_beq e1))
set_option maxRecDepth 100000 in
set_option maxHeartbeats 16000000 in
theorem ahead_any (b : Nat) (e : UInt8) (ei : Int) (hei : ei = (e.toNat : Int)) (s : Wr.St) (w : World) (h : RrS w b s) (hl : s.1.length ≤ 1000000) :
    Calls Tryz.prog 59 #[.pointer (some ⟨b, 0, none⟩), .int .u8 ei] w fun r w' => r = .returned (.int .i64 (Wr.numS e (-9223372036854775808) s).1) ∧ NB b w w' ∧ RrS w' b (Wr.numS e (-9223372036854775808) s).2 := by
  obtain ⟨l, bad⟩ := s
  obtain ⟨D, hD, hR⟩ := h
  simp only at hD hR hl
  have hDs : D.size = l.length := by rw [← bs_len, hD]
  have hlt := heap_lt hR
  have HR := Lib.hid hR
  have HFL := Lib.hid (fun W (hW : Rr W b D bad) => rfFail_any b D bad W hW)
  have HBK := Lib.hid (fun (t : ByteArray) W (ht : t.size ≤ 21) => Back_any t W (by omega))
  have f0 : w.frozen? ⟨b, 0, none⟩ = false := free_of_heap hR 0
  have c0 : w.cell? ⟨b, 0, none⟩ = some (.string D) := cell_of_heap hR 0 rfl
  have HDG : Hid (∀ (i : Nat) (h : i < D.size), l[i]? = some D[i]) := Lib.hid (fun i hi => by rw [← hD]; exact bs_get D i hi)
  have hsz : D.size ≤ 1000000 := by omega
  obtain ⟨X, hX⟩ : ∃ X, Wr.numS e (-9223372036854775808) (l, bad) = X := ⟨_, rfl⟩
  rw [hX]
  have HXX := Lib.hid hX
  have HDD := Lib.hid hD
  have HDs := Lib.hid hDs
  subst hei
  clear hD hX hR hDs hl
  go_enter Tryz.func59, Tryz.ntmps59
  go_wp2_with fail
  go_loop [5] (fun iv => ∃ j : Nat, j ≤ D.size ∧ j ≤ 21 ∧ iv = .int .i64 (j : Int) ∧ Hid (∀ i, i < j → l[i]? ≠ some e)) (fun iv => 21 - (intOf iv).toNat)
  case atStart => exact ⟨0, by omega, by omega, rfl, Lib.hid (fun i hi => by omega)⟩
  case round =>
    obtain ⟨j, hj, hj21, rfl, HN⟩ := hrel
    have HFAIL : Hid ((l.take 21).findIdx? (· == e) = none → X = (0, Wr.fail)) := Lib.hid (fun h => by rw [← HXX.out, numS_no h])
    by_cases c1 : j < D.size
    · have hjl : l[j]? = some D[j] := HDG.out j c1
      have HJL := Lib.hid hjl
      have j1 : (j : Int) < (D.size : Int) := by omega
      clear hjl
      by_cases c2 : j < 21
      · have j2 : (j : Int) < 21 := by omega
        by_cases c3 : D[j] = e
        · have q : ((D[j].toNat : Int) == (e.toNat : Int)) = true := u8_is c3
          have q2 : ((D[j].toNat : Int) != (e.toNat : Int)) = false := by rw [bne, q]; rfl
          have HF := Lib.hid (find_some HN.out (by rw [HJL.out, c3]) c2)
          have hts : (D.extract 0 j).size = j := by rw [ByteArray.size_extract]; omega
          have HTB : Hid (bs (D.extract 0 j) = l.take j) := Lib.hid (by rw [bs_upto, HDD.out])
          have HFR : Hid (bs (D.extract (j + 1) D.size) = l.drop (j + 1)) := Lib.hid (by rw [bs_from, HDD.out])
          have HB2 := Lib.hid (HBK.out (D.extract 0 j) w (by omega))
          clear c3
          go_wp2_with fail
          go_at_call 107; refine HB2.out.mono ?_; rintro e2 w2 ⟨⟨n, ok, rfl, hy, hn⟩, b2⟩
          have HY := Lib.hid hy
          have HNO := Lib.hid hn
          have R2 := Lib.hid (HR.out.below b2)
          have N2 : Hid (NB b w w2) := Lib.hid (NB.of_below b2)
          have c02 : w2.cell? ⟨b, 0, none⟩ = some (.string D) := cell_of_heap R2.out 0 rfl
          have f02 : w2.frozen? ⟨b, 0, none⟩ = false := free_of_heap R2.out 0
          clear hy hn b2
          cases ok with
          | true =>
            obtain ⟨y1, y2⟩ := HY.out rfl
            rw [HTB.out] at y1
            have hx : X = (n, (l.drop (j + 1), bad)) := by
              rw [← HXX.out]
              exact numS_yes HF.out (by rw [← y1]; exact Wr.atoi_itoa y2) ⟨y1, y2.1⟩
            subst hx
            clear y1 y2 c0 f0
            go_wp2_with fail
            go_ret
            exact ⟨rfl, N2.out.set 0 _, ⟨_, HFR.out, Rr.set0 R2.out⟩⟩
          | false =>
            have hx : X = (0, Wr.fail) := by
              rw [← HXX.out]
              cases hp : Lib.atoiAll (l.take j) with
              | ok v =>
                refine numS_odd HF.out hp (fun hc => ?_)
                have := HNO.out v (atoi_64 hp) (by rw [HTB.out]; exact hc.1)
                exact absurd this.2 (by decide)
              | «syntax» => exact numS_err HF.out (fun v hv => by rw [hp] at hv; cases hv)
              | range => exact numS_err HF.out (fun v hv => by rw [hp] at hv; cases hv)
            subst hx
            clear c0 f0
            go_wp2_with fail
            go_at_call 106; refine (HFL.out w2 R2.out).mono ?_; rintro e3 w3 ⟨rfl, n3, r3⟩
            have N3 := Lib.hid (N2.out.trans n3)
            have R3 := Lib.hid r3
            clear n3 r3 c02 f02
            go_wp2_with fail
            go_ret
            exact ⟨rfl, N3.out, ⟨_, rfl, R3.out⟩⟩
        · have q : ((D[j].toNat : Int) == (e.toNat : Int)) = false := u8_ne c3
          have q2 : ((D[j].toNat : Int) != (e.toNat : Int)) = true := by rw [bne, q]; rfl
          have HN2 : Hid (∀ i, i < j + 1 → l[i]? ≠ some e) := Lib.hid (fun i hi => by
            by_cases hij : i = j
            · subst hij; rw [HJL.out]; intro e1; injection e1 with e1; exact c3 e1
            · exact HN.out i (by omega))
          clear c3
          go_wp2_with fail
          go_round
          case rel => exact ⟨j + 1, by omega, by omega, by go_num, HN2⟩
          case measure => simp [intOf]; omega
      · obtain rfl : j = 21 := by omega
        have j2 : ¬ ((21 : Nat) : Int) < 21 := by omega
        have hx := HFAIL.out (find_none HN.out (.inr (Nat.le_refl _)))
        subst hx
        by_cases c3 : D[21] = e
        · have q : ((D[21].toNat : Int) == (e.toNat : Int)) = true := u8_is c3
          have q2 : ((D[21].toNat : Int) != (e.toNat : Int)) = false := by rw [bne, q]; rfl
          have hts : (D.extract 0 21).size = 21 := by rw [ByteArray.size_extract]; omega
          have HB2 := Lib.hid (HBK.out (D.extract 0 21) w (by omega))
          clear c3
          go_wp2_with fail
          go_at_call 107; refine HB2.out.mono ?_; rintro e2 w2 ⟨⟨n, ok, rfl, hy, hn⟩, b2⟩
          have HY := Lib.hid hy
          have R2 := Lib.hid (HR.out.below b2)
          have N2 : Hid (NB b w w2) := Lib.hid (NB.of_below b2)
          clear hy hn b2
          cases ok with
          | true =>
            exfalso
            obtain ⟨y1, y2⟩ := HY.out rfl
            have := (canon y2 y1).1
            rw [bs_len] at this
            omega
          | false =>
            go_wp2_with fail
            go_at_call 106; refine (HFL.out w2 R2.out).mono ?_; rintro e3 w3 ⟨rfl, n3, r3⟩
            have N3 := Lib.hid (N2.out.trans n3)
            have R3 := Lib.hid r3
            clear n3 r3
            go_wp2_with fail
            go_ret
            exact ⟨rfl, N3.out, ⟨_, rfl, R3.out⟩⟩
        · have q : ((D[21].toNat : Int) == (e.toNat : Int)) = false := u8_ne c3
          have q2 : ((D[21].toNat : Int) != (e.toNat : Int)) = true := by rw [bne, q]; rfl
          clear c3
          go_wp2_with fail
          go_at_call 106; refine (HFL.out w HR.out).mono ?_; rintro e3 w3 ⟨rfl, n3, r3⟩
          have N3 := Lib.hid n3
          have R3 := Lib.hid r3
          clear n3 r3
          go_wp2_with fail
          go_ret
          exact ⟨rfl, N3.out, ⟨_, rfl, R3.out⟩⟩
    · obtain rfl : j = D.size := by omega
      have hx := HFAIL.out (find_none HN.out (.inl HDs.out))
      subst hx
      go_wp2_with fail
      go_at_call 106; refine (HFL.out w HR.out).mono ?_; rintro e3 w3 ⟨rfl, n3, r3⟩
      have N3 := Lib.hid n3
      have R3 := Lib.hid r3
      clear n3 r3
      go_wp2_with fail
      go_ret
      exact ⟨rfl, N3.out, ⟨_, rfl, R3.out⟩⟩
theorem rfInt_any (b : Nat) (s : Wr.St) (w : World) (h : RrS w b s) (hl : s.1.length ≤ 1000000) :
    Calls Tryz.prog 33 #[.pointer (some ⟨b, 0, none⟩)] w fun r w' => r = .returned (.int .i64 (Wr.intS s).1) ∧ NB b w w' ∧ RrS w' b (Wr.intS s).2 := by
  have HA := Lib.hid (ahead_any b 59 59 (by decide) s w h hl)
  clear h hl
  go_enter Tryz.func33, Tryz.ntmps33
  go_wp2_with fail
  go_at_call 59; refine HA.out.mono ?_; rintro e w2 ⟨rfl, n2, r2⟩
  have N2 := Lib.hid n2
  have R2 := Lib.hid r2
  clear n2 r2
  go_wp2_with fail
  go_ret
  exact ⟨rfl, N2.out, R2.out⟩
theorem rfOpen_any (D : ByteArray) (w : World) :
    Calls Tryz.prog 32 #[.string D] w fun e w' => e = .returned (.pointer (some ⟨w.heap.size, 0, none⟩)) ∧ Below w.heap.size w w' ∧ RrS w' w.heap.size (bs D, false) := by
  go_enter Tryz.func32, Tryz.ntmps32
  go_wp2_with fail
  go_ret
  exact ⟨rfl, (Below.refl _ _).alloc (Nat.le_refl _) _, ⟨D, rfl, heap_alloc_new _ _⟩⟩
set_option maxRecDepth 100000 in
theorem rfDone_any (b : Nat) (s : Wr.St) (w : World) (h : RrS w b s) :
    Calls Tryz.prog 34 #[.pointer (some ⟨b, 0, none⟩)] w fun e w' => e = .returned (.bool (s.1.isEmpty && !s.2)) ∧ w' = w := by
  obtain ⟨l, bad⟩ := s
  obtain ⟨D, hD, hR⟩ := h
  simp only at hD hR
  have c0 : w.cell? ⟨b, 0, none⟩ = some (.string D) := cell_of_heap hR 0 rfl
  have c1 : w.cell? ⟨b, 1, none⟩ = some (.bool bad) := cell_of_heap hR 1 rfl
  have q : D.toList.isEmpty = l.isEmpty := by rw [toList_bs, hD]
  obtain ⟨B, hB⟩ : ∃ B, l.isEmpty = B := ⟨_, rfl⟩
  rw [hB] at q
  dsimp only
  rw [hB]
  clear hD hR hB
  cases bad with
  | true =>
    go_enter Tryz.func34, Tryz.ntmps34
    go_wp2_with fail
    go_ret
    exact ⟨by simp, rfl⟩
  | false =>
    cases B with
    | true =>
      go_enter Tryz.func34, Tryz.ntmps34
      go_wp2_with fail
      go_ret
      exact ⟨rfl, rfl⟩
    | false =>
      go_enter Tryz.func34, Tryz.ntmps34
      go_wp2_with fail
      go_ret
      exact ⟨rfl, rfl⟩
end Go.Proofs.YtcdfmgobokjcnaaGreatDoor
