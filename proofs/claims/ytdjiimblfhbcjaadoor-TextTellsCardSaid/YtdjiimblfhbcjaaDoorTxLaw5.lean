/- TextTells. -/
import Derived.Test.YtdjiimblfhbcjaaDoorR2j
import Derived.Test.YtdjiimblfhbcjaaDoorTxLaw4
namespace Go.Proofs.YtdjiimblfhbcjaaDoor
set_option linter.unusedSimpArgs false
open Go.RowKit

/-- What Int and its reference answer. -/
theorem int_both (s : ByteArray) (hs : s.size ≤ 1000) : ∃ (A : Int) (B : Bool), (∀ W, Env W → Calls Tryd.prog 20 #[.string s] W fun e w' => e = .returned (.tuple #[.int .i64 A, .bool B]) ∧ Below W.heap.size W w') ∧
    (∀ W, Calls Tryd.prog 34 #[.string s] W fun e w' => e = .returned (.tuple #[.int .i64 A, .bool B]) ∧ Below W.heap.size W w') :=
  ⟨_, _, fun W hE => Int_any s W hE (by omega), fun W => rInt_any s W (by omega)⟩
theorem unq_both (s : ByteArray) (hs : s.size ≤ 1000) : ∃ (A : ByteArray) (B : Bool), (∀ W, Calls Tryd.prog 22 #[.string s] W fun e w' => e = .returned (.tuple #[.string A, .bool B]) ∧ Below W.heap.size W w') ∧
    (∀ W, Calls Tryd.prog 35 #[.string s] W fun e w' => e = .returned (.tuple #[.string A, .bool B]) ∧ Below W.heap.size W w') :=
  ⟨_, _, fun W => by have := Unquote_any s W (by omega); rw [unq_eq] at this; exact this, fun W => rUnquote_any s W (by omega)⟩

theorem Fields_k (s : ByteArray) (w : World) (hs : s.size ≤ 1000) :
    Calls Tryd.prog 17 #[.string s] w fun e w' => ∃ v, e = .returned v ∧ Sl w' v (strs (fd [] (bs s))) ∧ Below w.heap.size w w' := by
  refine (Fields_any s w (by omega)).mono ?_
  rintro e w' ⟨v, rfl, ⟨A, nf, rfl, hof, hnf⟩, b⟩
  rw [fields_eq] at hof hnf
  exact ⟨_, rfl, Sl.of_own hof (by have := fd_count (bs s) []; rw [bs_len] at this; unfold maxLen; omega), b⟩
theorem Plain_e (s E : ByteArray) (h : bs E = Pat.pl (bs s)) (w : World) (hs : s.size ≤ 1000) :
    Calls Tryd.prog 29 #[.string s] w fun e w' => e = .returned (.string E) ∧ Below w.heap.size w w' := by
  refine (Plain_k s w (by omega)).mono ?_
  rintro e w' ⟨X, hX, -, rfl, hb⟩
  exact ⟨by rw [bs_inj' (hX.trans h.symm)], hb⟩
theorem rPlain_e (s E : ByteArray) (h : bs E = Pat.pl (bs s)) (w : World) (hs : s.size ≤ 1000) :
    Calls Tryd.prog 43 #[.string s] w fun e w' => e = .returned (.string E) ∧ Below w.heap.size w w' := by
  refine (rPlain_any s w (by omega)).mono ?_
  rintro e w' ⟨rfl, hb⟩
  exact ⟨by rw [bs_inj' (h.trans (bs_lit0 _).symm)], hb⟩
theorem Escape_e (s E : ByteArray) (h : bs E = Pat.es (bs s)) (w : World) (hs : s.size ≤ 1000) :
    Calls Tryd.prog 19 #[.string s] w fun e w' => e = .returned (.string E) ∧ Below w.heap.size w w' := by
  refine (Escape_k s w (by omega)).mono ?_
  rintro e w' ⟨X, hX, -, rfl, hb⟩
  exact ⟨by rw [bs_inj' (hX.trans h.symm)], hb⟩
theorem rEscape_e (s E : ByteArray) (h : bs E = Pat.es (bs s)) (w : World) (hs : s.size ≤ 1000) :
    Calls Tryd.prog 44 #[.string s] w fun e w' => e = .returned (.string E) ∧ Below w.heap.size w w' := by
  refine (rEscape_any s w (by omega)).mono ?_
  rintro e w' ⟨rfl, hb⟩
  exact ⟨by rw [bs_inj' (h.trans (bs_lit0 _).symm)], hb⟩

set_option maxRecDepth 100000 in
set_option maxHeartbeats 64000000 in
theorem TextTells_any (m : Int) (s p : ByteArray) (v : Value) (ls : List (List UInt8)) (h0 : -9223372036854775808 ≤ m) (h1 : m ≤ 9223372036854775807) (w : World) (hE : Env w) (hv : Sl w v (strs ls)) :
    Calls Tryd.prog 12 #[.int .i64 m, .string s, .string p, v] w fun e w' => e = .returned (.bool true) ∧ Below w.heap.size w w' := by
  have HE := Lib.hid hE
  obtain ⟨a, ca, rfl, hla⟩ := hv.len
  rw [strs_len] at hv hla ⊢
  obtain ⟨n, hn⟩ : ∃ n, n = ls.length := ⟨_, rfl⟩
  rw [← hn] at hv hla ⊢
  have HT := Lib.hid hv
  have HN := Lib.hid hn
  clear hE hv hn
  by_cases h300 : s.size ≤ 300
  · have g300 : (s.size : Int) ≤ 300 := by omega
    by_cases h100 : p.size ≤ 100
    · have g100 : (p.size : Int) ≤ 100 := by omega
      have d3 : decide ((300 : Int) < (s.size : Int)) = false := decide_eq_false (by omega)
      have d1 : decide ((100 : Int) < (p.size : Int)) = false := decide_eq_false (by omega)
      by_cases h30 : n ≤ 30
      · have g30 : (n : Int) ≤ 30 := by omega
        obtain ⟨iA, iB, hi1, hi2⟩ := int_both s (by omega)
        obtain ⟨uA, uB, hu1, hu2⟩ := unq_both s (by omega)
        have HI1 := Lib.hid hi1
        have HI2 := Lib.hid hi2
        have HU1 := Lib.hid hu1
        have HU2 := Lib.hid hu2
        obtain ⟨pB, hpB⟩ : ∃ pB, Pat.pat (bs p) (bs s) = pB := ⟨_, rfl⟩
        obtain ⟨mB, hmB⟩ : ∃ mB, Pat.mg (bs p) = mB := ⟨_, rfl⟩
        obtain ⟨pl, hpl⟩ : ∃ pl : ByteArray, bs pl = Pat.pl (bs p) := ⟨⟨(Pat.pl (bs p)).toArray⟩, bs_lit0 _⟩
        obtain ⟨es, hes⟩ : ∃ es : ByteArray, bs es = Pat.es (bs s) := ⟨⟨(Pat.es (bs s)).toArray⟩, bs_lit0 _⟩
        obtain ⟨dc, hdc⟩ : ∃ dc : ByteArray, Lib.itoa m = bs dc := ⟨⟨(Lib.itoa m).toArray⟩, (bs_lit0 _).symm⟩
        have HP := Lib.hid hpB
        have HM := Lib.hid hmB
        have HPL := Lib.hid hpl
        have HES := Lib.hid hes
        have HDC := Lib.hid hdc
        clear hi1 hi2 hu1 hu2 hpB hmB hpl hes hdc
        go_enter Tryd.func12, Tryd.ntmps12
        go_wp2_with fail
        go_at_call 13; refine (small_any _ HE.out).mono ?_; rintro e w1 ⟨rfl, B⟩
        go_wp2_with fail
        go_loop [10] (fun i => ∃ k : Nat, k ≤ n ∧ i = .int .i64 k ∧ (unl (ls.take k)).length ≤ 101 * k) (fun i => n - (intOf i).toNat)
        case atStart => exact ⟨0, by omega, rfl, by simp [unl]⟩
        case round =>
          obtain ⟨k, hk, rfl, hul⟩ := hrel
          by_cases hlt : k < n
          · have hkt : k < ls.length := by rw [← HN.out]; exact hlt
            obtain ⟨b, off, cb, e1, q0⟩ := (HT.out.below B).str n HN.out k hkt
            cases e1
            have kI0 : (0 : Int) ≤ (k : Int) := by omega
            have kI1 : (k : Int) < (n : Int) := by omega
            have kI2 : (k : Int).toNat = k := by omega
            have hun := congrArg List.length (unl_take ls k hkt)
            rw [List.length_append, List.length_append, List.length_singleton] at hun
            generalize ls[k] = t at *
            by_cases ht : t.length ≤ 100
            · have t1 : (t.length : Int) ≤ 100 := by omega
              go_wp2_with fail
              go_round
              case rel => exact ⟨k + 1, by omega, by go_num, by omega⟩
              case measure => simp [intOf]; omega
            · have t1 : (100 : Int) < (t.length : Int) := by omega
              go_wp2_with fail
              go_ret
              exact ⟨rfl, B⟩
          · have hkn : ls.take k = ls := List.take_of_length_le (by rw [← HN.out]; omega)
            rw [hkn] at hul
            clear hkn
            go_wp2_with fail
            go_at_call 20; refine (HI1.out _ (HE.out.below B)).mono ?_; rintro e w2 ⟨rfl, b⟩
            replace B := B.trans (b.mono B.size)
            clear b
            go_wp2_with fail
            go_at_call 34; refine (HI2.out _).mono ?_; rintro e w2 ⟨rfl, b⟩
            replace B := B.trans (b.mono B.size)
            clear b
            go_wp2_with fail
            go_at_call 22; refine (HU1.out _).mono ?_; rintro e w2 ⟨rfl, b⟩
            replace B := B.trans (b.mono B.size)
            clear b
            go_wp2_with fail
            go_at_call 35; refine (HU2.out _).mono ?_; rintro e w2 ⟨rfl, b⟩
            replace B := B.trans (b.mono B.size)
            clear b
            go_wp2_with fail
            go_at_call 21; refine (Decimal_is m dc HDC.out h0 h1 _ (HE.out.below B)).mono ?_; rintro e w2 ⟨rfl, b⟩
            replace B := B.trans (b.mono B.size)
            clear b
            go_wp2_with fail
            go_at_call 36; refine (rDec_is m dc HDC.out h0 h1 _).mono ?_; rintro e w2 ⟨rfl, b⟩
            replace B := B.trans (b.mono B.size)
            clear b
            go_wp2_with fail
            go_at_call 23; refine (Quote_any s _ (by omega)).mono ?_; rintro e w2 ⟨rfl, b⟩
            replace B := B.trans (b.mono B.size)
            clear b
            go_wp2_with fail
            go_at_call 37; refine (rQuote_any s _ (by omega)).mono ?_; rintro e w2 ⟨rfl, b⟩
            replace B := B.trans (b.mono B.size)
            clear b
            go_wp2_with fail
            go_at_call 15; refine (Lines_any s _ (HE.out.below B) (by omega)).mono ?_; rintro e w2 ⟨va, rfl, t, b⟩
            have VA := Lib.hid t
            replace B := B.trans (b.mono B.size)
            clear b t
            go_wp2_with fail
            go_at_call 38; refine (rLines_any s _ (by omega)).mono ?_; rintro e w2 ⟨vb, rfl, t, b⟩
            have VB := Lib.hid t
            replace VA := Lib.hid (VA.out.below b)
            replace B := B.trans (b.mono B.size)
            clear b t
            go_wp2_with fail
            go_at_call 14; refine (r2Same_k _ _ (lines (bs s)) VA.out VB.out).mono ?_; rintro e w2 ⟨rfl, b⟩
            replace B := B.trans (b.mono B.size)
            clear b
            go_wp2_with fail
            go_at_call 16; refine (Unlines_any _ ls _ (HT.out.below B) (by omega)).mono ?_; rintro e w2 ⟨rfl, b⟩
            replace B := B.trans (b.mono B.size)
            clear b
            go_wp2_with fail
            go_at_call 39; refine (rUnlines_any _ ls _ (HT.out.below B) (by omega)).mono ?_; rintro e w2 ⟨rfl, b⟩
            replace B := B.trans (b.mono B.size)
            clear b
            go_wp2_with fail
            go_at_call 17; refine (Fields_k s _ (by omega)).mono ?_; rintro e w2 ⟨vc, rfl, t, b⟩
            have VC := Lib.hid t
            replace B := B.trans (b.mono B.size)
            clear b t
            go_wp2_with fail
            go_at_call 40; refine (rFields_any s _ (by omega)).mono ?_; rintro e w2 ⟨vd, rfl, t, b⟩
            have VD := Lib.hid t
            replace VC := Lib.hid (VC.out.below b)
            replace B := B.trans (b.mono B.size)
            clear b t
            go_wp2_with fail
            go_at_call 14; refine (r2Same_k _ _ (fd [] (bs s)) VC.out VD.out).mono ?_; rintro e w2 ⟨rfl, b⟩
            replace B := B.trans (b.mono B.size)
            clear b
            go_wp2_with fail
            go_at_call 18; refine (Pattern_k p s pB HP.out _ (by omega) (by omega)).mono ?_; rintro e w2 ⟨rfl, b⟩
            replace B := B.trans (b.mono B.size)
            clear b
            go_wp2_with fail
            go_at_call 41; refine (rPattern_any p s pB HP.out _ (by omega) (by omega)).mono ?_; rintro e w2 ⟨rfl, b⟩
            replace B := B.trans (b.mono B.size)
            clear b
            go_wp2_with fail
            go_at_call 28; refine (Magic_k p mB HM.out _ (by omega)).mono ?_; rintro e w2 ⟨rfl, b⟩
            replace B := B.trans (b.mono B.size)
            clear b
            go_wp2_with fail
            go_at_call 42; refine (rMagic_any p mB HM.out _ (by omega)).mono ?_; rintro e w2 ⟨rfl, b⟩
            replace B := B.trans (b.mono B.size)
            clear b
            go_wp2_with fail
            go_at_call 29; refine (Plain_e p pl HPL.out _ (by omega)).mono ?_; rintro e w2 ⟨rfl, b⟩
            replace B := B.trans (b.mono B.size)
            clear b
            go_wp2_with fail
            go_at_call 43; refine (rPlain_e p pl HPL.out _ (by omega)).mono ?_; rintro e w2 ⟨rfl, b⟩
            replace B := B.trans (b.mono B.size)
            clear b
            go_wp2_with fail
            go_at_call 19; refine (Escape_e s es HES.out _ (by omega)).mono ?_; rintro e w2 ⟨rfl, b⟩
            replace B := B.trans (b.mono B.size)
            clear b
            go_wp2_with fail
            go_at_call 44; refine (rEscape_e s es HES.out _ (by omega)).mono ?_; rintro e w2 ⟨rfl, b⟩
            replace B := B.trans (b.mono B.size)
            clear b
            go_wp2_with fail
            go_ret
            exact ⟨rfl, B⟩
      · have g30 : (30 : Int) < (n : Int) := by omega
        go_enter Tryd.func12, Tryd.ntmps12
        go_wp2_with fail
        go_at_call 13; refine (small_any _ HE.out).mono ?_; rintro e w1 ⟨rfl, B⟩
        go_wp2_with fail
        go_ret
        exact ⟨rfl, B⟩
    · have g100 : (100 : Int) < (p.size : Int) := by omega
      have d3 : decide ((300 : Int) < (s.size : Int)) = false := decide_eq_false (by omega)
      go_enter Tryd.func12, Tryd.ntmps12
      go_wp2_with fail
      go_at_call 13; refine (small_any _ HE.out).mono ?_; rintro e w1 ⟨rfl, B⟩
      go_wp2_with fail
      go_ret
      exact ⟨rfl, B⟩
  · have g300 : (300 : Int) < (s.size : Int) := by omega
    go_enter Tryd.func12, Tryd.ntmps12
    go_wp2_with fail
    go_at_call 13; refine (small_any _ HE.out).mono ?_; rintro e w1 ⟨rfl, B⟩
    go_wp2_with fail
    go_ret
    exact ⟨rfl, B⟩
end Go.Proofs.YtdjiimblfhbcjaaDoor
