/- LexTexts. -/
import Derived.Test.YtdjiimblfhbcjaaDoorLxA
import Derived.Deep.DeepCutAuto
namespace Go.Proofs.YtdjiimblfhbcjaaDoor
set_option linter.unusedSimpArgs false
open Go.RowKit

theorem part_val (c : UInt8) : Lx.part c = (decide (97 ≤ c.toNat ∧ c.toNat ≤ 122) || decide (65 ≤ c.toNat ∧ c.toNat ≤ 90) || decide (48 ≤ c.toNat ∧ c.toNat ≤ 57) || decide (c.toNat = 95) || decide (c.toNat = 45)) := by
  have h : (List.range 256).all (fun n => Lx.part (UInt8.ofNat n) == (decide (97 ≤ (UInt8.ofNat n).toNat ∧ (UInt8.ofNat n).toNat ≤ 122) || decide (65 ≤ (UInt8.ofNat n).toNat ∧ (UInt8.ofNat n).toNat ≤ 90) || decide (48 ≤ (UInt8.ofNat n).toNat ∧ (UInt8.ofNat n).toNat ≤ 57) || decide ((UInt8.ofNat n).toNat = 95) || decide ((UInt8.ofNat n).toNat = 45))) = true := by decide +kernel
  have h2 := List.all_eq_true.1 h c.toNat (List.mem_range.2 c.toNat_lt)
  rw [beq_iff_eq, UInt8.ofNat_toNat] at h2
  exact h2
theorem conv1 (c : UInt8) (w : World) : Sem.run Tryd.prog (convert 46 9 (.slice (some ⟨w.heap.size, 0, none⟩) 1 1)) (w.alloc (.cells #[.int .u8 c.toNat] 5)) = .ok (.string ⟨#[c]⟩) (w.alloc (.cells #[.int .u8 c.toNat] 5)) := by
  have h := run_convert_bytes_back (P := Tryd.prog) (w.alloc (.cells #[.int .u8 c.toNat] 5)) 46 9 5 ⟨w.heap.size, 0, none⟩ 1 [c] Tryd.underlying46 Tryd.underlying5 Tryd.underlying9
  exact h (fun j hj => by
    have h0 : j = 0 := by simpa using hj
    subst h0
    simp [Addr.add])
theorem bs_app (a b : ByteArray) : bs (a ++ b) = bs a ++ bs b := by simp [bs]
theorem app1_size (s : ByteArray) (c : UInt8) : (s ++ ⟨#[c]⟩).size = s.size + 1 := by
  rw [← bs_len, bs_app, List.length_append, bs_len]; rfl
theorem keepc {w w3 : World} {b o : Nat} {v : Value} (h : Below w.heap.size w w3) (hc : w.cell? ⟨b, o, none⟩ = some v) : w3.cell? ⟨b, o, none⟩ = some v :=
  (h.cell (p := ⟨b, o, none⟩) (cell_lt hc)).trans hc
theorem Decimal_k (n : Int) (h0 : -9223372036854775808 ≤ n) (h1 : n ≤ 9223372036854775807) (w : World) (hE : Env w) :
    Calls Tryd.prog 21 #[.int .i64 n] w fun e w' => ∃ D, bs D = Lib.itoa n ∧ D.size ≤ 21 ∧ e = .returned (.string D) ∧ Below w.heap.size w w' := by
  refine (Decimal_any n h0 h1 w hE).mono ?_
  rintro e w' ⟨rfl, hb⟩
  exact ⟨_, bs_lit0 _, by rw [← bs_len, bs_lit0]; exact Lib.itoa_length_le n h0 h1, rfl, hb⟩
theorem tok_text (s : ByteArray) : (⟨(bs s).toArray⟩ : ByteArray) = s := mk_data s

set_option maxRecDepth 100000 in
set_option maxHeartbeats 64000000 in
theorem LexTexts_any (s : ByteArray) (n : Int) (c : UInt8) (h0 : -9223372036854775808 ≤ n) (h1 : n ≤ 9223372036854775807) (w : World) (hE : Env w) :
    Calls Tryd.prog 8 #[.string s, .int .i64 n, .int .u8 c.toNat] w fun e w' => e = .returned (.bool true) ∧ Below w.heap.size w w' := by
  have HE := Lib.hid hE
  clear hE
  by_cases hs : s.size ≤ 300
  · by_cases hn : n < 0
    · cases hw : Lx.word (bs s) with
      | false =>
        have HW := Lib.hid hw
        clear hw
        go_enter Tryd.func8, Tryd.ntmps8
        go_wp2_with fail
        go_at_call 24; refine (small9_any _ HE.out).mono ?_; rintro e w1 ⟨rfl, B⟩
        go_wp2_with fail
        go_at_call 23; refine (Quote_k s _ (by omega)).mono ?_; rintro e w2 ⟨E, hEs, hEl, rfl, b⟩
        replace B := B.trans (b.mono B.size)
        clear b
        have HS := Lib.hid hEs
        clear hEs
        go_wp2_with fail
        go_at_call 25; refine (Lex_ok E _ (by rw [HS.out]; exact Lx.lex_quote _) _ (HE.out.below B) (by omega)).mono ?_; rintro e w2 ⟨g, cap, rfl, t1, hc1, hc2, b⟩
        replace B := B.trans (b.mono B.size)
        have p0 : w2.cell? ⟨g, 0, none⟩ = some (.int .i64 2) := (t1 0 (by simp)).1
        have p1 : w2.cell? ⟨g, 1, none⟩ = some (.string s) := (t1 0 (by simp)).2.1.trans (congrArg (fun x => some (Value.string x)) (tok_text s))
        have p2 : w2.cell? ⟨g, 2, none⟩ = some (.int .i64 (0)) := (t1 0 (by simp)).2.2.1
        have p3 : w2.cell? ⟨g, 3, none⟩ = some (.int .i64 1) := (t1 0 (by simp)).2.2.2
        clear b t1
        simp only [List.length_cons, List.length_nil, Nat.zero_add, Nat.reduceAdd] at hc1
        go_wp2_with fail
        clear p0 p1 p2 p3 hc1 hc2
        go_at_call 27; refine (Word_any s false HW.out _ (by omega)).mono ?_; rintro e w2 ⟨rfl, rfl⟩
        go_wp2_with fail
        go_at_call 21; refine (Decimal_k n h0 h1 _ (HE.out.below B)).mono ?_; rintro e w2 ⟨D, hDs, hDl, rfl, b⟩
        replace B := B.trans (b.mono B.size)
        clear b
        have HD := Lib.hid hDs
        clear hDs
        go_wp2_with fail
        go_at_call 25; refine (Lex_err D 11 1 (by rw [HD.out]; exact Lx.lex_neg n hn) _ (HE.out.below B) (by omega)).mono ?_; rintro e w2 ⟨rfl, b⟩
        replace B := B.trans (b.mono B.size)
        clear b
        go_wp2_with fail
        go_ret
        exact ⟨rfl, B⟩
      | true =>
        have HW := Lib.hid hw
        obtain ⟨P, hP⟩ : ∃ P, Lx.part c = P := ⟨_, rfl⟩
        have hwm := Lx.word_more (bs s) c hw
        rw [hP, bs_len] at hwm
        have HWM := Lib.hid hwm
        have HP := Lib.hid hP
        clear hw hP hwm
        go_enter Tryd.func8, Tryd.ntmps8
        go_wp2_with fail
        go_at_call 24; refine (small9_any _ HE.out).mono ?_; rintro e w1 ⟨rfl, B⟩
        go_wp2_with fail
        go_at_call 23; refine (Quote_k s _ (by omega)).mono ?_; rintro e w2 ⟨E, hEs, hEl, rfl, b⟩
        replace B := B.trans (b.mono B.size)
        clear b
        have HS := Lib.hid hEs
        clear hEs
        go_wp2_with fail
        go_at_call 25; refine (Lex_ok E _ (by rw [HS.out]; exact Lx.lex_quote _) _ (HE.out.below B) (by omega)).mono ?_; rintro e w2 ⟨g, cap, rfl, t1, hc1, hc2, b⟩
        replace B := B.trans (b.mono B.size)
        have p0 : w2.cell? ⟨g, 0, none⟩ = some (.int .i64 2) := (t1 0 (by simp)).1
        have p1 : w2.cell? ⟨g, 1, none⟩ = some (.string s) := (t1 0 (by simp)).2.1.trans (congrArg (fun x => some (Value.string x)) (tok_text s))
        have p2 : w2.cell? ⟨g, 2, none⟩ = some (.int .i64 (0)) := (t1 0 (by simp)).2.2.1
        have p3 : w2.cell? ⟨g, 3, none⟩ = some (.int .i64 1) := (t1 0 (by simp)).2.2.2
        clear b t1
        simp only [List.length_cons, List.length_nil, Nat.zero_add, Nat.reduceAdd] at hc1
        go_wp2_with fail
        clear p0 p1 p2 p3 hc1 hc2
        go_at_call 27; refine (Word_any s true HW.out _ (by omega)).mono ?_; rintro e w2 ⟨rfl, rfl⟩
        go_wp2_with fail
        go_at_call 25; refine (Lex_ok s _ (Lx.lex_word _ HW.out) _ (HE.out.below B) (by omega)).mono ?_; rintro e w2 ⟨g, cap, rfl, t1, hc1, hc2, b⟩
        replace B := B.trans (b.mono B.size)
        have p0 : w2.cell? ⟨g, 0, none⟩ = some (.int .i64 0) := (t1 0 (by simp)).1
        have p1 : w2.cell? ⟨g, 1, none⟩ = some (.string s) := (t1 0 (by simp)).2.1.trans (congrArg (fun x => some (Value.string x)) (tok_text s))
        have p2 : w2.cell? ⟨g, 2, none⟩ = some (.int .i64 (0)) := (t1 0 (by simp)).2.2.1
        have p3 : w2.cell? ⟨g, 3, none⟩ = some (.int .i64 1) := (t1 0 (by simp)).2.2.2
        clear b t1
        simp only [List.length_cons, List.length_nil, Nat.zero_add, Nat.reduceAdd] at hc1
        go_upto_region 13 with fail
        go_cut [14] (fun v wx => v = .bool P ∧ wx = w2)
        case first =>
          by_cases i1 : (97 : Int) ≤ (c.toNat : Int) ∧ (c.toNat : Int) ≤ 122
          · obtain ⟨i1, i2⟩ := i1
            have HV : Hid (true = P) := Lib.hid (by rw [← HP.out, part_val]; simp; omega)
            go_wp2_with fail
            go_meet
            exact ⟨by first | rw [HV.out] | (rw [← HV.out]; simp; omega), rfl⟩
          by_cases i2 : (65 : Int) ≤ (c.toNat : Int) ∧ (c.toNat : Int) ≤ 90
          · obtain ⟨i2, i3⟩ := i2
            have j : (c.toNat : Int) < 97 := by omega
            clear i1
            have HV : Hid (true = P) := Lib.hid (by rw [← HP.out, part_val]; simp; omega)
            go_wp2_with fail
            go_meet
            exact ⟨by first | rw [HV.out] | (rw [← HV.out]; simp; omega), rfl⟩
          by_cases i3 : (48 : Int) ≤ (c.toNat : Int) ∧ (c.toNat : Int) ≤ 57
          · obtain ⟨i3, i4⟩ := i3
            have j : (c.toNat : Int) < 97 := by omega
            clear i1 i2
            have HV : Hid (true = P) := Lib.hid (by rw [← HP.out, part_val]; simp; omega)
            go_wp2_with fail
            go_meet
            exact ⟨by first | rw [HV.out] | (rw [← HV.out]; simp; omega), rfl⟩
          by_cases i5 : c.toNat = 95
          · have e95 : ((c.toNat : Int) == 95) = true := beq_iff_eq.2 (by omega)
            have j1 : (90 : Int) < (c.toNat : Int) := by omega
            have j2 : (c.toNat : Int) < 97 := by omega
            have HV : Hid (true = P) := Lib.hid (by rw [← HP.out, part_val]; simp; omega)
            clear i1 i2 i3 i5
            go_wp2_with fail
            go_meet
            exact ⟨by first | rw [HV.out] | (rw [← HV.out]; simp; omega), rfl⟩
          have e95 : ((c.toNat : Int) == 95) = false := beq_eq_false_iff_ne.2 (by omega)
          by_cases i6 : c.toNat = 45
          · have e45 : ((c.toNat : Int) == 45) = true := beq_iff_eq.2 (by omega)
            have j1 : (c.toNat : Int) < 48 := by omega
            have HV : Hid (true = P) := Lib.hid (by rw [← HP.out, part_val]; simp; omega)
            clear i1 i2 i3 i5 i6
            go_wp2_with fail
            go_meet
            exact ⟨by first | rw [HV.out] | (rw [← HV.out]; simp; omega), rfl⟩
          have e45 : ((c.toNat : Int) == 45) = false := beq_eq_false_iff_ne.2 (by omega)
          have HV : Hid (false = P) := Lib.hid (by rw [← HP.out, part_val]; simp; omega)
          by_cases i7 : (c.toNat : Int) < 48
          · clear i1 i2 i3 i5 i6
            go_wp2_with fail
            go_meet
            exact ⟨by first | rw [HV.out] | (rw [← HV.out]; simp; omega), rfl⟩
          by_cases i8 : (c.toNat : Int) < 65
          · have j1 : (57 : Int) < (c.toNat : Int) := by omega
            clear i1 i2 i3 i5 i6 i7
            go_wp2_with fail
            go_meet
            exact ⟨by first | rw [HV.out] | (rw [← HV.out]; simp; omega), rfl⟩
          by_cases i9 : (c.toNat : Int) < 97
          · have j1 : (90 : Int) < (c.toNat : Int) := by omega
            clear i1 i2 i3 i5 i6 i7 i8
            go_wp2_with fail
            go_meet
            exact ⟨by first | rw [HV.out] | (rw [← HV.out]; simp; omega), rfl⟩
          have j1 : (122 : Int) < (c.toNat : Int) := by omega
          clear i1 i2 i3 i5 i6 i7 i8 i9
          go_wp2_with fail
          go_meet
          exact ⟨by first | rw [HV.out] | (rw [← HV.out]; simp; omega), rfl⟩
        case rest =>
          obtain ⟨rfl, rfl⟩ := hcut
          have hcv := conv1 c wc
          cases P with
          | true =>
            by_cases h20 : (s.size : Int) < 20
            · have HR : Hid (Lx.word (bs (s ++ ⟨#[c]⟩)) = true) := Lib.hid (by
                rw [bs_app, show bs ⟨#[c]⟩ = [c] from rfl, HWM.out]; simp; try omega)
              go_wp2_with fail
              go_at_call 27; refine (Word_any _ true HR.out _ (by rw [app1_size]; omega)).mono ?_; rintro e w2 ⟨rfl, rfl⟩
              replace B := B.alloc B.size (.cells #[.int .u8 c.toNat] 5)
              go_wp2_with fail
              go_at_call 21; refine (Decimal_k n h0 h1 _ (HE.out.below B)).mono ?_; rintro e w2 ⟨D, hDs, hDl, rfl, b⟩
              replace B := B.trans (b.mono B.size)
              clear b
              have HD := Lib.hid hDs
              clear hDs
              go_wp2_with fail
              go_at_call 25; refine (Lex_err D 11 1 (by rw [HD.out]; exact Lx.lex_neg n hn) _ (HE.out.below B) (by omega)).mono ?_; rintro e w2 ⟨rfl, b⟩
              replace B := B.trans (b.mono B.size)
              clear b
              go_wp2_with fail
              go_ret
              exact ⟨rfl, B⟩
            · have h20' : (20 : Int) ≤ (s.size : Int) := by omega
              have h20d : decide ((s.size : Int) < 20) = false := decide_eq_false h20
              have HR : Hid (Lx.word (bs (s ++ ⟨#[c]⟩)) = false) := Lib.hid (by
                rw [bs_app, show bs ⟨#[c]⟩ = [c] from rfl, HWM.out]; simp; try omega)
              clear h20
              go_wp2_with fail
              go_at_call 27; refine (Word_any _ false HR.out _ (by rw [app1_size]; omega)).mono ?_; rintro e w2 ⟨rfl, rfl⟩
              replace B := B.alloc B.size (.cells #[.int .u8 c.toNat] 5)
              go_wp2_with fail
              go_at_call 21; refine (Decimal_k n h0 h1 _ (HE.out.below B)).mono ?_; rintro e w2 ⟨D, hDs, hDl, rfl, b⟩
              replace B := B.trans (b.mono B.size)
              clear b
              have HD := Lib.hid hDs
              clear hDs
              go_wp2_with fail
              go_at_call 25; refine (Lex_err D 11 1 (by rw [HD.out]; exact Lx.lex_neg n hn) _ (HE.out.below B) (by omega)).mono ?_; rintro e w2 ⟨rfl, b⟩
              replace B := B.trans (b.mono B.size)
              clear b
              go_wp2_with fail
              go_ret
              exact ⟨rfl, B⟩
          | false =>
            by_cases h20 : (s.size : Int) < 20
            · have HR : Hid (Lx.word (bs (s ++ ⟨#[c]⟩)) = false) := Lib.hid (by
                rw [bs_app, show bs ⟨#[c]⟩ = [c] from rfl, HWM.out]; simp; try omega)
              go_wp2_with fail
              go_at_call 27; refine (Word_any _ false HR.out _ (by rw [app1_size]; omega)).mono ?_; rintro e w2 ⟨rfl, rfl⟩
              replace B := B.alloc B.size (.cells #[.int .u8 c.toNat] 5)
              go_wp2_with fail
              go_at_call 21; refine (Decimal_k n h0 h1 _ (HE.out.below B)).mono ?_; rintro e w2 ⟨D, hDs, hDl, rfl, b⟩
              replace B := B.trans (b.mono B.size)
              clear b
              have HD := Lib.hid hDs
              clear hDs
              go_wp2_with fail
              go_at_call 25; refine (Lex_err D 11 1 (by rw [HD.out]; exact Lx.lex_neg n hn) _ (HE.out.below B) (by omega)).mono ?_; rintro e w2 ⟨rfl, b⟩
              replace B := B.trans (b.mono B.size)
              clear b
              go_wp2_with fail
              go_ret
              exact ⟨rfl, B⟩
            · have h20' : (20 : Int) ≤ (s.size : Int) := by omega
              have h20d : decide ((s.size : Int) < 20) = false := decide_eq_false h20
              have HR : Hid (Lx.word (bs (s ++ ⟨#[c]⟩)) = false) := Lib.hid (by
                rw [bs_app, show bs ⟨#[c]⟩ = [c] from rfl, HWM.out]; simp; try omega)
              clear h20
              go_wp2_with fail
              go_at_call 27; refine (Word_any _ false HR.out _ (by rw [app1_size]; omega)).mono ?_; rintro e w2 ⟨rfl, rfl⟩
              replace B := B.alloc B.size (.cells #[.int .u8 c.toNat] 5)
              go_wp2_with fail
              go_at_call 21; refine (Decimal_k n h0 h1 _ (HE.out.below B)).mono ?_; rintro e w2 ⟨D, hDs, hDl, rfl, b⟩
              replace B := B.trans (b.mono B.size)
              clear b
              have HD := Lib.hid hDs
              clear hDs
              go_wp2_with fail
              go_at_call 25; refine (Lex_err D 11 1 (by rw [HD.out]; exact Lx.lex_neg n hn) _ (HE.out.below B) (by omega)).mono ?_; rintro e w2 ⟨rfl, b⟩
              replace B := B.trans (b.mono B.size)
              clear b
              go_wp2_with fail
              go_ret
              exact ⟨rfl, B⟩
    · have hn' : (0 : Int) ≤ n := by omega
      clear hn
      cases hw : Lx.word (bs s) with
      | false =>
        have HW := Lib.hid hw
        clear hw
        go_enter Tryd.func8, Tryd.ntmps8
        go_wp2_with fail
        go_at_call 24; refine (small9_any _ HE.out).mono ?_; rintro e w1 ⟨rfl, B⟩
        go_wp2_with fail
        go_at_call 23; refine (Quote_k s _ (by omega)).mono ?_; rintro e w2 ⟨E, hEs, hEl, rfl, b⟩
        replace B := B.trans (b.mono B.size)
        clear b
        have HS := Lib.hid hEs
        clear hEs
        go_wp2_with fail
        go_at_call 25; refine (Lex_ok E _ (by rw [HS.out]; exact Lx.lex_quote _) _ (HE.out.below B) (by omega)).mono ?_; rintro e w2 ⟨g, cap, rfl, t1, hc1, hc2, b⟩
        replace B := B.trans (b.mono B.size)
        have p0 : w2.cell? ⟨g, 0, none⟩ = some (.int .i64 2) := (t1 0 (by simp)).1
        have p1 : w2.cell? ⟨g, 1, none⟩ = some (.string s) := (t1 0 (by simp)).2.1.trans (congrArg (fun x => some (Value.string x)) (tok_text s))
        have p2 : w2.cell? ⟨g, 2, none⟩ = some (.int .i64 (0)) := (t1 0 (by simp)).2.2.1
        have p3 : w2.cell? ⟨g, 3, none⟩ = some (.int .i64 1) := (t1 0 (by simp)).2.2.2
        clear b t1
        simp only [List.length_cons, List.length_nil, Nat.zero_add, Nat.reduceAdd] at hc1
        go_wp2_with fail
        clear p0 p1 p2 p3 hc1 hc2
        go_at_call 27; refine (Word_any s false HW.out _ (by omega)).mono ?_; rintro e w2 ⟨rfl, rfl⟩
        go_wp2_with fail
        go_at_call 21; refine (Decimal_k n h0 h1 _ (HE.out.below B)).mono ?_; rintro e w2 ⟨D, hDs, hDl, rfl, b⟩
        replace B := B.trans (b.mono B.size)
        clear b
        have HD := Lib.hid hDs
        clear hDs
        go_wp2_with fail
        go_at_call 25; refine (Lex_ok D _ (by rw [HD.out]; exact Lx.lex_num n (by omega) h1) _ (HE.out.below B) (by omega)).mono ?_; rintro e w2 ⟨g, cap, rfl, t1, hc1, hc2, b⟩
        replace B := B.trans (b.mono B.size)
        have p0 : w2.cell? ⟨g, 0, none⟩ = some (.int .i64 1) := (t1 0 (by simp)).1
        have p1 : w2.cell? ⟨g, 1, none⟩ = some (.string D) := (t1 0 (by simp)).2.1.trans (congrArg (fun x => some (Value.string x)) (by rw [← HD.out]; exact tok_text D))
        have p2 : w2.cell? ⟨g, 2, none⟩ = some (.int .i64 (n)) := (t1 0 (by simp)).2.2.1
        have p3 : w2.cell? ⟨g, 3, none⟩ = some (.int .i64 1) := (t1 0 (by simp)).2.2.2
        clear b t1
        simp only [List.length_cons, List.length_nil, Nat.zero_add, Nat.reduceAdd] at hc1
        go_wp2_with fail
        go_region_held3 (fun w' => w'.cell? ⟨g, 0, none⟩ = some (.int .i64 1) ∧ w'.cell? ⟨g, 1, none⟩ = some (.string D) ∧ w'.cell? ⟨g, 2, none⟩ = some (.int .i64 n) ∧ w'.cell? ⟨g, 3, none⟩ = some (.int .i64 1)) (go_keep)
          ((go_at_call 21; refine (Decimal_is n D HD.out.symm h0 h1 _ (by exact (HE.out.below B).drewN 1)).mono ?_; rintro e w3 ⟨rfl, b⟩; have q0 := keep_cell b (cell_lt p0) p0; have q1 := keep_cell b (cell_lt p0) p1; have q2 := keep_cell b (cell_lt p0) p2; have q3 := keep_cell b (cell_lt p0) p3))
        replace B := B.drew.trans (b.mono B.size)
        clear b
        go_wp2_with fail
        go_ret
        exact ⟨rfl, B⟩
      | true =>
        have HW := Lib.hid hw
        obtain ⟨P, hP⟩ : ∃ P, Lx.part c = P := ⟨_, rfl⟩
        have hwm := Lx.word_more (bs s) c hw
        rw [hP, bs_len] at hwm
        have HWM := Lib.hid hwm
        have HP := Lib.hid hP
        clear hw hP hwm
        go_enter Tryd.func8, Tryd.ntmps8
        go_wp2_with fail
        go_at_call 24; refine (small9_any _ HE.out).mono ?_; rintro e w1 ⟨rfl, B⟩
        go_wp2_with fail
        go_at_call 23; refine (Quote_k s _ (by omega)).mono ?_; rintro e w2 ⟨E, hEs, hEl, rfl, b⟩
        replace B := B.trans (b.mono B.size)
        clear b
        have HS := Lib.hid hEs
        clear hEs
        go_wp2_with fail
        go_at_call 25; refine (Lex_ok E _ (by rw [HS.out]; exact Lx.lex_quote _) _ (HE.out.below B) (by omega)).mono ?_; rintro e w2 ⟨g, cap, rfl, t1, hc1, hc2, b⟩
        replace B := B.trans (b.mono B.size)
        have p0 : w2.cell? ⟨g, 0, none⟩ = some (.int .i64 2) := (t1 0 (by simp)).1
        have p1 : w2.cell? ⟨g, 1, none⟩ = some (.string s) := (t1 0 (by simp)).2.1.trans (congrArg (fun x => some (Value.string x)) (tok_text s))
        have p2 : w2.cell? ⟨g, 2, none⟩ = some (.int .i64 (0)) := (t1 0 (by simp)).2.2.1
        have p3 : w2.cell? ⟨g, 3, none⟩ = some (.int .i64 1) := (t1 0 (by simp)).2.2.2
        clear b t1
        simp only [List.length_cons, List.length_nil, Nat.zero_add, Nat.reduceAdd] at hc1
        go_wp2_with fail
        clear p0 p1 p2 p3 hc1 hc2
        go_at_call 27; refine (Word_any s true HW.out _ (by omega)).mono ?_; rintro e w2 ⟨rfl, rfl⟩
        go_wp2_with fail
        go_at_call 25; refine (Lex_ok s _ (Lx.lex_word _ HW.out) _ (HE.out.below B) (by omega)).mono ?_; rintro e w2 ⟨g, cap, rfl, t1, hc1, hc2, b⟩
        replace B := B.trans (b.mono B.size)
        have p0 : w2.cell? ⟨g, 0, none⟩ = some (.int .i64 0) := (t1 0 (by simp)).1
        have p1 : w2.cell? ⟨g, 1, none⟩ = some (.string s) := (t1 0 (by simp)).2.1.trans (congrArg (fun x => some (Value.string x)) (tok_text s))
        have p2 : w2.cell? ⟨g, 2, none⟩ = some (.int .i64 (0)) := (t1 0 (by simp)).2.2.1
        have p3 : w2.cell? ⟨g, 3, none⟩ = some (.int .i64 1) := (t1 0 (by simp)).2.2.2
        clear b t1
        simp only [List.length_cons, List.length_nil, Nat.zero_add, Nat.reduceAdd] at hc1
        go_upto_region 13 with fail
        go_cut [14] (fun v wx => v = .bool P ∧ wx = w2)
        case first =>
          by_cases i1 : (97 : Int) ≤ (c.toNat : Int) ∧ (c.toNat : Int) ≤ 122
          · obtain ⟨i1, i2⟩ := i1
            have HV : Hid (true = P) := Lib.hid (by rw [← HP.out, part_val]; simp; omega)
            go_wp2_with fail
            go_meet
            exact ⟨by first | rw [HV.out] | (rw [← HV.out]; simp; omega), rfl⟩
          by_cases i2 : (65 : Int) ≤ (c.toNat : Int) ∧ (c.toNat : Int) ≤ 90
          · obtain ⟨i2, i3⟩ := i2
            have j : (c.toNat : Int) < 97 := by omega
            clear i1
            have HV : Hid (true = P) := Lib.hid (by rw [← HP.out, part_val]; simp; omega)
            go_wp2_with fail
            go_meet
            exact ⟨by first | rw [HV.out] | (rw [← HV.out]; simp; omega), rfl⟩
          by_cases i3 : (48 : Int) ≤ (c.toNat : Int) ∧ (c.toNat : Int) ≤ 57
          · obtain ⟨i3, i4⟩ := i3
            have j : (c.toNat : Int) < 97 := by omega
            clear i1 i2
            have HV : Hid (true = P) := Lib.hid (by rw [← HP.out, part_val]; simp; omega)
            go_wp2_with fail
            go_meet
            exact ⟨by first | rw [HV.out] | (rw [← HV.out]; simp; omega), rfl⟩
          by_cases i5 : c.toNat = 95
          · have e95 : ((c.toNat : Int) == 95) = true := beq_iff_eq.2 (by omega)
            have j1 : (90 : Int) < (c.toNat : Int) := by omega
            have j2 : (c.toNat : Int) < 97 := by omega
            have HV : Hid (true = P) := Lib.hid (by rw [← HP.out, part_val]; simp; omega)
            clear i1 i2 i3 i5
            go_wp2_with fail
            go_meet
            exact ⟨by first | rw [HV.out] | (rw [← HV.out]; simp; omega), rfl⟩
          have e95 : ((c.toNat : Int) == 95) = false := beq_eq_false_iff_ne.2 (by omega)
          by_cases i6 : c.toNat = 45
          · have e45 : ((c.toNat : Int) == 45) = true := beq_iff_eq.2 (by omega)
            have j1 : (c.toNat : Int) < 48 := by omega
            have HV : Hid (true = P) := Lib.hid (by rw [← HP.out, part_val]; simp; omega)
            clear i1 i2 i3 i5 i6
            go_wp2_with fail
            go_meet
            exact ⟨by first | rw [HV.out] | (rw [← HV.out]; simp; omega), rfl⟩
          have e45 : ((c.toNat : Int) == 45) = false := beq_eq_false_iff_ne.2 (by omega)
          have HV : Hid (false = P) := Lib.hid (by rw [← HP.out, part_val]; simp; omega)
          by_cases i7 : (c.toNat : Int) < 48
          · clear i1 i2 i3 i5 i6
            go_wp2_with fail
            go_meet
            exact ⟨by first | rw [HV.out] | (rw [← HV.out]; simp; omega), rfl⟩
          by_cases i8 : (c.toNat : Int) < 65
          · have j1 : (57 : Int) < (c.toNat : Int) := by omega
            clear i1 i2 i3 i5 i6 i7
            go_wp2_with fail
            go_meet
            exact ⟨by first | rw [HV.out] | (rw [← HV.out]; simp; omega), rfl⟩
          by_cases i9 : (c.toNat : Int) < 97
          · have j1 : (90 : Int) < (c.toNat : Int) := by omega
            clear i1 i2 i3 i5 i6 i7 i8
            go_wp2_with fail
            go_meet
            exact ⟨by first | rw [HV.out] | (rw [← HV.out]; simp; omega), rfl⟩
          have j1 : (122 : Int) < (c.toNat : Int) := by omega
          clear i1 i2 i3 i5 i6 i7 i8 i9
          go_wp2_with fail
          go_meet
          exact ⟨by first | rw [HV.out] | (rw [← HV.out]; simp; omega), rfl⟩
        case rest =>
          obtain ⟨rfl, rfl⟩ := hcut
          have hcv := conv1 c wc
          cases P with
          | true =>
            by_cases h20 : (s.size : Int) < 20
            · have HR : Hid (Lx.word (bs (s ++ ⟨#[c]⟩)) = true) := Lib.hid (by
                rw [bs_app, show bs ⟨#[c]⟩ = [c] from rfl, HWM.out]; simp; try omega)
              go_wp2_with fail
              go_at_call 27; refine (Word_any _ true HR.out _ (by rw [app1_size]; omega)).mono ?_; rintro e w2 ⟨rfl, rfl⟩
              replace B := B.alloc B.size (.cells #[.int .u8 c.toNat] 5)
              go_wp2_with fail
              go_at_call 21; refine (Decimal_k n h0 h1 _ (HE.out.below B)).mono ?_; rintro e w2 ⟨D, hDs, hDl, rfl, b⟩
              replace B := B.trans (b.mono B.size)
              clear b
              have HD := Lib.hid hDs
              clear hDs
              go_wp2_with fail
              go_at_call 25; refine (Lex_ok D _ (by rw [HD.out]; exact Lx.lex_num n (by omega) h1) _ (HE.out.below B) (by omega)).mono ?_; rintro e w2 ⟨g, cap, rfl, t1, hc1, hc2, b⟩
              replace B := B.trans (b.mono B.size)
              have p0 : w2.cell? ⟨g, 0, none⟩ = some (.int .i64 1) := (t1 0 (by simp)).1
              have p1 : w2.cell? ⟨g, 1, none⟩ = some (.string D) := (t1 0 (by simp)).2.1.trans (congrArg (fun x => some (Value.string x)) (by rw [← HD.out]; exact tok_text D))
              have p2 : w2.cell? ⟨g, 2, none⟩ = some (.int .i64 (n)) := (t1 0 (by simp)).2.2.1
              have p3 : w2.cell? ⟨g, 3, none⟩ = some (.int .i64 1) := (t1 0 (by simp)).2.2.2
              clear b t1
              simp only [List.length_cons, List.length_nil, Nat.zero_add, Nat.reduceAdd] at hc1
              go_wp2_with fail
              go_region_held3 (fun w' => w'.cell? ⟨g, 0, none⟩ = some (.int .i64 1) ∧ w'.cell? ⟨g, 1, none⟩ = some (.string D) ∧ w'.cell? ⟨g, 2, none⟩ = some (.int .i64 n) ∧ w'.cell? ⟨g, 3, none⟩ = some (.int .i64 1)) (go_keep)
                ((go_at_call 21; refine (Decimal_is n D HD.out.symm h0 h1 _ (by exact (HE.out.below B).drewN 1)).mono ?_; rintro e w3 ⟨rfl, b⟩; have q0 := keep_cell b (cell_lt p0) p0; have q1 := keep_cell b (cell_lt p0) p1; have q2 := keep_cell b (cell_lt p0) p2; have q3 := keep_cell b (cell_lt p0) p3))
              replace B := B.drew.trans (b.mono B.size)
              clear b
              go_wp2_with fail
              go_ret
              exact ⟨rfl, B⟩
            · have h20' : (20 : Int) ≤ (s.size : Int) := by omega
              have h20d : decide ((s.size : Int) < 20) = false := decide_eq_false h20
              have HR : Hid (Lx.word (bs (s ++ ⟨#[c]⟩)) = false) := Lib.hid (by
                rw [bs_app, show bs ⟨#[c]⟩ = [c] from rfl, HWM.out]; simp; try omega)
              clear h20
              go_wp2_with fail
              go_at_call 27; refine (Word_any _ false HR.out _ (by rw [app1_size]; omega)).mono ?_; rintro e w2 ⟨rfl, rfl⟩
              replace B := B.alloc B.size (.cells #[.int .u8 c.toNat] 5)
              go_wp2_with fail
              go_at_call 21; refine (Decimal_k n h0 h1 _ (HE.out.below B)).mono ?_; rintro e w2 ⟨D, hDs, hDl, rfl, b⟩
              replace B := B.trans (b.mono B.size)
              clear b
              have HD := Lib.hid hDs
              clear hDs
              go_wp2_with fail
              go_at_call 25; refine (Lex_ok D _ (by rw [HD.out]; exact Lx.lex_num n (by omega) h1) _ (HE.out.below B) (by omega)).mono ?_; rintro e w2 ⟨g, cap, rfl, t1, hc1, hc2, b⟩
              replace B := B.trans (b.mono B.size)
              have p0 : w2.cell? ⟨g, 0, none⟩ = some (.int .i64 1) := (t1 0 (by simp)).1
              have p1 : w2.cell? ⟨g, 1, none⟩ = some (.string D) := (t1 0 (by simp)).2.1.trans (congrArg (fun x => some (Value.string x)) (by rw [← HD.out]; exact tok_text D))
              have p2 : w2.cell? ⟨g, 2, none⟩ = some (.int .i64 (n)) := (t1 0 (by simp)).2.2.1
              have p3 : w2.cell? ⟨g, 3, none⟩ = some (.int .i64 1) := (t1 0 (by simp)).2.2.2
              clear b t1
              simp only [List.length_cons, List.length_nil, Nat.zero_add, Nat.reduceAdd] at hc1
              go_wp2_with fail
              go_region_held3 (fun w' => w'.cell? ⟨g, 0, none⟩ = some (.int .i64 1) ∧ w'.cell? ⟨g, 1, none⟩ = some (.string D) ∧ w'.cell? ⟨g, 2, none⟩ = some (.int .i64 n) ∧ w'.cell? ⟨g, 3, none⟩ = some (.int .i64 1)) (go_keep)
                ((go_at_call 21; refine (Decimal_is n D HD.out.symm h0 h1 _ (by exact (HE.out.below B).drewN 1)).mono ?_; rintro e w3 ⟨rfl, b⟩; have q0 := keep_cell b (cell_lt p0) p0; have q1 := keep_cell b (cell_lt p0) p1; have q2 := keep_cell b (cell_lt p0) p2; have q3 := keep_cell b (cell_lt p0) p3))
              replace B := B.drew.trans (b.mono B.size)
              clear b
              go_wp2_with fail
              go_ret
              exact ⟨rfl, B⟩
          | false =>
            by_cases h20 : (s.size : Int) < 20
            · have HR : Hid (Lx.word (bs (s ++ ⟨#[c]⟩)) = false) := Lib.hid (by
                rw [bs_app, show bs ⟨#[c]⟩ = [c] from rfl, HWM.out]; simp; try omega)
              go_wp2_with fail
              go_at_call 27; refine (Word_any _ false HR.out _ (by rw [app1_size]; omega)).mono ?_; rintro e w2 ⟨rfl, rfl⟩
              replace B := B.alloc B.size (.cells #[.int .u8 c.toNat] 5)
              go_wp2_with fail
              go_at_call 21; refine (Decimal_k n h0 h1 _ (HE.out.below B)).mono ?_; rintro e w2 ⟨D, hDs, hDl, rfl, b⟩
              replace B := B.trans (b.mono B.size)
              clear b
              have HD := Lib.hid hDs
              clear hDs
              go_wp2_with fail
              go_at_call 25; refine (Lex_ok D _ (by rw [HD.out]; exact Lx.lex_num n (by omega) h1) _ (HE.out.below B) (by omega)).mono ?_; rintro e w2 ⟨g, cap, rfl, t1, hc1, hc2, b⟩
              replace B := B.trans (b.mono B.size)
              have p0 : w2.cell? ⟨g, 0, none⟩ = some (.int .i64 1) := (t1 0 (by simp)).1
              have p1 : w2.cell? ⟨g, 1, none⟩ = some (.string D) := (t1 0 (by simp)).2.1.trans (congrArg (fun x => some (Value.string x)) (by rw [← HD.out]; exact tok_text D))
              have p2 : w2.cell? ⟨g, 2, none⟩ = some (.int .i64 (n)) := (t1 0 (by simp)).2.2.1
              have p3 : w2.cell? ⟨g, 3, none⟩ = some (.int .i64 1) := (t1 0 (by simp)).2.2.2
              clear b t1
              simp only [List.length_cons, List.length_nil, Nat.zero_add, Nat.reduceAdd] at hc1
              go_wp2_with fail
              go_region_held3 (fun w' => w'.cell? ⟨g, 0, none⟩ = some (.int .i64 1) ∧ w'.cell? ⟨g, 1, none⟩ = some (.string D) ∧ w'.cell? ⟨g, 2, none⟩ = some (.int .i64 n) ∧ w'.cell? ⟨g, 3, none⟩ = some (.int .i64 1)) (go_keep)
                ((go_at_call 21; refine (Decimal_is n D HD.out.symm h0 h1 _ (by exact (HE.out.below B).drewN 1)).mono ?_; rintro e w3 ⟨rfl, b⟩; have q0 := keep_cell b (cell_lt p0) p0; have q1 := keep_cell b (cell_lt p0) p1; have q2 := keep_cell b (cell_lt p0) p2; have q3 := keep_cell b (cell_lt p0) p3))
              replace B := B.drew.trans (b.mono B.size)
              clear b
              go_wp2_with fail
              go_ret
              exact ⟨rfl, B⟩
            · have h20' : (20 : Int) ≤ (s.size : Int) := by omega
              have h20d : decide ((s.size : Int) < 20) = false := decide_eq_false h20
              have HR : Hid (Lx.word (bs (s ++ ⟨#[c]⟩)) = false) := Lib.hid (by
                rw [bs_app, show bs ⟨#[c]⟩ = [c] from rfl, HWM.out]; simp; try omega)
              clear h20
              go_wp2_with fail
              go_at_call 27; refine (Word_any _ false HR.out _ (by rw [app1_size]; omega)).mono ?_; rintro e w2 ⟨rfl, rfl⟩
              replace B := B.alloc B.size (.cells #[.int .u8 c.toNat] 5)
              go_wp2_with fail
              go_at_call 21; refine (Decimal_k n h0 h1 _ (HE.out.below B)).mono ?_; rintro e w2 ⟨D, hDs, hDl, rfl, b⟩
              replace B := B.trans (b.mono B.size)
              clear b
              have HD := Lib.hid hDs
              clear hDs
              go_wp2_with fail
              go_at_call 25; refine (Lex_ok D _ (by rw [HD.out]; exact Lx.lex_num n (by omega) h1) _ (HE.out.below B) (by omega)).mono ?_; rintro e w2 ⟨g, cap, rfl, t1, hc1, hc2, b⟩
              replace B := B.trans (b.mono B.size)
              have p0 : w2.cell? ⟨g, 0, none⟩ = some (.int .i64 1) := (t1 0 (by simp)).1
              have p1 : w2.cell? ⟨g, 1, none⟩ = some (.string D) := (t1 0 (by simp)).2.1.trans (congrArg (fun x => some (Value.string x)) (by rw [← HD.out]; exact tok_text D))
              have p2 : w2.cell? ⟨g, 2, none⟩ = some (.int .i64 (n)) := (t1 0 (by simp)).2.2.1
              have p3 : w2.cell? ⟨g, 3, none⟩ = some (.int .i64 1) := (t1 0 (by simp)).2.2.2
              clear b t1
              simp only [List.length_cons, List.length_nil, Nat.zero_add, Nat.reduceAdd] at hc1
              go_wp2_with fail
              go_region_held3 (fun w' => w'.cell? ⟨g, 0, none⟩ = some (.int .i64 1) ∧ w'.cell? ⟨g, 1, none⟩ = some (.string D) ∧ w'.cell? ⟨g, 2, none⟩ = some (.int .i64 n) ∧ w'.cell? ⟨g, 3, none⟩ = some (.int .i64 1)) (go_keep)
                ((go_at_call 21; refine (Decimal_is n D HD.out.symm h0 h1 _ (by exact (HE.out.below B).drewN 1)).mono ?_; rintro e w3 ⟨rfl, b⟩; have q0 := keep_cell b (cell_lt p0) p0; have q1 := keep_cell b (cell_lt p0) p1; have q2 := keep_cell b (cell_lt p0) p2; have q3 := keep_cell b (cell_lt p0) p3))
              replace B := B.drew.trans (b.mono B.size)
              clear b
              go_wp2_with fail
              go_ret
              exact ⟨rfl, B⟩
  · have hs' : (300 : Int) < (s.size : Int) := by omega
    go_enter Tryd.func8, Tryd.ntmps8
    go_wp2_with fail
    go_at_call 24; refine (small9_any _ HE.out).mono ?_; rintro e w1 ⟨rfl, B⟩
    go_wp2_with fail
    go_ret
    exact ⟨rfl, B⟩
end Go.Proofs.YtdjiimblfhbcjaaDoor
