/- LexJoins. -/
import Derived.Test.YtdjiimblfhbcjaaDoorLxLaw3
namespace Go.Proofs.YtdjiimblfhbcjaaDoor
set_option linter.unusedSimpArgs false
open Go.RowKit

theorem Lex_errI (src : ByteArray) (z ln : Nat) (li : Int) (hli : li = (ln : Int)) (h : Lx.lex (bs src) 1 = .error (z, ln)) (w : World) (hE : Env w) (hs : src.size ≤ 20000) :
    Calls Tryd.prog 25 #[.string src] w fun e w' => e = .returned (.tuple #[.slice none 0 0, .int .i64 z, .int .i64 li]) ∧ Below w.heap.size w w' := by
  subst hli; exact Lex_err src z ln h w hE hs
theorem keepc2 {w w3 : World} {b o : Nat} {v : Value} (h : Below w.heap.size w w3) (hc : w.cell? ⟨b, o, none⟩ = some v) : w3.cell? ⟨b, o, none⟩ = some v :=
  (h.cell (p := ⟨b, o, none⟩) (cell_lt hc)).trans hc
theorem bs_join (a b : ByteArray) : bs (a ++ ⟨#[10]⟩ ++ b) = bs a ++ 10 :: bs b := by
  rw [bs_app2, bs_app2, show bs ⟨#[10]⟩ = [10] from rfl]; simp
theorem size_join (a b : ByteArray) (ha : a.size ≤ 5000) (hb : b.size ≤ 5000) : (a ++ ⟨#[10]⟩ ++ b).size ≤ 20000 := by
  rw [size_app2, size_app2, show (⟨#[10]⟩ : ByteArray).size = 1 from rfl]; omega
theorem TS.front {w : World} {g n cap : Nat} {ts front rest : List Lx.Tok} (h : TS w (.slice (some ⟨g, 0, none⟩) n cap) ts) (hts : ts = front ++ rest) (m : Nat) (hm : m = front.length) : TS w (.slice (some ⟨g, 0, none⟩) m cap) front := by
  have := h.part 0 m (Nat.zero_le _) (by rw [hts, hm, List.length_append]; omega)
  rw [hts, hm, List.take_left, List.drop_zero, Nat.zero_mul, Nat.add_zero, Nat.sub_zero, Nat.sub_zero, ← hm] at this
  exact this
theorem TS.back {w : World} {g n cap : Nat} {ts front rest : List Lx.Tok} (h : TS w (.slice (some ⟨g, 0, none⟩) n cap) ts) (hts : ts = front ++ rest) (m q : Nat) (hm : m = front.length) (hq : q = n - m) (hn : n = ts.length) : TS w (.slice (some ⟨g, m * 4, none⟩) q (cap - m)) rest := by
  have := h.part m n (by rw [hn, hts, hm, List.length_append]; omega) (by omega)
  rw [hn, List.take_length, ← hn, hts, hm, List.drop_left, ← hm, ← hq, Nat.zero_add] at this
  exact this

set_option maxRecDepth 100000 in
set_option maxHeartbeats 32000000 in
theorem LexJoins_any (a b : ByteArray) (w : World) (hE : Env w) :
    Calls Tryd.prog 6 #[.string a, .string b] w fun e w' => e = .returned (.bool true) ∧ Below w.heap.size w w' := by
  have HE := Lib.hid hE
  clear hE
  by_cases ha : a.size ≤ 5000
  · by_cases hb : b.size ≤ 5000
    · cases hla : Lx.lex (bs a) 1 with
      | error x =>
        obtain ⟨z, ln⟩ := x
        have hzz := (Lx.lex_codes _ _ _ _ (Nat.lt_succ_self _) hla).1
        dsimp only at hzz
        have ezz : ((z : Int) == 0) = false := beq_eq_false_iff_ne.2 (by omega)
        have nzz : ((z : Int) != 0) = true := by rw [bne, ezz]; rfl
        clear hzz
        have HA := Lib.hid hla
        clear hla
        cases hlb : Lx.lex (bs b) 1 with
        | error y =>
          obtain ⟨y1, ly⟩ := y
          have HB := Lib.hid hlb
          clear hlb
          go_enter Tryd.func6, Tryd.ntmps6
          go_wp2_with fail
          go_at_call 24; refine (small9_any _ HE.out).mono ?_; rintro e w1 ⟨rfl, B⟩
          go_wp2_with fail
          go_at_call 25; refine (Lex_err a z ln HA.out _ (HE.out.below B) (by omega)).mono ?_; rintro e w2 ⟨rfl, c⟩
          replace B := B.trans (c.mono B.size)
          clear c
          go_wp2_with fail
          go_at_call 25; refine (Lex_err b y1 ly HB.out _ (HE.out.below B) (by omega)).mono ?_; rintro e w2 ⟨rfl, c⟩
          replace B := B.trans (c.mono B.size)
          clear c
          go_wp2_with fail
          go_ret
          exact ⟨rfl, B⟩
        | ok ys =>
          have HB := Lib.hid hlb
          clear hlb
          go_enter Tryd.func6, Tryd.ntmps6
          go_wp2_with fail
          go_at_call 24; refine (small9_any _ HE.out).mono ?_; rintro e w1 ⟨rfl, B⟩
          go_wp2_with fail
          go_at_call 25; refine (Lex_err a z ln HA.out _ (HE.out.below B) (by omega)).mono ?_; rintro e w2 ⟨rfl, c⟩
          replace B := B.trans (c.mono B.size)
          clear c
          go_wp2_with fail
          go_at_call 25; refine (Lex_ok b ys HB.out _ (HE.out.below B) (by omega)).mono ?_; rintro e w2 ⟨g, cap, rfl, -, hc1, hc2, c⟩
          replace B := B.trans (c.mono B.size)
          clear c
          go_wp2_with fail
          go_ret
          exact ⟨rfl, B⟩
      | ok xs =>
        have hj := Lx.lex_joins (bs a) (bs b) xs hla
        obtain ⟨front, mm, hx, hm1, hj⟩ := hj
        have hxl := Lx.lex_lines _ _ _ _ (Nat.lt_succ_self _) hla
        obtain ⟨hxln, hxn, -⟩ := hxl
        rw [bs_len] at hxn
        have hmm : mm ≤ 5001 := by
          have := hxln ⟨4, [], 0, mm⟩ (by rw [hx]; simp)
          rw [bs_len] at this; dsimp only at this; omega
        have hnf : xs.length = front.length + 1 := by rw [hx, List.length_append]; rfl
        have hlast : (front ++ [(⟨4, [], 0, mm⟩ : Lx.Tok)])[front.length]'(by simp) = ⟨4, [], 0, mm⟩ := by simp
        have HX := Lib.hid hx
        have HXL := Lib.hid hxln
        have HA := Lib.hid hla
        clear hla hxln
        cases hlb : Lx.lex (bs b) 1 with
        | error y =>
          obtain ⟨y1, ly⟩ := y
          have hcd := Lx.lex_codes _ _ _ _ (Nat.lt_succ_self _) hlb
          obtain ⟨-, -, hly⟩ := hcd
          rw [bs_len] at hly
          dsimp only at hly
          have hzy1 := (Lx.lex_codes _ _ _ _ (Nat.lt_succ_self _) hlb).1
          dsimp only at hzy1
          have ezy1 : ((y1 : Int) == 0) = false := beq_eq_false_iff_ne.2 (by omega)
          have nzy1 : ((y1 : Int) != 0) = true := by rw [bne, ezy1]; rfl
          clear hzy1
          rw [hlb] at hj
          have HJ : Hid (Lx.lex (bs (a ++ ⟨#[10]⟩ ++ b)) 1 = .error (y1, ly + mm)) := Lib.hid (by rw [bs_join]; exact hj)
          have HB := Lib.hid hlb
          clear hlb hj
          go_enter Tryd.func6, Tryd.ntmps6
          go_wp2_with fail
          go_at_call 24; refine (small9_any _ HE.out).mono ?_; rintro e w1 ⟨rfl, B⟩
          go_wp2_with fail
          go_at_call 25; refine (Lex_ok a xs HA.out _ (HE.out.below B) (by omega)).mono ?_; rintro e w2 ⟨g, cap, rfl, t1, hc1, hc2, c⟩
          replace B := B.trans (c.mono B.size)
          have p3 : w2.cell? ⟨g, (xs.length - 1) * 4 + 3, none⟩ = some (.int .i64 mm) := by
            have := (t1 (xs.length - 1) (by omega)).2.2.2
            rw [this]
            have e1 : (xs[xs.length - 1]'(by omega)) = ⟨4, [], 0, mm⟩ := by subst hx; simp
            rw [e1]
          clear c t1 hx
          generalize hnn : xs.length = n at *
          have n0 : ((n : Int) == 0) = false := beq_eq_false_iff_ne.2 (by omega)
          have t2 : IntKind.i64.wrap ((n : Int) - 1) = (n : Int) - 1 := by rw [IntWalk.i64_in _ (by omega)]
          have t3 : (0 : Int) ≤ (n : Int) - 1 := by omega
          have t4 : (n : Int) - 1 < (n : Int) := by omega
          have t5 : ((n : Int) - 1).toNat = n - 1 := by omega
          have HN := Lib.hid hnn
          have HNF := Lib.hid hnf
          have hn1 : 1 ≤ n := by omega
          clear hnn hnf t2 hlast
          go_wp2_with fail
          go_at_call 25; refine (Lex_err b y1 ly HB.out _ (HE.out.below B) (by omega)).mono ?_; rintro e w3 ⟨rfl, c⟩
          replace p3 := keepc2 c p3
          replace B := B.trans (c.mono B.size)
          clear c
          go_wp2_with fail
          go_at_call 25; refine (Lex_errI _ y1 (ly + mm) ((ly : Int) + (mm : Int)) (by omega) (by exact HJ.out) _ (HE.out.below B) (by exact size_join a b ha hb)).mono ?_; rintro e w4 ⟨rfl, c⟩
          replace p3 := keepc2 c p3
          replace B := B.trans (c.mono B.size)
          clear c
          go_wp2_with fail
          go_ret
          exact ⟨rfl, B⟩
        | ok ys =>
          have hyl := Lx.lex_lines _ _ _ _ (Nat.lt_succ_self _) hlb
          obtain ⟨hyln, hyn, hyne⟩ := hyl
          rw [bs_len] at hyn
          have hypos : 0 < ys.length := List.length_pos_iff.2 hyne
          rw [hlb] at hj
          obtain ⟨zs, hzs⟩ : ∃ zs, zs = (front ++ [(⟨3, [], 0, mm⟩ : Lx.Tok)]) ++ ys.map (Lx.later mm) := ⟨_, rfl⟩
          have HJ : Hid (Lx.lex (bs (a ++ ⟨#[10]⟩ ++ b)) 1 = .ok zs) := Lib.hid (by rw [bs_join, hj, hzs]; simp)
          have hzl : zs.length = xs.length + ys.length := by rw [hzs, hnf]; simp; omega
          have HZS := Lib.hid hzs
          have HYL := Lib.hid hyln
          have HB := Lib.hid hlb
          clear hlb hj hyln hyne hzs
          go_enter Tryd.func6, Tryd.ntmps6
          go_wp2_with fail
          go_at_call 24; refine (small9_any _ HE.out).mono ?_; rintro e w1 ⟨rfl, B⟩
          go_wp2_with fail
          go_at_call 25; refine (Lex_ok a xs HA.out _ (HE.out.below B) (by omega)).mono ?_; rintro e w2 ⟨g, cap, rfl, t1, hc1, hc2, c⟩
          replace B := B.trans (c.mono B.size)
          have p3 : w2.cell? ⟨g, (xs.length - 1) * 4 + 3, none⟩ = some (.int .i64 mm) := by
            have := (t1 (xs.length - 1) (by omega)).2.2.2
            rw [this]
            have e1 : (xs[xs.length - 1]'(by omega)) = ⟨4, [], 0, mm⟩ := by subst hx; simp
            rw [e1]
          have TX := Lib.hid (TK.ts t1 hc1 hc2)
          clear c t1 hx hlast
          generalize hnn : xs.length = n at *
          have n0 : ((n : Int) == 0) = false := beq_eq_false_iff_ne.2 (by omega)
          have t3 : (0 : Int) ≤ (n : Int) - 1 := by omega
          have t4 : (n : Int) - 1 < (n : Int) := by omega
          have t5 : ((n : Int) - 1).toNat = n - 1 := by omega
          have HN := Lib.hid hnn
          have HNF : Hid (n - 1 = front.length) := Lib.hid (by omega)
          have HNF2 : Hid (n = (front ++ [(⟨3, [], 0, mm⟩ : Lx.Tok)]).length) := Lib.hid (by simp; omega)
          have hn1 : 1 ≤ n := by omega
          clear hnn hnf
          go_wp2_with fail
          go_at_call 25; refine (Lex_ok b ys HB.out _ (HE.out.below B) (by omega)).mono ?_; rintro e w3 ⟨g2, cap2, rfl, t1, hd1, hd2, c⟩
          replace p3 := keepc2 c p3
          replace TX := Lib.hid (TX.out.keep c)
          have TY := Lib.hid (TK.ts t1 hd1 hd2)
          replace B := B.trans (c.mono B.size)
          clear c t1
          generalize hqq : ys.length = q at *
          have HQ := Lib.hid hqq
          clear hqq
          go_wp2_with fail
          go_at_call 25; refine (Lex_ok _ zs (by exact HJ.out) _ (HE.out.below B) (by exact size_join a b ha hb)).mono ?_; rintro e w4 ⟨g3, cap3, rfl, t1, he1, he2, c⟩
          replace p3 := keepc2 c p3
          have TX1 := Lib.hid ((TX.out.keep c).front HX.out (n - 1) HNF.out)
          have TY1 := Lib.hid (TY.out.keep c)
          have TZ := TK.ts t1 he1 he2
          have TZ1 := Lib.hid (TZ.front (HZS.out.trans (List.append_assoc ..)) (n - 1) HNF.out)
          have TZ2 := Lib.hid (TZ.back HZS.out n q HNF2.out (by omega) rfl)
          have hfe : (zs[n - 1]'(by omega)) = ⟨3, [], 0, mm⟩ := by
            have h2 : zs[n - 1]? = some (⟨3, [], 0, mm⟩ : Lx.Tok) := by
              rw [HZS.out, HNF.out, List.append_assoc, List.getElem?_append_right (Nat.le_refl _), Nat.sub_self]; rfl
            exact (List.getElem?_eq_some_iff.1 h2).2
          have u := t1 (n - 1) (by omega)
          rw [hfe] at u
          obtain ⟨u0, u1, u2, u3⟩ := u
          dsimp only at u0 u1 u2 u3
          replace B := B.trans (c.mono B.size)
          clear c t1 TX TY TZ hfe
          generalize hzz : zs.length = nz at *
          have z0 : ((nz : Int) == (n : Int) + (q : Int)) = true := beq_iff_eq.2 (by omega)
          have z1 : ((nz : Int) != (n : Int) + (q : Int)) = false := by rw [bne, z0]; rfl
          have z2 : (n : Int) - 1 < (nz : Int) := by omega
          have z3 : (n : Int) - 1 ≤ (cap3 : Int) := by omega
          have z4 : (n : Int) ≤ (nz : Int) := by omega
          have z5 : (n : Int) ≤ (cap3 : Int) := by omega
          have z6 : (n : Int) - 1 ≤ (cap : Int) := by omega
          have z7 : ¬ cap3 = n := by omega
          have z9 : ¬ cap3 = 0 := by omega
          have z10 : ¬ cap = 0 := by omega
          have z11 : (0 : Int) ≤ (cap3 : Int) := by omega
          have z12 : (1 : Int) ≤ (n : Int) := by omega
          have z13 : (n : Int) ≤ (cap3 : Int) + 1 := by omega
          have z14 : (n : Int) ≤ (cap : Int) + 1 := by omega
          have z15 : n ≤ cap3 + 1 := by omega
          have z16 : n ≤ cap + 1 := by omega
          have z17 : n - 1 ≤ cap3 := by omega
          have z18 : n - 1 ≤ cap := by omega
          have z19 : (0 : Int) ≤ (cap : Int) := by omega
          have z8 : nz - n = q := by omega
          have HZZ := Lib.hid hzz
          have HZL := Lib.hid hzl
          clear hzz hzl
          go_wp2_with fail
          generalize hW : World.alloc w4 _ = W2
          have b2 : Below w4.heap.size w4 W2 := hW ▸ (Below.refl _ _).alloc (Nat.le_refl _) _
          have s0 : W2.cell? ⟨w4.heap.size, 0, none⟩ = some (.int .i64 3) := hW ▸ World.cell?_alloc_new _ _ _ _
          have s1 : W2.cell? ⟨w4.heap.size, 1, none⟩ = some (.string ⟨#[]⟩) := hW ▸ World.cell?_alloc_new _ _ _ _
          have s2 : W2.cell? ⟨w4.heap.size, 2, none⟩ = some (.int .i64 0) := hW ▸ World.cell?_alloc_new _ _ _ _
          have s3 : W2.cell? ⟨w4.heap.size, 3, none⟩ = some (.int .i64 mm) := hW ▸ World.cell?_alloc_new _ _ _ _
          have HB1 : Hid (Below w4.heap.size w4 W2.drew) := Lib.hid b2.drew
          have TX_Z := Lib.hid (TZ1.out.keep HB1.out)
          have TX_X := Lib.hid (TX1.out.keep HB1.out)
          have HLF : Hid (∀ t ∈ front, t.line ≤ 1000000000) := Lib.hid (fun t ht => by
            have := HXL.out t (by rw [HX.out]; exact List.mem_append_left _ ht)
            rw [bs_len] at this; omega)
          have HLY : Hid (∀ t ∈ ys, t.line ≤ 1000000000) := Lib.hid (fun t ht => by have := HYL.out t ht; rw [bs_len] at this; omega)
          have hmm9 : mm ≤ 1000000000 := by omega
          have hws : w4.heap.size < W2.heap.size := cell_lt s0
          have t2 : IntKind.i64.wrap ((n : Int) - 1) = (n : Int) - 1 := by rw [IntWalk.i64_in _ (by omega)]
          clear hW b2 p3 u0 u1 u2 u3
          go_region_held3 (fun w' => w'.cell? ⟨w4.heap.size, 0, none⟩ = some (.int .i64 3) ∧ w'.cell? ⟨w4.heap.size, 1, none⟩ = some (.string ⟨#[]⟩) ∧ w'.cell? ⟨w4.heap.size, 2, none⟩ = some (.int .i64 0) ∧ w'.cell? ⟨w4.heap.size, 3, none⟩ = some (.int .i64 mm)) (go_keep)
            (first
              | ((go_at_call 26; with_reducible refine (Same_k _ _ front (by exact TX_Z.out) (by exact TX_X.out) HLF.out).mono ?_); rintro e w5 ⟨rfl, b5⟩; have r0 := keep_cell b5 hws s0; have r1 := keep_cell b5 hws s1; have r2 := keep_cell b5 hws s2; have r3 := keep_cell b5 hws s3)
              | ((go_at_call 26; with_reducible refine (Same_true _ _ ys mm _ rfl _ (by exact TZ2.out.keep (HB1.out.trans (b5.mono HB1.out.size))) (by exact TY1.out.keep (HB1.out.trans (b5.mono HB1.out.size))) HLY.out hmm9).mono ?_); rintro e w6 ⟨rfl, b6⟩; have q0 := keepc2 b6 r0; have q1 := keepc2 b6 r1; have q2 := keepc2 b6 r2; have q3 := keepc2 b6 r3))
          all_goals
            go_wp2_with fail
            go_ret
            exact ⟨rfl, ((B.trans (HB1.out.mono B.size)).trans (b5.mono (Nat.le_trans B.size HB1.out.size))).trans (b6.mono (Nat.le_trans (Nat.le_trans B.size HB1.out.size) b5.size))⟩
    · have hb' : (5000 : Int) < (b.size : Int) := by omega
      go_enter Tryd.func6, Tryd.ntmps6
      go_wp2_with fail
      go_at_call 24; refine (small9_any _ HE.out).mono ?_; rintro e w1 ⟨rfl, B⟩
      go_wp2_with fail
      go_ret
      exact ⟨rfl, B⟩
  · have ha' : (5000 : Int) < (a.size : Int) := by omega
    go_enter Tryd.func6, Tryd.ntmps6
    go_wp2_with fail
    go_at_call 24; refine (small9_any _ HE.out).mono ?_; rintro e w1 ⟨rfl, B⟩
    go_wp2_with fail
    go_ret
    exact ⟨rfl, B⟩
end Go.Proofs.YtdjiimblfhbcjaaDoor
