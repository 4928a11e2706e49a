/- Parts Fe of this claim, laid one behind the other: walks and the plain laws behind them; each contract states its own conditions. -/
import Derived.Test.YtcdfmgobokjcnaaGreatDoorYA
/- Walks of package fault: Allows, Left, Within, Run. -/
namespace Go.Proofs.YtcdfmgobokjcnaaGreatDoor
set_option linter.unusedSimpArgs false
set_option linter.unusedVariables false
open Go.RowKit

theorem spendV_ok (b : Fa.Bud) (o : Option Fa.Bud) : ∃ c e, spendV b o = .tuple #[.agg (budA c), .int .i64 e] ∧ c = o.getD b ∧ (e == 0) = o.isSome ∧ (o = none → e = 26) ∧ (o ≠ none → e = 0) := by
  cases o with
  | none => exact ⟨b, 26, rfl, rfl, rfl, fun _ => rfl, fun h => absurd rfl h⟩
  | some c => exact ⟨c, 0, rfl, rfl, rfl, (fun h => by cases h), fun _ => rfl⟩
set_option maxRecDepth 100000 in
set_option maxHeartbeats 8000000 in
theorem Allows_any (b : Fa.Bud) (x : Fa.Flt) (w : World) (hb : BudN b) :
    Calls Tryz.prog 17 #[.agg (budA b), fltV x] w fun e w' => e = .returned (.bool (Fa.allowsB b x)) ∧ Below w.heap.size w w' := by
  obtain ⟨c, ev, h1, h2, h3, -, -⟩ := spendV_ok b (Fa.spend b x)
  have HS : Hid (∀ W, _) := Lib.hid (fun W => by have := Spend_any b x W hb; rw [h1] at this; exact this)
  have HA : Hid ((ev == 0) = Fa.allowsB b x) := Lib.hid h3
  obtain ⟨A0, A1, A2, A3⟩ := al2 w (.cells (budA b) 36) (.cells #[.int .i64 x.kind, .int .i64 x.a, .int .i64 x.n] 38)
  obtain ⟨R, hR⟩ : ∃ R, Fa.allowsB b x = R := ⟨_, rfl⟩
  rw [hR] at HA ⊢
  have HB1 := Lib.hid A2
  clear h1 h2 h3 hR A0 A1 A2 A3
  unfold fltV budA at *
  cases R with
  | true =>
    have e0 := HA.out
    go_enter Tryz.func17, Tryz.ntmps17
    go_wp2_with fail
    go_at_call 11; refine (HS.out _).mono ?_; rintro e w1 ⟨rfl, b1⟩
    have B1 := Lib.hid (HB1.out.trans (b1.mono HB1.out.size))
    clear b1
    go_wp2_with fail
    go_ret
    exact ⟨rfl, B1.out.alloc B1.out.size _⟩
  | false =>
    have e0 := HA.out
    go_enter Tryz.func17, Tryz.ntmps17
    go_wp2_with fail
    go_at_call 11; refine (HS.out _).mono ?_; rintro e w1 ⟨rfl, b1⟩
    have B1 := Lib.hid (HB1.out.trans (b1.mono HB1.out.size))
    clear b1
    go_wp2_with fail
    go_ret
    exact ⟨rfl, B1.out.alloc B1.out.size _⟩
/-- The numbers are small enough that no sum wraps. -/
structure BudS (b : Fa.Bud) : Prop where
  h1 : 0 ≤ b.stops ∧ b.stops ≤ 1000000
  h2 : 0 ≤ b.cells ∧ b.cells ≤ 1000000
  h3 : 0 ≤ b.mutes ∧ b.mutes ≤ 1000000
  h4 : 0 ≤ b.lifts ∧ b.lifts ≤ 1000000
  h5 : 0 ≤ b.steps ∧ b.steps ≤ 1000000
set_option maxRecDepth 100000 in
set_option maxHeartbeats 4000000 in
theorem Left_any (b : Fa.Bud) (w : World) (hb : BudS b) :
    Calls Tryz.prog 19 #[.agg (budA b)] w fun e w' => e = .returned (.int .i64 (Fa.left b)) ∧ Below w.heap.size w w' := by
  have B1 := Lib.hid ((Below.refl _ w).alloc (Nat.le_refl _) (.cells (budA b) 36))
  have HL : Hid (Fa.left b = b.stops + b.cells + b.mutes + b.lifts + b.steps) := Lib.hid rfl
  obtain ⟨⟨a1, a2⟩, ⟨a3, a4⟩, ⟨a5, a6⟩, ⟨a7, a8⟩, a9, a10⟩ := hb
  unfold budA at B1 ⊢
  go_enter Tryz.func19, Tryz.ntmps19
  go_wp2_with fail
  go_ret
  exact ⟨by rw [HL.out]; rfl, B1.out⟩
def withinN (a b : Fa.Bud) (i : Int) : Bool := decide (Fa.num a i ≤ Fa.num b i)
def withinB (a b : Fa.Bud) : Bool := decide (a.stops ≤ b.stops) && (decide (a.cells ≤ b.cells) && (decide (a.mutes ≤ b.mutes) && (decide (a.lifts ≤ b.lifts) && (decide (a.steps ≤ b.steps) && (decide (a.muteMost ≤ b.muteMost) && decide (a.liftMost ≤ b.liftMost))))))
theorem withinB_of {a b : Fa.Bud} (h : ∀ i, 1 ≤ i → i < 6 → withinN a b i = true) : withinB a b = (decide (a.muteMost ≤ b.muteMost) && decide (a.liftMost ≤ b.liftMost)) := by
  have h1 := h 1 (by omega) (by omega)
  have h2 := h 2 (by omega) (by omega)
  have h3 := h 3 (by omega) (by omega)
  have h4 := h 4 (by omega) (by omega)
  have h5 := h 5 (by omega) (by omega)
  unfold withinN Fa.num at h1 h2 h3 h4 h5
  simp at h1 h2 h3 h4 h5
  unfold withinB
  rw [decide_eq_true h1, decide_eq_true h2, decide_eq_true h3, decide_eq_true h4, decide_eq_true h5]; rfl
theorem withinB_no {a b : Fa.Bud} {i : Int} (h1 : 1 ≤ i) (h6 : i < 6) (h : withinN a b i = false) : withinB a b = false := by
  unfold withinN Fa.num at h
  unfold withinB
  rcases (by omega : i = 1 ∨ i = 2 ∨ i = 3 ∨ i = 4 ∨ i = 5) with rfl | rfl | rfl | rfl | rfl <;> (simp at h; rw [decide_eq_false (Int.not_le.2 h)]; simp)
set_option maxRecDepth 100000 in
set_option maxHeartbeats 8000000 in
theorem fWithin_any (a b : Fa.Bud) (w : World) :
    Calls Tryz.prog 21 #[.agg (budA a), .agg (budA b)] w fun e w' => e = .returned (.bool (withinB a b)) ∧ Below w.heap.size w w' := by
  have HN := Lib.hid (fun B k W h => number_in B k W h)
  have HY := Lib.hid (withinB_of (a := a) (b := b))
  have HX := Lib.hid (fun i h1 h6 h => withinB_no (a := a) (b := b) (i := i) h1 h6 h)
  obtain ⟨R, hR⟩ : ∃ R, withinB a b = R := ⟨_, rfl⟩
  rw [hR] at HY HX ⊢
  clear hR
  have A1 := Lib.hid (al4 w (.cells (budA a) 36) (.cells (budA b) 36) (.cells (budA a) 65) (.cells (budA b) 65))
  have A2 := Lib.hid (al4 w (.cells (budA a) 36) (.cells (budA b) 36) (.cells (budA b) 65) (.cells (budA a) 65))
  unfold budA at A1 A2 ⊢
  go_enter Tryz.func21, Tryz.ntmps21
  go_upto_region 1 with fail
  go_cut [5, 6] (fun v5 v6 wr => ∃ x y, v5 = .pointer (some ⟨x, 0, none⟩) ∧ v6 = .pointer (some ⟨y, 0, none⟩) ∧ Hid (BudAt wr w.heap.size a 36) ∧ Hid (BudAt wr (w.heap.size + 1) b 36) ∧ Hid (BudAt wr x a 65) ∧ Hid (BudAt wr y b 65) ∧ Hid (Below w.heap.size w wr))
  case first =>
    go_region
    all_goals go_wp2_with fail
    all_goals
      go_meet
      first
        | exact ⟨_, _, rfl, rfl, Lib.hid A1.out.1, Lib.hid A1.out.2.1, Lib.hid A1.out.2.2.1, Lib.hid A1.out.2.2.2.1, Lib.hid (A1.out.2.2.2.2.1.trans (below_drewN _ _ 1))⟩
        | exact ⟨_, _, rfl, rfl, Lib.hid A2.out.1, Lib.hid A2.out.2.1, Lib.hid A2.out.2.2.2.1, Lib.hid A2.out.2.2.1, Lib.hid (A2.out.2.2.2.2.1.trans (below_drewN _ _ 1))⟩
  case rest =>
    obtain ⟨x, y, rfl, rfl, I0, I1, I2, I3, BW⟩ := hcut
    clear A1 A2
    go_wp2_with fail
    go_loopw [7] (fun iv wr => ∃ i : Int, 1 ≤ i ∧ i ≤ 6 ∧ iv = .int .i64 i ∧ Hid (∀ j, 1 ≤ j → j < i → withinN a b j = true) ∧ Hid (Below wc.heap.size wc wr)) (fun iv _ => (6 - intOf iv).toNat)
    case atStart => exact ⟨1, by omega, by omega, rfl, Lib.hid (fun j h1 h2 => by omega), Lib.hid (Below.refl _ _)⟩
    case round =>
      obtain ⟨i, i1, i6, rfl, HA, HBl⟩ := hrel
      by_cases hi : i < 6
      · have K2 := Lib.hid (I2.out.keep HBl.out)
        have K3 := Lib.hid (I3.out.keep HBl.out)
        have c2 := K2.out.num i
        have c3 := K3.out.num i
        have lx := K2.out.lt
        have ly := K3.out.lt
        have HC := Lib.hid (fun X W => HN.out X i W ⟨i1, by omega⟩)
        have HZi : Hid (withinN a b i = !decide (Fa.num b i < Fa.num a i)) := Lib.hid (by unfold withinN; by_cases h : Fa.num a i ≤ Fa.num b i <;> simp [h, Int.not_lt.2]; omega)
        have HXi := Lib.hid (HX.out i i1 hi)
        obtain ⟨va, hva⟩ : ∃ v, Fa.num a i = v := ⟨_, rfl⟩
        obtain ⟨vb, hvb⟩ : ∃ v, Fa.num b i = v := ⟨_, rfl⟩
        obtain ⟨O, hO⟩ : ∃ v, offN i = v := ⟨_, rfl⟩
        rw [hva, hvb] at HZi
        rw [hva, hO] at c2
        rw [hvb, hO] at c3
        rw [hO] at HC
        obtain ⟨z, hz⟩ : ∃ z, decide (vb < va) = z := ⟨_, rfl⟩
        rw [hz] at HZi
        have HZ := Lib.hid hz
        clear hva hvb hO hz
        go_upto_region 5 with fail
        go_cut [22] (fun v22 wq => v22 = .bool z ∧ Hid (Below wr.heap.size wr wq))
        case first =>
          have d22 := HZ.out
          have BX : Below wr.heap.size wr wr.drew := below_drewN _ _ 1
          go_region_held3 (fun w' => w'.cell? ⟨x, O, none⟩ = some (.int .i64 va) ∧ w'.cell? ⟨y, O, none⟩ = some (.int .i64 vb)) (go_keep)
            (first | ((go_at_call 36; with_reducible refine (HC.out x _).mono ?_; rintro e w5 ⟨rfl, b5⟩; have BX : Below wr.heap.size wr w5 := BX.trans (b5.mono BX.size); have s2 := (BX.cell (p := ⟨x, O, none⟩) lx).trans c2; have s3 := (BX.cell (p := ⟨y, O, none⟩) ly).trans c3; clear b5)) | ((go_at_call 36; with_reducible refine (HC.out y _).mono ?_; rintro e w5 ⟨rfl, b5⟩; have BX : Below wr.heap.size wr w5 := BX.trans (b5.mono BX.size); have s2 := (BX.cell (p := ⟨x, O, none⟩) lx).trans c2; have s3 := (BX.cell (p := ⟨y, O, none⟩) ly).trans c3; clear b5)))
          all_goals go_wp2_with fail
          all_goals
            go_meet
            exact ⟨rfl, Lib.hid BX⟩
        case rest =>
          obtain ⟨rfl, HBQ⟩ := hcut
          have HB2 := Lib.hid (HBl.out.trans (HBQ.out.mono HBl.out.size))
          clear c2 c3 lx ly
          cases z with
          | false =>
            go_wp2_with fail
            go_roundw
            case rel => exact ⟨i + 1, by omega, by omega, by go_num, Lib.hid (fun j h1 h2 => by
              by_cases e : j = i
              · rw [e]; exact HZi.out
              · exact HA.out j h1 (by omega)), HB2⟩
            case measure => simp [intOf]; omega
          | true =>
            have HP := Lib.hid (HXi.out HZi.out)
            go_wp2_with fail
            go_ret
            exact ⟨by rw [HP.out]; rfl, BW.out.trans (HB2.out.mono BW.out.size)⟩
      · have HY2 := Lib.hid (HY.out (fun j h1 h2 => HA.out j h1 (by omega)))
        have BR := Lib.hid (BW.out.trans (HBl.out.mono BW.out.size))
        obtain ⟨p0, p1, p2, p3, p4, p5, p6⟩ := (I0.out.keep HBl.out).cells
        obtain ⟨q0, q1, q2, q3, q4, q5, q6⟩ := (I1.out.keep HBl.out).cells
        by_cases hm : a.muteMost ≤ b.muteMost
        · have HR2 : Hid (R = decide (a.liftMost ≤ b.liftMost)) := Lib.hid (by rw [HY2.out, decide_eq_true hm]; rfl)
          clear p0 p1 p2 p4 p6 q0 q1 q2 q4 q6
          go_wp2_with fail
          go_ret
          exact ⟨by rw [HR2.out]; rfl, BR.out⟩
        · have HR2 : Hid (R = false) := Lib.hid (by rw [HY2.out, decide_eq_false hm]; rfl)
          clear p0 p1 p2 p4 p6 q0 q1 q2 q4 q6
          go_wp2_with fail
          go_ret
          exact ⟨by rw [HR2.out]; rfl, BR.out⟩
theorem spend_num {b c : Fa.Bud} {x : Fa.Flt} (hb : BudN b) (h : Fa.spend b x = some c) : BudN c := by
  obtain ⟨h1, h2, h3, h4, h5, h6, h7⟩ := hb
  unfold Fa.spend at h
  split at h
  · injection h with h; subst h; exact ⟨h1, h2, h3, h4, h5, h6, h7⟩
  · split at h
    · rename_i h0 hk
      injection h with h; subst h
      obtain ⟨-, hn⟩ := hk
      unfold Fa.num at hn
      constructor <;> (simp only [Fa.dec]; (try split) <;> (try simp_all) <;> omega)
    · cases h
/-- What Run hands back. -/
def runV (r : Fa.Bud × Nat) : Value := .tuple #[.agg (budA r.1), .int .i64 (r.2 : Int)]
set_option maxRecDepth 100000 in
set_option maxHeartbeats 16000000 in
theorem Run_any (b : Fa.Bud) (v : Value) (l : List Fa.Flt) (w : World) (hb : BudN b) (h : FtV w v l) :
    Calls Tryz.prog 13 #[.agg (budA b), v] w fun e w' => e = .returned (runV (Fa.run b l)) ∧ Below w.heap.size w w' := by
  obtain ⟨a, cap, rfl, hm⟩ := h.form
  have HS := Lib.hid (fun c x W hc => Spend_any c x W hc)
  have H := Lib.hid h
  obtain ⟨W0, hW0⟩ : ∃ W, W = (w.alloc (.cells #[.int .i64 b.stops, .int .i64 b.cells, .int .i64 b.mutes, .int .i64 b.muteMost, .int .i64 b.lifts, .int .i64 b.liftMost, .int .i64 b.steps] 36)).alloc (.cells #[.int .i64 0, .int .i64 0, .int .i64 0, .int .i64 0, .int .i64 0, .int .i64 0, .int .i64 0] 36) := ⟨_, rfl⟩
  have HA := Lib.hid (al2 w (.cells #[.int .i64 b.stops, .int .i64 b.cells, .int .i64 b.mutes, .int .i64 b.muteMost, .int .i64 b.lifts, .int .i64 b.liftMost, .int .i64 b.steps] 36) (.cells #[.int .i64 0, .int .i64 0, .int .i64 0, .int .i64 0, .int .i64 0, .int .i64 0, .int .i64 0] 36))
  rw [← hW0] at HA
  have HW := Lib.hid hW0
  obtain ⟨R, hR⟩ : ∃ R, Fa.run b l = R := ⟨_, rfl⟩
  have HR0 : Hid ((Fa.run b (l.drop 0)).1 = R.1 ∧ 0 + (Fa.run b (l.drop 0)).2 = R.2) := Lib.hid (by rw [← hR]; exact ⟨rfl, by simp⟩)
  rw [hR]
  have HBn := Lib.hid hb
  obtain ⟨n, hn⟩ : ∃ n, l.length = n := ⟨_, rfl⟩
  rw [hn] at hm H ⊢
  have HN := Lib.hid hn
  clear h hb hR hn hW0
  unfold budA runV
  go_enter Tryz.func13, Tryz.ntmps13
  go_upto_region 1 with fail
  rw [← HW.out]
  go_wp2_with fail
  go_loopw [12] (fun iv wr => ∃ (k : Nat) (c : Fa.Bud), k ≤ n ∧ iv = .int .i64 k ∧ Hid ((Fa.run c (l.drop k)).1 = R.1 ∧ k + (Fa.run c (l.drop k)).2 = R.2) ∧ Hid (BudN c) ∧ Hid (BudAt wr w.heap.size c 36) ∧ Hid (wr.heap[w.heap.size + 1]? = some (.cells budZ 36 (0, 0))) ∧ Hid (Below w.heap.size w wr)) (fun iv _ => n - (intOf iv).toNat)
  case atStart => exact ⟨0, b, by omega, rfl, HR0, HBn, Lib.hid HA.out.1, Lib.hid HA.out.2.1, Lib.hid HA.out.2.2.1⟩
  case round =>
    obtain ⟨k, c, hk, rfl, HK, HC, IB, IZ, HB⟩ := hrel
    clear HA HW
    by_cases hkn : k < n
    · have hkl : k < l.length := by rw [HN.out]; exact hkn
      obtain ⟨fb, fo, rfl, hfb, f0, f1, f2⟩ := H.out.cell k hkl
      have hd := List.drop_eq_getElem_cons hkl
      obtain ⟨x, hx⟩ : ∃ x, l[k] = x := ⟨_, rfl⟩
      rw [hx] at f0 f1 f2 hd
      have HK2 := HK.out
      rw [hd] at HK2
      obtain ⟨c2, ev, e1, e2, e3, e4, e5⟩ := spendV_ok c (Fa.spend c x)
      have HB7 := HB.out
      rw [← HB7.cell (p := ⟨fb, fo + k * 3, none⟩) hfb] at f0
      rw [← HB7.cell (p := ⟨fb, fo + k * 3 + 1, none⟩) hfb] at f1
      rw [← HB7.cell (p := ⟨fb, fo + k * 3 + 2, none⟩) hfb] at f2
      have hsz := HB7.size
      have HS2 : Hid (∀ W, _) := Lib.hid (fun W => by have := HS.out c x W HC.out; rw [e1] at this; exact this)
      have hlt : w.heap.size < wr.heap.size := IB.out.lt
      have hlt1 : w.heap.size + 1 < wr.heap.size := heap_lt IZ.out
      have IBa := Lib.hid (show BudAt (wr.alloc (.cells #[.int .i64 x.kind, .int .i64 x.a, .int .i64 x.n] 38)) w.heap.size c 36 from (Below.heap_alloc _ _ _ hlt).trans IB.out)
      have IZa := Lib.hid ((Below.heap_alloc wr (.cells #[.int .i64 x.kind, .int .i64 x.a, .int .i64 x.n] 38) _ hlt1).trans IZ.out)
      have Ba := Lib.hid (HB7.alloc hsz (.cells #[.int .i64 x.kind, .int .i64 x.a, .int .i64 x.n] 38))
      have k1 : (k : Int) < (n : Int) := by omega
      have k0 : (0 : Int) ≤ (k : Int) := by omega
      have g1 : k < n := hkn
      obtain ⟨p0, p1, p2, p3, p4, p5, p6⟩ := IBa.out.cells
      have HD := Lib.hid hd
      have HKr := Lib.hid HK2
      clear HB7 hd HK2 hx hlt hlt1 hkl
      cases hsp : Fa.spend c x with
      | none =>
        have HSP := Lib.hid hsp
        obtain rfl := e4 hsp
        clear e1 e2 e3 e4 e5 hsp
        unfold fltV budA at HS2
        go_wp2_with fail
        go_at_call 11; refine (HS2.out _).mono ?_; rintro e w1 ⟨rfl, b1⟩
        have IB1 := Lib.hid (IBa.out.keep b1)
        have IZ1 := Lib.hid (keep_heap IZa.out b1)
        have B1 := Lib.hid (Ba.out.trans (b1.mono Ba.out.size))
        have hl0 := IB1.out.lt
        have hl1 := heap_lt IZ1.out
        have IB2 := Lib.hid (show BudAt (w1.alloc (.cells #[.int .i64 c2.stops, .int .i64 c2.cells, .int .i64 c2.mutes, .int .i64 c2.muteMost, .int .i64 c2.lifts, .int .i64 c2.liftMost, .int .i64 c2.steps] 36)) w.heap.size c 36 from (Below.heap_alloc _ _ _ hl0).trans IB1.out)
        have IZ2 := Lib.hid ((Below.heap_alloc w1 (.cells #[.int .i64 c2.stops, .int .i64 c2.cells, .int .i64 c2.mutes, .int .i64 c2.muteMost, .int .i64 c2.lifts, .int .i64 c2.liftMost, .int .i64 c2.steps] 36) _ hl1).trans IZ1.out)
        have B2 := Lib.hid (B1.out.alloc B1.out.size (.cells #[.int .i64 c2.stops, .int .i64 c2.cells, .int .i64 c2.mutes, .int .i64 c2.muteMost, .int .i64 c2.lifts, .int .i64 c2.liftMost, .int .i64 c2.steps] 36))
        clear b1 p0 p1 p2 p3 p4 p5 p6 f0 f1 f2 hl0 hl1
        have JZ := IZ2.out
        obtain ⟨p0, p1, p2, p3, p4, p5, p6⟩ := IB2.out.cells
        go_wp2_with (refine wpList_store_row rfl 36 (.tmp 4) (.tmp 25) rfl (w.heap.size + 1) #[.int .i64 c.stops, .int .i64 c.cells, .int .i64 c.mutes, .int .i64 c.muteMost, .int .i64 c.lifts, .int .i64 c.liftMost, .int .i64 c.steps] rfl rfl 36 budZ JZ (by kernel_rfl) rfl (by kernel_rfl) ?_)
        refine bodyPost_ret (v := .tuple #[.agg #[.int .i64 c.stops, .int .i64 c.cells, .int .i64 c.mutes, .int .i64 c.muteMost, .int .i64 c.lifts, .int .i64 c.liftMost, .int .i64 c.steps], .int .i64 (k : Int)]) (results_rowtmp2 (p := 4) (ty := 36) (u := 5) (by kernel_rfl) _ _ (w.heap.size + 1) 36 #[.int .i64 c.stops, .int .i64 c.cells, .int .i64 c.mutes, .int .i64 c.muteMost, .int .i64 c.lifts, .int .i64 c.liftMost, .int .i64 c.steps] (0, 0) _ rfl (setRow_heap _ _ _ _ _ _ IZ2.out) Tryz.underlying36 rfl (by kernel_rfl)) rfl ?_
        refine ⟨?_, B2.out.trans ⟨rfl, rfl, rfl, by simp, fun k hk => setRow_other _ _ _ _ (by omega)⟩⟩
        obtain ⟨y1, y2⟩ := HKr.out
        rw [Fa.run, HSP.out] at y1 y2
        dsimp only at y1 y2
        rw [← y1, ← y2]; rfl
      | some d =>
        have HSP := Lib.hid hsp
        obtain rfl := e5 (by rw [hsp]; simp)
        have hcd : c2 = d := by rw [e2, hsp]; rfl
        subst hcd
        have HCd := Lib.hid (spend_num HC.out hsp)
        clear e1 e2 e3 e4 e5 hsp
        unfold fltV budA at HS2
        go_wp2_with fail
        go_at_call 11; refine (HS2.out _).mono ?_; rintro e w1 ⟨rfl, b1⟩
        have IB1 := Lib.hid (IBa.out.keep b1)
        have IZ1 := Lib.hid (keep_heap IZa.out b1)
        have B1 := Lib.hid (Ba.out.trans (b1.mono Ba.out.size))
        have hl0 := IB1.out.lt
        have hl1 := heap_lt IZ1.out
        have IB2 := Lib.hid (show BudAt (w1.alloc (.cells #[.int .i64 c2.stops, .int .i64 c2.cells, .int .i64 c2.mutes, .int .i64 c2.muteMost, .int .i64 c2.lifts, .int .i64 c2.liftMost, .int .i64 c2.steps] 36)) w.heap.size c 36 from (Below.heap_alloc _ _ _ hl0).trans IB1.out)
        have IZ2 := Lib.hid ((Below.heap_alloc w1 (.cells #[.int .i64 c2.stops, .int .i64 c2.cells, .int .i64 c2.mutes, .int .i64 c2.muteMost, .int .i64 c2.lifts, .int .i64 c2.liftMost, .int .i64 c2.steps] 36) _ hl1).trans IZ1.out)
        have B2 := Lib.hid (B1.out.alloc B1.out.size (.cells #[.int .i64 c2.stops, .int .i64 c2.cells, .int .i64 c2.mutes, .int .i64 c2.muteMost, .int .i64 c2.lifts, .int .i64 c2.liftMost, .int .i64 c2.steps] 36))
        clear b1 p0 p1 p2 p3 p4 p5 p6 f0 f1 f2 hl0 hl1
        have JB := IB2.out
        unfold BudAt at JB
        go_wp2_with (refine wpList_store_row rfl 36 (.tmp 2) (.tmp 27) rfl w.heap.size #[.int .i64 c2.stops, .int .i64 c2.cells, .int .i64 c2.mutes, .int .i64 c2.muteMost, .int .i64 c2.lifts, .int .i64 c2.liftMost, .int .i64 c2.steps] rfl rfl 36 (budA c) JB (by kernel_rfl) rfl (by kernel_rfl) ?_)
        go_roundw
        case rel =>
          refine ⟨k + 1, c2, by omega, by go_num, Lib.hid ?_, HCd, Lib.hid (setRow_heap _ _ _ _ _ _ IB2.out), Lib.hid ((setRow_other _ _ _ _ (by omega)).trans IZ2.out), Lib.hid (B2.out.trans ⟨rfl, rfl, rfl, by simp, fun k hk => setRow_other _ _ _ _ (by omega)⟩)⟩
          obtain ⟨y1, y2⟩ := HKr.out
          rw [Fa.run, HSP.out] at y1 y2
          dsimp only at y1 y2
          exact ⟨y1, by omega⟩
        case measure => simp [intOf]; omega
    · have HE : Hid (c = R.1 ∧ k = R.2) := Lib.hid (by
        obtain ⟨y1, y2⟩ := HK.out
        rw [List.drop_eq_nil_of_le (by rw [HN.out]; omega)] at y1 y2
        exact ⟨y1, y2⟩)
      have hke : k = n := by omega
      subst hke
      have JZ := IZ.out
      obtain ⟨p0, p1, p2, p3, p4, p5, p6⟩ := IB.out.cells
      go_wp2_with (refine wpList_store_row rfl 36 (.tmp 4) (.tmp 29) rfl (w.heap.size + 1) #[.int .i64 c.stops, .int .i64 c.cells, .int .i64 c.mutes, .int .i64 c.muteMost, .int .i64 c.lifts, .int .i64 c.liftMost, .int .i64 c.steps] rfl rfl 36 budZ JZ (by kernel_rfl) rfl (by kernel_rfl) ?_)
      refine bodyPost_ret (v := .tuple #[.agg #[.int .i64 c.stops, .int .i64 c.cells, .int .i64 c.mutes, .int .i64 c.muteMost, .int .i64 c.lifts, .int .i64 c.liftMost, .int .i64 c.steps], .int .i64 (k : Int)]) (results_rowtmp2 (p := 4) (ty := 36) (u := 5) (by kernel_rfl) _ _ (w.heap.size + 1) 36 #[.int .i64 c.stops, .int .i64 c.cells, .int .i64 c.mutes, .int .i64 c.muteMost, .int .i64 c.lifts, .int .i64 c.liftMost, .int .i64 c.steps] (0, 0) _ rfl (setRow_heap _ _ _ _ _ _ IZ.out) Tryz.underlying36 rfl (by kernel_rfl)) rfl ?_
      refine ⟨?_, HB.out.trans ⟨rfl, rfl, rfl, by simp, fun k hk => setRow_other _ _ _ _ (by omega)⟩⟩
      rw [← HE.out.1, ← HE.out.2]; rfl
end Go.Proofs.YtcdfmgobokjcnaaGreatDoor
