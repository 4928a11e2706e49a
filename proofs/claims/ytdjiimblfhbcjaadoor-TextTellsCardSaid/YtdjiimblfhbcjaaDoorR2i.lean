/- Walks of taquinref02: Magic, Plain. -/
import Derived.Test.YtdjiimblfhbcjaaDoorR2h
namespace Go.Proofs.YtdjiimblfhbcjaaDoor
set_option linter.unusedSimpArgs false
open Go.RowKit

/-- The slice value v holds these parts. -/
def PS (w : World) (v : Value) (l : List (Pat.Part × List UInt8)) : Prop :=
  ∃ a cap, v = .slice a l.length cap ∧ l.length ≤ maxLen ∧ ∀ i, (h : i < l.length) → ∃ g, a = some ⟨g, 0, none⟩ ∧
    w.cell? ⟨g, i * 5, none⟩ = some (.int .i64 l[i].1.kd) ∧ w.cell? ⟨g, i * 5 + 1, none⟩ = some (.int .u8 l[i].1.bt.toNat) ∧
    w.cell? ⟨g, i * 5 + 2, none⟩ = some (.string ⟨l[i].1.st.toArray⟩) ∧ w.cell? ⟨g, i * 5 + 3, none⟩ = some (.bool l[i].1.ng) ∧ w.cell? ⟨g, i * 5 + 4, none⟩ = some (.string ⟨l[i].2.toArray⟩)
theorem PS.keep {w W : World} {v : Value} {l : List (Pat.Part × List UInt8)} (h : PS w v l) (hb : Below w.heap.size w W) : PS W v l := by
  obtain ⟨a, cap, rfl, hm, hc⟩ := h
  refine ⟨a, cap, rfl, hm, fun i hi => ?_⟩
  obtain ⟨g, h1, h2, h3, h4, h5, h6⟩ := hc i hi
  have hlt := cell_lt h2
  exact ⟨g, h1, (hb.cell hlt).trans h2, (hb.cell (p := ⟨g, i * 5 + 1, none⟩) hlt).trans h3, (hb.cell (p := ⟨g, i * 5 + 2, none⟩) hlt).trans h4, (hb.cell (p := ⟨g, i * 5 + 3, none⟩) hlt).trans h5, (hb.cell (p := ⟨g, i * 5 + 4, none⟩) hlt).trans h6⟩
theorem PS.len {w : World} {v : Value} {l : List (Pat.Part × List UInt8)} (h : PS w v l) : ∃ a cap, v = .slice a l.length cap ∧ l.length ≤ 9223372036854775807 := by
  obtain ⟨a, cap, rfl, hm, -⟩ := h; exact ⟨a, cap, rfl, hm⟩
theorem partsC_at (l : List (Pat.Part × List UInt8)) (i : Nat) (h : i < l.length) : ∀ d, d < 5 → (partsC l)[i * 5 + d]? = (partC l[i])[d]? := by
  induction l generalizing i with
  | nil => simp at h
  | cons t l ih =>
    intro d hd
    have hc : partsC (t :: l) = partC t ++ partsC l := rfl
    have hl : (partC t).length = 5 := rfl
    cases i with
    | zero => rw [hc, List.getElem?_append_left (by rw [hl]; omega)]; simp
    | succ i =>
      rw [hc, List.getElem?_append_right (by rw [hl]; omega), hl, show (i + 1) * 5 + d - 5 = i * 5 + d by omega, ih i (by simp at h; omega) d hd]; simp
theorem PS.of_own {w : World} {base : Nat} {v : Value} {l : List (Pat.Part × List UInt8)} (h : OP base w v l) (hm : l.length ≤ maxLen) : PS w v l := by
  have h' := h
  rcases h'.2 with ⟨rfl, h0⟩ | ⟨g, cap, cur, rfl, hb, hh, hnc, hcm, hcs, ht⟩
  · obtain rfl : l = [] := List.eq_nil_of_length_eq_zero h0
    exact ⟨none, 0, rfl, by simp, fun i hi => by simp at hi⟩
  · refine ⟨some ⟨g, 0, none⟩, cap, rfl, hm, fun i hi => ⟨g, rfl, ?_⟩⟩
    have ha : ∀ j x, (partsC l)[j]? = some x → w.cell? ⟨g, j, none⟩ = some x := by
      intro j x hx
      have hc := World.ownsRow.cells h (g := g) rfl j x hx
      have e2 : ((⟨g, 0, none⟩ : Addr).add j) = ⟨g, j, none⟩ := by unfold Addr.add; split <;> simp_all
      rw [e2] at hc; exact hc
    have hx := partsC_at l i hi
    exact ⟨ha _ _ ((hx 0 (by omega)).trans rfl), ha _ _ ((hx 1 (by omega)).trans rfl), ha _ _ ((hx 2 (by omega)).trans rfl), ha _ _ ((hx 3 (by omega)).trans rfl), ha _ _ ((hx 4 (by omega)).trans rfl)⟩
theorem PS.at {w : World} {v : Value} {l : List (Pat.Part × List UInt8)} (h : PS w v l) (n : Nat) (hn : n = l.length) (k : Nat) (hk : k < l.length) : ∃ g cap, v = .slice (some ⟨g, 0, none⟩) n cap ∧
    w.cell? ⟨g, k * 5, none⟩ = some (.int .i64 l[k].1.kd) ∧ w.cell? ⟨g, k * 5 + 1, none⟩ = some (.int .u8 l[k].1.bt.toNat) ∧
    w.cell? ⟨g, k * 5 + 2, none⟩ = some (.string ⟨l[k].1.st.toArray⟩) ∧ w.cell? ⟨g, k * 5 + 3, none⟩ = some (.bool l[k].1.ng) ∧ w.cell? ⟨g, k * 5 + 4, none⟩ = some (.string ⟨l[k].2.toArray⟩) := by
  subst hn
  obtain ⟨a, cap, rfl, -, hc⟩ := h
  obtain ⟨g, rfl, h2⟩ := hc k hk
  exact ⟨g, cap, rfl, h2⟩
theorem rParts_k (p : ByteArray) (l : List (Pat.Part × List UInt8)) (hl : Pat.pts (bs p) = l) (w : World) (hp : p.size ≤ 1000000) :
    Calls Tryd.prog 67 #[.string p] w fun e w' => ∃ v, e = .returned v ∧ PS w' v l ∧ Below w.heap.size w w' := by
  subst hl
  refine (rParts_any p w hp).mono ?_
  rintro e w' ⟨v, rfl, h1, h2⟩
  exact ⟨v, rfl, PS.of_own h1 (by have := Pat.pts_len (bs p); rw [bs_len] at this; unfold maxLen; omega), h2⟩

set_option maxRecDepth 100000 in
set_option maxHeartbeats 16000000 in
theorem rMagic_any (p : ByteArray) (b : Bool) (hb : Pat.mg (bs p) = b) (w : World) (hp : p.size ≤ 1000000) :
    Calls Tryd.prog 42 #[.string p] w fun e w' => e = .returned (.bool b) ∧ Below w.heap.size w w' := by
  obtain ⟨l, hl⟩ : ∃ l, Pat.pts (bs p) = l := ⟨_, rfl⟩
  have hm := Pat.pts_mg (bs p)
  rw [hb, hl] at hm
  have HL := Lib.hid hl
  have HM := Lib.hid hm
  clear hl hm hb
  go_enter Tryd.func42, Tryd.ntmps42
  go_wp2_with fail
  go_at_call 67; refine (rParts_k p l HL.out _ hp).mono ?_; rintro e w1 ⟨v, rfl, hP, hB⟩
  obtain ⟨a, ca, rfl, hla⟩ := hP.len
  obtain ⟨n, hn⟩ : ∃ n, n = l.length := ⟨_, rfl⟩
  rw [← hn] at hP hla ⊢
  have HP := Lib.hid hP
  have HB := Lib.hid hB
  have HN := Lib.hid hn
  clear hP hB hn
  go_wp2_with fail
  go_loop [4] (fun i => ∃ k : Nat, k ≤ n ∧ i = .int .i64 k ∧ Hid ((l.take k).any (fun x => !x.1.isByte) = false)) (fun i => n - (intOf i).toNat)
  case atStart => exact ⟨0, by omega, rfl, Lib.hid (by simp)⟩
  case round =>
    obtain ⟨k, hk, rfl, HA⟩ := hrel
    by_cases hlt : k < n
    · have hkt : k < l.length := by rw [← HN.out]; exact hlt
      obtain ⟨g, cb, e1, q0, q1, q2, q3, q4⟩ := HP.out.at n HN.out k hkt
      cases e1
      have kI0 : (0 : Int) ≤ (k : Int) := by omega
      have kI1 : (k : Int) < (n : Int) := by omega
      have kI2 : (k : Int).toNat = k := by omega
      have hst : (l.take (k + 1)).any (fun x => !x.1.isByte) = ((l.take k).any (fun x => !x.1.isByte) || !l[k].1.isByte) := by
        rw [List.take_succ_eq_append_getElem hkt, List.any_append]; simp
      rw [HA.out] at hst
      have hin : l[k].1.isByte = false → l.any (fun x => !x.1.isByte) = true := fun h => List.any_eq_true.2 ⟨l[k], List.getElem_mem hkt, by rw [h]; rfl⟩
      cases hx : l[k].1 with
      | byte c =>
        rw [hx] at q0 hst
        have HS : Hid ((l.take (k + 1)).any (fun x => !x.1.isByte) = false) := Lib.hid hst
        clear hst hin hx q1 q2 q3 q4
        have q5 : w1.cell? ⟨g, k * 5, none⟩ = some (.int .i64 0) := q0
        clear q0
        go_wp2_with fail
        go_round
        case rel => exact ⟨k + 1, by omega, by go_num, HS⟩
        case measure => simp [intOf]; omega
      | star =>
        have HV : Hid (b = true) := Lib.hid (by rw [← HM.out]; exact hin (by rw [hx]; rfl))
        rw [hx] at q0
        clear hst hin hx q1 q2 q3 q4
        have q5 : w1.cell? ⟨g, k * 5, none⟩ = some (.int .i64 1) := q0
        clear q0
        go_wp2_with fail
        go_ret
        exact ⟨ret_bool HV.out.symm, HB.out⟩
      | any =>
        have HV : Hid (b = true) := Lib.hid (by rw [← HM.out]; exact hin (by rw [hx]; rfl))
        rw [hx] at q0
        clear hst hin hx q1 q2 q3 q4
        have q5 : w1.cell? ⟨g, k * 5, none⟩ = some (.int .i64 2) := q0
        clear q0
        go_wp2_with fail
        go_ret
        exact ⟨ret_bool HV.out.symm, HB.out⟩
      | cls ng st =>
        have HV : Hid (b = true) := Lib.hid (by rw [← HM.out]; exact hin (by rw [hx]; rfl))
        rw [hx] at q0
        clear hst hin hx q1 q2 q3 q4
        have q5 : w1.cell? ⟨g, k * 5, none⟩ = some (.int .i64 3) := q0
        clear q0
        go_wp2_with fail
        go_ret
        exact ⟨ret_bool HV.out.symm, HB.out⟩
    · have HV : Hid (b = false) := Lib.hid (by rw [← HM.out]; have := HA.out; rwa [List.take_of_length_le (by rw [← HN.out]; omega)] at this)
      go_wp2_with fail
      go_ret
      exact ⟨ret_bool HV.out.symm, HB.out⟩
theorem fm_take2 (l : List (Pat.Part × List UInt8)) (k : Nat) (h : k < l.length) : (l.take (k + 1)).flatMap (fun x => Pat.piece x.1 x.2) = (l.take k).flatMap (fun x => Pat.piece x.1 x.2) ++ Pat.piece l[k].1 l[k].2 := by
  rw [List.take_succ_eq_append_getElem h, List.flatMap_append]; simp
theorem piece_len (x : Pat.Part) (t : List UInt8) (h : Pat.okText (x, t)) : (Pat.piece x t).length ≤ t.length := by
  cases x with
  | byte b => rcases h with h | h <;> (dsimp only at h; rw [h]; simp [Pat.piece])
  | star => exact Nat.le_refl _
  | any => exact Nat.le_refl _
  | cls n s => exact Nat.le_refl _
theorem ps_cases (x : Pat.Part) (t : List UInt8) (h : Pat.okText (x, t)) : (Pat.piece x t = t ∧ ((x.kd ≠ 0) ∨ (x.kd = 0 ∧ t.length = 1))) ∨ (∃ b, x.kd = 0 ∧ t = [92, b] ∧ Pat.piece x t = [b]) := by
  cases x with
  | byte b =>
    rcases h with h | h
    · dsimp only at h; subst h; exact .inl ⟨rfl, .inr ⟨rfl, rfl⟩⟩
    · dsimp only at h; subst h; exact .inr ⟨b, rfl, rfl, rfl⟩
  | star => exact .inl ⟨rfl, .inl (by simp [Pat.Part.kd])⟩
  | any => exact .inl ⟨rfl, .inl (by simp [Pat.Part.kd])⟩
  | cls n s => exact .inl ⟨rfl, .inl (by simp [Pat.Part.kd])⟩
theorem fm_le2 (l : List (Pat.Part × List UInt8)) (k : Nat) : ((l.take k).flatMap (fun x => Pat.piece x.1 x.2)).length ≤ (l.flatMap (fun x => Pat.piece x.1 x.2)).length := by
  have h : l.flatMap (fun x => Pat.piece x.1 x.2) = (l.take k).flatMap (fun x => Pat.piece x.1 x.2) ++ (l.drop k).flatMap (fun x => Pat.piece x.1 x.2) := by
    conv => lhs; rw [← List.take_append_drop k l]
    exact List.flatMap_append
  rw [h, List.length_append]; omega

set_option maxRecDepth 100000 in
set_option maxHeartbeats 16000000 in
theorem rPlain_any (p : ByteArray) (w : World) (hp : p.size ≤ 1000000) :
    Calls Tryd.prog 43 #[.string p] w fun e w' => e = .returned (.string ⟨(Pat.pl (bs p)).toArray⟩) ∧ Below w.heap.size w w' := by
  obtain ⟨l, hl⟩ : ∃ l, Pat.pts (bs p) = l := ⟨_, rfl⟩
  have hm := Pat.pts_pl (bs p)
  have hok := Pat.pts_ok (bs p)
  have hll := Pat.pts_len (bs p)
  have hpl := Pat.pl_len _ (bs p) (Nat.le_refl _)
  rw [hl] at hm hok hll
  rw [← hm] at hpl ⊢
  rw [bs_len] at hpl hll
  have HL := Lib.hid hl
  have HOK := Lib.hid hok
  have HFL := Lib.hid (fm_le2 l)
  clear hl hm hok
  go_enter Tryd.func43, Tryd.ntmps43
  go_wp2_with fail
  go_at_call 67; refine (rParts_k p l HL.out _ hp).mono ?_; rintro e w1 ⟨v, rfl, hP, hB⟩
  obtain ⟨a, ca, rfl, hla⟩ := hP.len
  obtain ⟨n, hn⟩ : ∃ n, n = l.length := ⟨_, rfl⟩
  rw [← hn] at hP hla hll ⊢
  have HP := Lib.hid hP
  have HB := Lib.hid hB
  have HN := Lib.hid hn
  clear hP hB hn
  go_wp2_with fail
  go_loop [4, 5, 6] (fun o i _ => ∃ (s : ByteArray) (k : Nat), k ≤ n ∧ i = .int .i64 k ∧ o = .string s ∧ Hid (bs s = (l.take k).flatMap (fun x => Pat.piece x.1 x.2))) (fun _ i _ => n - (intOf i).toNat)
  case atStart => exact ⟨⟨#[]⟩, 0, by omega, rfl, rfl, Lib.hid (by simp; rfl)⟩
  case round =>
    obtain ⟨s, k, hk, rfl, rfl, HS⟩ := hrel
    by_cases hlt : k < n
    · have hkt : k < l.length := by rw [← HN.out]; exact hlt
      obtain ⟨g, cb, e1, q0, q1, q2, q3, q4⟩ := HP.out.at n HN.out k hkt
      cases e1
      have kI0 : (0 : Int) ≤ (k : Int) := by omega
      have kI1 : (k : Int) < (n : Int) := by omega
      have kI2 : (k : Int).toNat = k := by omega
      have hxo := HOK.out _ (List.getElem_mem hkt)
      have hft := fm_take2 l k hkt
      have hle := HFL.out k
      rw [← HS.out, bs_len] at hle
      generalize hxx : l[k] = xx at *
      obtain ⟨x, t⟩ := xx
      dsimp only at q0 q1 q2 q3 q4 hxo hft
      have hsz := lit_size t
      clear q1 q2 q3 hxx
      have ht : t.length ≤ 1000000 := by have := hxo.2; rw [bs_len] at this; omega
      have na : ¬ 9223372036854775807 < s.size + t.length := by omega
      have na2 : ¬ 9223372036854775807 < s.size + (⟨t.toArray⟩ : ByteArray).size := by omega
      rcases ps_cases x t hxo.1 with ⟨h1, h2 | ⟨h2, h3⟩⟩ | ⟨b, h1, rfl, h3⟩
      · have e1 : ((x.kd : Int) == 0) = false := beq_eq_false_iff_ne.2 (by omega)
        have HS2 : Hid (bs (s ++ ⟨t.toArray⟩) = (l.take (k + 1)).flatMap (fun x => Pat.piece x.1 x.2)) := Lib.hid (by rw [hft, h1, bs_app, bs_lit0 t, HS.out])
        clear hft h1 h2 hxo
        go_wp2_with fail
        go_round
        case rel => exact ⟨_, k + 1, by omega, by go_num, rfl, HS2⟩
        case measure => simp [intOf]; omega
      · have e1 : ((x.kd : Int) == 0) = true := beq_iff_eq.2 (by omega)
        have e2 : ((t.length : Int) == 2) = false := beq_eq_false_iff_ne.2 (by omega)
        have e3 : (((⟨t.toArray⟩ : ByteArray).size : Int) == 2) = false := beq_eq_false_iff_ne.2 (by omega)
        have HS2 : Hid (bs (s ++ ⟨t.toArray⟩) = (l.take (k + 1)).flatMap (fun x => Pat.piece x.1 x.2)) := Lib.hid (by rw [hft, h1, bs_app, bs_lit0 t, HS.out])
        clear hft h1 h2 h3 hxo
        go_wp2_with fail
        go_round
        case rel => exact ⟨_, k + 1, by omega, by go_num, rfl, HS2⟩
        case measure => simp [intOf]; omega
      · have e1 : ((x.kd : Int) == 0) = true := beq_iff_eq.2 (by omega)
        have HS2 : Hid (bs (s ++ ⟨#[b]⟩) = (l.take (k + 1)).flatMap (fun x => Pat.piece x.1 x.2)) := Lib.hid (by rw [hft, h3, bs_app, HS.out]; rfl)
        have hx : (⟨#[92, b]⟩ : ByteArray).extract 1 2 = ⟨#[b]⟩ := bs_inj' (by rw [bs_extract]; rfl)
        have nb : ¬ 9223372036854775807 < s.size + 1 := by omega
        clear hft h1 h3 hxo
        have q5 : w1.cell? ⟨g, k * 5 + 4, none⟩ = some (.string ⟨#[92, b]⟩) := q4
        clear q4
        go_wp2_with fail
        go_round
        case rel => exact ⟨_, k + 1, by omega, by go_num, rfl, HS2⟩
        case measure => simp [intOf]; omega
    · rw [List.take_of_length_le (by rw [← HN.out]; omega)] at HS
      obtain rfl := bs_inj' (a := s) (b := ⟨(l.flatMap (fun x => Pat.piece x.1 x.2)).toArray⟩) (by rw [bs_lit0]; exact HS.out)
      go_wp2_with fail
      go_ret
      exact ⟨rfl, HB.out⟩
end Go.Proofs.YtdjiimblfhbcjaaDoor
