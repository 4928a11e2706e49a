/- Parts RfI, RfJ, RfK of this claim, laid one behind the other: walks and the plain laws behind them; each contract states its own conditions. -/
import Derived.Laws.Tables
import Derived.Test.YtcdfmgobokjcnaaGreatDoorZG
import Derived.Test.YtcdfmgobokjcnaaGreatDoorZK
import Derived.Test.YtcdfmgobokjcnaaGreatDoorZU
/- Walks of taquinref14: At, with, Sorted, exact. -/
namespace Go.Proofs.YtcdfmgobokjcnaaGreatDoor
set_option linter.unusedSimpArgs false
set_option linter.unusedVariables false
open Go.RowKit

/-- A call's own row of numbers, in some order. -/
def PermPost (L : List Int) (w : World) (e : Ending) (w' : World) : Prop := (∃ v l, e = .returned v ∧ w'.ownsRow w.heap.size 3 1 v l.length (ints l) ∧ l.Perm L) ∧ Below w.heap.size w w'
theorem teIInfo : (Tryz.prog.info? 3).map (fun i => (i.zero, i.size, i.bytes)) = some (some (.int .i64 0), 1, 8) := by kernel_rfl
theorem own_form3 {w : World} {base : Nat} {e : TypeId} {sz n : Nat} {v : Value} {xs : List Value} (h : w.ownsRow base e sz v n xs) : ∃ a cap, v = .slice a n cap := by
  rcases h.2 with ⟨rfl, rfl⟩ | ⟨g1, cap, cur, rfl, -⟩
  · exact ⟨none, 0, rfl⟩
  · exact ⟨some ⟨g1, 0, none⟩, cap, rfl⟩
theorem own_baseB {w : World} {base base2 n : Nat} {e : TypeId} {v : Value} {xs : List Value} (h : w.ownsRow base e 1 v n xs) (hb : base2 ≤ base) : w.ownsRow base2 e 1 v n xs := by
  refine ⟨h.1, ?_⟩
  rcases h.2 with h0 | ⟨g, cap, cur, e1, h1, h2⟩
  · exact .inl h0
  · exact .inr ⟨g, cap, cur, e1, Nat.le_trans hb h1, h2⟩
set_option maxRecDepth 100000 in
set_option maxHeartbeats 16000000 in
theorem at14_any (r : Bd.Robot) (c : Int) (w : World) (hc : -1152921504606846976 ≤ c ∧ c ≤ 1152921504606846976) :
    Calls Tryz.prog 168 #[.agg (robC r).toArray, .int .i64 c] w (PermPost (Bd.atL r.load c) w) := by
  unfold robC
  have h1 : -9223372036854775808 ≤ 2 * c := by omega
  have h2 : 2 * c ≤ 9223372036854775807 := by omega
  have h3 : -9223372036854775808 ≤ 2 * c + 1 := by omega
  have h4 : 2 * c + 1 ≤ 9223372036854775807 := by omega
  obtain ⟨L, hL⟩ : ∃ L, r.load = L := ⟨_, rfl⟩
  rw [hL]
  have hw : ∀ O, w.heap.size ≤ (w.alloc O).heap.size := fun O => by simp
  have HB : Hid (∀ O P, Below w.heap.size w ((w.alloc O).alloc P)) := Lib.hid (fun O P => ((Below.refl _ w).alloc (Nat.le_refl _) O).alloc (hw O) P)
  have HO : Hid (∀ O (cs : Array Value) (n : Nat), n ≤ 2 → cs.size = n * 1 → ((w.alloc O).alloc (.cells cs 3)).ownsRow w.heap.size 3 1 (.slice (some ⟨(w.alloc O).heap.size, 0, none⟩) n n) n cs.toList) := Lib.hid (fun O cs n hn hs => World.ownsRow_lit (base := w.heap.size) (e := 3) (size := 1) (w.alloc O) cs n (hw O) (by unfold maxLen; omega) hs)
  clear hL hc hw
  by_cases hl : L < 0
  · have HAL : Hid ([2 * c].Perm (Bd.atL L c)) := Lib.hid (by unfold Bd.atL; rw [if_neg (by omega)])
    go_enter Tryz.func168, Tryz.ntmps168
    go_wp2_with fail
    go_ret
    exact ⟨⟨_, [2 * c], rfl, by simpa [ints] using HO.out _ #[.int .i64 (2 * c)] 1 (by omega) rfl, HAL.out⟩, HB.out _ _⟩
  · have HAL : Hid ([2 * c, 2 * c + 1].Perm (Bd.atL L c)) := Lib.hid (by unfold Bd.atL; rw [if_pos (by omega)])
    go_enter Tryz.func168, Tryz.ntmps168
    go_wp2_with fail
    go_ret
    exact ⟨⟨_, [2 * c, 2 * c + 1], rfl, by simpa [ints] using HO.out _ #[.int .i64 (2 * c), .int .i64 (2 * c + 1)] 2 (by omega) rfl, HAL.out⟩, HB.out _ _⟩
set_option maxRecDepth 100000 in
set_option maxHeartbeats 16000000 in
theorem with14_any (v : Value) (l : List Int) (c : Int) (w : World) (h : Is w v l) (hl : l.length ≤ 1000000) :
    Calls Tryz.prog 170 #[v, .int .i64 c] w (PermPost (c :: l) w) := by
  obtain ⟨va, vc, rfl, hvm⟩ := h.form
  have HLL : Hid (∀ i, i = l.length → l.take i = l) := Lib.hid (fun i hi => by rw [hi, List.take_length])
  obtain ⟨PL, hPL⟩ : ∃ m, c :: l = m := ⟨_, rfl⟩
  rw [hPL]
  have HPL := Lib.hid hPL
  clear hPL
  obtain ⟨n, hn⟩ : ∃ n, l.length = n := ⟨_, rfl⟩
  rw [hn] at h hl hvm ⊢
  have HL := Lib.hid (fun W (hW : Below w.heap.size w W) => h.keep hW)
  have HN := Lib.hid hn
  obtain ⟨i0, hi, hz0, hz1, hz2⟩ := info_parts teIInfo
  have O0 : Hid (w.ownsRow w.heap.size 3 1 (.slice none 0 0) 0 (ints [])) := Lib.hid (World.ownsRow_nil ..)
  have Z0 : Hid (Below w.heap.size w w) := Lib.hid (Below.refl _ _)
  clear h hn
  go_enter Tryz.func170, Tryz.ntmps170
  go_wp2_with fail
  go_loopw [5, 6, 7] (fun ov dv iv wr => ∃ (i k : Nat) (D : Bool) (R : List Int) (oa : Option Addr) (oc : Nat), i ≤ n ∧ iv = .int .i64 i ∧ dv = .bool D ∧ ov = .slice oa k oc ∧ k ≤ i + 1 ∧ (D = false → k ≤ i) ∧ Hid (R.Perm (bif D then c :: l.take i else l.take i)) ∧ Hid (wr.ownsRow w.heap.size 3 1 (.slice oa k oc) k (ints R)) ∧ Hid (Below w.heap.size w wr)) (fun _ _ iv _ => n - (intOf iv).toNat)
  case atStart => exact ⟨0, 0, false, [], none, 0, by omega, rfl, rfl, rfl, by omega, (fun _ => by omega), Lib.hid (List.Perm.refl _), O0, Z0⟩
  case round =>
    clear O0 Z0
    obtain ⟨i, k, D, R, oa, oc, hin, rfl, rfl, rfl, hk1, hk2, HP, HO, HB⟩ := hrel
    obtain ⟨wA, hwA⟩ : ∃ W, W = wr := ⟨_, rfl⟩
    subst hwA
    have hsA := HB.out.size
    by_cases hil : i < n
    · have hls : i < l.length := by rw [HN.out]; exact hil
      obtain ⟨b, o, e1, c0⟩ := (HL.out wA HB.out).cell i hls
      subst e1
      have HC := Lib.hid (fun W (hW : Below w.heap.size w W) => (show ∃ x, W.cell? ⟨b, o + i, none⟩ = some (.int .i64 x) ∧ x = l[i] from by
        obtain ⟨b2, o2, e2, c2⟩ := (HL.out W hW).cell i hls
        injection e2 with e3; injection e3 with e4 e5; subst e4 e5; exact ⟨_, c2, rfl⟩))
      obtain ⟨x, hx⟩ : ∃ x, l[i] = x := ⟨_, rfl⟩
      have HTK : Hid (l.take (i + 1) = l.take i ++ [x]) := Lib.hid (by rw [List.take_succ_eq_append_getElem hls, hx])
      have HCX : Hid (∀ W, Below w.heap.size w W → W.cell? ⟨b, o + i, none⟩ = some (.int .i64 x)) := Lib.hid (fun W hW => by obtain ⟨y, h1, h2⟩ := HC.out W hW; rw [h1, h2, hx])
      rw [hx] at c0
      have d0 : (0 : Int) ≤ (i : Int) := by omega
      have d1 : (i : Int) < (n : Int) := by omega
      have hbk := cell_block_lt c0
      clear hx hls HC
      cases D with
      | true =>
        clear hk2
        go_wp2_with (at_builtin; refine wpList_append_own_at _ rfl _ _ 22 rfl w.heap.size 3 i0 (.int .i64 0) 1 8 Tryz.underlying22 hi hz0 hz1 hz2 rfl (by decide) (.slice oa k oc) k _ rfl (HO.out.alloc _) ⟨wA.heap.size, 0, none⟩ 1 1 [.int .i64 x] rfl rfl (Go.cell_one_new _ _ _) ?qc3 ?qc4 ?qc5 ?qc6 ?_)
        case qc3 => first | rfl | (intro u hu; simp at hu; subst hu; rfl)
        case qc4 => unfold maxLen; omega
        case qc5 => omega
        case qc6 => first | omega | (simp; omega)
        intro v8 w8 hown8 hgrow8 hnil hat
        obtain ⟨la8, lc8, rfl⟩ := own_form3 hown8
        have hbb8 : Below w.heap.size wA w8 := ((Below.refl _ wA).alloc HB.out.size _).grown hgrow8 (by simp; omega) (fun g hg => (HO.out.lt g hg).1)
        have HB8 := Lib.hid (HB.out.trans hbb8)
        have HO8 := Lib.hid hown8
        clear hown8 hgrow8 hbb8 hnil hat
        have HR8 : Hid (w8.ownsRow w.heap.size 3 1 (.slice la8 (k + 1) lc8) (k + 1) (ints (R ++ [x]))) := Lib.hid (by rw [ints_app]; exact HO8.out)
        go_wp2_with fail
        go_roundw
        case rel => exact ⟨i + 1, k + 1, true, _, la8, lc8, by omega, by go_num, rfl, rfl, by omega, (fun h9 => by cases h9), Lib.hid (by rw [HTK.out]; exact HP.out.append_right [x]), HR8, HB8⟩
        case measure => simp [intOf]; omega
      | false =>
        have hk3 := hk2 rfl
        clear hk2
        by_cases hg : c < x
        · skip
          go_wp2_with (at_builtin; refine wpList_append_own_at _ rfl _ _ 22 rfl w.heap.size 3 i0 (.int .i64 0) 1 8 Tryz.underlying22 hi hz0 hz1 hz2 rfl (by decide) (.slice oa k oc) k _ rfl (HO.out.alloc _) ⟨wA.heap.size, 0, none⟩ 1 1 [.int .i64 c] rfl rfl (Go.cell_one_new _ _ _) ?qc3 ?qc4 ?qc5 ?qc6 ?_)
          case qc3 => first | rfl | (intro u hu; simp at hu; subst hu; rfl)
          case qc4 => unfold maxLen; omega
          case qc5 => omega
          case qc6 => first | omega | (simp; omega)
          intro v8 w8 hown8 hgrow8 hnil hat
          obtain ⟨la8, lc8, rfl⟩ := own_form3 hown8
          have hbb8 : Below w.heap.size wA w8 := ((Below.refl _ wA).alloc HB.out.size _).grown hgrow8 (by simp; omega) (fun g hg => (HO.out.lt g hg).1)
          have HB8 := Lib.hid (HB.out.trans hbb8)
          have HO8 := Lib.hid hown8
          clear hown8 hgrow8 hbb8 hnil hat
          have HR8 : Hid (w8.ownsRow w.heap.size 3 1 (.slice la8 (k + 1) lc8) (k + 1) (ints (R ++ [c]))) := Lib.hid (by rw [ints_app]; exact HO8.out)
          have c8 := HCX.out w8 HB8.out
          have hs8 := HB8.out.size
          have hbk8 := cell_block_lt c8
          clear HO8 c0 hbk
          go_wp2_with (at_builtin; refine wpList_append_own_at _ rfl _ _ 22 rfl w.heap.size 3 i0 (.int .i64 0) 1 8 Tryz.underlying22 hi hz0 hz1 hz2 rfl (by decide) (.slice la8 (k + 1) lc8) (k + 1) _ rfl (HR8.out.alloc _) ⟨w8.heap.size, 0, none⟩ 1 1 [.int .i64 x] rfl rfl (Go.cell_one_new _ _ _) ?qc3 ?qc4 ?qc5 ?qc6 ?_)
          case qc3 => first | rfl | (intro u hu; simp at hu; subst hu; rfl)
          case qc4 => unfold maxLen; omega
          case qc5 => omega
          case qc6 => first | omega | (simp; omega)
          intro v9 w9 hown9 hgrow9 hnil hat
          obtain ⟨la9, lc9, rfl⟩ := own_form3 hown9
          have hbb9 : Below w.heap.size w8 w9 := ((Below.refl _ w8).alloc HB8.out.size _).grown hgrow9 (by simp; omega) (fun g hg => (HR8.out.lt g hg).1)
          have HB9 := Lib.hid (HB8.out.trans hbb9)
          have HO9 := Lib.hid hown9
          clear hown9 hgrow9 hbb9 hnil hat
          have HR9 : Hid (w9.ownsRow w.heap.size 3 1 (.slice la9 (k + 1 + 1) lc9) (k + 1 + 1) (ints ((R ++ [c]) ++ [x]))) := Lib.hid (by rw [ints_app]; exact HO9.out)
          go_wp2_with fail
          go_roundw
          case rel => exact ⟨i + 1, k + 1 + 1, true, _, la9, lc9, by omega, by go_num, rfl, rfl, by omega, (fun h9 => by cases h9), Lib.hid (by rw [HTK.out]; exact ((HP.out.append_right [c]).append_right [x]).trans ((List.perm_append_singleton c (l.take i)).append_right [x])), HR9, HB9⟩
          case measure => simp [intOf]; omega
        · skip
          go_wp2_with (at_builtin; refine wpList_append_own_at _ rfl _ _ 22 rfl w.heap.size 3 i0 (.int .i64 0) 1 8 Tryz.underlying22 hi hz0 hz1 hz2 rfl (by decide) (.slice oa k oc) k _ rfl (HO.out.alloc _) ⟨wA.heap.size, 0, none⟩ 1 1 [.int .i64 x] rfl rfl (Go.cell_one_new _ _ _) ?qc3 ?qc4 ?qc5 ?qc6 ?_)
          case qc3 => first | rfl | (intro u hu; simp at hu; subst hu; rfl)
          case qc4 => unfold maxLen; omega
          case qc5 => omega
          case qc6 => first | omega | (simp; omega)
          intro v8 w8 hown8 hgrow8 hnil hat
          obtain ⟨la8, lc8, rfl⟩ := own_form3 hown8
          have hbb8 : Below w.heap.size wA w8 := ((Below.refl _ wA).alloc HB.out.size _).grown hgrow8 (by simp; omega) (fun g hg => (HO.out.lt g hg).1)
          have HB8 := Lib.hid (HB.out.trans hbb8)
          have HO8 := Lib.hid hown8
          clear hown8 hgrow8 hbb8 hnil hat
          have HR8 : Hid (w8.ownsRow w.heap.size 3 1 (.slice la8 (k + 1) lc8) (k + 1) (ints (R ++ [x]))) := Lib.hid (by rw [ints_app]; exact HO8.out)
          go_wp2_with fail
          go_roundw
          case rel => exact ⟨i + 1, k + 1, false, _, la8, lc8, by omega, by go_num, rfl, rfl, by omega, (fun _ => by omega), Lib.hid (by rw [HTK.out]; exact HP.out.append_right [x]), HR8, HB8⟩
          case measure => simp [intOf]; omega
    · have k9 : ¬ (i : Int) < (n : Int) := by omega
      have HRL := Lib.hid HO.out.1
      cases D with
      | true =>
        have hlen : R.length = k := by have h9 := HRL.out; simp [ints] at h9; omega
        have HF : Hid ((∃ v l, Ending.returned (.slice oa k oc) = .returned v ∧ wA.ownsRow w.heap.size 3 1 v l.length (ints l) ∧ l.Perm PL) ∧ Below w.heap.size w wA) := Lib.hid ⟨⟨_, R, rfl, by rw [hlen]; exact HO.out, by rw [← HPL.out]; have h9 := HP.out; rw [HLL.out i (by rw [HN.out]; omega)] at h9; exact h9⟩, HB.out⟩
        clear hlen
        go_wp2_with fail
        go_ret
        exact HF.out
      | false =>
        have hk3 := hk2 rfl
        clear hk2
        go_wp2_with (at_builtin; refine wpList_append_own_at _ rfl _ _ 22 rfl w.heap.size 3 i0 (.int .i64 0) 1 8 Tryz.underlying22 hi hz0 hz1 hz2 rfl (by decide) (.slice oa k oc) k _ rfl (HO.out.alloc _) ⟨wA.heap.size, 0, none⟩ 1 1 [.int .i64 c] rfl rfl (Go.cell_one_new _ _ _) ?qc3 ?qc4 ?qc5 ?qc6 ?_)
        case qc3 => first | rfl | (intro u hu; simp at hu; subst hu; rfl)
        case qc4 => unfold maxLen; omega
        case qc5 => omega
        case qc6 => first | omega | (simp; omega)
        intro v8 w8 hown8 hgrow8 hnil hat
        obtain ⟨la8, lc8, rfl⟩ := own_form3 hown8
        have hbb8 : Below w.heap.size wA w8 := ((Below.refl _ wA).alloc HB.out.size _).grown hgrow8 (by simp; omega) (fun g hg => (HO.out.lt g hg).1)
        have HB8 := Lib.hid (HB.out.trans hbb8)
        have HO8 := Lib.hid hown8
        clear hown8 hgrow8 hbb8 hnil hat
        have hlen : R.length = k := by have h9 := HRL.out; simp [ints] at h9; omega
        have HF : Hid ((∃ v l, Ending.returned (.slice la8 (k + 1) lc8) = .returned v ∧ w8.ownsRow w.heap.size 3 1 v l.length (ints l) ∧ l.Perm PL) ∧ Below w.heap.size w w8) := Lib.hid ⟨⟨_, R ++ [c], rfl, by rw [List.length_append, hlen, ints_app]; exact HO8.out, by rw [← HPL.out]; have h9 := HP.out; rw [HLL.out i (by rw [HN.out]; omega)] at h9; exact (h9.append_right [c]).trans (List.perm_append_singleton c l)⟩, HB8.out⟩
        clear hlen
        go_wp2_with fail
        go_ret
        exact HF.out
set_option maxRecDepth 100000 in
set_option maxHeartbeats 16000000 in
theorem sorted14_any (v : Value) (l : List Int) (w : World) (h : Is w v l) (hl : l.length ≤ 100000) :
    Calls Tryz.prog 143 #[v] w (PermPost l w) := by
  obtain ⟨va, vc, rfl, hvm⟩ := h.form
  have HLL : Hid (∀ i, i = l.length → l.take i = l) := Lib.hid (fun i hi => by rw [hi, List.take_length])
  obtain ⟨PL, hPL⟩ : ∃ m, l = m := ⟨_, rfl⟩
  have HPL := Lib.hid hPL
  rw [show PermPost l w = PermPost PL w by rw [hPL]]
  clear hPL
  obtain ⟨n, hn⟩ : ∃ n, l.length = n := ⟨_, rfl⟩
  rw [hn] at h hl hvm ⊢
  have HL := Lib.hid (fun W (hW : Below w.heap.size w W) => h.keep hW)
  have HN := Lib.hid hn
  have O0 : Hid (w.ownsRow w.heap.size 3 1 (.slice none 0 0) 0 (ints [])) := Lib.hid (World.ownsRow_nil ..)
  have Z0 : Hid (Below w.heap.size w w) := Lib.hid (Below.refl _ _)
  clear h hn
  go_enter Tryz.func143, Tryz.ntmps143
  go_wp2_with fail
  go_loopw [3, 4] (fun ov iv wr => ∃ (i k : Nat) (R : List Int) (oa : Option Addr) (oc : Nat), i ≤ n ∧ iv = .int .i64 i ∧ ov = .slice oa k oc ∧ k ≤ i ∧ Hid (R.Perm (l.take i)) ∧ Hid (wr.ownsRow w.heap.size 3 1 (.slice oa k oc) k (ints R)) ∧ Hid (Below w.heap.size w wr)) (fun _ iv _ => n - (intOf iv).toNat)
  case atStart => exact ⟨0, 0, [], none, 0, by omega, rfl, rfl, by omega, Lib.hid (List.Perm.refl _), O0, Z0⟩
  case round =>
    clear O0 Z0
    obtain ⟨i, k, R, oa, oc, hin, rfl, rfl, hk, HP, HO, HB⟩ := hrel
    obtain ⟨wA, hwA⟩ : ∃ W, W = wr := ⟨_, rfl⟩
    subst hwA
    have hsA := HB.out.size
    have HRK : Hid (R.length = k) := Lib.hid (by have h9 := HO.out.1; simp [ints] at h9; omega)
    by_cases hil : i < n
    · have hls : i < l.length := by rw [HN.out]; exact hil
      obtain ⟨b, o, e1, c0⟩ := (HL.out wA HB.out).cell i hls
      subst e1
      obtain ⟨x, hx⟩ : ∃ x, l[i] = x := ⟨_, rfl⟩
      rw [hx] at c0
      have d0 : (0 : Int) ≤ (i : Int) := by omega
      have d1 : (i : Int) < (n : Int) := by omega
      have HIR : Hid (Is wA (.slice oa k oc) R) := Lib.hid (Sl.of_own HO.out (own_max HO.out))
      have HC := Lib.hid (with14_any (.slice oa k oc) R x wA HIR.out (by rw [HRK.out]; omega))
      have HTK : Hid (l.take (i + 1) = l.take i ++ [x]) := Lib.hid (by rw [List.take_succ_eq_append_getElem hls, hx])
      clear hx hls
      go_wp2_with fail
      go_at_call 170; refine HC.out.mono ?_; rintro e w2 ⟨⟨v2, R2, rfl, ho2, hl2⟩, b2⟩
      obtain ⟨oa2, oc2, rfl⟩ := own_form3 ho2
      have HP2 := Lib.hid hl2
      have hl2 : R2.length ≤ k + 1 := by have h9 := HP2.out.length_eq; have h8 := HRK.out; simp at h9; omega
      have HB2 := Lib.hid (HB.out.trans (b2.mono hsA))
      have HO2 := Lib.hid (own_baseB ho2 hsA)
      obtain ⟨k2, hk2⟩ : ∃ k2, R2.length = k2 := ⟨_, rfl⟩
      rw [hk2] at HO2 hl2 ⊢
      clear ho2 b2 hk2 HC
      go_wp2_with fail
      go_roundw
      case rel => exact ⟨i + 1, k2, R2, oa2, oc2, by omega, by go_num, rfl, by omega, Lib.hid (by rw [HTK.out]; exact (HP2.out.trans (HP.out.cons x)).trans (List.perm_append_singleton x (l.take i)).symm), HO2, HB2⟩
      case measure => simp [intOf]; omega
    · have k9 : ¬ (i : Int) < (n : Int) := by omega
      have HF : Hid ((∃ v l, Ending.returned (.slice oa k oc) = .returned v ∧ wA.ownsRow w.heap.size 3 1 v l.length (ints l) ∧ l.Perm PL) ∧ Below w.heap.size w wA) := Lib.hid ⟨⟨_, R, rfl, by rw [HRK.out]; exact HO.out, by rw [← HPL.out]; have h9 := HP.out; rw [HLL.out i (by rw [HN.out]; omega)] at h9; exact h9⟩, HB.out⟩
      go_wp2_with fail
      go_ret
      exact HF.out
end Go.Proofs.YtcdfmgobokjcnaaGreatDoor
/- Walks of taquinref14: Carrier, Shelf, Robot, Person, All, exact. -/
namespace Go.Proofs.YtcdfmgobokjcnaaGreatDoor
set_option linter.unusedSimpArgs false
set_option linter.unusedVariables false
open Go.RowKit

set_option maxRecDepth 100000 in
set_option maxHeartbeats 16000000 in
theorem carrier14_any (st : Bd.State) (shv rov pev dev skv : Value) (c : Nat) (w : World) (h : RoV w rov st.robots) :
    Calls Tryz.prog 169 #[stV st shv rov pev dev skv, .int .i64 (c : Int)] w fun e w' => (∃ k : Int, e = .returned (.int .i64 k) ∧ (0 ≤ k ↔ Bd.carried st c = true)) ∧ Below w.heap.size w w' := by
  obtain ⟨ra, rc, rfl, hrm⟩ := h.form
  unfold stV
  have HYE : Hid (∀ (i : Nat) (hi : i < st.robots.length), st.robots[i].load = (c : Int) → Bd.carried st c = true) := Lib.hid (fun i hi he => by
    unfold Bd.carried
    rw [List.any_eq_true]
    exact ⟨_, List.getElem_mem hi, by rw [he]; exact beq_self_eq_true _⟩)
  have HNO : Hid ((∀ (i : Nat) (hi : i < st.robots.length), st.robots[i].load ≠ (c : Int)) → Bd.carried st c = false) := Lib.hid (fun hn => by
    unfold Bd.carried
    rw [List.any_eq_false]
    intro r hr
    obtain ⟨i, hi, e⟩ := List.getElem_of_mem hr
    have h2 := hn i hi
    rw [e] at h2
    intro h3; exact h2 (eq_of_beq h3))
  obtain ⟨n, hn⟩ : ∃ n, st.robots.length = n := ⟨_, rfl⟩
  rw [hn] at h hrm ⊢
  have HRO := Lib.hid h
  have HN := Lib.hid hn
  obtain ⟨CR, hCR⟩ : ∃ b, Bd.carried st c = b := ⟨_, rfl⟩
  rw [hCR] at HYE HNO ⊢
  obtain ⟨w1, hw1⟩ : ∃ W, W = w.alloc (.cells #[.int .i64 st.tick, shv, .slice ra n rc, pev, dev, skv] 34) := ⟨_, rfl⟩
  have A1 := al1 w (.cells #[.int .i64 st.tick, shv, .slice ra n rc, pev, dev, skv] 34)
  rw [← hw1] at A1
  have I1 := Lib.hid A1.1
  have B1 := Lib.hid A1.2.1
  have HW1 := Lib.hid hw1
  have p2 : w1.cell? ⟨w.heap.size, 2, none⟩ = some (.slice ra n rc) := cell_of_heap I1.out 2 rfl
  have c0 : (0 : Int) ≤ (c : Int) := by omega
  clear h hn hCR hw1 A1
  go_enter Tryz.func169, Tryz.ntmps169
  go_upto_region 1 with fail
  rw [← HW1.out]
  go_wp2_with fail
  go_loop [5] (fun iv => ∃ k : Nat, k ≤ n ∧ iv = .int .i64 k ∧ Hid (∀ (i : Nat) (hi : i < st.robots.length), i < k → st.robots[i].load ≠ (c : Int))) (fun iv => n - (intOf iv).toNat)
  case atStart => exact ⟨0, by omega, rfl, Lib.hid (fun i hi h => by omega)⟩
  case round =>
    obtain ⟨k, hk, rfl, HB⟩ := hrel
    by_cases hkn : k < n
    · have k0 : (0 : Int) ≤ (k : Int) := by omega
      have k1 : (k : Int) < (n : Int) := by omega
      have hks : k < st.robots.length := by rw [HN.out]; exact hkn
      obtain ⟨b, o, e1, hb, t0, t1, -⟩ := (HRO.out.keep B1.out).cell k hks
      subst e1
      obtain ⟨x, hx⟩ : ∃ x, st.robots[k].load = x := ⟨_, rfl⟩
      rw [hx] at t1
      have HX := Lib.hid hx
      clear hx t0
      by_cases hxc : x = (c : Int)
      · have hcr := HYE.out k hks (HX.out.trans hxc)
        subst hcr
        subst hxc
        go_wp2_with fail
        go_ret
        exact ⟨⟨_, rfl, by simp⟩, B1.out⟩
      · have HB2 : Hid (∀ (i : Nat) (hi : i < st.robots.length), i < k + 1 → st.robots[i].load ≠ (c : Int)) := Lib.hid (fun i hi h => by
          by_cases hik : i = k
          · subst hik; rw [HX.out]; exact hxc
          · exact HB.out i hi (by omega))
        have hxb : (x == (c : Int)) = false := beq_eq_false_iff_ne.2 hxc
        clear hxc
        go_wp2_with fail
        go_round
        case rel => exact ⟨k + 1, by omega, by go_num, HB2⟩
        case measure => simp [intOf]; omega
    · have k9 : ¬ (k : Int) < (n : Int) := by omega
      have hcr := HNO.out (fun i hi => HB.out i hi (by have := HN.out; omega))
      subst hcr
      go_wp2_with fail
      go_ret
      exact ⟨⟨_, rfl, by simp⟩, B1.out⟩
set_option maxRecDepth 100000 in
set_option maxHeartbeats 16000000 in
theorem shelf14_any (st : Bd.State) (shv rov pev dev skv : Value) (c : Nat) (w : World) (hc : c < st.shelves.length) (h : Is w shv st.shelves) (hro : RoV w rov st.robots) (hb : ∀ x ∈ st.shelves, -1152921504606846976 ≤ x ∧ x ≤ 1152921504606846976) :
    Calls Tryz.prog 141 #[stV st shv rov pev dev skv, .int .i64 c] w (PermPost (Bd.shelfL st c) w) := by
  have HCA := Lib.hid (fun W (hW : Below w.heap.size w W) => carrier14_any st shv rov pev dev skv c W (hro.keep hW))
  obtain ⟨sa, sc, rfl, hsm⟩ := h.form
  unfold stV at HCA ⊢
  obtain ⟨n, hn⟩ : ∃ n, st.shelves.length = n := ⟨_, rfl⟩
  rw [hn] at h hsm HCA ⊢
  have HL := Lib.hid (fun W (hW : Below w.heap.size w W) => h.keep hW)
  have HN := Lib.hid hn
  have HBB := Lib.hid hb
  obtain ⟨w1, hw1⟩ : ∃ w1, w1 = w.alloc (.cells #[.int .i64 st.tick, .slice sa n sc, rov, pev, dev, skv] 34) := ⟨_, rfl⟩
  have B1 : Hid (Below w.heap.size w w1) := Lib.hid (by rw [hw1]; exact (Below.refl _ w).alloc (Nat.le_refl _) _)
  have I1 : Hid (w1.heap[w.heap.size]? = some (.cells #[.int .i64 st.tick, .slice sa n sc, rov, pev, dev, skv] 34 (0, 0))) := Lib.hid (by rw [hw1]; exact heap_alloc_new _ _)
  have HW1 := Lib.hid hw1
  have hs1 := B1.out.size
  have p0 : w1.cell? ⟨w.heap.size, 0, none⟩ = some (.int .i64 st.tick) := cell_of_heap I1.out 0 rfl
  have p1 : w1.cell? ⟨w.heap.size, 1, none⟩ = some (.slice sa n sc) := cell_of_heap I1.out 1 rfl
  have p2 : w1.cell? ⟨w.heap.size, 2, none⟩ = some rov := cell_of_heap I1.out 2 rfl
  have p3 : w1.cell? ⟨w.heap.size, 3, none⟩ = some pev := cell_of_heap I1.out 3 rfl
  have p4 : w1.cell? ⟨w.heap.size, 4, none⟩ = some dev := cell_of_heap I1.out 4 rfl
  have p5 : w1.cell? ⟨w.heap.size, 5, none⟩ = some skv := cell_of_heap I1.out 5 rfl
  have HE : Hid (∀ W, Below w.heap.size w W → Bd.carried st c = true → PermPost (Bd.shelfL st c) w (.returned (.slice none 0 0)) W) := Lib.hid (fun W hW hcr => ⟨⟨_, [], rfl, World.ownsRow_nil .., by unfold Bd.shelfL; rw [if_pos hcr]⟩, hW⟩)
  clear h hn hb hro hw1
  have x0 : (0 : Int) ≤ (c : Int) := by omega
  have x1 : (c : Int) < (n : Int) := by have := HN.out; omega
  have HC := Lib.hid (HCA.out w1 B1.out)
  clear HCA
  go_enter Tryz.func141, Tryz.ntmps141
  go_upto_region 1 with fail
  rw [← HW1.out]
  go_wp2_with fail
  go_at_call 169; refine HC.out.mono ?_; rintro e w2 ⟨⟨k, rfl, hcr⟩, b2⟩
  have HCR := Lib.hid hcr
  clear hcr
  have B2 := Lib.hid (B1.out.trans (b2.mono hs1))
  have I2 := Lib.hid (keep_heap I1.out b2)
  clear b2 HC p0 p1 p2 p3 p4 p5
  by_cases hk : 0 ≤ k
  · go_wp2_with fail
    go_ret
    exact HE.out _ B2.out (HCR.out.1 hk)
  · obtain ⟨b, o, e1, c0⟩ := (HL.out w2 B2.out).cell c hc
    subst e1
    have hv := HBB.out _ (List.getElem_mem hc)
    obtain ⟨y, hy⟩ : ∃ y, st.shelves[c] = y := ⟨_, rfl⟩
    have HSL : Hid (Bd.shelfL st c = [2 * y + 1]) := Lib.hid (by
      unfold Bd.shelfL
      rw [if_neg (fun h9 => hk (HCR.out.2 h9)), List.getD_eq_getElem?_getD, List.getElem?_eq_getElem hc, hy]; rfl)
    rw [hy] at c0 hv
    have q1 : w2.cell? ⟨w.heap.size, 1, none⟩ = some (.slice (some ⟨b, o, none⟩) n sc) := cell_of_heap I2.out 1 rfl
    obtain ⟨v1, v2⟩ := hv
    have u1 : -9223372036854775808 ≤ 2 * y := by omega
    have u2 : 2 * y ≤ 9223372036854775807 := by omega
    have u3 : -9223372036854775808 ≤ 2 * y + 1 := by omega
    have u4 : 2 * y + 1 ≤ 9223372036854775807 := by omega
    have HO : Hid ((w2.alloc (.cells #[.int .i64 (2 * y + 1)] 3)).ownsRow w.heap.size 3 1 (.slice (some ⟨w2.heap.size, 0, none⟩) 1 1) 1 (ints [2 * y + 1])) := Lib.hid (by
      have h9 := World.ownsRow_lit (base := w.heap.size) (e := 3) (size := 1) w2 #[.int .i64 (2 * y + 1)] 1 B2.out.size (by unfold maxLen; omega) rfl
      simpa [ints] using h9)
    have BX := Lib.hid (B2.out.alloc B2.out.size (.cells #[.int .i64 (2 * y + 1)] 3))
    clear hy v1 v2
    go_wp2_with fail
    go_ret
    exact ⟨⟨_, [2 * y + 1], rfl, HO.out, by rw [HSL.out]⟩, BX.out⟩
set_option maxRecDepth 100000 in
set_option maxHeartbeats 16000000 in
theorem robot14_any (st : Bd.State) (shv rov pev dev skv : Value) (x : Nat) (w : World) (h : RoV w rov st.robots) (hx : x < st.robots.length) (hb : ∀ r ∈ st.robots, -1152921504606846976 ≤ r.cell ∧ r.cell ≤ 1152921504606846976) :
    Calls Tryz.prog 140 #[stV st shv rov pev dev skv, .int .i64 x] w (PermPost (Bd.robotL (st.robots[x])) w) := by
  obtain ⟨ra, rc, rfl, hrm⟩ := h.form
  unfold stV
  have hbr := hb _ (List.getElem_mem hx)
  obtain ⟨n, hn⟩ : ∃ n, st.robots.length = n := ⟨_, rfl⟩
  rw [hn] at h hrm ⊢
  have HL := Lib.hid (fun W (hW : Below w.heap.size w W) => h.keep hW)
  obtain ⟨w1, hw1⟩ : ∃ w1, w1 = w.alloc (.cells #[.int .i64 st.tick, shv, .slice ra n rc, pev, dev, skv] 34) := ⟨_, rfl⟩
  have B1 : Hid (Below w.heap.size w w1) := Lib.hid (by rw [hw1]; exact (Below.refl _ w).alloc (Nat.le_refl _) _)
  have I1 : Hid (w1.heap[w.heap.size]? = some (.cells #[.int .i64 st.tick, shv, .slice ra n rc, pev, dev, skv] 34 (0, 0))) := Lib.hid (by rw [hw1]; exact heap_alloc_new _ _)
  have HW1 := Lib.hid hw1
  have hs1 := B1.out.size
  obtain ⟨b, o, e1, hbk, t0, t1, t2, t3, t4, t5⟩ := (HL.out w1 B1.out).cell x hx
  subst e1
  obtain ⟨R, hR⟩ : ∃ R, st.robots[x] = R := ⟨_, rfl⟩
  rw [hR] at t0 t1 t2 t3 t4 t5 hbr ⊢
  have p2 : w1.cell? ⟨w.heap.size, 2, none⟩ = some (.slice (some ⟨b, o, none⟩) n rc) := cell_of_heap I1.out 2 rfl
  have x0 : (0 : Int) ≤ (x : Int) := by omega
  have x1 : (x : Int) < (n : Int) := by omega
  have HAT := Lib.hid (fun W => at14_any R R.cell W hbr)
  unfold robC at HAT
  unfold PermPost at HAT
  clear h hn hb hx hR hw1 hbr
  go_enter Tryz.func140, Tryz.ntmps140
  go_upto_region 1 with fail
  rw [← HW1.out]
  go_upto_region 3 with fail
  refine wp_region_held_drew (S := fun W' => W'.cell? ⟨w.heap.size, 2, none⟩ = some (.slice (some ⟨b, o, none⟩) n rc) ∧ W'.cell? ⟨b, o + x * 6, none⟩ = some (.int .i64 R.cell) ∧ W'.cell? ⟨b, o + x * 6 + 1, none⟩ = some (.int .i64 R.load) ∧ W'.cell? ⟨b, o + x * 6 + 2, none⟩ = some (.int .i64 R.charge) ∧ W'.cell? ⟨b, o + x * 6 + 3, none⟩ = some (.int .i64 R.rest) ∧ W'.cell? ⟨b, o + x * 6 + 4, none⟩ = some (.int .i64 R.mute) ∧ W'.cell? ⟨b, o + x * 6 + 5, none⟩ = some (.bool R.dead)) (by kernel_rfl) ⟨p2, t0, t1, t2, t3, t4, t5⟩ (fun hHeld => ?_)
  obtain ⟨wx, hwx⟩ : ∃ W, W = w1.drew := ⟨_, rfl⟩
  rw [← hwx] at hHeld ⊢
  have HBX : Hid (Below w.heap.size w wx) := Lib.hid (B1.out.trans (by subst hwx; exact ⟨rfl, rfl, rfl, Nat.le_refl _, fun _ _ => rfl⟩))
  clear hwx
  refine wpAnyH_take (i := 0) (oi := _) (v := ?_) rfl (by kernel_rfl) (by kernel_rfl) (by kernel_rfl) (fun _ _ _ h => h) (Or.inl ⟨by rfl, ?_⟩) (by assumption) ?_
  rotate_left
  · intro w hSw; obtain ⟨k0, k1, k2, k3, k4, k5, k6⟩ := hSw; go_simp; all_goals (with_reducible rfl)
  try simp only [Act.put, List.getElem_toArray, List.getElem_cons_zero, List.getElem_cons_succ, List.setIfInBounds_toArray, List.set_cons_zero, List.set_cons_succ]
  refine wpAnyH_take (i := 1) (oi := _) (v := ?_) rfl (by kernel_rfl) (by kernel_rfl) (by kernel_rfl) (fun _ _ _ h => h) (Or.inl ⟨by rfl, ?_⟩) (by assumption) ?_
  rotate_left
  · intro w hSw; obtain ⟨k0, k1, k2, k3, k4, k5, k6⟩ := hSw; go_simp; all_goals (with_reducible rfl)
  try simp only [Act.put, List.getElem_toArray, List.getElem_cons_zero, List.getElem_cons_succ, List.setIfInBounds_toArray, List.set_cons_zero, List.set_cons_succ]
  refine wpAnyH_take (i := 2) (oi := _) (v := ?_) rfl (by kernel_rfl) (by kernel_rfl) (by kernel_rfl) (fun _ _ _ h => h) (Or.inl ⟨by rfl, ?_⟩) (by assumption) ?_
  rotate_left
  · intro w hSw; obtain ⟨k0, k1, k2, k3, k4, k5, k6⟩ := hSw; go_simp; all_goals (with_reducible rfl)
  try simp only [Act.put, List.getElem_toArray, List.getElem_cons_zero, List.getElem_cons_succ, List.setIfInBounds_toArray, List.set_cons_zero, List.set_cons_succ]
  refine wpAnyH_take (i := 3) (oi := _) (v := ?_) rfl (by kernel_rfl) (by kernel_rfl) (by kernel_rfl) (fun _ _ _ h => h) (Or.inl ⟨by rfl, ?_⟩) (by assumption) ?_
  rotate_left
  · intro w hSw; obtain ⟨k0, k1, k2, k3, k4, k5, k6⟩ := hSw; go_simp; all_goals (with_reducible rfl)
  try simp only [Act.put, List.getElem_toArray, List.getElem_cons_zero, List.getElem_cons_succ, List.setIfInBounds_toArray, List.set_cons_zero, List.set_cons_succ]
  refine wpAnyH_take (i := 4) (oi := _) (v := ?_) rfl (by kernel_rfl) (by kernel_rfl) (by kernel_rfl) (fun _ _ _ h => h) (Or.inl ⟨by rfl, ?_⟩) (by assumption) ?_
  rotate_left
  · intro w hSw; obtain ⟨k0, k1, k2, k3, k4, k5, k6⟩ := hSw; go_simp; all_goals (with_reducible rfl)
  try simp only [Act.put, List.getElem_toArray, List.getElem_cons_zero, List.getElem_cons_succ, List.setIfInBounds_toArray, List.set_cons_zero, List.set_cons_succ]
  refine wpAnyH_take (i := 5) (oi := _) (v := ?_) rfl (by kernel_rfl) (by kernel_rfl) (by kernel_rfl) (fun _ _ _ h => h) (Or.inl ⟨by rfl, ?_⟩) (by assumption) ?_
  rotate_left
  · intro w hSw; obtain ⟨k0, k1, k2, k3, k4, k5, k6⟩ := hSw; go_simp; all_goals (with_reducible rfl)
  try simp only [Act.put, List.getElem_toArray, List.getElem_cons_zero, List.getElem_cons_succ, List.setIfInBounds_toArray, List.set_cons_zero, List.set_cons_succ]
  refine wpAnyH_take (i := 6) (oi := _) (v := ?_) rfl (by kernel_rfl) (by kernel_rfl) (by kernel_rfl) (fun _ _ _ h => h) (Or.inl ⟨by rfl, ?_⟩) (by assumption) ?_
  rotate_left
  · intro w hSw; obtain ⟨k0, k1, k2, k3, k4, k5, k6⟩ := hSw; go_simp; all_goals (with_reducible rfl)
  try simp only [Act.put, List.getElem_toArray, List.getElem_cons_zero, List.getElem_cons_succ, List.setIfInBounds_toArray, List.set_cons_zero, List.set_cons_succ]
  refine wpAnyH_take (i := 7) (oi := _) (v := ?_) rfl (by kernel_rfl) (by kernel_rfl) (by kernel_rfl) (fun _ _ _ h => h) (Or.inl ⟨by rfl, ?_⟩) (by assumption) ?_
  rotate_left
  · intro w hSw; obtain ⟨k0, k1, k2, k3, k4, k5, k6⟩ := hSw; go_simp; all_goals (with_reducible rfl)
  try simp only [Act.put, List.getElem_toArray, List.getElem_cons_zero, List.getElem_cons_succ, List.setIfInBounds_toArray, List.set_cons_zero, List.set_cons_succ]
  refine wpAnyH_take (i := 8) (oi := _) (v := ?_) rfl (by kernel_rfl) (by kernel_rfl) (by kernel_rfl) (fun _ _ _ h => h) (Or.inl ⟨by rfl, ?_⟩) (by assumption) ?_
  rotate_left
  · intro w hSw; obtain ⟨k0, k1, k2, k3, k4, k5, k6⟩ := hSw; go_simp; all_goals (with_reducible rfl)
  try simp only [Act.put, List.getElem_toArray, List.getElem_cons_zero, List.getElem_cons_succ, List.setIfInBounds_toArray, List.set_cons_zero, List.set_cons_succ]
  refine wpAnyH_take (i := 9) (oi := _) (v := ?_) rfl (by kernel_rfl) (by kernel_rfl) (by kernel_rfl) (fun _ _ _ h => h) (Or.inl ⟨by rfl, ?_⟩) (by assumption) ?_
  rotate_left
  · intro w hSw; obtain ⟨k0, k1, k2, k3, k4, k5, k6⟩ := hSw; go_simp; all_goals (with_reducible rfl)
  try simp only [Act.put, List.getElem_toArray, List.getElem_cons_zero, List.getElem_cons_succ, List.setIfInBounds_toArray, List.set_cons_zero, List.set_cons_succ]
  refine wpAnyH_take (i := 10) (oi := _) (v := ?_) rfl (by kernel_rfl) (by kernel_rfl) (by kernel_rfl) (fun _ _ _ h => h) (Or.inl ⟨by rfl, ?_⟩) (by assumption) ?_
  rotate_left
  · intro w hSw; obtain ⟨k0, k1, k2, k3, k4, k5, k6⟩ := hSw; go_simp; all_goals (with_reducible rfl)
  try simp only [Act.put, List.getElem_toArray, List.getElem_cons_zero, List.getElem_cons_succ, List.setIfInBounds_toArray, List.set_cons_zero, List.set_cons_succ]
  refine wpAnyH_ready (rs := [11]) (by kernel_rfl) (by simp) ?_
  refine AllReadyH.cons (o := _) rfl (fun K hK => ?_) AllReadyH.nil
  go_simp
  go_at_call 168; with_reducible refine (HAT.out wx).mono ?_; rintro e w5 ⟨⟨v5, l5, rfl, ho5, hl5⟩, b5⟩
  have HO5 := Lib.hid (own_baseB ho5 HBX.out.size)
  have B5 := Lib.hid (HBX.out.trans (b5.mono HBX.out.size))
  have HE : Hid ((∃ v l, Ending.returned v5 = .returned v ∧ w5.ownsRow w.heap.size 3 1 v l.length (ints l) ∧ l.Perm (Bd.robotL R)) ∧ Below w.heap.size w w5) := Lib.hid ⟨⟨v5, l5, rfl, HO5.out, hl5⟩, B5.out⟩
  obtain ⟨a5, c5, rfl⟩ := own_form3 ho5
  go_wp2_with fail
  refine hK.out _ _ ?_ (fun hHeld => ?_)
  · obtain ⟨k0, k1, k2, k3, k4, k5, k6⟩ := hHeld; exact ⟨(b5.cell (p := ⟨w.heap.size, 2, none⟩) (cell_block_lt k0)).trans k0, (b5.cell (p := ⟨b, o + x * 6, none⟩) (cell_block_lt k1)).trans k1, (b5.cell (p := ⟨b, o + x * 6 + 1, none⟩) (cell_block_lt k2)).trans k2, (b5.cell (p := ⟨b, o + x * 6 + 2, none⟩) (cell_block_lt k3)).trans k3, (b5.cell (p := ⟨b, o + x * 6 + 3, none⟩) (cell_block_lt k4)).trans k4, (b5.cell (p := ⟨b, o + x * 6 + 4, none⟩) (cell_block_lt k5)).trans k5, (b5.cell (p := ⟨b, o + x * 6 + 5, none⟩) (cell_block_lt k6)).trans k6⟩
  clear hK K ho5 b5
  try simp only [Act.put, List.getElem_toArray, List.getElem_cons_zero, List.getElem_cons_succ, List.setIfInBounds_toArray, List.set_cons_zero, List.set_cons_succ]
  refine wpAnyH_take (i := 12) (oi := _) (v := ?_) rfl (by kernel_rfl) (by kernel_rfl) (by kernel_rfl) (fun _ _ _ h => h) (Or.inl ⟨by rfl, ?_⟩) (by assumption) ?_
  rotate_left
  · intro w hSw; obtain ⟨k0, k1, k2, k3, k4, k5, k6⟩ := hSw; go_simp; all_goals (with_reducible rfl)
  try simp only [Act.put, List.getElem_toArray, List.getElem_cons_zero, List.getElem_cons_succ, List.setIfInBounds_toArray, List.set_cons_zero, List.set_cons_succ]
  refine wpAnyH_done (by kernel_rfl) ?_ _
  go_wp2_with fail
  go_ret
  exact HE.out
set_option maxRecDepth 100000 in
set_option maxHeartbeats 16000000 in
theorem person14_any (st : Bd.State) (shv rov pev dev skv : Value) (x : Nat) (w : World) (h : Is w pev st.people) (hx : x < st.people.length) (hb : ∀ r ∈ st.people, -1152921504606846976 ≤ r ∧ r ≤ 1152921504606846976) :
    Calls Tryz.prog 142 #[stV st shv rov pev dev skv, .int .i64 x] w (PermPost (Bd.personL (st.people[x])) w) := by
  obtain ⟨ra, rc, rfl, hrm⟩ := h.form
  unfold stV
  obtain ⟨h1, h2⟩ := hb _ (List.getElem_mem hx)
  obtain ⟨n, hn⟩ : ∃ n, st.people.length = n := ⟨_, rfl⟩
  rw [hn] at h hrm ⊢
  have HL := Lib.hid (fun W (hW : Below w.heap.size w W) => h.keep hW)
  obtain ⟨w1, hw1⟩ : ∃ w1, w1 = w.alloc (.cells #[.int .i64 st.tick, shv, rov, .slice ra n rc, dev, skv] 34) := ⟨_, rfl⟩
  have B1 : Hid (Below w.heap.size w w1) := Lib.hid (by rw [hw1]; exact (Below.refl _ w).alloc (Nat.le_refl _) _)
  have I1 : Hid (w1.heap[w.heap.size]? = some (.cells #[.int .i64 st.tick, shv, rov, .slice ra n rc, dev, skv] 34 (0, 0))) := Lib.hid (by rw [hw1]; exact heap_alloc_new _ _)
  have HW1 := Lib.hid hw1
  have hs1 := B1.out.size
  obtain ⟨b, o, e1, t0⟩ := (HL.out w1 B1.out).cell x hx
  subst e1
  obtain ⟨y, hy⟩ : ∃ y, st.people[x] = y := ⟨_, rfl⟩
  rw [hy] at t0 h1 h2 ⊢
  have p3 : w1.cell? ⟨w.heap.size, 3, none⟩ = some (.slice (some ⟨b, o, none⟩) n rc) := cell_of_heap I1.out 3 rfl
  have x0 : (0 : Int) ≤ (x : Int) := by omega
  have x1 : (x : Int) < (n : Int) := by omega
  have m1 : -9223372036854775808 ≤ 2 * y := by omega
  have m2 : 2 * y ≤ 9223372036854775807 := by omega
  have m3 : -9223372036854775808 ≤ 2 * y + 1 := by omega
  have m4 : 2 * y + 1 ≤ 9223372036854775807 := by omega
  have HE : Hid (∀ W, Below w1.heap.size w1 W → PermPost (Bd.personL y) w (.returned (.slice (some ⟨W.heap.size, 0, none⟩) 2 2)) (W.alloc (.cells #[.int .i64 (2 * y), .int .i64 (2 * y + 1)] 3))) := Lib.hid (fun W hW => by
    have hB := B1.out.trans (hW.mono hs1)
    refine ⟨⟨_, [2 * y, 2 * y + 1], rfl, ?_, List.Perm.refl _⟩, hB.alloc hB.size _⟩
    have h9 := World.ownsRow_lit (base := w.heap.size) (e := 3) (size := 1) W #[.int .i64 (2 * y), .int .i64 (2 * y + 1)] 2 hB.size (by unfold maxLen; omega) rfl
    simpa [ints] using h9)
  have r1 : IntKind.i64.wrap (2 * y) = 2 * y := IntWalk.i64_in _ (by omega)
  have r2 : IntKind.i64.wrap (2 * y + 1) = 2 * y + 1 := IntWalk.i64_in _ (by omega)
  clear h hn hb hx hy hw1 h1 h2
  go_enter Tryz.func142, Tryz.ntmps142
  go_upto_region 1 with fail
  rw [← HW1.out]
  go_upto_region 3 with fail
  refine wp_region_held_drew (S := fun W' => W'.cell? ⟨w.heap.size, 3, none⟩ = some (.slice (some ⟨b, o, none⟩) n rc) ∧ W'.cell? ⟨b, o + x, none⟩ = some (.int .i64 y)) (by kernel_rfl) ⟨p3, t0⟩ (fun hHeld => ?_)
  obtain ⟨wx, hwx⟩ : ∃ W, W = w1.drew := ⟨_, rfl⟩
  rw [← hwx] at hHeld ⊢
  have HBX : Hid (Below w1.heap.size w1 wx) := Lib.hid (by subst hwx; exact ⟨rfl, rfl, rfl, Nat.le_refl _, fun _ _ => rfl⟩)
  clear hwx
  refine wpAnyH_take (i := 0) (oi := _) (v := ?_) rfl (by kernel_rfl) (by kernel_rfl) (by kernel_rfl) (fun _ _ _ h => h) (Or.inl ⟨by rfl, ?_⟩) (by assumption) ?_
  rotate_left
  · intro w hSw; obtain ⟨k0, k1⟩ := hSw; go_simp; all_goals (with_reducible rfl)
  try simp only [Act.put, List.getElem_toArray, List.getElem_cons_zero, List.getElem_cons_succ, List.setIfInBounds_toArray, List.set_cons_zero, List.set_cons_succ]
  refine wpAnyH_take (i := 1) (oi := _) (v := ?_) rfl (by kernel_rfl) (by kernel_rfl) (by kernel_rfl) (fun _ _ _ h => h) (Or.inl ⟨by rfl, ?_⟩) (by assumption) ?_
  rotate_left
  · intro w hSw; obtain ⟨k0, k1⟩ := hSw; go_simp; all_goals (with_reducible rfl)
  try simp only [Act.put, List.getElem_toArray, List.getElem_cons_zero, List.getElem_cons_succ, List.setIfInBounds_toArray, List.set_cons_zero, List.set_cons_succ]
  refine wpAnyH_take (i := 2) (oi := _) (v := ?_) rfl (by kernel_rfl) (by kernel_rfl) (by kernel_rfl) (fun _ _ _ h => h) (Or.inl ⟨by rfl, ?_⟩) (by assumption) ?_
  rotate_left
  · intro w hSw; obtain ⟨k0, k1⟩ := hSw; go_simp; all_goals (with_reducible rfl)
  try simp only [Act.put, List.getElem_toArray, List.getElem_cons_zero, List.getElem_cons_succ, List.setIfInBounds_toArray, List.set_cons_zero, List.set_cons_succ]
  refine wpAnyH_take (i := 3) (oi := _) (v := ?_) rfl (by kernel_rfl) (by kernel_rfl) (by kernel_rfl) (fun _ _ _ h => h) (Or.inl ⟨by rfl, ?_⟩) (by assumption) ?_
  rotate_left
  · intro w hSw; obtain ⟨k0, k1⟩ := hSw; go_simp; all_goals (with_reducible rfl)
  try simp only [Act.put, List.getElem_toArray, List.getElem_cons_zero, List.getElem_cons_succ, List.setIfInBounds_toArray, List.set_cons_zero, List.set_cons_succ]
  refine wpAnyH_take (i := 4) (oi := _) (v := ?_) rfl (by kernel_rfl) (by kernel_rfl) (by kernel_rfl) (fun _ _ _ h => h) (Or.inl ⟨by rfl, ?_⟩) (by assumption) ?_
  rotate_left
  · intro w hSw; obtain ⟨k0, k1⟩ := hSw; go_simp; all_goals (with_reducible rfl)
  try simp only [Act.put, List.getElem_toArray, List.getElem_cons_zero, List.getElem_cons_succ, List.setIfInBounds_toArray, List.set_cons_zero, List.set_cons_succ]
  refine wpAnyH_take (i := 5) (oi := _) (v := ?_) rfl (by kernel_rfl) (by kernel_rfl) (by kernel_rfl) (fun _ _ _ h => h) (Or.inl ⟨by rfl, ?_⟩) (by assumption) ?_
  rotate_left
  · intro w hSw; obtain ⟨k0, k1⟩ := hSw; go_simp; all_goals (with_reducible rfl)
  try simp only [Act.put, List.getElem_toArray, List.getElem_cons_zero, List.getElem_cons_succ, List.setIfInBounds_toArray, List.set_cons_zero, List.set_cons_succ]
  refine wpAnyH_take (i := 6) (oi := _) (v := ?_) rfl (by kernel_rfl) (by kernel_rfl) (by kernel_rfl) (fun _ _ _ h => h) (Or.inl ⟨by rfl, ?_⟩) (by assumption) ?_
  rotate_left
  · intro w hSw; obtain ⟨k0, k1⟩ := hSw; go_simp; all_goals (with_reducible rfl)
  try simp only [Act.put, List.getElem_toArray, List.getElem_cons_zero, List.getElem_cons_succ, List.setIfInBounds_toArray, List.set_cons_zero, List.set_cons_succ]
  refine wpAnyH_take (i := 7) (oi := _) (v := ?_) rfl (by kernel_rfl) (by kernel_rfl) (by kernel_rfl) (fun _ _ _ h => h) (Or.inl ⟨by rfl, ?_⟩) (by assumption) ?_
  rotate_left
  · intro w hSw; obtain ⟨k0, k1⟩ := hSw; go_simp; all_goals (with_reducible rfl)
  try simp only [Act.put, List.getElem_toArray, List.getElem_cons_zero, List.getElem_cons_succ, List.setIfInBounds_toArray, List.set_cons_zero, List.set_cons_succ]
  refine wpAnyH_take (i := 8) (oi := _) (v := ?_) rfl (by kernel_rfl) (by kernel_rfl) (by kernel_rfl) (fun _ _ _ h => h) (Or.inl ⟨by rfl, ?_⟩) (by assumption) ?_
  rotate_left
  · intro w hSw; obtain ⟨k0, k1⟩ := hSw; go_simp; all_goals (with_reducible rfl)
  try simp only [Act.put, List.getElem_toArray, List.getElem_cons_zero, List.getElem_cons_succ, List.setIfInBounds_toArray, List.set_cons_zero, List.set_cons_succ]
  refine wpAnyH_take (i := 9) (oi := _) (v := ?_) rfl (by kernel_rfl) (by kernel_rfl) (by kernel_rfl) (fun _ _ _ h => h) (Or.inl ⟨by rfl, ?_⟩) (by assumption) ?_
  rotate_left
  · intro w hSw; obtain ⟨k0, k1⟩ := hSw; go_simp; all_goals (with_reducible rfl)
  try simp only [Act.put, List.getElem_toArray, List.getElem_cons_zero, List.getElem_cons_succ, List.setIfInBounds_toArray, List.set_cons_zero, List.set_cons_succ]
  refine wpAnyH_take (i := 10) (oi := _) (v := ?_) rfl (by kernel_rfl) (by kernel_rfl) (by kernel_rfl) (fun _ _ _ h => h) (Or.inl ⟨by rfl, ?_⟩) (by assumption) ?_
  rotate_left
  · intro w hSw; obtain ⟨k0, k1⟩ := hSw; go_simp; all_goals (with_reducible rfl)
  try simp only [Act.put, List.getElem_toArray, List.getElem_cons_zero, List.getElem_cons_succ, List.setIfInBounds_toArray, List.set_cons_zero, List.set_cons_succ]
  refine wpAnyH_take (i := 11) (oi := _) (v := ?_) rfl (by kernel_rfl) (by kernel_rfl) (by kernel_rfl) (fun _ _ _ h => h) (Or.inl ⟨by rfl, ?_⟩) (by assumption) ?_
  rotate_left
  · intro w hSw; obtain ⟨k0, k1⟩ := hSw; go_simp; all_goals (with_reducible rfl)
  try simp only [Act.put, List.getElem_toArray, List.getElem_cons_zero, List.getElem_cons_succ, List.setIfInBounds_toArray, List.set_cons_zero, List.set_cons_succ]
  refine wpAnyH_take (i := 12) (oi := _) (v := ?_) rfl (by kernel_rfl) (by kernel_rfl) (by kernel_rfl) (fun _ _ _ h => h) (Or.inl ⟨by rfl, ?_⟩) (by assumption) ?_
  rotate_left
  · intro w hSw; obtain ⟨k0, k1⟩ := hSw; go_simp; all_goals (with_reducible rfl)
  try simp only [Act.put, List.getElem_toArray, List.getElem_cons_zero, List.getElem_cons_succ, List.setIfInBounds_toArray, List.set_cons_zero, List.set_cons_succ]
  refine wpAnyH_ready (rs := [13]) (by kernel_rfl) (by simp) ?_
  refine AllReadyH.cons (o := _) rfl (fun K hK => ?_) AllReadyH.nil
  go_simp
  go_wp2_with fail
  refine hK.out _ _ ?_ (fun hHeld2 => ?_)
  · obtain ⟨k0, k1⟩ := hHeld; exact ⟨(((Below.refl _ wx).alloc (Nat.le_refl _) _).cell (p := ⟨w.heap.size, 3, none⟩) (cell_block_lt k0)).trans k0, (((Below.refl _ wx).alloc (Nat.le_refl _) _).cell (p := ⟨b, o + x, none⟩) (cell_block_lt k1)).trans k1⟩
  clear hK K
  try simp only [Act.put, List.getElem_toArray, List.getElem_cons_zero, List.getElem_cons_succ, List.setIfInBounds_toArray, List.set_cons_zero, List.set_cons_succ]
  refine wpAnyH_take (i := 14) (oi := _) (v := ?_) rfl (by kernel_rfl) (by kernel_rfl) (by kernel_rfl) (fun _ _ _ h => h) (Or.inl ⟨by rfl, ?_⟩) (by assumption) ?_
  rotate_left
  · intro w hSw; obtain ⟨k0, k1⟩ := hSw; go_simp; all_goals (with_reducible rfl)
  try simp only [Act.put, List.getElem_toArray, List.getElem_cons_zero, List.getElem_cons_succ, List.setIfInBounds_toArray, List.set_cons_zero, List.set_cons_succ]
  refine wpAnyH_done (by kernel_rfl) ?_ _
  go_wp2_with fail
  go_ret
  exact HE.out wx HBX.out
end Go.Proofs.YtcdfmgobokjcnaaGreatDoor
/- Walks of taquinref14: All, exact. -/
namespace Go.Proofs.YtcdfmgobokjcnaaGreatDoor
set_option linter.unusedSimpArgs false
set_option linter.unusedVariables false
open Go.RowKit

theorem own_keepB {w W : World} {base : Nat} {e : TypeId} {sz : Nat} {v : Value} {n : Nat} {xs : List Value} (h : w.ownsRow base e sz v n xs) (hb : Below w.heap.size w W) : W.ownsRow base e sz v n xs :=
  World.ownsRow.kept (row := none) h ⟨hb.os, hb.tape, hb.output, hb.size, fun k hk _ => hb.block k hk⟩ (by cases hv : v.ownBlock with | none => exact .inl rfl | some g => exact .inr (by simp))
set_option maxRecDepth 100000 in
set_option maxHeartbeats 16000000 in
theorem all14_any (st : Bd.State) (shv rov pev dev skv : Value) (w : World) (h : StV w shv rov pev dev skv st) (hf : Few4 st) :
    Calls Tryz.prog 101 #[stV st shv rov pev dev skv] w (PermPost (Bd.allL st) w) := by
  obtain ⟨RB, hRB⟩ : ∃ G : Nat → List Int, ∀ x (hx : x < st.robots.length), G x = Bd.robotL st.robots[x] := ⟨fun x => match st.robots[x]? with | some r => Bd.robotL r | none => [], fun x hx => by simp [hx]⟩
  obtain ⟨PB, hPB⟩ : ∃ G : Nat → List Int, ∀ x (hx : x < st.people.length), G x = Bd.personL st.people[x] := ⟨fun x => match st.people[x]? with | some r => Bd.personL r | none => [], fun x hx => by simp [hx]⟩
  have HRB := Lib.hid (fun W (hW : Below w.heap.size w W) x (hx : x < st.robots.length) => (by rw [hRB x hx]; exact robot14_any st shv rov pev dev skv x W (h.keep hW).ro hx hf.roB : Calls Tryz.prog 140 #[stV st shv rov pev dev skv, .int .i64 x] W (PermPost (RB x) W)))
  have HSH := Lib.hid (fun W (hW : Below w.heap.size w W) (x : Nat) (hx : x < st.shelves.length) => shelf14_any st shv rov pev dev skv x W hx (h.keep hW).sh (h.keep hW).ro hf.shB)
  have HPE := Lib.hid (fun W (hW : Below w.heap.size w W) x (hx : x < st.people.length) => (by rw [hPB x hx]; exact person14_any st shv rov pev dev skv x W (h.keep hW).pe hx hf.peB : Calls Tryz.prog 142 #[stV st shv rov pev dev skv, .int .i64 x] W (PermPost (PB x) W)))
  obtain ⟨G1, hG1⟩ : ∃ G : Nat → List Int, G = fun i => (st.robots.take i).flatMap Bd.robotL := ⟨_, rfl⟩
  obtain ⟨G2, hG2⟩ : ∃ G : Nat → List Int, G = fun i => G1 st.robots.length ++ (List.range i).flatMap (Bd.shelfL st) := ⟨_, rfl⟩
  obtain ⟨G3, hG3⟩ : ∃ G : Nat → List Int, G = fun i => G2 st.shelves.length ++ (st.people.take i).flatMap Bd.personL := ⟨_, rfl⟩
  have HG10 : Hid (G1 0 = []) := Lib.hid (by rw [hG1]; simp)
  have HG20 : Hid (G2 0 = G1 st.robots.length) := Lib.hid (by rw [hG2]; simp)
  have HG30 : Hid (G3 0 = G2 st.shelves.length) := Lib.hid (by rw [hG3]; simp)
  have HG1S : Hid (∀ i, i < st.robots.length → G1 (i + 1) = G1 i ++ RB i) := Lib.hid (fun i hi => by rw [hG1, hRB i hi]; exact Bd.flat_take Bd.robotL st.robots i hi)
  have HG2S : Hid (∀ i, G2 (i + 1) = G2 i ++ Bd.shelfL st i) := Lib.hid (fun i => by rw [hG2]; simp only [List.range_succ, List.flatMap_append, List.append_assoc]; simp)
  have HG3S : Hid (∀ i, i < st.people.length → G3 (i + 1) = G3 i ++ PB i) := Lib.hid (fun i hi => by
    rw [hG3, hPB i hi]
    show _ ++ (st.people.take (i + 1)).flatMap Bd.personL = _
    rw [Bd.flat_take Bd.personL st.people i hi, List.append_assoc])
  have HG3E : Hid (G3 st.people.length = Bd.allL st) := Lib.hid (by
    rw [hG3, hG2, hG1]
    simp only [List.take_length, List.append_assoc]; rfl)
  have HRL : Hid (∀ x, x < st.robots.length → (RB x).length ≤ 2) := Lib.hid (fun x hx => by rw [hRB x hx]; exact Bd.atL_len _ _)
  have HSL : Hid (∀ x, (Bd.shelfL st x).length ≤ 1) := Lib.hid (fun x => by unfold Bd.shelfL; split <;> simp)
  have HPL : Hid (∀ x, x < st.people.length → (PB x).length ≤ 2) := Lib.hid (fun x hx => by rw [hPB x hx]; simp [Bd.personL])
  clear hRB hPB hG1 hG2 hG3
  have g1 := hf.ro
  have g2 := hf.sh
  have g3 := hf.pe
  obtain ⟨sa, sc, rfl, hsm⟩ := h.sh.form
  obtain ⟨ra, rc, rfl, hrm⟩ := h.ro.form
  obtain ⟨pa, pc, rfl, hpm⟩ := h.pe.form
  unfold stV at *
  unfold PermPost at HRB HSH HPE
  obtain ⟨ns, e1⟩ : ∃ n, st.shelves.length = n := ⟨_, rfl⟩
  obtain ⟨nr, e2⟩ : ∃ n, st.robots.length = n := ⟨_, rfl⟩
  obtain ⟨np, e3⟩ : ∃ n, st.people.length = n := ⟨_, rfl⟩
  rw [e1, e2, e3] at HRB HPE
  rw [e2] at HG20 HG1S HRL
  rw [e1] at HG30
  rw [e3] at HG3S HG3E HPL
  obtain ⟨AL, hAL⟩ : ∃ m, Bd.allL st = m := ⟨_, rfl⟩
  rw [hAL] at HG3E ⊢
  clear hAL
  rw [e1, e2, e3] at HSH ⊢
  rw [e2] at g1
  rw [e1] at g2
  rw [e3] at g3
  obtain ⟨w1, hw1⟩ : ∃ w1, w1 = w.alloc (.cells #[.int .i64 st.tick, .slice sa ns sc, .slice ra nr rc, .slice pa np pc, dev, skv] 34) := ⟨_, rfl⟩
  have B1 : Hid (Below w.heap.size w w1) := Lib.hid (by rw [hw1]; exact (Below.refl _ w).alloc (Nat.le_refl _) _)
  have I1 : Hid (w1.heap[w.heap.size]? = some (.cells #[.int .i64 st.tick, .slice sa ns sc, .slice ra nr rc, .slice pa np pc, dev, skv] 34 (0, 0))) := Lib.hid (by rw [hw1]; exact heap_alloc_new _ _)
  have HW1 := Lib.hid hw1
  have hs1 : w.heap.size + 1 = w1.heap.size := by rw [hw1]; simp
  have O0 : Hid (w1.ownsRow w1.heap.size 3 1 (.slice none 0 0) 0 (ints [])) := Lib.hid (World.ownsRow_nil ..)
  have Z0 : Hid (Below w1.heap.size w1 w1) := Lib.hid (Below.refl _ _)
  clear h hf e1 e2 e3 hsm hrm hpm hw1
  go_enter Tryz.func101, Tryz.ntmps101
  go_upto_region 1 with fail
  rw [← HW1.out]
  go_wp2_with fail
  go_loopw [3, 4] (fun ov iv wr => ∃ (i k : Nat) (R : List Int) (oa : Option Addr) (oc : Nat), i ≤ nr ∧ iv = .int .i64 i ∧ ov = .slice oa k oc ∧ k ≤ 0 + 2 * i ∧ Hid (R.Perm (G1 i)) ∧ Hid (wr.ownsRow w1.heap.size 3 1 (.slice oa k oc) k (ints R)) ∧ Hid (Below w1.heap.size w1 wr)) (fun _ iv _ => nr - (intOf iv).toNat)
  case atStart => exact ⟨0, 0, [], none, 0, by omega, rfl, rfl, by omega, Lib.hid (by rw [HG10.out]), O0, Z0⟩
  case round =>
    clear O0 Z0
    obtain ⟨i, k, R, oa, oc, hin, rfl, rfl, hk, HP, HO, HB⟩ := hrel
    obtain ⟨wA, hwA⟩ : ∃ W, W = wr := ⟨_, rfl⟩
    subst hwA
    have hsA := HB.out.size
    have BT := Lib.hid (B1.out.trans (HB.out.mono B1.out.size))
    have J1 := Lib.hid (keep_heap I1.out HB.out)
    have p0 : wA.cell? ⟨w.heap.size, 0, none⟩ = some (.int .i64 st.tick) := cell_of_heap J1.out 0 rfl
    have p1 : wA.cell? ⟨w.heap.size, 1, none⟩ = some (.slice sa ns sc) := cell_of_heap J1.out 1 rfl
    have p2 : wA.cell? ⟨w.heap.size, 2, none⟩ = some (.slice ra nr rc) := cell_of_heap J1.out 2 rfl
    have p3 : wA.cell? ⟨w.heap.size, 3, none⟩ = some (.slice pa np pc) := cell_of_heap J1.out 3 rfl
    have p4 : wA.cell? ⟨w.heap.size, 4, none⟩ = some (dev) := cell_of_heap J1.out 4 rfl
    have p5 : wA.cell? ⟨w.heap.size, 5, none⟩ = some (skv) := cell_of_heap J1.out 5 rfl
    by_cases hil : i < nr
    · have d0 : (0 : Int) ≤ (i : Int) := by omega
      have d1 : (i : Int) < (nr : Int) := by omega
      have HC := Lib.hid (HRB.out wA BT.out i hil)
      go_wp2_with fail
      go_at_call 140; refine HC.out.mono ?_; rintro e w2 ⟨⟨v2, R2, rfl, ho2, hp2⟩, b2⟩
      have HP2 := Lib.hid hp2
      have hl2 : R2.length ≤ 2 := by have h9 := hp2.length_eq; have h8 := HRL.out i hil; omega
      clear hp2
      have HB2 := Lib.hid (HB.out.trans (b2.mono hsA))
      have HO2 := Lib.hid (own_keepB HO.out b2)
      have HS2 := Lib.hid (Sl.of_own ho2 (own_max ho2))
      have hs2 := HB2.out.size
      obtain ⟨a2, c2, rfl⟩ := own_form3 ho2
      obtain ⟨m, hm⟩ : ∃ m, R2.length = m := ⟨_, rfl⟩
      have HM : Hid ((ints R2).length = m) := Lib.hid (by simp [ints, hm])
      rw [hm] at HS2 hl2 ⊢
      clear ho2 b2 hm HC
      go_wp2_with (at_builtin; refine wpList_append_sl rfl _ _ 22 rfl w1.heap.size 3 (.int .i64 0) 8 Tryz.underlying22 teIInfo rfl (.slice oa k oc) k _ rfl HO2.out (.slice a2 m c2) (ints R2) rfl HS2.out ?qc3 ?qc4 ?qc5 ?qc6 ?_)
      case qc3 => intro u hu; simp only [ints, List.mem_map] at hu; obtain ⟨y, -, rfl⟩ := hu; rfl
      case qc4 => rw [HM.out]; unfold maxLen; omega
      case qc5 => rw [HM.out]; omega
      case qc6 => omega
      intro v' w8 hown hgrow
      rw [HM.out] at hown
      obtain ⟨la', lc', rfl⟩ := own_form3 hown
      have hbb : Below w1.heap.size w2 w8 := (Below.refl _ w2).grown hgrow hs2 (fun g hg => (HO2.out.lt g hg).1)
      have HB8 := Lib.hid (HB2.out.trans hbb)
      have HO8 : Hid (w8.ownsRow w1.heap.size 3 1 (.slice la' (k + m) lc') (k + m) (ints (R ++ R2))) := Lib.hid (by rw [show ints (R ++ R2) = ints R ++ ints R2 by simp [ints]]; exact hown)
      clear hown hgrow hbb HM HS2
      go_wp2_with fail
      go_roundw
      case rel => exact ⟨i + 1, k + m, _, la', lc', by omega, by go_num, rfl, by omega, Lib.hid (by rw [HG1S.out i hil]; exact HP.out.append HP2.out), HO8, HB8⟩
      case measure => simp [intOf]; omega
    · have k9 : ¬ (i : Int) < (nr : Int) := by omega
      go_wp2_with fail
      have hk0 : k ≤ 24 := by omega
      have HPn : Hid (R.Perm (G2 0)) := Lib.hid (by rw [HG20.out, ← (show i = nr by omega)]; exact HP.out)
      clear hk k9 hin p0 p1 p2 p3 p4 p5
      go_loopw [3, 5] (fun ov iv wr => ∃ (i k : Nat) (R : List Int) (oa : Option Addr) (oc : Nat), i ≤ ns ∧ iv = .int .i64 i ∧ ov = .slice oa k oc ∧ k ≤ 24 + 1 * i ∧ Hid (R.Perm (G2 i)) ∧ Hid (wr.ownsRow w1.heap.size 3 1 (.slice oa k oc) k (ints R)) ∧ Hid (Below w1.heap.size w1 wr)) (fun _ iv _ => ns - (intOf iv).toNat)
      case atStart => exact ⟨0, k, R, oa, oc, by omega, rfl, rfl, by omega, HPn, HO, HB⟩
      case round =>
        clear hk0 HO HB HP HPn BT J1 hsA
        obtain ⟨i, k, R, oa, oc, hin, rfl, rfl, hk, HP, HO, HB⟩ := hrel
        obtain ⟨wA, hwA⟩ : ∃ W, W = wr := ⟨_, rfl⟩
        subst hwA
        have hsA := HB.out.size
        have BT := Lib.hid (B1.out.trans (HB.out.mono B1.out.size))
        have J1 := Lib.hid (keep_heap I1.out HB.out)
        have p0 : wA.cell? ⟨w.heap.size, 0, none⟩ = some (.int .i64 st.tick) := cell_of_heap J1.out 0 rfl
        have p1 : wA.cell? ⟨w.heap.size, 1, none⟩ = some (.slice sa ns sc) := cell_of_heap J1.out 1 rfl
        have p2 : wA.cell? ⟨w.heap.size, 2, none⟩ = some (.slice ra nr rc) := cell_of_heap J1.out 2 rfl
        have p3 : wA.cell? ⟨w.heap.size, 3, none⟩ = some (.slice pa np pc) := cell_of_heap J1.out 3 rfl
        have p4 : wA.cell? ⟨w.heap.size, 4, none⟩ = some (dev) := cell_of_heap J1.out 4 rfl
        have p5 : wA.cell? ⟨w.heap.size, 5, none⟩ = some (skv) := cell_of_heap J1.out 5 rfl
        by_cases hil : i < ns
        · have d0 : (0 : Int) ≤ (i : Int) := by omega
          have d1 : (i : Int) < (ns : Int) := by omega
          have HC := Lib.hid (HSH.out wA BT.out i hil)
          go_wp2_with fail
          go_at_call 141; refine HC.out.mono ?_; rintro e w2 ⟨⟨v2, R2, rfl, ho2, hp2⟩, b2⟩
          have HP2 := Lib.hid hp2
          have hl2 : R2.length ≤ 1 := by have h9 := hp2.length_eq; have h8 := HSL.out i; omega
          clear hp2
          have HB2 := Lib.hid (HB.out.trans (b2.mono hsA))
          have HO2 := Lib.hid (own_keepB HO.out b2)
          have HS2 := Lib.hid (Sl.of_own ho2 (own_max ho2))
          have hs2 := HB2.out.size
          obtain ⟨a2, c2, rfl⟩ := own_form3 ho2
          obtain ⟨m, hm⟩ : ∃ m, R2.length = m := ⟨_, rfl⟩
          have HM : Hid ((ints R2).length = m) := Lib.hid (by simp [ints, hm])
          rw [hm] at HS2 hl2 ⊢
          clear ho2 b2 hm HC
          go_wp2_with (at_builtin; refine wpList_append_sl rfl _ _ 22 rfl w1.heap.size 3 (.int .i64 0) 8 Tryz.underlying22 teIInfo rfl (.slice oa k oc) k _ rfl HO2.out (.slice a2 m c2) (ints R2) rfl HS2.out ?qc3 ?qc4 ?qc5 ?qc6 ?_)
          case qc3 => intro u hu; simp only [ints, List.mem_map] at hu; obtain ⟨y, -, rfl⟩ := hu; rfl
          case qc4 => rw [HM.out]; unfold maxLen; omega
          case qc5 => rw [HM.out]; omega
          case qc6 => omega
          intro v' w8 hown hgrow
          rw [HM.out] at hown
          obtain ⟨la', lc', rfl⟩ := own_form3 hown
          have hbb : Below w1.heap.size w2 w8 := (Below.refl _ w2).grown hgrow hs2 (fun g hg => (HO2.out.lt g hg).1)
          have HB8 := Lib.hid (HB2.out.trans hbb)
          have HO8 : Hid (w8.ownsRow w1.heap.size 3 1 (.slice la' (k + m) lc') (k + m) (ints (R ++ R2))) := Lib.hid (by rw [show ints (R ++ R2) = ints R ++ ints R2 by simp [ints]]; exact hown)
          clear hown hgrow hbb HM HS2
          go_wp2_with fail
          go_roundw
          case rel => exact ⟨i + 1, k + m, _, la', lc', by omega, by go_num, rfl, by omega, Lib.hid (by rw [HG2S.out i]; exact HP.out.append HP2.out), HO8, HB8⟩
          case measure => simp [intOf]; omega
        · have k9 : ¬ (i : Int) < (ns : Int) := by omega
          go_wp2_with fail
          have hk0 : k ≤ 36 := by omega
          have HPn : Hid (R.Perm (G3 0)) := Lib.hid (by rw [HG30.out, ← (show i = ns by omega)]; exact HP.out)
          clear hk k9 hin p0 p1 p2 p3 p4 p5
          go_loopw [3, 6] (fun ov iv wr => ∃ (i k : Nat) (R : List Int) (oa : Option Addr) (oc : Nat), i ≤ np ∧ iv = .int .i64 i ∧ ov = .slice oa k oc ∧ k ≤ 36 + 2 * i ∧ Hid (R.Perm (G3 i)) ∧ Hid (wr.ownsRow w1.heap.size 3 1 (.slice oa k oc) k (ints R)) ∧ Hid (Below w1.heap.size w1 wr)) (fun _ iv _ => np - (intOf iv).toNat)
          case atStart => exact ⟨0, k, R, oa, oc, by omega, rfl, rfl, by omega, HPn, HO, HB⟩
          case round =>
            clear hk0 HO HB HP HPn BT J1 hsA
            obtain ⟨i, k, R, oa, oc, hin, rfl, rfl, hk, HP, HO, HB⟩ := hrel
            obtain ⟨wA, hwA⟩ : ∃ W, W = wr := ⟨_, rfl⟩
            subst hwA
            have hsA := HB.out.size
            have BT := Lib.hid (B1.out.trans (HB.out.mono B1.out.size))
            have J1 := Lib.hid (keep_heap I1.out HB.out)
            have p0 : wA.cell? ⟨w.heap.size, 0, none⟩ = some (.int .i64 st.tick) := cell_of_heap J1.out 0 rfl
            have p1 : wA.cell? ⟨w.heap.size, 1, none⟩ = some (.slice sa ns sc) := cell_of_heap J1.out 1 rfl
            have p2 : wA.cell? ⟨w.heap.size, 2, none⟩ = some (.slice ra nr rc) := cell_of_heap J1.out 2 rfl
            have p3 : wA.cell? ⟨w.heap.size, 3, none⟩ = some (.slice pa np pc) := cell_of_heap J1.out 3 rfl
            have p4 : wA.cell? ⟨w.heap.size, 4, none⟩ = some (dev) := cell_of_heap J1.out 4 rfl
            have p5 : wA.cell? ⟨w.heap.size, 5, none⟩ = some (skv) := cell_of_heap J1.out 5 rfl
            by_cases hil : i < np
            · have d0 : (0 : Int) ≤ (i : Int) := by omega
              have d1 : (i : Int) < (np : Int) := by omega
              have HC := Lib.hid (HPE.out wA BT.out i hil)
              go_wp2_with fail
              go_at_call 142; refine HC.out.mono ?_; rintro e w2 ⟨⟨v2, R2, rfl, ho2, hp2⟩, b2⟩
              have HP2 := Lib.hid hp2
              have hl2 : R2.length ≤ 2 := by have h9 := hp2.length_eq; have h8 := HPL.out i hil; omega
              clear hp2
              have HB2 := Lib.hid (HB.out.trans (b2.mono hsA))
              have HO2 := Lib.hid (own_keepB HO.out b2)
              have HS2 := Lib.hid (Sl.of_own ho2 (own_max ho2))
              have hs2 := HB2.out.size
              obtain ⟨a2, c2, rfl⟩ := own_form3 ho2
              obtain ⟨m, hm⟩ : ∃ m, R2.length = m := ⟨_, rfl⟩
              have HM : Hid ((ints R2).length = m) := Lib.hid (by simp [ints, hm])
              rw [hm] at HS2 hl2 ⊢
              clear ho2 b2 hm HC
              go_wp2_with (at_builtin; refine wpList_append_sl rfl _ _ 22 rfl w1.heap.size 3 (.int .i64 0) 8 Tryz.underlying22 teIInfo rfl (.slice oa k oc) k _ rfl HO2.out (.slice a2 m c2) (ints R2) rfl HS2.out ?qc3 ?qc4 ?qc5 ?qc6 ?_)
              case qc3 => intro u hu; simp only [ints, List.mem_map] at hu; obtain ⟨y, -, rfl⟩ := hu; rfl
              case qc4 => rw [HM.out]; unfold maxLen; omega
              case qc5 => rw [HM.out]; omega
              case qc6 => omega
              intro v' w8 hown hgrow
              rw [HM.out] at hown
              obtain ⟨la', lc', rfl⟩ := own_form3 hown
              have hbb : Below w1.heap.size w2 w8 := (Below.refl _ w2).grown hgrow hs2 (fun g hg => (HO2.out.lt g hg).1)
              have HB8 := Lib.hid (HB2.out.trans hbb)
              have HO8 : Hid (w8.ownsRow w1.heap.size 3 1 (.slice la' (k + m) lc') (k + m) (ints (R ++ R2))) := Lib.hid (by rw [show ints (R ++ R2) = ints R ++ ints R2 by simp [ints]]; exact hown)
              clear hown hgrow hbb HM HS2
              go_wp2_with fail
              go_roundw
              case rel => exact ⟨i + 1, k + m, _, la', lc', by omega, by go_num, rfl, by omega, Lib.hid (by rw [HG3S.out i hil]; exact HP.out.append HP2.out), HO8, HB8⟩
              case measure => simp [intOf]; omega
            · have k9 : ¬ (i : Int) < (np : Int) := by omega
              have HRK : Hid (R.length = k) := Lib.hid (by have h9 := HO.out.1; simp [ints] at h9; omega)
              have HIR : Hid (Is wA (.slice oa k oc) R) := Lib.hid (Sl.of_own HO.out (own_max HO.out))
              have HC := Lib.hid (sorted14_any (.slice oa k oc) R wA HIR.out (by rw [HRK.out]; omega))
              go_wp2_with fail
              go_at_call 143; refine HC.out.mono ?_; rintro e w2 ⟨⟨v2, R2, rfl, ho2, hl2⟩, b2⟩
              have HF : Hid (PermPost AL w (.returned v2) w2) := Lib.hid ⟨⟨v2, R2, rfl, own_baseB ho2 BT.out.size, by rw [← HG3E.out]; have h8 := HP.out; rw [show i = np by omega] at h8; exact hl2.trans h8⟩, BT.out.trans (b2.mono BT.out.size)⟩
              clear ho2 b2 HC
              go_wp2_with fail
              go_ret
              exact HF.out
end Go.Proofs.YtcdfmgobokjcnaaGreatDoor
