/- Parts Pg, Ph of this claim, laid one behind the other: walks and the plain laws behind them; each contract states its own conditions. -/
import Derived.Test.YtfcbcpfnaadpeaaGreatDoorMJ
namespace Go.Proofs.YtfcbcpfnaadpeaaGreatDoor
set_option maxRecDepth 100000
set_option maxHeartbeats 64000000
set_option linter.unusedSimpArgs false
set_option linter.unusedVariables false
open Go.RowKit
theorem words_range (k : Nat) : words (List.range' 1 k ++ [k + 1]) = words (List.range' 1 (k + 1)) := by
 rw [List.range'_concat, Nat.one_mul, Nat.add_comm 1 k]
theorem Es.keep {w W : World} {v : Value} {l : List (Nat × Nat)} (h : Es w v l) (hb : Below w.heap.size w W) : Es W v l := Rw.keep h hb
def SipsPost (n : Nat) (E : List (Nat × Nat)) (w : World) (e : Ending) (w' : World) : Prop :=
 Below w.heap.size w w' ∧ ∃ u ws, e = .returned (.tuple #[u, .int .i64 0]) ∧ ws.Perm (List.range' 1 (2 ^ n - 1)) ∧ ws.Pairwise (fun a b => Pt.cmpW a b < 0) ∧ Res w' w.heap.size u (Pt.pick E [] ws)
theorem siphons_any (n : Nat) (v : Value) (l : List (List Int × List Int)) (w : World) (h : Tr w v l) (hl : ∀ t ∈ l, (∀ p ∈ t.1, 0 ≤ p ∧ p < 64) ∧ ∀ p ∈ t.2, 0 ≤ p ∧ p < 64) (hll : l.length ≤ 1000000) (hn : n ≤ 14) (hE : Env w) :
 Calls Tryz.prog 16 #[.agg #[.int .i64 n, v]] w (SipsPost n (l.map edgeOf) w) := by
 obtain ⟨a, cap, rfl, hm⟩ := h.form
 have HT := hid h
 have HE := hid hE
 have HL := hid hl
 have HEL : Hid (∀ e ∈ l.map edgeOf, e.1 < 18446744073709551616 ∧ e.2 < 18446744073709551616) := hid (by
  intro e he
  obtain ⟨t, ht, rfl⟩ := List.mem_map.1 he
  exact ⟨wordI_lt (hl t ht).2, wordI_lt (hl t ht).1⟩)
 obtain ⟨M, hM⟩ : ∃ M : Nat, 2 ^ n = M := ⟨_, rfl⟩
 have hM1 : 1 ≤ M := by rw [← hM]; exact Nat.one_le_two_pow
 have hM2 : M ≤ 16384 := by rw [← hM]; exact (Nat.pow_le_pow_right (n := 2) (by omega) hn)
 have hwM : IntKind.u64.wrap ((2 : Int) ^ n) = (M : Int) := by
  rw [show ((2 : Int) ^ n) = ((2 ^ n : Nat) : Int) by simp, hM, u64_wrap _ (by omega)]
 have HMM := hid hM
 obtain ⟨L, hL⟩ : ∃ L, l.length = L := ⟨_, rfl⟩
 rw [hL] at HT hm ⊢
 have HLL : Hid (l.length ≤ 1000000) := hid hll
 have n0 : (0 : Int) ≤ (n : Int) := by omega
 have n1 : (n : Int) < 64 := by omega
 have n2 : ((n : Int) > 14) = False := by simp; omega
 clear h hE hl hll hL hM
 go_enter Tryz.func16, Tryz.ntmps16
 go_wp2_with fail
 go_at_call 54; refine (edges_any (n : Int) (.slice a L cap) l _ (HT.out.keep ((Below.refl _ w).alloc (Nat.le_refl _) _)) HL.out HLL.out).mono ?_; rintro e w1 ⟨u4, rfl, hes, hb1⟩
 obtain ⟨EE, hEE⟩ : ∃ E, l.map edgeOf = E := ⟨_, rfl⟩
 rw [hEE] at hes HEL
 have HES := hid hes
 have HEE := hid hEE
 have B1 : Hid (Below w.heap.size w w1) := hid (((Below.refl _ w).alloc (Nat.le_refl _) _).trans (hb1.mono (by simp)))
 have hs1 : w.heap.size + 1 ≤ w1.heap.size := by have := hb1.size; simpa using this
 have c0 : w1.cell? ⟨w.heap.size, 0, none⟩ = some (.int .i64 n) := (hb1.cell (p := ⟨w.heap.size, 0, none⟩) (by simp)).trans (cell_of_heap (heap_alloc_new _ _) 0 rfl)
 have H0 : Hid (w1.ownsRow w1.heap.size 90 1 (.slice none 0 0) 0 (words (List.range' 1 0))) := hid (World.ownsRow_nil ..)
 clear hes hb1 hEE
 go_wp2_with fail
 go_loopw [6, 5] (fun yv ov wr => ∃ k : Nat, k + 1 ≤ M ∧ yv = .int .u64 ((k : Int) + 1) ∧ Hid (wr.ownsRow w1.heap.size 90 1 ov k (words (List.range' 1 k))) ∧ Hid (Below w1.heap.size w1 wr)) (fun yv _ _ => M - (intOf yv).toNat)
 case atStart => exact ⟨0, by omega, rfl, H0, hid (Below.refl _ _)⟩
 case round =>
  obtain ⟨k, hk, rfl, HO, HB⟩ := hrel
  have c1 : wr.cell? ⟨w.heap.size, 0, none⟩ = some (.int .i64 n) := (HB.out.cell (p := ⟨w.heap.size, 0, none⟩) hs1).trans c0
  obtain ⟨oa, oc, hos, -⟩ := own_slice HO.out
  subst hos
  by_cases hkM : k + 1 < M
  · have q1 : ((k : Int) + 1 < IntKind.u64.wrap ((2 : Int) ^ n)) := by rw [hwM]; omega
    have hwz := HB.out.size
    go_wp2_with (at_builtin; refine wpList_app_word rfl (.tmp 23) (.tmp 25) rfl w1.heap.size (.slice oa k oc) k (List.range' 1 k) (by simp) rfl (World.ownsRow.alloc HO.out _) wr.heap.size 1 (k + 1) rfl (heap_alloc_new _ _) ?c1 ?c2 ?_)
    case c1 => omega
    case c2 => simp; omega
    intro av cv w4 ho4 _ hg4 hb4
    have HO4 := hid ho4
    rw [words_range] at HO4
    have HB4 := hid (HB.out.trans (((Below.refl _ wr).alloc hwz _).trans hb4))
    clear ho4 hg4 hb4
    go_wp2_with fail
    go_roundw
    case rel => exact ⟨k + 1, by omega, by go_num, HO4, HB4⟩
    case measure => simp [intOf]; omega
  · have q1 : ((k : Int) + 1 < IntKind.u64.wrap ((2 : Int) ^ n)) = False := by simp only [hwM, eq_iff_iff, iff_false]; omega
    have HKM2 : Hid (k = 2 ^ n - 1) := hid (by rw [HMM.out]; omega)
    have hE2 : Env wr := HE.out.below ((B1.out.trans (HB.out.mono (by omega))))
    have hgt : 0 < w1.heap.size := by have := HE.out.lt; omega
    have HS := hid (sort_any w1.heap.size (.slice oa k oc) (List.range' 1 k) wr (fun x hx => by rw [List.mem_range'_1] at hx; omega) (List.nodup_range' ..) (by rw [List.length_range']; omega) (by rw [List.length_range']; exact HO.out) hE2 hgt HB.out.size)
    clear hE2 hgt
    go_wp2_with fail
    go_at_call 55; refine HS.out.mono ?_; rintro e w2 ⟨rfl, ws, hperm, hpair, hsl, hb2⟩
    have HP : Hid (ws.Perm (List.range' 1 (2 ^ n - 1))) := hid (by rw [← HKM2.out]; exact hperm)
    have HPW := hid hpair
    have hwl : ws.length = k := by rw [hperm.length_eq, List.length_range']
    have HW : Hid (∀ x ∈ ws, 1 ≤ x ∧ x < 16384) := hid (fun x hx => by have := hperm.mem_iff.1 hx; rw [List.mem_range'_1] at this; omega)
    have HSL := hid hsl
    have B2 := hid (B1.out.trans ((HB.out.trans hb2).mono (by omega)))
    have HES2 := hid (HES.out.keep (HB.out.trans hb2))
    have HE2 := hid (HE.out.below B2.out)
    obtain ⟨R, hR⟩ : ∃ R, Pt.pick EE [] ws = R := ⟨_, rfl⟩
    have HR0 : Hid (Pt.pick EE [] (ws.drop 0) = R) := hid hR
    have HR := hid hR
    have HWL := hid hwl
    have F0 : Hid (w2.ownsRow w2.heap.size 90 1 (.slice none 0 0) ([] : List Nat).length (words [])) := hid (World.ownsRow_nil ..)
    have R0 : Hid (Res w2 w2.heap.size (.slice none 0 0) []) := hid (Res.nil _ _)
    clear hperm hpair hwl hsl hb2 hR HS q1 hkM c1 HO
    go_wp2_with fail
    go_loopw [31, 7, 8] (fun iv fv rv wr => ∃ (i : Nat) (fs : List Nat), i ≤ k ∧ iv = .int .i64 i ∧ fs.length ≤ i ∧ Hid (∀ x ∈ fs, x < 16384) ∧ Hid (Pt.pick EE fs (ws.drop i) = R) ∧ Hid (wr.ownsRow w2.heap.size 90 1 fv fs.length (words fs)) ∧ Hid (Res wr w2.heap.size rv fs) ∧ Hid (Below w2.heap.size w2 wr)) (fun iv _ _ _ => k - (intOf iv).toNat)
    case atStart => exact ⟨0, [], by omega, rfl, by simp, hid (by simp), HR0, F0, R0, hid (Below.refl _ _)⟩
    case round =>
     clear HB
     obtain ⟨i, fs, hi, rfl, hfi, HF, HK, HO, HRS, HB⟩ := hrel
     by_cases hik : i < k
     · have hwi : i < ws.length := by rw [HWL.out]; exact hik
       obtain ⟨a', cap', e1, -, -, hcl⟩ := HSL.out.below HB.out
       rw [words_len, HWL.out] at e1
       obtain ⟨b, off, e2, hcx⟩ := hcl i (by rw [words_len]; exact hwi)
       injection e1 with e3 _ e4
       subst e3 e4 e2
       obtain ⟨hx1, hx2⟩ := HW.out _ (List.getElem_mem hwi)
       have hdr := List.drop_eq_getElem_cons hwi
       have hcx2 : wr.cell? ⟨b, off + i, none⟩ = some (.int .u64 (ws[i] : Int)) := by rw [hcx]; simp [words]
       clear hcx hcl
       obtain ⟨x, hx⟩ : ∃ x, ws[i] = x := ⟨_, rfl⟩
       rw [hx] at hcx2 hx1 hx2 hdr
       have HPK : Hid (Pt.pick EE fs (x :: ws.drop (i + 1)) = R) := hid (by rw [← hdr]; exact HK.out)
       obtain ⟨m, hm2⟩ : ∃ m, fs.length = m := ⟨_, rfl⟩
       have HFL := hid hm2
       have hO := HO.out
       rw [hm2] at hO hfi
       obtain ⟨ra, rc, hre, -⟩ := HRS.out.form
       rw [hm2] at hre
       subst hre
       obtain ⟨fa, fc, hfe, -⟩ := own_slice hO
       subst hfe
       have i0 : (0 : Int) ≤ (i : Int) := by omega
       have i1 : (i : Int) < (k : Int) := by omega
       have hwz := HB.out.size
       have hxw : x < 18446744073709551616 := by omega
       have CX : Hid (Cx w2 x wr.heap.size (wr.alloc (.cells #[.int .u64 x] 90 (0, 0))) (.slice fa m fc) fs (.slice ra m rc) fs) := hid ⟨by rw [hm2]; exact hO.alloc _, HRS.out.alloc _, HB.out.trans ((Below.refl _ wr).alloc hwz _), heap_alloc_new _ _⟩
       have FAR : Hid ((Value.slice fa m fc).ownBlock ≠ some wr.heap.size) := hid (fun e => by have := (World.ownsRow.lt hO _ e).2; omega)
       have HC := found_any w2.heap.size (.slice fa m fc) fs wr.heap.size x (wr.alloc (.cells #[.int .u64 x] 90 (0, 0))) HF.out hx2 CX.out.own (heap_alloc_new _ _)
       obtain ⟨z, hz⟩ : ∃ z, (fs.any fun f => Pt.subB f x) = z := ⟨_, rfl⟩
       rw [hz] at HC
       have HCC := hid HC
       clear hO hdr hx hm2 HC
       cases z
       · obtain ⟨y, hy⟩ : ∃ y, Pt.closedW EE x = y := ⟨_, rfl⟩
         have CL : Hid (∀ W, Below w2.heap.size w2 W → Calls Tryz.prog 64 #[u4, .int .u64 x] W fun e w' => e = .returned (.bool y) ∧ Up W w') := hid (fun W hW => by rw [← hy]; exact closed_any u4 EE x W HEL.out hxw (HES2.out.keep hW))
         cases y
         · have HNX : Hid (Pt.pick EE fs (ws.drop (i + 1)) = R) := hid (by have := HPK.out; rw [Pt.pick, if_pos (.inr hy)] at this; exact this)
           clear hy hz
           go_wp2_with fail
           go_at_call 62; refine HCC.out.mono ?_; rintro e w3 ⟨rfl, hu3⟩
           have CX3 := hid (CX.out.below hu3.1)
           clear hu3
           have c9 := CX3.out.cell
           go_wp2_with fail
           go_at_call 64; refine (CL.out _ CX3.out.bel).mono ?_; rintro e w4 ⟨rfl, hu4⟩
           have CX4 := hid (CX3.out.below hu4.1)
           clear hu4
           go_wp2_with fail
           go_roundw
           case rel => exact ⟨i + 1, fs, by omega, by go_num, by rw [HFL.out]; omega, HF, HNX, hid CX4.out.own, hid CX4.out.res, hid CX4.out.bel⟩
           case measure => simp [intOf]; omega
         · have HNX : Hid (Pt.pick EE (fs ++ [x]) (ws.drop (i + 1)) = R) := hid (by
            have := HPK.out
            rw [Pt.pick, if_neg (by rw [hy, hz]; simp)] at this; exact this)
           clear hy hz
           go_wp2_with fail
           go_at_call 62; refine HCC.out.mono ?_; rintro e w3 ⟨rfl, hu3⟩
           have CX3 := hid (CX.out.below hu3.1)
           clear hu3
           have c9 := CX3.out.cell
           go_wp2_with fail
           go_at_call 64; refine (CL.out _ CX3.out.bel).mono ?_; rintro e w4 ⟨rfl, hu4⟩
           have CX := hid (CX3.out.below hu4.1)
           clear hu4 CX3 c9
           have c9 := CX.out.cell
           go_wp2_with fail
           go_region_held3 (fun w' => w'.cell? ⟨wr.heap.size, 0, none⟩ = some (.int .u64 x)) (go_keep)
            (first | (refine step_app_word (by rfl) _ _ (by rfl) w2.heap.size (.slice fa m fc) m fs HFL.out (by rfl) (Cx.own2 (Cx.below CX.out (by (repeat (with_reducible first | exact Below.refl _ _ | refine Below.drew ?_ | refine Below.alloc ?_ (by simp) _)); all_goals fail)) HFL.out) _ 1 x (by rfl) (by (repeat (with_reducible first | exact heap_alloc_new _ _ | exact heap_two3 _ _ _ | exact GA.out | refine heap_drew ?_ | refine heap_old ?_)); all_goals fail) (by omega) (Cx.size (x := x) (bx := wr.heap.size) (Cx.below CX.out (by (repeat (with_reducible first | exact Below.refl _ _ | refine Below.drew ?_ | refine Below.alloc ?_ (by simp) _)); all_goals fail))) ?_; intro av cv w6 ho6 hgt6 hg6 hb6; have CXN := hid (Cx.appF (Cx.below CX.out (by (repeat (with_reducible first | exact Below.refl _ _ | refine Below.drew ?_ | refine Below.alloc ?_ (by simp) _)); all_goals fail)) HFL.out FAR.out ho6 hgt6 hg6 hb6); have c9 := CXN.out.cell; (try (have LI := hid (hgt6.row (own_below LI.out (by (repeat (with_reducible first | exact Below.refl _ _ | refine Below.drew ?_ | refine Below.alloc ?_ (by simp) _)); all_goals fail)) (by decide)))); (first | have GR := hid (GT.heap hgt6 (heap_drew (heap_alloc_new w5 (.cells #[.slice la (Pt.listW x).length lc] 22 (0, 0)))) (by decide)) | have GR := hid (GT.heap hgt6 (heap_drew (heap_two3 w5 (.cells #[.int .u64 (x : Int)] 90 (0, 0)) (.cells #[.slice la (Pt.listW x).length lc] 22 (0, 0)))) (by decide)) | have GR := hid (GT.heap hgt6 (heap_drew (heap_old (heap_alloc_new w5 (.cells #[.slice la (Pt.listW x).length lc] 22 (0, 0))))) (by decide)) | have GR := hid (GT.heap hgt6 (heap_alloc_new w5 (.cells #[.slice la (Pt.listW x).length lc] 22 (0, 0))) (by decide)) | have GR := hid (GT.heap hgt6 (heap_two3 w5 (.cells #[.int .u64 (x : Int)] 90 (0, 0)) (.cells #[.slice la (Pt.listW x).length lc] 22 (0, 0))) (by decide)) | have GR := hid (GT.heap hgt6 (heap_old (heap_alloc_new w5 (.cells #[.slice la (Pt.listW x).length lc] 22 (0, 0)))) (by decide)) | skip); have CX := CXN; clear CXN ho6 hg6 hb6 hgt6) | (refine step_app_res (by rfl) _ _ (by rfl) w2.heap.size (.slice ra m rc) m fs HFL.out (by rfl) (Cx.res (x := x) (bx := wr.heap.size) (Cx.below CX.out (by (repeat (with_reducible first | exact Below.refl _ _ | refine Below.drew ?_ | refine Below.alloc ?_ (by simp) _)); all_goals fail))) _ 1 x (.slice la (Pt.listW x).length lc) (by rfl) (by (repeat (with_reducible first | exact heap_alloc_new _ _ | exact heap_two3 _ _ _ | exact GR.out | refine heap_drew ?_ | refine heap_old ?_)); all_goals fail) (own_below LI.out (by (repeat (with_reducible first | exact Below.refl _ _ | refine Below.drew ?_ | refine Below.alloc ?_ (by simp) _)); all_goals fail)) (by omega) (Cx.size (x := x) (bx := wr.heap.size) (Cx.below CX.out (by (repeat (with_reducible first | exact Below.refl _ _ | refine Below.drew ?_ | refine Below.alloc ?_ (by simp) _)); all_goals fail))) ?_; intro av cv w7 hr7 hgt7 hb7; have CXN := hid (Cx.appR (Cx.below CX.out (by (repeat (with_reducible first | exact Below.refl _ _ | refine Below.drew ?_ | refine Below.alloc ?_ (by simp) _)); all_goals fail)) hr7 hgt7 hb7); have c9 := CXN.out.cell; (first | have GA := hid (GT.heap hgt7 (heap_drew (heap_old GA.out)) (by decide)) | have GA := hid (GT.heap hgt7 (heap_drew (heap_old (heap_alloc_new w5 (.cells #[.int .u64 (x : Int)] 90 (0, 0))))) (by decide)) | have GA := hid (GT.heap hgt7 (heap_drew (heap_two3 w5 (.cells #[.slice la (Pt.listW x).length lc] 22 (0, 0)) (.cells #[.int .u64 (x : Int)] 90 (0, 0)))) (by decide)) | have GA := hid (GT.heap hgt7 (heap_old GA.out) (by decide)) | have GA := hid (GT.heap hgt7 (heap_old (heap_alloc_new w5 (.cells #[.int .u64 (x : Int)] 90 (0, 0)))) (by decide)) | have GA := hid (GT.heap hgt7 (heap_two3 w5 (.cells #[.slice la (Pt.listW x).length lc] 22 (0, 0)) (.cells #[.int .u64 (x : Int)] 90 (0, 0))) (by decide)) | skip); have CX := CXN; clear CXN hr7 hgt7 hb7) | (go_at_call 61; refine (list_any x _ (by omega) (HE2.out.below (Cx.bel (x := x) (bx := wr.heap.size) (Cx.below CX.out (by (repeat (with_reducible first | exact Below.refl _ _ | refine Below.drew ?_ | refine Below.alloc ?_ (by simp) _)); all_goals fail))))).mono ?_; rintro e w5 ⟨la, lc, rfl, lo, lu⟩; have LI := hid (own_mono lo (Cx.size (x := x) (bx := wr.heap.size) (Cx.below CX.out (by (repeat (with_reducible first | exact Below.refl _ _ | refine Below.drew ?_ | refine Below.alloc ?_ (by simp) _)); all_goals fail)))); have CXN := hid (Cx.below (Cx.below CX.out (by (repeat (with_reducible first | exact Below.refl _ _ | refine Below.drew ?_ | refine Below.alloc ?_ (by simp) _)); all_goals fail)) lu.1); have c9 := CXN.out.cell; (first | have GA := hid (keep_heap (heap_drew (heap_alloc_new w4 (.cells #[.int .u64 (x : Int)] 90 (0, 0)))) lu.1) | have GA := hid (keep_heap (heap_alloc_new w4 (.cells #[.int .u64 (x : Int)] 90 (0, 0))) lu.1) | skip); have CX := CXN; clear CXN lo lu))
           all_goals go_wp2_with fail
           all_goals
            go_roundw
            case rel => exact ⟨i + 1, fs ++ [x], by omega, by go_num, by rw [List.length_append, HFL.out]; simp; omega, hid (fun y hy => by rcases List.mem_append.1 hy with h | h; exact HF.out y h; rw [List.mem_singleton] at h; omega), HNX, hid CX.out.own, hid CX.out.res, hid CX.out.bel⟩
            case measure => simp [intOf]; omega
       · have HNX : Hid (Pt.pick EE fs (ws.drop (i + 1)) = R) := hid (by have := HPK.out; rw [Pt.pick, if_pos (.inl hz)] at this; exact this)
         clear hz
         go_wp2_with fail
         go_at_call 62; refine HCC.out.mono ?_; rintro e w3 ⟨rfl, hu3⟩
         have CX3 := hid (CX.out.below hu3.1)
         clear hu3
         go_wp2_with fail
         go_roundw
         case rel => exact ⟨i + 1, fs, by omega, by go_num, by rw [HFL.out]; omega, HF, HNX, hid CX3.out.own, hid CX3.out.res, hid CX3.out.bel⟩
         case measure => simp [intOf]; omega
     · obtain rfl : i = k := by omega
       have HFN : Hid (fs = R) := hid (by have := HK.out; rw [List.drop_eq_nil_of_le (by rw [HWL.out]; omega), Pt.pick] at this; exact this)
       go_wp2_with fail
       go_ret2
       refine ⟨B2.out.trans (HB.out.mono B2.out.size), _, ws, rfl, HP.out, HPW.out, ?_⟩
       rw [HEE.out, HR.out, ← HFN.out]
       exact HRS.out.mono B2.out.size
theorem pick_sub (E : List (Nat × Nat)) : ∀ (ws found : List Nat), ∃ s, s.Sublist ws ∧ Pt.pick E found ws = found ++ s
 | [], found => ⟨[], List.Sublist.slnil, by simp [Pt.pick]⟩
 | x :: ws, found => by
  rw [Pt.pick]
  split
  · obtain ⟨s, h1, h2⟩ := pick_sub E ws found
    exact ⟨s, h1.cons _, h2⟩
  · obtain ⟨s, h1, h2⟩ := pick_sub E ws (found ++ [x])
    exact ⟨x :: s, h1.cons_cons _, by rw [h2, List.append_assoc]; rfl⟩
theorem sips_pick {lk : Nat → Nat → Bool} {n : Nat} {ws : List Nat} (hn : n ≤ 64) (hp : ws.Perm (List.range' 1 (2 ^ n - 1))) (ho : ws.Pairwise (fun a b => Pt.cmpW a b < 0)) : Pt.Sips lk n (Pt.pick (Pt.edgesL lk n) [] ws) := by
 have h1 : 1 ≤ 2 ^ n := Nat.one_le_two_pow
 have hm : ∀ w, w ∈ ws ↔ w ≠ 0 ∧ w < 2 ^ n := by
  intro w
  rw [hp.mem_iff, List.mem_range'_1]
  omega
 have hnd : ws.Nodup := hp.nodup_iff.2 (List.nodup_range' ..)
 obtain ⟨s, hs, he⟩ := pick_sub (Pt.edgesL lk n) ws []
 rw [List.nil_append] at he
 refine ⟨?_, fun w => ?_, ?_⟩
 · rw [he]; exact hnd.sublist hs
 · rw [Pt.pick_mem (W := 2 ^ n) (Nat.pow_le_pow_right (by omega) hn) ws [] [] (fun w h0 h2 => by rw [List.nil_append]; exact (hm w).2 ⟨h0, h2⟩) (fun w h => by rw [List.nil_append] at h; exact ((hm w).1 h).2) (by rw [List.nil_append]; exact hnd) (by rw [List.nil_append]; exact ho) (fun w => by simp) w, List.nil_append, hm]
   constructor
   · intro h; exact ⟨h.1.2, h.2⟩
   · intro h; exact ⟨⟨Pt.closed_ne h.2.1, h.1⟩, h.2⟩
 · rw [he]; exact ho.sublist hs
end Go.Proofs.YtfcbcpfnaadpeaaGreatDoor
