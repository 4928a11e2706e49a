/- Parts AcC, AcN, AcD of this claim, laid one behind the other: walks and the plain laws behind them; each contract states its own conditions. -/
import Derived.DeepKeys4
import Derived.Test.YtfcbcpfnaadpeaaGreatDoorMN
import Derived.Test.YtfcbcpfnaadpeaaGreatDoorAA
namespace Go.Proofs.YtfcbcpfnaadpeaaGreatDoor
set_option maxRecDepth 100000
set_option maxHeartbeats 64000000
set_option linter.unusedSimpArgs false
set_option linter.unusedVariables false
open Go.RowKit Go.Maps
theorem Tryz.laidOutA : laidOutB Tryz.prog = true := by kernel_rfl
theorem Tryz.rowApart : (161 : TypeId) < Tryz.prog.types.size := of_decide_eq_true (by kernel_rfl)
theorem Tryz.cellsApart : Tryz.prog.cellsOf 161 = 2 := by kernel_rfl
theorem Tryz.cellsStr : Tryz.prog.cellsOf 9 = 1 := by kernel_rfl
theorem Tryz.ktApart : Tryz.prog.keyType 161 = true := by kernel_rfl
theorem Tryz.wideApart : (match Tryz.prog.underlying 161 with | some (.array _ _) | some (.struct _) => true | _ => false) = true := by rw [Tryz.underlying161]
theorem Tryz.lawApart : Keyed Tryz.prog 161 := Keyed.of_law (deep_law_laid Tryz.laidOutA (m := 2) (by omega) Tryz.rowApart (by kernel_rfl) Tryz.wideApart)
theorem keyApart {a b : List UInt8} (ha : a.length ≤ 9223372036854775807) (hb : b.length ≤ 9223372036854775807) : ∃ l, keyOf Tryz.prog 161 (.agg #[.string ⟨a.toArray⟩, .string ⟨b.toArray⟩]) = some l := by
 obtain ⟨n, hn⟩ : ∃ n, Tryz.prog.types.size = n + 1 := ⟨Tryz.prog.types.size - 1, by have : 0 < Tryz.prog.types.size := of_decide_eq_true (by kernel_rfl); omega⟩
 have hf : (Value.agg #[.string ⟨a.toArray⟩, .string ⟨b.toArray⟩]).formed Tryz.prog 161 = true := by simp [Value.formed, Tryz.underlying161, Tryz.cellsApart]
 have h1 : Tryz.prog.keyLits (n + 1) 9 [Value.string ⟨a.toArray⟩] = some [.string a] := by
  unfold Program.keyLits
  rw [Tryz.underlying9]
  simp [ByteArray.size, maxLen, ha]
 have h2 : Tryz.prog.keyLits (n + 1) 9 [Value.string ⟨b.toArray⟩] = some [.string b] := by
  unfold Program.keyLits
  rw [Tryz.underlying9]
  simp [ByteArray.size, maxLen, hb]
 unfold keyOf
 rw [Tryz.underlying161]
 dsimp only
 rw [Tryz.ktApart, hf, hn]
 unfold Program.keyLits
 rw [Tryz.underlying161]
 simp [Value.cells, Tryz.cellsApart, Tryz.cellsStr, h1, h2]
def MapA (w : World) (b n : Nat) : Prop := ∃ D : DataW Unit, w.ownsMap Tryz.prog 161 (plainElem Tryz.prog 4) b n D
theorem MapA.lt {w : World} {b n : Nat} (h : MapA w b n) : b < w.heap.size := by obtain ⟨D, h⟩ := h; exact World.ownsMap.lt h
theorem MapA.kept {w w' : World} {b n : Nat} {row : Option Nat} (h : MapA w b n) (hg : w.grownBy w' row) (hne : some b ≠ row) : MapA w' b n := by obtain ⟨D, h⟩ := h; exact ⟨D, World.ownsMap.kept h hg hne⟩
theorem MapA.below {w w' : World} {b n : Nat} (h : MapA w b n) (hb : Below w.heap.size w w') : MapA w' b n := h.kept (grown_of_below hb) (by simp)
theorem MapA.made (w : World) : MapA (w.alloc (.map #[] 0)) w.heap.size 0 := ⟨_, World.ownsMap_made ..⟩
theorem MapA.look {w : World} {b n : Nat} (h : MapA w b n) {x y : List UInt8} (hx : x.length ≤ 9223372036854775807) (hy : y.length ≤ 9223372036854775807) :
 ∃ B : Bool, (Instr.lookup 295 (.map (some b)) (.agg #[.string ⟨x.toArray⟩, .string ⟨y.toArray⟩]) false).run Tryz.prog w = .ok (.bool B) w := by
 obtain ⟨D, h⟩ := h
 obtain ⟨l, hk⟩ := keyApart hx hy
 obtain ⟨v, ps, hrun, hv⟩ := World.ownsMap.lookup h Tryz.lawApart Tryz.underlying295 (Tryz.zBool w) (plainElem_bool Tryz.underlying4 false) hk
 obtain ⟨B, rfl, -⟩ := plain_bool_inv Tryz.underlying4 hv
 exact ⟨B, hrun⟩
theorem MapA.store {w : World} {b n : Nat} (h : MapA w b n) (hl : n < maxLen) {x y : List UInt8} (hx : x.length ≤ 9223372036854775807) (hy : y.length ≤ 9223372036854775807) :
 ∃ w', (Instr.mapUpdate 295 (.map (some b)) (.agg #[.string ⟨x.toArray⟩, .string ⟨y.toArray⟩]) (.bool true)).run Tryz.prog w = .ok () w' ∧ (∃ m, m ≤ n + 1 ∧ MapA w' b m) ∧ w.grownBy w' (some b) := by
 obtain ⟨D, h⟩ := h
 obtain ⟨l, hk⟩ := keyApart hx hy
 obtain ⟨w', h1, h2, h3⟩ := World.ownsMap.update h Tryz.lawApart Tryz.underlying295 hl hk (plainElem_bool Tryz.underlying4 true)
 exact ⟨w', h1, ⟨_, Nat.le_refl _, _, h2⟩, h3⟩
theorem heap_grown {w w' : World} {b k : Nat} (h : w.grownBy w' (some b)) (hk : k < w.heap.size) (hne : k ≠ b) : w'.heap[k]? = w.heap[k]? := h.block k hk (by simpa using hne)
theorem classes_any (s : Si.Site) (kv ov zv av sv rv : Value) (w : World) (h : SiV w kv ov zv av sv rv s) (hn : ∀ q ∈ s.aparts, q.1.length ≤ 9223372036854775807 ∧ q.2.length ≤ 9223372036854775807) (hl : s.aparts.length ≤ 1000000) :
 Calls Tryz.prog 287 #[siV s kv ov zv av sv rv] w fun e w' => (∃ b n, e = .returned (.map (some b)) ∧ MapA w' b n) ∧ Below w.heap.size w w' := by
 have HAP := hid (fun W (hb : Below w.heap.size w W) => (h.keep hb).ap)
 have HNM := hid hn
 obtain ⟨a1, c1, a2, c2, a3, c3, a4, c4, a5, c5, a6, c6, rfl, rfl, rfl, rfl, rfl, rfl, m1, m2, m3, m4, m5, m6⟩ := h.open
 unfold siV at *
 obtain ⟨l1, e1⟩ : ∃ n, s.floor.kind.length = n := ⟨_, rfl⟩
 obtain ⟨l2, e2⟩ : ∃ n, s.floor.out.length = n := ⟨_, rfl⟩
 obtain ⟨l3, e3⟩ : ∃ n, s.zones.length = n := ⟨_, rfl⟩
 obtain ⟨l4, e4⟩ : ∃ n, s.aparts.length = n := ⟨_, rfl⟩
 obtain ⟨l5, e5⟩ : ∃ n, s.shelves.length = n := ⟨_, rfl⟩
 obtain ⟨l6, e6⟩ : ∃ n, s.robots.length = n := ⟨_, rfl⟩
 try simp only [e1, e2, e3, e4, e5, e6] at HAP
 have HL4 := hid e4
 have hl4 : l4 ≤ 1000000 := by rw [← e4]; exact hl
 have hmm := @run_makeMap Tryz.prog
 rw [e1, e2, e3, e4, e5, e6]
 obtain ⟨w1, hw1⟩ : ∃ W, W = w.alloc (.cells #[.int .i64 s.floor.w, .int .i64 s.floor.h, .int .i64 s.floor.d, .slice a1 l1 c1, .slice a2 l2 c2, .slice a3 l3 c3, .slice a4 l4 c4, .slice a5 l5 c5, .slice a6 l6 c6] 30) := ⟨_, rfl⟩
 have B1 : Hid (Below w.heap.size w w1) := hid (by rw [hw1]; exact (Below.refl _ _).alloc (Nat.le_refl _) _)
 have I1 : Hid (w1.heap[w.heap.size]? = some (.cells #[.int .i64 s.floor.w, .int .i64 s.floor.h, .int .i64 s.floor.d, .slice a1 l1 c1, .slice a2 l2 c2, .slice a3 l3 c3, .slice a4 l4 c4, .slice a5 l5 c5, .slice a6 l6 c6] 30 (0, 0))) := hid (by rw [hw1]; exact heap_alloc_new _ _)
 have HW1 := hid hw1
 have hs1 := heap_lt I1.out
 clear h e1 e2 e3 e4 e5 e6 m1 m2 m3 m4 m5 m6 hw1 hn hl
 go_enter Tryz.func287, Tryz.ntmps287
 go_upto_region 1 with fail
 rw [← HW1.out]
 obtain ⟨w2, hw2⟩ : ∃ W, W = w1.alloc (.map #[] 0) := ⟨_, rfl⟩
 have M2 : Hid (MapA w2 w1.heap.size 0) := hid (by rw [hw2]; exact MapA.made w1)
 have BM2 : Hid (Below w1.heap.size w1 w2) := hid (by rw [hw2]; exact (Below.refl _ _).alloc (Nat.le_refl _) _)
 have I2 := hid (keep_heap I1.out BM2.out)
 have HW2 := hid hw2
 have p6 : w2.cell? ⟨w.heap.size, 6, none⟩ = some (.slice a4 l4 c4) := cell_of_heap I2.out 6 rfl
 clear hw2
 go_upto_region 2 with fail
 rw [← HW2.out]
 go_wp2_with fail
 clear hmm p6
 go_loopw [10] (fun iv wr => ∃ k : Nat, k ≤ l4 ∧ iv = .int .i64 k ∧ Hid (∃ m, m ≤ 2 * k ∧ MapA wr w1.heap.size m) ∧ Hid (Below w1.heap.size w1 wr)) (fun iv _ => l4 - (intOf iv).toNat)
 case atStart => exact ⟨0, by omega, rfl, hid ⟨0, by omega, M2.out⟩, BM2⟩
 case round =>
  obtain ⟨k, hk, rfl, HM, HU⟩ := hrel
  by_cases hkn : k < l4
  · have hkl : k < s.aparts.length := by rw [HL4.out]; exact hkn
    have BW : Hid (Below w.heap.size w wr) := hid (B1.out.trans (HU.out.mono B1.out.size))
    obtain ⟨ab, ao, rfl, hab, x0, x1⟩ := (HAP.out wr BW.out).cell k hkl
    have HXN := hid (HNM.out _ (List.getElem_mem hkl))
    obtain ⟨X, hX⟩ : ∃ X, s.aparts[k] = X := ⟨_, rfl⟩
    rw [hX] at x0 x1 HXN
    obtain ⟨xa, xb⟩ := X
    dsimp only at x0 x1 HXN
    have i0 : (0 : Int) ≤ (k : Int) := by omega
    have i1 : (k : Int) < (l4 : Int) := by omega
    obtain ⟨wa, hwa⟩ : ∃ W, W = wr.alloc (.cells #[.string ⟨xa.toArray⟩, .string ⟨xb.toArray⟩] 161) := ⟨_, rfl⟩
    have ga := al1 wr (.cells #[.string ⟨xa.toArray⟩, .string ⟨xb.toArray⟩] 161)
    rw [← hwa] at ga
    have J1 := hid ga.1
    have BUA : Hid (Below w1.heap.size w1 wa) := hid (HU.out.trans (ga.2.1.mono HU.out.size))
    have MA : Hid (∃ m, m ≤ 2 * k ∧ MapA wa w1.heap.size m) := hid (by obtain ⟨m, h1, h2⟩ := HM.out; exact ⟨m, h1, h2.below ga.2.1⟩)
    have y0 : wa.cell? ⟨wr.heap.size, 0, none⟩ = some (.string ⟨xa.toArray⟩) := cell_of_heap ga.1 0 rfl
    have y1 : wa.cell? ⟨wr.heap.size, 1, none⟩ = some (.string ⟨xb.toArray⟩) := cell_of_heap ga.1 1 rfl
    have hlt : w1.heap.size < wr.heap.size := by obtain ⟨m, -, h2⟩ := HM.out; exact h2.lt
    have HWA := hid hwa
    clear hX hkl ga hwa
    go_upto_region 5 with fail
    rw [← HWA.out]
    clear x0 x1
    refine wp_region_held_drew (S := fun W' => W'.cell? ⟨wr.heap.size, 0, none⟩ = some (.string ⟨xa.toArray⟩) ∧ W'.cell? ⟨wr.heap.size, 1, none⟩ = some (.string ⟨xb.toArray⟩)) (by kernel_rfl) ⟨y0, y1⟩ (fun hHeld => ?_)
    obtain ⟨wx, hwx⟩ : ∃ W, W = wa.drew := ⟨_, rfl⟩
    rw [← hwx] at hHeld ⊢
    have bx : Below wa.heap.size wa wx := by subst hwx; exact ⟨rfl, rfl, rfl, Nat.le_refl _, fun _ _ => rfl⟩
    have HX1 := hid (keep_heap J1.out bx)
    have BX := hid (BUA.out.trans (bx.mono BUA.out.size))
    obtain ⟨m, hm, MX⟩ : ∃ m, m ≤ 2 * k ∧ MapA wx w1.heap.size m := by obtain ⟨m, h1, h2⟩ := MA.out; exact ⟨m, h1, h2.below bx⟩
    obtain ⟨w8, hst, ⟨m8, hm8, M8⟩, G8⟩ := MX.store (by unfold maxLen; omega) HXN.out.1 HXN.out.2
    obtain ⟨w9, hst9, ⟨m9, hm9, M9⟩, G9⟩ := M8.store (by unfold maxLen; omega) HXN.out.2 HXN.out.1
    have lx : wr.heap.size < wx.heap.size := heap_lt HX1.out
    have HX8 := (heap_grown G8 lx (by omega)).trans HX1.out
    have HX9 := (heap_grown G9 (heap_lt HX8) (by omega)).trans HX8
    have S8 : w8.cell? ⟨wr.heap.size, 0, none⟩ = some (.string ⟨xa.toArray⟩) ∧ w8.cell? ⟨wr.heap.size, 1, none⟩ = some (.string ⟨xb.toArray⟩) := ⟨cell_of_heap HX8 0 rfl, cell_of_heap HX8 1 rfl⟩
    have S9 : w9.cell? ⟨wr.heap.size, 0, none⟩ = some (.string ⟨xa.toArray⟩) ∧ w9.cell? ⟨wr.heap.size, 1, none⟩ = some (.string ⟨xb.toArray⟩) := ⟨cell_of_heap HX9 0 rfl, cell_of_heap HX9 1 rfl⟩
    have HM9 : Hid (∃ m, m ≤ 2 * (k + 1) ∧ MapA w9 w1.heap.size m) := hid ⟨m9, by omega, M9⟩
    have b8 : Below w1.heap.size wx w8 := ⟨G8.os, G8.tape, G8.output, G8.size, fun j hj => heap_grown G8 (by have := BX.out.size; omega) (by omega)⟩
    have b9 : Below w1.heap.size w8 w9 := ⟨G9.os, G9.tape, G9.output, G9.size, fun j hj => heap_grown G9 (by have := BX.out.size; have := G8.size; omega) (by omega)⟩
    have HB9 : Hid (Below w1.heap.size w1 w9) := hid (BX.out.trans (b8.trans b9))
    have HS8 := hid hst
    have HS9 := hid hst9
    clear hwx bx MX M8 M9 G8 G9 b8 b9 HX8 HX9 hst hst9 hm hm8 hm9
    refine tk 0 ?_
    try simp only [Act.put, zA, zB, zC, zD, zE, zF]
    refine tk 1 ?_
    try simp only [Act.put, zA, zB, zC, zD, zE, zF]
    refine tk 2 ?_
    try simp only [Act.put, zA, zB, zC, zD, zE, zF]
    refine tk 3 ?_
    try simp only [Act.put, zA, zB, zC, zD, zE, zF]
    refine tk 4 ?_
    try simp only [Act.put, zA, zB, zC, zD, zE, zF]
    refine tk 5 ?_
    try simp only [Act.put, zA, zB, zC, zD, zE, zF]
    refine tk 6 ?_
    try simp only [Act.put, zA, zB, zC, zD, zE, zF]
    refine tk 7 ?_
    try simp only [Act.put, zA, zB, zC, zD, zE, zF]
    refine wpAnyH_ready (rs := [8]) (by kernel_rfl) (by simp) ?_
    refine AllReadyH.cons (o := _) rfl (fun K8 hK => ?_) AllReadyH.nil
    go_simp
    rw [HS8.out]
    go_simp
    refine hK.out _ _ S8 (fun hHeld => ?_)
    clear hK K8
    try simp only [Act.put, zA, zB, zC, zD, zE, zF]
    refine wpAnyH_ready (rs := [9]) (by kernel_rfl) (by simp) ?_
    refine AllReadyH.cons (o := _) rfl (fun K9 hK => ?_) AllReadyH.nil
    go_simp
    rw [HS9.out]
    go_simp
    refine hK.out _ _ S9 (fun hHeld => ?_)
    clear hK K9
    try simp only [Act.put, zA, zB, zC, zD, zE, zF]
    refine wpAnyH_done (by kernel_rfl) ?_ _
    go_wp2_with fail
    go_roundw
    case rel => exact ⟨k + 1, by omega, by go_num, HM9, HB9⟩
    case measure => simp [intOf]; omega
  · go_wp2_with fail
    go_ret
    exact ⟨by obtain ⟨m, -, h2⟩ := HM.out; exact ⟨_, m, rfl, h2⟩, B1.out.trans (HU.out.mono B1.out.size)⟩
theorem never_any (s : Si.Site) (kv ov zv av sv rv : Value) (x y : List UInt8) (w : World) (h : SiV w kv ov zv av sv rv s) (hn : ∀ q ∈ s.aparts, q.1.length ≤ 9223372036854775807 ∧ q.2.length ≤ 9223372036854775807) (hl : s.aparts.length ≤ 1000000)
 (hx : x.length ≤ 9223372036854775807) (hy : y.length ≤ 9223372036854775807) :
 Calls Tryz.prog 246 #[siV s kv ov zv av sv rv, .string ⟨x.toArray⟩, .string ⟨y.toArray⟩] w (BoolPost True w) := by
 have HC := hid (fun W (hb : Below w.heap.size w W) => classes_any s kv ov zv av sv rv W (h.keep hb) hn hl)
 obtain ⟨a1, c1, a2, c2, a3, c3, a4, c4, a5, c5, a6, c6, rfl, rfl, rfl, rfl, rfl, rfl, m1, m2, m3, m4, m5, m6⟩ := h.open
 unfold siV at *
 obtain ⟨l1, e1⟩ : ∃ n, s.floor.kind.length = n := ⟨_, rfl⟩
 obtain ⟨l2, e2⟩ : ∃ n, s.floor.out.length = n := ⟨_, rfl⟩
 obtain ⟨l3, e3⟩ : ∃ n, s.zones.length = n := ⟨_, rfl⟩
 obtain ⟨l4, e4⟩ : ∃ n, s.aparts.length = n := ⟨_, rfl⟩
 obtain ⟨l5, e5⟩ : ∃ n, s.shelves.length = n := ⟨_, rfl⟩
 obtain ⟨l6, e6⟩ : ∃ n, s.robots.length = n := ⟨_, rfl⟩
 try simp only [e1, e2, e3, e4, e5, e6] at HC
 rw [e1, e2, e3, e4, e5, e6]
 obtain ⟨w1, hw1⟩ : ∃ W, W = w.alloc (.cells #[.int .i64 s.floor.w, .int .i64 s.floor.h, .int .i64 s.floor.d, .slice a1 l1 c1, .slice a2 l2 c2, .slice a3 l3 c3, .slice a4 l4 c4, .slice a5 l5 c5, .slice a6 l6 c6] 30) := ⟨_, rfl⟩
 have B1 : Hid (Below w.heap.size w w1) := hid (by rw [hw1]; exact (Below.refl _ _).alloc (Nat.le_refl _) _)
 have I1 : Hid (w1.heap[w.heap.size]? = some (.cells #[.int .i64 s.floor.w, .int .i64 s.floor.h, .int .i64 s.floor.d, .slice a1 l1 c1, .slice a2 l2 c2, .slice a3 l3 c3, .slice a4 l4 c4, .slice a5 l5 c5, .slice a6 l6 c6] 30 (0, 0))) := hid (by rw [hw1]; exact heap_alloc_new _ _)
 have HW1 := hid hw1
 have hs1 := heap_lt I1.out
 obtain ⟨p0, p1, p2, p3, p4, p5, p6, p7, p8⟩ := cells9 I1.out
 clear h e1 e2 e3 e4 e5 e6 m1 m2 m3 m4 m5 m6 hw1 hn hl
 go_enter Tryz.func246, Tryz.ntmps246
 go_upto_region 1 with fail
 rw [← HW1.out]
 cases x with
 | nil =>
  go_wp2_with fail
  go_ret
  exact ⟨⟨_, rfl, fun _ => trivial⟩, B1.out⟩
 | cons x0 xt =>
  cases y with
  | nil =>
   go_wp2_with fail
   go_ret
   exact ⟨⟨_, rfl, fun _ => trivial⟩, B1.out⟩
  | cons y0 yt =>
   go_wp2_with fail
   go_at_call 287; refine (HC.out w1 B1.out).mono ?_; rintro e w2 ⟨⟨b, n, rfl, hm⟩, b2⟩
   have B2 := hid (B1.out.trans (b2.mono B1.out.size))
   obtain ⟨B, hlk⟩ := hm.look hx hy
   clear b2 hm
   go_wp2_with fail
   go_ret
   exact ⟨⟨_, rfl, fun _ => trivial⟩, B2.out⟩
set_option linter.unusedSimpArgs false
set_option linter.unusedVariables false
open Go.RowKit
theorem near_ix0 (w : World) : (Instr.index 294 (.agg #[.int .i64 0, .int .i64 1, .int .i64 2, .int .i64 3]) (.int .i64 0)).run Tryz.prog w = .ok (.int .i64 0) w := by kernel_rfl
theorem near_ix1 (w : World) : (Instr.index 294 (.agg #[.int .i64 0, .int .i64 1, .int .i64 2, .int .i64 3]) (.int .i64 1)).run Tryz.prog w = .ok (.int .i64 1) w := by kernel_rfl
theorem near_ix2 (w : World) : (Instr.index 294 (.agg #[.int .i64 0, .int .i64 1, .int .i64 2, .int .i64 3]) (.int .i64 2)).run Tryz.prog w = .ok (.int .i64 2) w := by kernel_rfl
theorem near_ix3 (w : World) : (Instr.index 294 (.agg #[.int .i64 0, .int .i64 1, .int .i64 2, .int .i64 3]) (.int .i64 3)).run Tryz.prog w = .ok (.int .i64 3) w := by kernel_rfl
theorem nearB_no {f : Fl.Floor} {a b : Int} (h : ∀ j, j < 4 → Fl.beside f a j ≠ b) : Fa.nearB f a b = false := by
 unfold Fa.nearB
 rw [beq_eq_false_iff_ne.2 (h 0 (by omega)), beq_eq_false_iff_ne.2 (h 1 (by omega)), beq_eq_false_iff_ne.2 (h 2 (by omega)), beq_eq_false_iff_ne.2 (h 3 (by omega))]
 simp
theorem nearB_yes {f : Fl.Floor} {a b : Int} (hc : Fl.isC f b = true) (j : Nat) (hj : j < 4) (h : Fl.beside f a j = b) : Fa.nearB f a b = true := by
 unfold Fa.nearB
 rw [hc]
 rcases (by omega : j = 0 ∨ j = 1 ∨ j = 2 ∨ j = 3) with rfl | rfl | rfl | rfl <;> simp [h]
theorem Near_any (f : Fl.Floor) (kv ov : Value) (a b : Int) (w : World) (hb : FB f) :
 Calls Tryz.prog 244 #[flV f kv ov, .int .i64 a, .int .i64 b] w fun e w' => e = .returned (.bool (Fa.nearB f a b)) ∧ Below w.heap.size w w' := by
 have HI := hid (fun W => is_any f kv ov b W hb)
 have HBE := hid (fun (d : Nat) W hd => beside_any f kv ov a d W hb hd)
 have HN := hid (nearB_no (f := f) (a := a) (b := b))
 have HY := hid (fun hc j hj h => nearB_yes (f := f) (a := a) (b := b) hc j hj h)
 have HX : Hid (Fl.isC f b = false → Fa.nearB f a b = false) := hid (fun h => by unfold Fa.nearB; rw [h]; rfl)
 obtain ⟨R, hR⟩ : ∃ R, Fa.nearB f a b = R := ⟨_, rfl⟩
 obtain ⟨C, hC⟩ : ∃ R, Fl.isC f b = R := ⟨_, rfl⟩
 rw [hR] at HN HY HX ⊢
 rw [hC] at HX HI HY
 unfold flV at HI HBE ⊢
 have HB := hid (al1 w (.cells #[.int .i64 f.w, .int .i64 f.h, .int .i64 f.d, kv, ov] 24))
 clear hR hC
 go_enter Tryz.func244, Tryz.ntmps244
 go_wp2_with fail
 go_at_call 250; refine (HI.out _).mono ?_; rintro e w1 ⟨rfl, b1⟩
 have I1 := hid (keep_heap HB.out.1 b1)
 have B1 := hid (HB.out.2.1.trans (b1.mono HB.out.2.1.size))
 clear b1
 cases C with
 | false =>
  have HR := hid (HX.out rfl)
  go_wp2_with fail
  go_ret
  exact ⟨by rw [HR.out]; rfl, B1.out⟩
 | true =>
  go_wp2_with fail
  go_loopw [14] (fun iv wr => ∃ k : Nat, k ≤ 4 ∧ iv = .int .i64 k ∧ Hid (∀ j, j < k → Fl.beside f a j ≠ b) ∧ Hid (Below w1.heap.size w1 wr)) (fun iv _ => 4 - (intOf iv).toNat)
  case atStart => exact ⟨0, by omega, rfl, hid (fun j h => by omega), hid (Below.refl _ _)⟩
  case round =>
   obtain ⟨k, hk, rfl, HA, HBl⟩ := hrel
   have IR := hid (keep_heap I1.out HBl.out)
   have BR := hid (B1.out.trans (HBl.out.mono B1.out.size))
   have p0 := cell_of_heap IR.out 0 (v := .int .i64 f.w) rfl
   have p1 := cell_of_heap IR.out 1 (v := .int .i64 f.h) rfl
   have p2 := cell_of_heap IR.out 2 (v := .int .i64 f.d) rfl
   have p3 := cell_of_heap IR.out 3 (v := kv) rfl
   have p4 := cell_of_heap IR.out 4 (v := ov) rfl
   rcases (by omega : k = 0 ∨ k = 1 ∨ k = 2 ∨ k = 3 ∨ k = 4) with rfl | rfl | rfl | rfl | rfl
   · have HC := hid (HBE.out 0 wr (by omega))
     have HYk := hid (HY.out (by first | rfl | trivial) 0 (by omega))
     obtain ⟨X, hX⟩ : ∃ X, Fl.beside f a 0 = X := ⟨_, rfl⟩
     rw [hX] at HC HYk
     have HXk := hid hX
     clear hX
     have hix := near_ix0 wr
     by_cases hxb : X = b
     · subst hxb
       have HR := hid (HYk.out rfl)
       go_wp2_with fail
       go_at_call 189; refine HC.out.mono ?_; rintro e w2 ⟨rfl, b2⟩
       have B2 := hid (BR.out.trans (b2.mono BR.out.size))
       clear b2
       go_wp2_with fail
       go_ret
       exact ⟨by rw [HR.out]; rfl, B2.out⟩
     · have eb : (X == b) = false := beq_eq_false_iff_ne.2 hxb
       have HXB := hid hxb
       clear hxb
       go_wp2_with fail
       go_at_call 189; refine HC.out.mono ?_; rintro e w2 ⟨rfl, b2⟩
       have B2 := hid (HBl.out.trans (b2.mono HBl.out.size))
       clear b2
       go_wp2_with fail
       go_roundw
       case rel => exact ⟨1, by omega, by go_num, hid (fun j h => by
        by_cases e : j = 0
        · rw [e, HXk.out]; exact HXB.out
        · exact HA.out j (by omega)), B2⟩
       case measure => simp [intOf]
   · have HC := hid (HBE.out 1 wr (by omega))
     have HYk := hid (HY.out (by first | rfl | trivial) 1 (by omega))
     obtain ⟨X, hX⟩ : ∃ X, Fl.beside f a 1 = X := ⟨_, rfl⟩
     rw [hX] at HC HYk
     have HXk := hid hX
     clear hX
     have hix := near_ix1 wr
     by_cases hxb : X = b
     · subst hxb
       have HR := hid (HYk.out rfl)
       go_wp2_with fail
       go_at_call 189; refine HC.out.mono ?_; rintro e w2 ⟨rfl, b2⟩
       have B2 := hid (BR.out.trans (b2.mono BR.out.size))
       clear b2
       go_wp2_with fail
       go_ret
       exact ⟨by rw [HR.out]; rfl, B2.out⟩
     · have eb : (X == b) = false := beq_eq_false_iff_ne.2 hxb
       have HXB := hid hxb
       clear hxb
       go_wp2_with fail
       go_at_call 189; refine HC.out.mono ?_; rintro e w2 ⟨rfl, b2⟩
       have B2 := hid (HBl.out.trans (b2.mono HBl.out.size))
       clear b2
       go_wp2_with fail
       go_roundw
       case rel => exact ⟨2, by omega, by go_num, hid (fun j h => by
        by_cases e : j = 1
        · rw [e, HXk.out]; exact HXB.out
        · exact HA.out j (by omega)), B2⟩
       case measure => simp [intOf]
   · have HC := hid (HBE.out 2 wr (by omega))
     have HYk := hid (HY.out (by first | rfl | trivial) 2 (by omega))
     obtain ⟨X, hX⟩ : ∃ X, Fl.beside f a 2 = X := ⟨_, rfl⟩
     rw [hX] at HC HYk
     have HXk := hid hX
     clear hX
     have hix := near_ix2 wr
     by_cases hxb : X = b
     · subst hxb
       have HR := hid (HYk.out rfl)
       go_wp2_with fail
       go_at_call 189; refine HC.out.mono ?_; rintro e w2 ⟨rfl, b2⟩
       have B2 := hid (BR.out.trans (b2.mono BR.out.size))
       clear b2
       go_wp2_with fail
       go_ret
       exact ⟨by rw [HR.out]; rfl, B2.out⟩
     · have eb : (X == b) = false := beq_eq_false_iff_ne.2 hxb
       have HXB := hid hxb
       clear hxb
       go_wp2_with fail
       go_at_call 189; refine HC.out.mono ?_; rintro e w2 ⟨rfl, b2⟩
       have B2 := hid (HBl.out.trans (b2.mono HBl.out.size))
       clear b2
       go_wp2_with fail
       go_roundw
       case rel => exact ⟨3, by omega, by go_num, hid (fun j h => by
        by_cases e : j = 2
        · rw [e, HXk.out]; exact HXB.out
        · exact HA.out j (by omega)), B2⟩
       case measure => simp [intOf]
   · have HC := hid (HBE.out 3 wr (by omega))
     have HYk := hid (HY.out (by first | rfl | trivial) 3 (by omega))
     obtain ⟨X, hX⟩ : ∃ X, Fl.beside f a 3 = X := ⟨_, rfl⟩
     rw [hX] at HC HYk
     have HXk := hid hX
     clear hX
     have hix := near_ix3 wr
     by_cases hxb : X = b
     · subst hxb
       have HR := hid (HYk.out rfl)
       go_wp2_with fail
       go_at_call 189; refine HC.out.mono ?_; rintro e w2 ⟨rfl, b2⟩
       have B2 := hid (BR.out.trans (b2.mono BR.out.size))
       clear b2
       go_wp2_with fail
       go_ret
       exact ⟨by rw [HR.out]; rfl, B2.out⟩
     · have eb : (X == b) = false := beq_eq_false_iff_ne.2 hxb
       have HXB := hid hxb
       clear hxb
       go_wp2_with fail
       go_at_call 189; refine HC.out.mono ?_; rintro e w2 ⟨rfl, b2⟩
       have B2 := hid (HBl.out.trans (b2.mono HBl.out.size))
       clear b2
       go_wp2_with fail
       go_roundw
       case rel => exact ⟨4, by omega, by go_num, hid (fun j h => by
        by_cases e : j = 3
        · rw [e, HXk.out]; exact HXB.out
        · exact HA.out j (by omega)), B2⟩
       case measure => simp [intOf]
   · have HR := hid (HN.out HA.out)
     go_wp2_with fail
     go_ret
     exact ⟨by rw [HR.out]; rfl, BR.out⟩
set_option linter.unusedSimpArgs false
set_option linter.unusedVariables false
open Go.RowKit
theorem drop12_any (s : Si.Site) (kv ov zv av sv rv : Value) (st : Bd.State) (shv rov pev dev skv : Value) (L c : Int) (w : World) (h : SiV w kv ov zv av sv rv s) (ht : StV w shv rov pev dev skv st) (hn : ∀ q ∈ s.aparts, q.1.length ≤ 9223372036854775807 ∧ q.2.length ≤ 9223372036854775807) (hl : s.aparts.length ≤ 1000000)
 (hm : ∀ q ∈ s.shelves, q.2.length ≤ 9223372036854775807) (hb : FB s.floor) :
 Calls Tryz.prog 182 #[siV s kv ov zv av sv rv, stV st shv rov pev dev skv, .int .i64 L, .int .i64 c] w fun e w' => (∃ k : Int, e = .returned (.int .i64 k)) ∧ Below w.heap.size w w' := by
 have HST := hid (fun W (hb : Below w.heap.size w W) => stands12_any s kv ov zv av sv rv c W (h.keep hb))
 have HNE := hid (fun x y W (hb : Below w.heap.size w W) => never_any s kv ov zv av sv rv x y W (h.keep hb) hn hl)
 have HCL := hid (fun i W (hb : Below w.heap.size w W) => class12_any s kv ov zv av sv rv i W (h.keep hb))
 have HNR := hid (fun X W => Near_any s.floor kv ov X c W hb)
 have HCA := hid (fun (i : Nat) W (hb : Below w.heap.size w W) => Carried_any st _ _ _ _ _ i W (ht.keep hb))
 have HSH := hid (fun W (hb : Below w.heap.size w W) => (ht.keep hb).sh)
 have HMX := hid hm
 unfold BoolPost at HST HNE
 unfold flV at HNR
 unfold CarPost at HCA
 obtain ⟨a1, c1, a2, c2, a3, c3, a4, c4, a5, c5, a6, c6, rfl, rfl, rfl, rfl, rfl, rfl, m1, m2, m3, m4, m5, m6⟩ := h.open
 unfold siV at *
 obtain ⟨l1, e1⟩ : ∃ n, s.floor.kind.length = n := ⟨_, rfl⟩
 obtain ⟨l2, e2⟩ : ∃ n, s.floor.out.length = n := ⟨_, rfl⟩
 obtain ⟨l3, e3⟩ : ∃ n, s.zones.length = n := ⟨_, rfl⟩
 obtain ⟨l4, e4⟩ : ∃ n, s.aparts.length = n := ⟨_, rfl⟩
 obtain ⟨l5, e5⟩ : ∃ n, s.shelves.length = n := ⟨_, rfl⟩
 obtain ⟨l6, e6⟩ : ∃ n, s.robots.length = n := ⟨_, rfl⟩
 try simp only [e1, e2, e3, e4, e5, e6] at HST
 try simp only [e1, e2, e3, e4, e5, e6] at HNE
 try simp only [e1, e2, e3, e4, e5, e6] at HCL
 try simp only [e1, e2, e3, e4, e5, e6] at HNR
 try simp only [e1, e2, e3, e4, e5, e6] at HCA
 rw [e1, e2, e3, e4, e5, e6]
 obtain ⟨b1, d1, b2, d2, b3, d3, b4, d4, b5, d5, rfl, rfl, rfl, rfl, rfl, k1, k2, k3, k4, k5⟩ := ht.open
 unfold stV at *
 obtain ⟨n1, g1⟩ : ∃ n, st.shelves.length = n := ⟨_, rfl⟩
 obtain ⟨n2, g2⟩ : ∃ n, st.robots.length = n := ⟨_, rfl⟩
 obtain ⟨n3, g3⟩ : ∃ n, st.people.length = n := ⟨_, rfl⟩
 obtain ⟨n4, g4⟩ : ∃ n, st.dead.length = n := ⟨_, rfl⟩
 obtain ⟨n5, g5⟩ : ∃ n, st.stuck.length = n := ⟨_, rfl⟩
 try simp only [g1, g2, g3, g4, g5] at HCA
 try simp only [g1, g2, g3, g4, g5] at HSH
 rw [g1, g2, g3, g4, g5]
 obtain ⟨w1, hw1⟩ : ∃ W, W = (w.alloc (.cells #[.int .i64 s.floor.w, .int .i64 s.floor.h, .int .i64 s.floor.d, .slice a1 l1 c1, .slice a2 l2 c2, .slice a3 l3 c3, .slice a4 l4 c4, .slice a5 l5 c5, .slice a6 l6 c6] 30)).alloc (.cells #[.int .i64 st.tick, .slice b1 n1 d1, .slice b2 n2 d2, .slice b3 n3 d3, .slice b4 n4 d4, .slice b5 n5 d5] 58) := ⟨_, rfl⟩
 have B1 : Hid (Below w.heap.size w w1) := hid (by rw [hw1]; exact ((Below.refl _ _).alloc (Nat.le_refl _) _).alloc (by simp) _)
 have I1 : Hid (w1.heap[w.heap.size]? = some (.cells #[.int .i64 s.floor.w, .int .i64 s.floor.h, .int .i64 s.floor.d, .slice a1 l1 c1, .slice a2 l2 c2, .slice a3 l3 c3, .slice a4 l4 c4, .slice a5 l5 c5, .slice a6 l6 c6] 30 (0, 0))) := hid (by rw [hw1]; exact heap_two0 _ _ _)
 have I2 : Hid (w1.heap[w.heap.size + 1]? = some (.cells #[.int .i64 st.tick, .slice b1 n1 d1, .slice b2 n2 d2, .slice b3 n3 d3, .slice b4 n4 d4, .slice b5 n5 d5] 58 (0, 0))) := hid (by rw [hw1]; exact heap_two3 _ _ _)
 have HW1 := hid hw1
 have hs1 := heap_lt I2.out
 have HN1 := hid g1
 have hn1 : n1 ≤ 9223372036854775807 := by rw [← g1]; exact k1
 have BB : Hid (∀ W, Below w1.heap.size w1 W → Below w.heap.size w W) := hid (fun W hW => B1.out.trans (hW.mono B1.out.size))
 obtain ⟨p0, p1, p2, p3, p4, p5, p6, p7, p8⟩ := cells9 I1.out
 obtain ⟨q0, q1, q2, q3, q4, q5⟩ := cells6 I2.out
 clear h e1 e2 e3 e4 e5 e6 m1 m2 m3 m4 m5 m6 hw1 ht g1 g2 g3 g4 g5 k1 k2 k3 k4 k5 hn hl hm hb
 go_enter Tryz.func182, Tryz.ntmps182
 go_upto_region 1 with fail
 rw [← HW1.out]
 by_cases f0 : L < 0
 case pos =>
  go_wp2_with fail
  go_ret
  exact ⟨⟨_, rfl⟩, B1.out⟩
 by_cases f1 : (n1 : Int) ≤ L
 case pos =>
  go_wp2_with fail
  go_ret
  exact ⟨⟨_, rfl⟩, B1.out⟩
 go_wp2_with fail
 clear f0 f1
 go_at_call 243; refine (HST.out w1 B1.out).mono ?_; rintro e w2 ⟨⟨b, rfl, -⟩, b2⟩
 have Z0 := hid b2
 have I21 := hid (keep_heap I1.out b2)
 have I22 := hid (keep_heap I2.out b2)
 clear b2 HST p0 p1 p2 p3 p4 p5 p6 p7 p8 q0 q1 q2 q3 q4 q5
 cases b with
 | false =>
  go_wp2_with fail
  go_ret
  exact ⟨⟨_, rfl⟩, BB.out _ Z0.out⟩
 | true =>
  have q1 : w2.cell? ⟨w.heap.size + 1, 1, none⟩ = some (.slice b1 n1 d1) := cell_of_heap I22.out 1 rfl
  go_wp2_with fail
  clear q1 I21 I22
  go_loopw [9, 30] (fun ev iv wr => ∃ (i : Nat) (ek : Int), i ≤ n1 ∧ ev = .int .i64 ek ∧ iv = .int .i64 i ∧ Hid (Below w1.heap.size w1 wr)) (fun _ iv _ => n1 - (intOf iv).toNat)
  case atStart => exact ⟨0, 0, by omega, rfl, rfl, Z0⟩
  case round =>
   clear Z0
   obtain ⟨i, ek, hin, rfl, rfl, HB⟩ := hrel
   obtain ⟨wA, hwA⟩ : ∃ W, W = wr := ⟨_, rfl⟩
   subst hwA
   by_cases hil : i < n1
   case neg =>
    go_wp2_with fail
    go_ret
    exact ⟨⟨_, rfl⟩, BB.out _ HB.out⟩
   case pos =>
   have J1 := hid (keep_heap I1.out HB.out)
   have J2 := hid (keep_heap I2.out HB.out)
   have i0 : (0 : Int) ≤ (i : Int) := by omega
   have i1 : (i : Int) < (n1 : Int) := by omega
   obtain ⟨xb, xo, ex, x0⟩ := (HSH.out wA (BB.out _ HB.out)).cell i (by rw [HN1.out]; exact hil)
   subst ex
   obtain ⟨X, hX⟩ : ∃ X, st.shelves[i]'(by rw [HN1.out]; exact hil) = X := ⟨_, rfl⟩
   rw [hX] at x0
   clear hX
   obtain ⟨p0, p1, p2, p3, p4, p5, p6, p7, p8⟩ := cells9 J1.out
   obtain ⟨q0, q1, q2, q3, q4, q5⟩ := cells6 J2.out
   by_cases f0 : (i : Int) = L
   case pos =>
    subst f0
    go_wp2_with fail
    go_roundw
    case rel => exact ⟨i + 1, _, by omega, rfl, by go_num, HB⟩
    case measure => simp [intOf]; omega
   have f0' : ((i : Int) == L) = false := by simpa using f0
   by_cases f1 : X = c
   case pos =>
    subst f1
    go_wp2_with fail
    go_at_call 245; refine (HCA.out i wA (BB.out _ HB.out)).mono ?_; rintro e w3 ⟨⟨r, rfl, hr1, hr2, -⟩, b3⟩
    have B3 := hid (HB.out.trans (b3.mono HB.out.size))
    clear b3
    by_cases hr : 0 ≤ r
    · go_wp2_with fail
      go_roundw
      case rel => exact ⟨i + 1, _, by omega, rfl, by go_num, B3⟩
      case measure => simp [intOf]; omega
    · go_wp2_with fail
      go_ret
      exact ⟨⟨_, rfl⟩, BB.out _ B3.out⟩
   have f1' : (X == c) = false := by simpa using f1
   have HNX := hid (HNR.out X wA)
   go_wp2_with fail
   go_at_call 244; refine HNX.out.mono ?_; rintro e w3 ⟨rfl, b3⟩
   have B3 := hid (HB.out.trans (b3.mono HB.out.size))
   have K1 := hid (keep_heap J1.out b3)
   have K2 := hid (keep_heap J2.out b3)
   obtain ⟨nb, hnb⟩ : ∃ b, Fa.nearB s.floor X c = b := ⟨_, rfl⟩
   rw [hnb]
   clear b3 hnb HNX p0 p1 p2 p3 p4 p5 p6 p7 p8 q0 q1 q2 q3 q4 q5
   cases nb with
   | false =>
    go_wp2_with fail
    go_roundw
    case rel => exact ⟨i + 1, _, by omega, rfl, by go_num, B3⟩
    case measure => simp [intOf]; omega
   | true =>
    obtain ⟨q0, q1, q2, q3, q4, q5⟩ := cells6 K2.out
    go_wp2_with fail
    go_at_call 245; refine (HCA.out i w3 (BB.out _ B3.out)).mono ?_; rintro e w4 ⟨⟨r, rfl, hr1, hr2, -⟩, b4⟩
    have B4 := hid (B3.out.trans (b4.mono B3.out.size))
    have L1 := hid (keep_heap K1.out b4)
    clear b4 q0 q1 q2 q3 q4 q5
    by_cases hr : 0 ≤ r
    · go_wp2_with fail
      go_roundw
      case rel => exact ⟨i + 1, _, by omega, rfl, by go_num, B4⟩
      case measure => simp [intOf]; omega
    ·
     obtain ⟨p0, p1, p2, p3, p4, p5, p6, p7, p8⟩ := cells9 L1.out
     go_upto_region 12 with fail
     refine wp_region_held_drew (S := fun W' => W'.cell? ⟨w.heap.size, 0, none⟩ = some (.int .i64 s.floor.w) ∧ W'.cell? ⟨w.heap.size, 1, none⟩ = some (.int .i64 s.floor.h) ∧ W'.cell? ⟨w.heap.size, 2, none⟩ = some (.int .i64 s.floor.d) ∧ W'.cell? ⟨w.heap.size, 3, none⟩ = some (.slice a1 l1 c1) ∧ W'.cell? ⟨w.heap.size, 4, none⟩ = some (.slice a2 l2 c2) ∧ W'.cell? ⟨w.heap.size, 5, none⟩ = some (.slice a3 l3 c3) ∧ W'.cell? ⟨w.heap.size, 6, none⟩ = some (.slice a4 l4 c4) ∧ W'.cell? ⟨w.heap.size, 7, none⟩ = some (.slice a5 l5 c5) ∧ W'.cell? ⟨w.heap.size, 8, none⟩ = some (.slice a6 l6 c6)) (by kernel_rfl) ⟨p0, p1, p2, p3, p4, p5, p6, p7, p8⟩ (fun hHeld => ?_)
     obtain ⟨wx, hwx⟩ : ∃ W, W = w4.drew := ⟨_, rfl⟩
     rw [← hwx] at hHeld ⊢
     have bx : Below w4.heap.size w4 wx := by subst hwx; exact ⟨rfl, rfl, rfl, Nat.le_refl _, fun _ _ => rfl⟩
     have BX0 := hid (B4.out.trans (bx.mono B4.out.size))
     clear hwx
     clear bx p0 p1 p2 p3 p4 p5 p6 p7 p8
     refine tk 0 ?_
     try simp only [Act.put, zA, zB, zC, zD, zE, zF]
     refine tk 1 ?_
     try simp only [Act.put, zA, zB, zC, zD, zE, zF]
     refine tk 2 ?_
     try simp only [Act.put, zA, zB, zC, zD, zE, zF]
     refine tk 4 ?_
     try simp only [Act.put, zA, zB, zC, zD, zE, zF]
     refine tk 5 ?_
     try simp only [Act.put, zA, zB, zC, zD, zE, zF]
     refine wpAnyH_ready (rs := [3]) (by kernel_rfl) (by simp) ?_
     refine AllReadyH.cons (o := _) rfl (fun K3 hK => ?_) AllReadyH.nil
     go_simp
     go_at_call 247; with_reducible refine (HCL.out L wx (BB.out _ BX0.out)).mono ?_; rintro e w5 ⟨⟨cb, rfl, hcb⟩, b5⟩
     have B5 := hid (BX0.out.trans (b5.mono BX0.out.size))
     have S5 : w5.cell? ⟨w.heap.size, 0, none⟩ = some (.int .i64 s.floor.w) ∧ w5.cell? ⟨w.heap.size, 1, none⟩ = some (.int .i64 s.floor.h) ∧ w5.cell? ⟨w.heap.size, 2, none⟩ = some (.int .i64 s.floor.d) ∧ w5.cell? ⟨w.heap.size, 3, none⟩ = some (.slice a1 l1 c1) ∧ w5.cell? ⟨w.heap.size, 4, none⟩ = some (.slice a2 l2 c2) ∧ w5.cell? ⟨w.heap.size, 5, none⟩ = some (.slice a3 l3 c3) ∧ w5.cell? ⟨w.heap.size, 6, none⟩ = some (.slice a4 l4 c4) ∧ w5.cell? ⟨w.heap.size, 7, none⟩ = some (.slice a5 l5 c5) ∧ w5.cell? ⟨w.heap.size, 8, none⟩ = some (.slice a6 l6 c6) := by
      obtain ⟨k0, k1, k2, k3, k4, k5, k6, k7, k8⟩ := hHeld
      exact ⟨(b5.cell (p := ⟨w.heap.size, 0, none⟩) (cell_block_lt k0)).trans k0, (b5.cell (p := ⟨w.heap.size, 1, none⟩) (cell_block_lt k1)).trans k1, (b5.cell (p := ⟨w.heap.size, 2, none⟩) (cell_block_lt k2)).trans k2, (b5.cell (p := ⟨w.heap.size, 3, none⟩) (cell_block_lt k3)).trans k3, (b5.cell (p := ⟨w.heap.size, 4, none⟩) (cell_block_lt k4)).trans k4, (b5.cell (p := ⟨w.heap.size, 5, none⟩) (cell_block_lt k5)).trans k5, (b5.cell (p := ⟨w.heap.size, 6, none⟩) (cell_block_lt k6)).trans k6, (b5.cell (p := ⟨w.heap.size, 7, none⟩) (cell_block_lt k7)).trans k7, (b5.cell (p := ⟨w.heap.size, 8, none⟩) (cell_block_lt k8)).trans k8⟩
     have Ncb : Hid (cb.length ≤ 9223372036854775807) := hid (by
      rcases hcb with rfl | ⟨x, hx, rfl⟩
      · simp
      · exact HMX.out x hx)
     clear b5 hHeld hcb
     go_simp
     refine hK.out _ _ S5 (fun hHeld => ?_)
     clear hK K3
     try simp only [Act.put, zA, zB, zC, zD, zE, zF]
     clear S5
     refine wpAnyH_ready (rs := [6]) (by kernel_rfl) (by simp) ?_
     refine AllReadyH.cons (o := _) rfl (fun K6 hK => ?_) AllReadyH.nil
     go_simp
     go_at_call 247; with_reducible refine (HCL.out (i : Int) w5 (BB.out _ B5.out)).mono ?_; rintro e w6 ⟨⟨cd, rfl, hcd⟩, b5⟩
     have B6 := hid (B5.out.trans (b5.mono B5.out.size))
     have S5 : w6.cell? ⟨w.heap.size, 0, none⟩ = some (.int .i64 s.floor.w) ∧ w6.cell? ⟨w.heap.size, 1, none⟩ = some (.int .i64 s.floor.h) ∧ w6.cell? ⟨w.heap.size, 2, none⟩ = some (.int .i64 s.floor.d) ∧ w6.cell? ⟨w.heap.size, 3, none⟩ = some (.slice a1 l1 c1) ∧ w6.cell? ⟨w.heap.size, 4, none⟩ = some (.slice a2 l2 c2) ∧ w6.cell? ⟨w.heap.size, 5, none⟩ = some (.slice a3 l3 c3) ∧ w6.cell? ⟨w.heap.size, 6, none⟩ = some (.slice a4 l4 c4) ∧ w6.cell? ⟨w.heap.size, 7, none⟩ = some (.slice a5 l5 c5) ∧ w6.cell? ⟨w.heap.size, 8, none⟩ = some (.slice a6 l6 c6) := by
      obtain ⟨k0, k1, k2, k3, k4, k5, k6, k7, k8⟩ := hHeld
      exact ⟨(b5.cell (p := ⟨w.heap.size, 0, none⟩) (cell_block_lt k0)).trans k0, (b5.cell (p := ⟨w.heap.size, 1, none⟩) (cell_block_lt k1)).trans k1, (b5.cell (p := ⟨w.heap.size, 2, none⟩) (cell_block_lt k2)).trans k2, (b5.cell (p := ⟨w.heap.size, 3, none⟩) (cell_block_lt k3)).trans k3, (b5.cell (p := ⟨w.heap.size, 4, none⟩) (cell_block_lt k4)).trans k4, (b5.cell (p := ⟨w.heap.size, 5, none⟩) (cell_block_lt k5)).trans k5, (b5.cell (p := ⟨w.heap.size, 6, none⟩) (cell_block_lt k6)).trans k6, (b5.cell (p := ⟨w.heap.size, 7, none⟩) (cell_block_lt k7)).trans k7, (b5.cell (p := ⟨w.heap.size, 8, none⟩) (cell_block_lt k8)).trans k8⟩
     have Ncd : Hid (cd.length ≤ 9223372036854775807) := hid (by
      rcases hcd with rfl | ⟨x, hx, rfl⟩
      · simp
      · exact HMX.out x hx)
     clear b5 hHeld hcd
     go_simp
     refine hK.out _ _ S5 (fun hHeld => ?_)
     clear hK K6
     try simp only [Act.put, zA, zB, zC, zD, zE, zF]
     clear S5
     refine wpAnyH_ready (rs := [7]) (by kernel_rfl) (by simp) ?_
     refine AllReadyH.cons (o := _) rfl (fun K7 hK => ?_) AllReadyH.nil
     go_simp
     go_at_call 246; with_reducible refine (HNE.out cb cd w6 (BB.out _ B6.out) Ncb.out Ncd.out).mono ?_; rintro e w7 ⟨⟨b, rfl, -⟩, b5⟩
     have B7 := hid (B6.out.trans (b5.mono B6.out.size))
     have S5 : w7.cell? ⟨w.heap.size, 0, none⟩ = some (.int .i64 s.floor.w) ∧ w7.cell? ⟨w.heap.size, 1, none⟩ = some (.int .i64 s.floor.h) ∧ w7.cell? ⟨w.heap.size, 2, none⟩ = some (.int .i64 s.floor.d) ∧ w7.cell? ⟨w.heap.size, 3, none⟩ = some (.slice a1 l1 c1) ∧ w7.cell? ⟨w.heap.size, 4, none⟩ = some (.slice a2 l2 c2) ∧ w7.cell? ⟨w.heap.size, 5, none⟩ = some (.slice a3 l3 c3) ∧ w7.cell? ⟨w.heap.size, 6, none⟩ = some (.slice a4 l4 c4) ∧ w7.cell? ⟨w.heap.size, 7, none⟩ = some (.slice a5 l5 c5) ∧ w7.cell? ⟨w.heap.size, 8, none⟩ = some (.slice a6 l6 c6) := by
      obtain ⟨k0, k1, k2, k3, k4, k5, k6, k7, k8⟩ := hHeld
      exact ⟨(b5.cell (p := ⟨w.heap.size, 0, none⟩) (cell_block_lt k0)).trans k0, (b5.cell (p := ⟨w.heap.size, 1, none⟩) (cell_block_lt k1)).trans k1, (b5.cell (p := ⟨w.heap.size, 2, none⟩) (cell_block_lt k2)).trans k2, (b5.cell (p := ⟨w.heap.size, 3, none⟩) (cell_block_lt k3)).trans k3, (b5.cell (p := ⟨w.heap.size, 4, none⟩) (cell_block_lt k4)).trans k4, (b5.cell (p := ⟨w.heap.size, 5, none⟩) (cell_block_lt k5)).trans k5, (b5.cell (p := ⟨w.heap.size, 6, none⟩) (cell_block_lt k6)).trans k6, (b5.cell (p := ⟨w.heap.size, 7, none⟩) (cell_block_lt k7)).trans k7, (b5.cell (p := ⟨w.heap.size, 8, none⟩) (cell_block_lt k8)).trans k8⟩
     clear b5 hHeld
     go_simp
     refine hK.out _ _ S5 (fun hHeld => ?_)
     clear hK K7
     try simp only [Act.put, zA, zB, zC, zD, zE, zF]
     refine wpAnyH_done (by kernel_rfl) ?_ _
     clear S5 hHeld
     cases b with
     | false =>
      go_wp2_with fail
      go_roundw
      case rel => exact ⟨i + 1, _, by omega, rfl, by go_num, B7⟩
      case measure => simp [intOf]; omega
     | true =>
      go_wp2_with fail
      go_roundw
      case rel => exact ⟨i + 1, _, by omega, rfl, by go_num, B7⟩
      case measure => simp [intOf]; omega
end Go.Proofs.YtfcbcpfnaadpeaaGreatDoor
