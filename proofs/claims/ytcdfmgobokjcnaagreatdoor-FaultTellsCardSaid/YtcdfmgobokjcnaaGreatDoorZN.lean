/- Parts Mc, Md of this claim, laid one behind the other: walks and the plain laws behind them; each contract states its own conditions. -/
import Derived.Test.YtcdfmgobokjcnaaGreatDoorZM
/- Walks of package survey: addZone. -/
namespace Go.Proofs.YtcdfmgobokjcnaaGreatDoor
set_option linter.unusedSimpArgs false
set_option linter.unusedVariables false
open Go.RowKit Go.Maps

theorem MapS.lookQ {w : World} {b n : Nat} (h : MapS w b n) {s : ByteArray} (hs : s.size ≤ maxLen) :
    ∃ (v : Int) (B : Bool), ∀ q, (Instr.lookup 151 (.map (some b)) (.string s) true).run Tryz.prog (w.drewN q) = .ok (.tuple #[.int .i64 v, .bool B]) (w.drewN q) := by
  obtain ⟨D, h⟩ := h
  have hk := WideMaps.keyOf_string_mk (P := Tryz.prog) (k := 9) Tryz.underlying9 (s := s) hs
  have hq : ∀ q, ∃ n, (Instr.lookup 151 (.map (some b)) (.string s) true).run Tryz.prog (w.drewN q) = .ok (.tuple #[.int .i64 n, .bool (has D (.string s.data.toList))]) (w.drewN q) ∧ D.atKey (.string s.data.toList) (.lit (.int .i64 0)) = .lit (.int .i64 n) := by
    intro q
    have hq : (w.drewN q).ownsMap Tryz.prog 9 (plainElem Tryz.prog 3) b n D := h
    obtain ⟨v, ps, hrun, hv⟩ := World.ownsMap.look_ok hq (string_keyed Tryz.underlying9) Tryz.underlying151 (Tryz.zInt (w.drewN q)) (plainElem_int Tryz.underlying3 (by decide)) hk
    obtain ⟨n, rfl, hn, -⟩ := plainElem_int_inv Tryz.underlying3 hv
    exact ⟨n, hrun, congrArg Prod.fst hn⟩
  obtain ⟨n0, -, h0⟩ := hq 0
  refine ⟨n0, has D (.string s.data.toList), fun q => ?_⟩
  obtain ⟨n1, h1, h2⟩ := hq q
  rw [h0] at h2
  have h3 := lit_int_inj h2
  rw [h3]
  exact h1
theorem MapI.lookQ {w : World} {b : Nat} {l : List (Int × Int)} (h : MapI w b l) {c : Int} (hc : -9223372036854775808 ≤ c ∧ c ≤ 9223372036854775807) :
    ∃ v, (v = 0 ∨ (c, v) ∈ l) ∧ ∀ q, (Instr.lookup 149 (.map (some b)) (.int .i64 c) true).run Tryz.prog (w.drewN q) = .ok (.tuple #[.int .i64 v, .bool (decide (c ∈ l.map (·.1)))]) (w.drewN q) := by
  obtain ⟨v2, h1, h2⟩ := dI_at c l
  refine ⟨v2, h2, fun q => ?_⟩
  have hq : (w.drewN q).ownsMap Tryz.prog 3 (plainElem Tryz.prog 3) b l.length (dI l) := h
  obtain ⟨v, ps, hrun, hv⟩ := World.ownsMap.look_ok hq (int_keyed Tryz.underlying3) Tryz.underlying149 (Tryz.zInt (w.drewN q)) (plainElem_int Tryz.underlying3 (by decide)) (Tryz.keyI hc)
  obtain ⟨n, rfl, hn, -⟩ := plainElem_int_inv Tryz.underlying3 hv
  rw [dI_has] at hrun
  have h3 := lit_int_inj (h1.symm.trans (congrArg Prod.fst hn))
  rw [h3]
  exact hrun
theorem MapB.lookQ {w : World} {b : Nat} {l : List Int} (h : MapB w b l) {c : Int} (hc : -9223372036854775808 ≤ c ∧ c ≤ 9223372036854775807) (q : Nat) :
    (Instr.lookup 150 (.map (some b)) (.int .i64 c) false).run Tryz.prog (w.drewN q) = .ok (.bool (decide (c ∈ l))) (w.drewN q) := MapB.look (w := w.drewN q) h hc
theorem Tryz.zoneInfo : (Tryz.prog.info? 107).map (fun i => (i.zero, i.size, i.bytes)) = some (some (.agg #[.string ⟨#[]⟩, .slice none 0 0, .int .i64 0, .int .i64 0, .slice none 0 0]), 5, 80) := by kernel_rfl
theorem Tryz.apartInfo : (Tryz.prog.info? 109).map (fun i => (i.zero, i.size, i.bytes)) = some (some (.agg #[.string ⟨#[]⟩, .string ⟨#[]⟩]), 2, 32) := by kernel_rfl
theorem Tryz.shelfInfo : (Tryz.prog.info? 111).map (fun i => (i.zero, i.size, i.bytes)) = some (some (.agg #[.int .i64 0, .string ⟨#[]⟩]), 2, 24) := by kernel_rfl
theorem Tryz.startInfo : (Tryz.prog.info? 93).map (fun i => (i.zero, i.size, i.bytes)) = some (some (.agg #[.int .i64 0, .int .i64 0]), 2, 16) := by kernel_rfl
/-- A cell that may lie in a zone. -/
def ZnC (f : Fl.Floor) (c : Int) : Prop := inK f c = true ∧ kOf f c ≠ 0 ∧ kOf f c ≠ 4 ∧ kOf f c ≠ 5
theorem ZnC.rng {f : Fl.Floor} {c : Int} (h : ZnC f c) (hl : f.kind.length ≤ 9223372036854775807) : -9223372036854775808 ≤ c ∧ c ≤ 9223372036854775807 := by
  have h1 := h.1
  unfold inK at h1
  simp at h1
  omega
/-- What adding a zone gives. -/
def AddZ (w : World) (base B : Nat) (s : Si.Site) (zl : List (Si.Zone × Value × Value)) (kz ka ks kr : Nat) (cz cl : List Int) (kv ov av sv rv : Value) (b1 b2 b3 b4 b5 : Nat) (e : Ending) (w' : World) : Prop :=
  ∃ E : Int, e = .returned (.int .i64 E) ∧ Below base w w' ∧ (E = 0 → kz < 64 ∧ (∀ c ∈ cl, ZnC s.floor c ∧ c ∉ cz) ∧ ∃ zv', MkV w' base B s zl (kz + 1) ka ks kr (kz + 1) (cz ++ cl) kv ov zv' av sv rv b1 b2 b3 b4 b5)
theorem AddZ.no {w w' : World} {base B : Nat} {s : Si.Site} {zl : List (Si.Zone × Value × Value)} {kz ka ks kr : Nat} {cz cl : List Int} {kv ov av sv rv : Value} {b1 b2 b3 b4 b5 : Nat} {E : Int} (hE : E ≠ 0) (hb : Below base w w') :
    AddZ w base B s zl kz ka ks kr cz cl kv ov av sv rv b1 b2 b3 b4 b5 (.returned (.int .i64 E)) w' := ⟨E, rfl, hb, fun h => absurd h hE⟩
theorem app_cellsZ {w w' : World} {base B : Nat} {s : Si.Site} {zl : List (Si.Zone × Value × Value)} {kz ka ks kr nn : Nat} {cz : List Int} {kv ov zv av sv rv : Value} {b1 b2 b3 b4 b5 : Nat} (h : MkV w base B s zl kz ka ks kr nn cz kv ov zv av sv rv b1 b2 b3 b4 b5) (o : Obj) (hg : ((w.alloc o).drew).grownBy w' zv.ownBlock) :
    w'.heap[B]? = some (.cells (mkC s kv ov zv av sv rv b1 b2 b3 b4 b5) 153 (0, 0)) :=
  (GT.of_own ((World.ownsRow.alloc h.hz o).drew) hg).heap (heap_le h.hB) (by decide)
theorem heap_new1 (w : World) (o : Obj) : (w.alloc o).drew.heap[w.heap.size]? = some o := heap_alloc_new w o
set_option maxRecDepth 100000 in
set_option maxHeartbeats 32000000 in
theorem addZone_any (w0 w : World) (hb0 : Below w0.heap.size w0 w) (B : Nat) (s : Si.Site) (zl : List (Si.Zone × Value × Value)) (kz ka ks kr : Nat) (cz : List Int) (kv ov zv av sv rv : Value) (b1 b2 b3 b4 b5 : Nat)
    (h : MkV w w0.heap.size B s zl kz ka ks kr kz cz kv ov zv av sv rv b1 b2 b3 b4 b5) (hkv : Is w0 kv s.floor.kind) (z : Si.Zone) (u1 u2 : Value) (hz : zl[kz]? = some (z, u1, u2)) (hu1 : Is w0 u1 z.cells) (hu2 : ShV w0 u2 z.shut) (hnm : z.name.length ≤ 9223372036854775807) (hcl : cz.length + z.cells.length ≤ 1000000000) :
    Calls Tryz.prog 75 #[.pointer (some ⟨B, 0, none⟩), .agg #[.string ⟨z.name.toArray⟩, u1, .int .i64 z.speed, .int .i64 z.keep, u2]] w (AddZ w w0.heap.size B s zl kz ka ks kr cz z.cells kv ov av sv rv b1 b2 b3 b4 b5) := by
  obtain ⟨i0, hi0, hz0, hz1, hz2⟩ := info_parts Tryz.zoneInfo
  obtain ⟨za, zc, rfl, hzm⟩ := own_slice h.hz
  obtain ⟨a1, c1, rfl, hm1⟩ := hu1.form
  obtain ⟨a2, c2, rfl, hm2⟩ := two_form hu2
  obtain ⟨ka1, kc1, rfl, hkm⟩ := hkv.form
  obtain ⟨NM, hNM⟩ : ∃ N : ByteArray, ⟨z.name.toArray⟩ = N := ⟨_, rfl⟩
  have hNs : NM.size ≤ maxLen := by rw [← hNM]; show z.name.toArray.size ≤ _; unfold maxLen; simpa using hnm
  rw [hNM]
  have HKA := Lib.hid (fun W c hb => kindAt_any s.floor B _ (.slice ka1 s.floor.kind.length kc1) c W (keep_heap h.hB hb) rfl (hkv.keep (hb0.trans (hb.mono hb0.size))))
  have HB0 := Lib.hid hb0
  have HKL := Lib.hid hkm
  obtain ⟨n, hn⟩ : ∃ n, z.cells.length = n := ⟨_, rfl⟩
  obtain ⟨m, hm⟩ : ∃ n, z.shut.length = n := ⟨_, rfl⟩
  rw [hn] at hu1 hm1 hcl ⊢
  rw [hm] at hm2 ⊢
  have HU := Lib.hid hu1
  have HN := Lib.hid hn
  have HZR : Hid (zRows zl (kz + 1) = zRows zl kz ++ [.string NM, .slice a1 n c1, .int .i64 z.speed, .int .i64 z.keep, .slice a2 m c2]) := Lib.hid (by
    obtain ⟨hl, he⟩ := List.getElem?_eq_some_iff.1 hz
    rw [zRows_succ hl, he, ← hNM, ← hn, ← hm]; rfl)
  obtain ⟨SP, hSP⟩ : ∃ x, z.speed = x := ⟨_, rfl⟩
  obtain ⟨KP, hKP⟩ : ∃ x, z.keep = x := ⟨_, rfl⟩
  rw [hSP, hKP] at HZR ⊢
  obtain ⟨w1, hw1⟩ : ∃ x, x = w.alloc (.cells #[.string NM, .slice a1 n c1, .int .i64 SP, .int .i64 KP, .slice a2 m c2] 107) := ⟨_, rfl⟩
  have B1 : Hid (Below w.heap.size w w1) := Lib.hid (by rw [hw1]; exact (Below.refl _ w).alloc (Nat.le_refl _) _)
  have I1 : Hid (w1.heap[w.heap.size]? = some (.cells #[.string NM, .slice a1 n c1, .int .i64 SP, .int .i64 KP, .slice a2 m c2] 107 (0, 0))) := Lib.hid (by rw [hw1]; exact heap_alloc_new _ _)
  have HM := Lib.hid h
  have HM1 := Lib.hid (h.below B1.out)
  have hbl := h.base_le
  have hBl := h.lt
  have hkz : kz < maxLen + 1 := by have := own_max h.hz; omega
  have HW1 := Lib.hid hw1
  have HNS := Lib.hid hNs
  have lw : w.heap.size < w1.heap.size := heap_lt I1.out
  have lB : B < w1.heap.size := by omega
  obtain ⟨vq, bq, hlk⟩ := HM1.out.m4.lookQ hNs
  have p5 : w1.cell? ⟨B, 5, none⟩ = some (.slice za kz zc) := cell_of_heap HM1.out.hB 5 rfl
  have p12 : w1.cell? ⟨B, 12, none⟩ = some (.map (some b4)) := cell_of_heap HM1.out.hB 12 rfl
  have r0 : w1.cell? ⟨w.heap.size, 0, none⟩ = some (.string NM) := cell_of_heap I1.out 0 rfl
  have BQ : Hid (∀ q, Below w.heap.size w (w1.drewN q)) := Lib.hid (fun q => B1.out.trans (below_drewN _ _ _))
  clear h hkv hu1 hu2 hz hNM hn hm hSP hKP hw1 hnm hNs hkm hzm
  go_enter Tryz.func75, Tryz.ntmps75
  go_wp2_with fail
  rw [← HW1.out]
  go_cut [5, 6] (fun v x wx => v = .int .i64 vq ∧ x = .bool bq ∧ Hid (Below w1.heap.size w1 wx))
  case first =>
    go_quiet (fail)
    go_wp2_with fail
    go_meet
    exact ⟨rfl, rfl, Lib.hid (below_drewN _ _ _)⟩
  case rest =>
    obtain ⟨rfl, rfl, HBX⟩ := hcut
    have BC := Lib.hid (B1.out.trans (HBX.out.mono B1.out.size))
    have HMC := Lib.hid (HM1.out.below HBX.out)
    have IC := Lib.hid (keep_heap I1.out HBX.out)
    have lc : w.heap.size < wc.heap.size := heap_lt IC.out
    have lBc : B < wc.heap.size := HMC.out.lt
    clear p5 p12 r0 hlk
    cases bq with
    | true =>
      go_wp2_with fail
      go_ret
      exact AddZ.no (by decide) (BC.out.mono hbl)
    | false =>
      have p5 : wc.cell? ⟨B, 5, none⟩ = some (.slice za kz zc) := cell_of_heap HMC.out.hB 5 rfl
      by_cases hk64 : (kz : Int) ≥ 64
      · go_wp2_with fail
        go_ret
        exact AddZ.no (by decide) (BC.out.mono hbl)
      · have r1 : wc.cell? ⟨w.heap.size, 1, none⟩ = some (.slice a1 n c1) := cell_of_heap IC.out 1 rfl
        have A0 : Hid (∀ c ∈ z.cells.take 0, ZnC s.floor c ∧ c ∉ cz) := Lib.hid (by simp)
        have BW := Lib.hid (BC.out.mono hbl)
        go_wp2_with fail
        go_loop [34] (fun iv => ∃ k : Nat, k ≤ n ∧ iv = .int .i64 k ∧ Hid (∀ c ∈ z.cells.take k, ZnC s.floor c ∧ c ∉ cz)) (fun iv => n - (intOf iv).toNat)
        case atStart => exact ⟨0, by omega, rfl, A0⟩
        case round =>
          clear A0
          obtain ⟨k, hk, rfl, HA⟩ := hrel
          by_cases hkn : k < n
          · have hkl : k < z.cells.length := by rw [HN.out]; exact hkn
            obtain ⟨b, off, e1, hc⟩ := (HU.out.keep (HB0.out.trans BW.out)).cell k hkl
            subst e1
            have HTK := Lib.hid (List.take_succ_eq_append_getElem hkl)
            obtain ⟨C, hC⟩ : ∃ C, z.cells[k] = C := ⟨_, rfl⟩
            rw [hC] at hc HTK
            have HKC := Lib.hid (HKA.out wc C BC.out)
            have k0 : (0 : Int) ≤ (k : Int) := by omega
            have k1 : (k : Int) < (n : Int) := by omega
            have p11 : wc.cell? ⟨B, 11, none⟩ = some (.map (some b3)) := cell_of_heap HMC.out.hB 11 rfl
            obtain ⟨T, hT⟩ : ∃ T, (decide (kOf s.floor C ≠ 0) && (decide (kOf s.floor C ≠ 4) && decide (kOf s.floor C ≠ 5))) = T := ⟨_, rfl⟩
            have HZO := Lib.hid (fun W => zoned_any2 (kOf s.floor C) W)
            rw [hT] at HZO
            cases T with
            | false =>
              clear hC hT
              go_wp2_with fail
              go_at_call 110; refine HKC.out.mono ?_; rintro e w2 ⟨rfl, rfl⟩
              go_wp2_with fail
              go_at_call 111; refine (HZO.out _).mono ?_; rintro e w3 ⟨rfl, rfl⟩
              go_wp2_with fail
              go_ret
              exact AddZ.no (by decide) BW.out
            | true =>
              have hzn : ZnC s.floor C := by
                rw [Bool.and_eq_true, Bool.and_eq_true, decide_eq_true_eq, decide_eq_true_eq, decide_eq_true_eq] at hT
                refine ⟨?_, hT⟩
                cases hi : inK s.floor C with
                | true => rfl
                | false => exfalso; apply hT.1; unfold kOf; rw [hi]; simp
              have hlk3 := HMC.out.m3.look (hzn.rng HKL.out)
              have HZN := Lib.hid hzn
              clear hC hT hzn
              by_cases hin : C ∈ cz
              · rw [decide_eq_true hin] at hlk3
                clear hin
                go_wp2_with fail
                go_at_call 110; refine HKC.out.mono ?_; rintro e w2 ⟨rfl, rfl⟩
                go_wp2_with fail
                go_at_call 111; refine (HZO.out _).mono ?_; rintro e w3 ⟨rfl, rfl⟩
                go_wp2_with fail
                go_ret
                exact AddZ.no (by decide) BW.out
              · rw [decide_eq_false hin] at hlk3
                have HNX : Hid (∀ c ∈ z.cells.take (k + 1), ZnC s.floor c ∧ c ∉ cz) := Lib.hid (by
                  rw [HTK.out]
                  intro c hc
                  rcases List.mem_append.1 hc with h | h
                  · exact HA.out c h
                  · rw [List.mem_singleton] at h; subst h; exact ⟨HZN.out, hin⟩)
                clear hin
                go_wp2_with fail
                go_at_call 110; refine HKC.out.mono ?_; rintro e w2 ⟨rfl, rfl⟩
                go_wp2_with fail
                go_at_call 111; refine (HZO.out _).mono ?_; rintro e w3 ⟨rfl, rfl⟩
                go_wp2_with fail
                go_round
                case rel => exact ⟨k + 1, by omega, by go_num, HNX⟩
                case measure => simp [intOf]; omega
          · obtain rfl : n = k := by omega
            have HAA : Hid (∀ c ∈ z.cells, ZnC s.floor c ∧ c ∉ cz) := Lib.hid (by have h9 := HA.out; rw [List.take_of_length_le (by rw [HN.out]; omega)] at h9; exact h9)
            have M0 : Hid (MkV wc w0.heap.size B s zl kz ka ks kr kz (cz ++ z.cells.take 0) (.slice ka1 s.floor.kind.length kc1) ov (.slice za kz zc) av sv rv b1 b2 b3 b4 b5) := Lib.hid (by rw [List.take_zero, List.append_nil]; exact HMC.out)
            clear HA HKA p5
            go_wp2_with fail
            go_loopw [59] (fun iv wr => ∃ k : Nat, k ≤ n ∧ iv = .int .i64 k ∧ Hid (MkV wr w0.heap.size B s zl kz ka ks kr kz (cz ++ z.cells.take k) (.slice ka1 s.floor.kind.length kc1) ov (.slice za kz zc) av sv rv b1 b2 b3 b4 b5) ∧ Hid (Below w0.heap.size w wr) ∧ Hid (wr.heap[w.heap.size]? = some (.cells #[.string NM, .slice a1 n c1, .int .i64 SP, .int .i64 KP, .slice a2 m c2] 107 (0, 0)))) (fun iv _ => n - (intOf iv).toNat)
            case atStart => exact ⟨0, by omega, rfl, M0, BW, IC⟩
            case round =>
              clear M0
              obtain ⟨k, hk, rfl, HMR, HBR, IR⟩ := hrel
              have lr : w.heap.size < wr.heap.size := heap_lt IR.out
              have lBr : B < wr.heap.size := HMR.out.lt
              by_cases hkn : k < n
              · have hkl : k < z.cells.length := by rw [HN.out]; exact hkn
                obtain ⟨b, off, e1, hc⟩ := (HU.out.keep (HB0.out.trans HBR.out)).cell k hkl
                subst e1
                have hrng := (HAA.out _ (List.getElem_mem hkl)).1.rng HKL.out
                have HTK := Lib.hid (List.take_succ_eq_append_getElem hkl)
                have hlen : (cz ++ z.cells.take k).length < maxLen := by rw [List.length_append, List.length_take]; unfold maxLen; omega
                obtain ⟨C, hC⟩ : ∃ C, z.cells[k] = C := ⟨_, rfl⟩
                rw [hC] at hc HTK hrng
                obtain ⟨w2, hst, hm2', hg2⟩ := HMR.out.m3.store hlen hrng
                have k0 : (0 : Int) ≤ (k : Int) := by omega
                have k1 : (k : Int) < (n : Int) := by omega
                have p11 : wr.cell? ⟨B, 11, none⟩ = some (.map (some b3)) := cell_of_heap HMR.out.hB 11 rfl
                have HM2 : Hid (MkV w2 w0.heap.size B s zl kz ka ks kr kz (cz ++ z.cells.take (k + 1)) (.slice ka1 s.floor.kind.length kc1) ov (.slice za kz zc) av sv rv b1 b2 b3 b4 b5) := Lib.hid (by
                  rw [HTK.out, ← List.append_assoc]; exact HMR.out.put3 hm2' hg2)
                have HB2 : Hid (Below w0.heap.size w w2) := Lib.hid (HBR.out.trans (below_grown HMR.out.lb.2.2.2.1 HMR.out.base_le hg2))
                have I2 := Lib.hid (heap_map IR.out HMR.out.m3.isMap hg2)
                clear hC hm2' hg2 hlen hrng
                go_wp2_with fail
                go_roundw
                case rel => exact ⟨k + 1, by omega, by go_num, HM2, HB2, I2⟩
                case measure => simp [intOf]; omega
              · obtain rfl : n = k := by omega
                have hbr := HMR.out.base_le
                have M4 : MapS wr.drew b4 kz := HMR.out.m4
                obtain ⟨w2, hst, hm2', hg2⟩ := M4.store (by unfold maxLen; omega) HNS.out (m := (kz : Int)) (by omega)
                have HMD : Hid (MkV wr.drew w0.heap.size B s zl kz ka ks kr kz (cz ++ z.cells) (.slice ka1 s.floor.kind.length kc1) ov (.slice za kz zc) av sv rv b1 b2 b3 b4 b5) := Lib.hid (by
                  have h9 := HMR.out
                  rw [List.take_of_length_le (by rw [HN.out]; omega)] at h9
                  exact h9.below (below_drewN _ _ 1))
                have HM2 : Hid (MkV w2 w0.heap.size B s zl kz ka ks kr (kz + 1) (cz ++ z.cells) (.slice ka1 s.floor.kind.length kc1) ov (.slice za kz zc) av sv rv b1 b2 b3 b4 b5) := Lib.hid (HMD.out.put4 hm2' hg2)
                have I2 := Lib.hid (heap_map (show wr.drew.heap[w.heap.size]? = _ from IR.out) HMD.out.m4.isMap hg2)
                have HB2 : Hid (Below w0.heap.size w w2) := Lib.hid ((HBR.out.trans (below_drewN w0.heap.size wr 1)).trans (below_grown HMD.out.lb.2.2.2.2 hbr hg2))
                have p12 : wr.cell? ⟨B, 12, none⟩ = some (.map (some b4)) := cell_of_heap HMR.out.hB 12 rfl
                have p5 : wr.cell? ⟨B, 5, none⟩ = some (.slice za kz zc) := cell_of_heap HMR.out.hB 5 rfl
                have r0 : wr.cell? ⟨w.heap.size, 0, none⟩ = some (.string NM) := cell_of_heap IR.out 0 rfl
                clear hm2' hg2
                go_wp2_with fail
                go_still_tail 12, (by kernel_rfl)
                change wpList _ _ _ _ _ wr.drew
                go_wp2_with fail
                have q0 : w2.cell? ⟨w.heap.size, 0, none⟩ = some (.string NM) := cell_of_heap I2.out 0 rfl
                have q1 : w2.cell? ⟨w.heap.size, 1, none⟩ = some (.slice a1 n c1) := cell_of_heap I2.out 1 rfl
                have q2 : w2.cell? ⟨w.heap.size, 2, none⟩ = some (.int .i64 SP) := cell_of_heap I2.out 2 rfl
                have q3 : w2.cell? ⟨w.heap.size, 3, none⟩ = some (.int .i64 KP) := cell_of_heap I2.out 3 rfl
                have q4 : w2.cell? ⟨w.heap.size, 4, none⟩ = some (.slice a2 m c2) := cell_of_heap I2.out 4 rfl
                have q5 : w2.cell? ⟨B, 5, none⟩ = some (.slice za kz zc) := cell_of_heap HM2.out.hB 5 rfl
                have lB2 : B < w2.heap.size := HM2.out.lt
                have l2 : w.heap.size < w2.heap.size := heap_lt I2.out
                have lb2 := HM2.out.base_le
                clear p12 p5 r0 hst
                go_region_law ((refine step_append_lies _ (by rfl) _ _ _ (by rfl) w0.heap.size 107 i0 _ 5 80 Tryz.underlying25 hi0 hz0 hz1 hz2 rfl (by omega) (.slice za kz zc) kz (zRows zl kz) (by rfl) ((World.ownsRow.alloc HM2.out.hz _).drew) ⟨w2.heap.size, 0, none⟩ 1 1 [.string NM, .slice a1 n c1, .int .i64 SP, .int .i64 KP, .slice a2 m c2] (by rfl) (by rfl) (World.news_of_block (cs := #[.string NM, .slice a1 n c1, .int .i64 SP, .int .i64 KP, .slice a2 m c2]) (t := 107) (fr := (0, 0)) (heap_new1 w2 _)) (by simp [Value.oneCell']) (by omega) (by unfold maxLen; omega) (by omega) (by simp; omega) (w2.heap.size + 1) (by simp) ?_; intro g cap w3 hown3 hgrow hat hlt3; have hB3 := app_cellsZ HM2.out _ hgrow; have p5' := cell_of_heap hB3 5 (v := .slice za kz zc) rfl; have f5' := free_of_heap hB3 5))
                all_goals
                  go_wp2_with fail
                  go_ret
                  have bA : Below w2.heap.size w2 ((w2.alloc (.cells #[.string NM, .slice a1 n c1, .int .i64 SP, .int .i64 KP, .slice a2 m c2] 107)).drew) := ((Below.refl _ w2).alloc (Nat.le_refl _) _).drew
                  refine ⟨0, rfl, ?_, fun _ => ⟨by omega, HAA.out, _, (HM2.out.below bA).appZ (by rw [HZR.out]; exact hown3) hgrow⟩⟩
                  exact ((HB2.out.trans (bA.mono lb2)).trans (below_own ((World.ownsRow.alloc HM2.out.hz _).drew) hgrow (Nat.le_refl _) (Nat.le_trans lb2 bA.size))).setCell HM2.out.lb.1 _
end Go.Proofs.YtcdfmgobokjcnaaGreatDoor
/- Walks of package survey: addApart, addShelf, addRobot. -/
namespace Go.Proofs.YtcdfmgobokjcnaaGreatDoor
set_option linter.unusedSimpArgs false
set_option linter.unusedVariables false
open Go.RowKit Go.Maps

section
variable {w w' : World} {base B : Nat} {s : Si.Site} {zl : List (Si.Zone × Value × Value)} {kz ka ks kr nn : Nat} {cz : List Int} {kv ov zv av sv rv : Value} {b1 b2 b3 b4 b5 : Nat}
theorem app_cellsA (h : MkV w base B s zl kz ka ks kr nn cz kv ov zv av sv rv b1 b2 b3 b4 b5) (o : Obj) (hg : ((w.alloc o).drew).grownBy w' av.ownBlock) :
    w'.heap[B]? = some (.cells (mkC s kv ov zv av sv rv b1 b2 b3 b4 b5) 153 (0, 0)) :=
  (GT.of_own ((World.ownsRow.alloc h.ha o).drew) hg).heap (heap_le h.hB) (by decide)
theorem MkV.apV (h : MkV w base B s zl kz ka ks kr nn cz kv ov zv av sv rv b1 b2 b3 b4 b5) (hk : ka ≤ s.aparts.length) : ApV w av (s.aparts.take ka) :=
  Rw.of_own (rows := (s.aparts.take ka).map apartC) h.ha (by simp; omega) (fun r hr => by obtain ⟨x, -, rfl⟩ := List.mem_map.1 hr; rfl) (by omega)
end
/-- What adding a rule gives. -/
def AddA (w : World) (base B : Nat) (s : Si.Site) (zl : List (Si.Zone × Value × Value)) (kz ka ks kr nn : Nat) (cz : List Int) (kv ov zv sv rv : Value) (b1 b2 b3 b4 b5 : Nat) (e : Ending) (w' : World) : Prop :=
  ∃ E : Int, e = .returned (.int .i64 E) ∧ Below base w w' ∧ (E = 0 → ∃ av', MkV w' base B s zl kz (ka + 1) ks kr nn cz kv ov zv av' sv rv b1 b2 b3 b4 b5)
theorem AddA.no {w w' : World} {base B : Nat} {s : Si.Site} {zl : List (Si.Zone × Value × Value)} {kz ka ks kr nn : Nat} {cz : List Int} {kv ov zv sv rv : Value} {b1 b2 b3 b4 b5 : Nat} {E : Int} (hE : E ≠ 0) (hb : Below base w w') :
    AddA w base B s zl kz ka ks kr nn cz kv ov zv sv rv b1 b2 b3 b4 b5 (.returned (.int .i64 E)) w' := ⟨E, rfl, hb, fun h => absurd h hE⟩
set_option maxRecDepth 100000 in
set_option maxHeartbeats 32000000 in
theorem addApart_any (base : Nat) (w : World) (B : Nat) (s : Si.Site) (zl : List (Si.Zone × Value × Value)) (kz ka ks kr nn : Nat) (cz : List Int) (kv ov zv av sv rv : Value) (b1 b2 b3 b4 b5 : Nat)
    (h : MkV w base B s zl kz ka ks kr nn cz kv ov zv av sv rv b1 b2 b3 b4 b5) (x : List UInt8 × List UInt8) (hx : s.aparts[ka]? = some x) (hl : x.1.length ≤ 9223372036854775807 ∧ x.2.length ≤ 9223372036854775807) (hka : ka ≤ 1000000) :
    Calls Tryz.prog 76 #[.pointer (some ⟨B, 0, none⟩), .agg #[.string ⟨x.1.toArray⟩, .string ⟨x.2.toArray⟩]] w (AddA w base B s zl kz ka ks kr nn cz kv ov zv sv rv b1 b2 b3 b4 b5) := by
  obtain ⟨i0, hi0, hz0, hz1, hz2⟩ := info_parts Tryz.apartInfo
  obtain ⟨aa, ac, rfl, hzm⟩ := own_slice h.ha
  obtain ⟨hkl, hke⟩ := List.getElem?_eq_some_iff.1 hx
  have HAP := Lib.hid (fun s' t W hb => SApart_any (.slice aa ka ac) (s.aparts.take ka) s' t W (Rw.keep (h.apV (by omega)) hb))
  obtain ⟨NA, hNA⟩ : ∃ N : ByteArray, ⟨x.1.toArray⟩ = N := ⟨_, rfl⟩
  obtain ⟨NB, hNB⟩ : ∃ N : ByteArray, ⟨x.2.toArray⟩ = N := ⟨_, rfl⟩
  have HNA := Lib.hid (fun W => SName_any NA W (by rw [← hNA]; show x.1.toArray.size ≤ _; simpa using hl.1))
  have HNB := Lib.hid (fun W => SName_any NB W (by rw [← hNB]; show x.2.toArray.size ≤ _; simpa using hl.2))
  have HZR : Hid (aRows s.aparts (ka + 1) = aRows s.aparts ka ++ [.string NA, .string NB]) := Lib.hid (by rw [aRows_succ hkl, hke, ← hNA, ← hNB]; rfl)
  rw [hNA, hNB]
  obtain ⟨w1, hw1⟩ : ∃ y, y = w.alloc (.cells #[.string NA, .string NB] 109) := ⟨_, rfl⟩
  have B1 : Hid (Below w.heap.size w w1) := Lib.hid (by rw [hw1]; exact (Below.refl _ w).alloc (Nat.le_refl _) _)
  have I1 : Hid (w1.heap[w.heap.size]? = some (.cells #[.string NA, .string NB] 109 (0, 0))) := Lib.hid (by rw [hw1]; exact heap_alloc_new _ _)
  have HM1 := Lib.hid (h.below B1.out)
  have hbl := h.base_le
  have hBl := h.lt
  have HW1 := Lib.hid hw1
  have lw : w.heap.size < w1.heap.size := heap_lt I1.out
  have lB : B < w1.heap.size := by omega
  have p6 : w1.cell? ⟨B, 6, none⟩ = some (.slice aa ka ac) := cell_of_heap HM1.out.hB 6 rfl
  have r0 : w1.cell? ⟨w.heap.size, 0, none⟩ = some (.string NA) := cell_of_heap I1.out 0 rfl
  have r1 : w1.cell? ⟨w.heap.size, 1, none⟩ = some (.string NB) := cell_of_heap I1.out 1 rfl
  have BB := Lib.hid (B1.out.mono hbl)
  clear h hx hkl hke hNA hNB hl hw1 hzm
  go_enter Tryz.func76, Tryz.ntmps76
  go_wp2_with fail
  rw [← HW1.out]
  go_wp2_with fail
  go_at_call 71; refine (HNA.out _).mono ?_; rintro e w2 ⟨⟨q, rfl⟩, rfl⟩
  cases q with
  | false =>
    go_wp2_with fail
    go_ret
    exact AddA.no (by decide) BB.out
  | true =>
    go_wp2_with fail
    go_at_call 71; refine (HNB.out _).mono ?_; rintro e w2 ⟨⟨q, rfl⟩, rfl⟩
    cases q with
    | false =>
      go_wp2_with fail
      go_ret
      exact AddA.no (by decide) BB.out
    | true =>
      go_wp2_with fail
      go_still_tail 9, (by kernel_rfl)
      change wpList _ _ _ _ _ w1.drew
      go_wp2_with fail
      go_at_call 112; refine (HAP.out _ _ w1.drew (B1.out.trans (below_drewN _ _ 1))).mono ?_; rintro e w3 ⟨⟨q, rfl⟩, b3⟩
      have B3 := Lib.hid ((show Below w1.heap.size w1 w1.drew from below_drewN _ _ 1).trans b3)
      have BB3 := Lib.hid (BB.out.trans (B3.out.mono (Nat.le_trans hbl (Nat.le_of_lt lw))))
      have HM3 := Lib.hid (HM1.out.below B3.out)
      have I3 := Lib.hid (keep_heap I1.out B3.out)
      clear b3 p6 r0 r1
      cases q with
      | true =>
        go_wp2_with fail
        go_ret
        exact AddA.no (by decide) BB3.out
      | false =>
        have q0 : w3.cell? ⟨w.heap.size, 0, none⟩ = some (.string NA) := cell_of_heap I3.out 0 rfl
        have q1 : w3.cell? ⟨w.heap.size, 1, none⟩ = some (.string NB) := cell_of_heap I3.out 1 rfl
        have q6 : w3.cell? ⟨B, 6, none⟩ = some (.slice aa ka ac) := cell_of_heap HM3.out.hB 6 rfl
        have lB2 : B < w3.heap.size := HM3.out.lt
        have l2 : w.heap.size < w3.heap.size := heap_lt I3.out
        have lb2 := HM3.out.base_le
        go_wp2_with fail
        go_region_law ((refine step_append_lies _ (by rfl) _ _ _ (by rfl) base 109 i0 _ 2 32 Tryz.underlying26 hi0 hz0 hz1 hz2 rfl (by omega) (.slice aa ka ac) ka (aRows s.aparts ka) (by rfl) ((World.ownsRow.alloc HM3.out.ha _).drew) ⟨w3.heap.size, 0, none⟩ 1 1 [.string NA, .string NB] (by rfl) (by rfl) (World.news_of_block (cs := #[.string NA, .string NB]) (t := 109) (fr := (0, 0)) (heap_new1 w3 _)) (by simp [Value.oneCell']) (by omega) (by unfold maxLen; omega) (by omega) (by simp; omega) (w3.heap.size + 1) (by simp) ?_; intro g cap w4 hown3 hgrow hat hlt3; have hB3 := app_cellsA HM3.out _ hgrow; have p6' := cell_of_heap hB3 6 (v := .slice aa ka ac) rfl; have f6' := free_of_heap hB3 6))
        all_goals
          go_wp2_with fail
          go_ret
          have bA : Below w3.heap.size w3 ((w3.alloc (.cells #[.string NA, .string NB] 109)).drew) := ((Below.refl _ w3).alloc (Nat.le_refl _) _).drew
          refine ⟨0, rfl, ?_, fun _ => ⟨_, (HM3.out.below bA).appA (by rw [HZR.out]; exact hown3) hgrow⟩⟩
          exact ((BB3.out.trans (bA.mono lb2)).trans (below_own ((World.ownsRow.alloc HM3.out.ha _).drew) hgrow (Nat.le_refl _) (Nat.le_trans lb2 bA.size))).setCell HM3.out.lb.1 _
end Go.Proofs.YtcdfmgobokjcnaaGreatDoor
