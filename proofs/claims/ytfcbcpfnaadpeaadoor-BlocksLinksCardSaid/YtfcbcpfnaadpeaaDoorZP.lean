/- Parts Br of this claim, laid one behind the other: walks and the plain laws behind them; each contract states its own conditions. -/
import Derived.Test.YtfcbcpfnaadpeaaDoorZO
import Derived.Test.YtfcbcpfnaadpeaaDoorZA
/- Walks of package taquinlaw19: reach. -/
namespace Go.Proofs.YtfcbcpfnaadpeaaDoor
set_option linter.unusedSimpArgs false
set_option linter.unusedVariables false
open Go.RowKit

theorem made_boolsN (n : Nat) : madeCells #[.bool false] n = (bools (List.replicate n false)).toArray := by
  apply Array.ext_getElem?
  intro k
  by_cases hk : k < n
  · simp [madeCells, bools, hk, Nat.mod_one]
  · simp [madeCells, bools, hk]
theorem own_is {w : World} {base n : Nat} {v : Value} {l : List Int} (h : w.ownsRow base 3 1 v n (ints l)) : Is w v l := Sl.of_own h (own_max h)
theorem own_mk {w : World} {g : Nat} {x : Value} {e : TypeId} (h : w.heap[g]? = some (.cells #[x] e (0, 0))) : w.ownsRow g e 1 (.slice (some ⟨g, 0, none⟩) 1 1) 1 [x] :=
  ⟨by simp, .inr ⟨g, 1, #[x], rfl, Nat.le_refl _, h, Nat.le_refl _, by unfold maxLen; omega, by simp, by simp⟩⟩
/-- What reach returns. -/
def RcPost (lk : Nat → Nat → Bool) (n a : Nat) (w : World) (e : Ending) (w' : World) : Prop :=
  Below w.heap.size w w' ∧ ∃ g bl, e = .returned (.slice (some ⟨g, 0, none⟩) n n) ∧ w'.heap[g]? = some (.cells (bools bl).toArray 4 (0, 0)) ∧ Pt.Seen lk n a bl
theorem mem_take_links {s : Si.Site} {x c n : Nat} (hn : s.zones.length = n) (hc : c < n) (hl : Si.linked s x c = true) : c ∈ (Si.linksZ s x).take (Si.linksZ s x).length := by
  rw [List.take_length]; exact Si.mem_linksZ.2 ⟨by omega, hl⟩
set_option maxRecDepth 100000 in
set_option maxHeartbeats 8000000 in
theorem reachL_any (s : Si.Site) (v : Value) (a : Nat) (w : World) (h : Ll w v (Si.linksL s)) (ha : a < s.zones.length) (hz : s.zones.length ≤ 64) :
    Calls Tryd.prog 9 #[v, .int .i64 a] w (RcPost (Si.linked s) s.zones.length a w) := by
  obtain ⟨lv, lc, rfl, hm⟩ := h.form
  have HLG : Hid (∀ i, (hi : i < s.zones.length) → (Si.linksL s)[i]'(by rw [Si.linksL_len]; exact hi) = Si.nn (Si.linksZ s i)) := Lib.hid (fun i hi => Si.linksL_get s i hi)
  have HLE := Lib.hid (Si.linksL_len s)
  have HST := Lib.hid (Pt.Rc.start (lk := Si.linked s) ha)
  obtain ⟨n, hn⟩ : ∃ n, s.zones.length = n := ⟨_, rfl⟩
  have hll : (Si.linksL s).length = n := by rw [Si.linksL_len]; exact hn
  rw [hll] at h hm ⊢
  rw [hn] at ha hz HLE HST
  rw [hn]
  have HN := Lib.hid hn
  have HL := Lib.hid h
  have hmk := make_bools n (n : Int) rfl (by omega)
  have hma : (madeCells #[Value.bool false] n)[a]? = some (.bool false) := by rw [made_boolsN]; simp [bools, ha]
  have a0 : (0 : Int) ≤ (a : Int) := by omega
  have a1 : (a : Int) < (n : Int) := by omega
  have G0 : Hid (((w.alloc (.cells ((madeCells #[.bool false] n).setIfInBounds a (.bool true)) 4)).alloc (.cells #[.int .i64 (a : Int)] 3)).heap[w.heap.size]? = some (.cells (bools ((List.replicate n false).set a true)).toArray 4 (0, 0))) := Lib.hid (by
    rw [made_boolsN, bools_set]
    exact heap_two0 _ _ _)
  have Q0 : Hid (((w.alloc (.cells ((madeCells #[.bool false] n).setIfInBounds a (.bool true)) 4)).alloc (.cells #[.int .i64 (a : Int)] 3)).ownsRow (w.heap.size + 1) 3 1 (.slice (some ⟨w.heap.size + 1, 0, none⟩) 1 1) 1 (ints (Si.nn [a]))) := Lib.hid (own_mk (heap_two3 _ _ _))
  have B0 : Hid (Below w.heap.size w ((w.alloc (.cells ((madeCells #[.bool false] n).setIfInBounds a (.bool true)) 4)).alloc (.cells #[.int .i64 (a : Int)] 3))) := Lib.hid
    (((Below.refl _ w).alloc (Nat.le_refl _) _).alloc (by simp) _)
  clear h hn hll
  go_enter Tryd.func9, Tryd.ntmps9
  go_wp2_with fail
  go_loopw [6, 7] (fun qv iv wr => ∃ (i m : Nat) (seen : List Bool) (q : List Nat), i ≤ m ∧ m ≤ n ∧ iv = .int .i64 i ∧ Hid (q.length = m) ∧ Hid (Pt.Rc (Si.linked s) n a seen q i []) ∧ Hid (wr.heap[w.heap.size]? = some (.cells (bools seen).toArray 4 (0, 0))) ∧
      Hid (wr.ownsRow (w.heap.size + 1) 3 1 qv m (ints (Si.nn q))) ∧ Hid (Below w.heap.size w wr)) (fun _ iv _ => n - (intOf iv).toNat)
  case atStart => exact ⟨0, 1, _, [a], by omega, by omega, rfl, Lib.hid rfl, HST, G0, Q0, B0⟩
  case round =>
    obtain ⟨i, m, seen, q, him, hmn, rfl, HM, HR, HG, HQ, HB⟩ := hrel
    obtain ⟨qa, qc, hqs, hq1⟩ := own_slice HQ.out
    subst hqs
    by_cases hi : i < m
    · have hiq : i < q.length := by rw [HM.out]; exact hi
      obtain ⟨b1, o1, e1, r1⟩ := (own_is HQ.out).cell i (by rw [nn_len]; exact hiq)
      subst e1
      obtain ⟨x, hx⟩ : ∃ x, q[i] = x := ⟨_, rfl⟩
      have hnx : (Si.nn q)[i]'(by rw [nn_len]; exact hiq) = (x : Int) := by unfold Si.nn; rw [List.getElem_map, hx]; rfl
      rw [hnx] at r1
      have hxn : x < n := by rw [← hx]; exact HR.out.lt _ (List.getElem_mem hiq)
      obtain ⟨b2, o2, u, e2, r2w, hu⟩ := HL.out.cell x (by rw [HLE.out]; exact hxn)
      subst e2
      have r2 := (HB.out.cell (p := ⟨b2, o2 + x, none⟩) (cell_block_lt r2w)).trans r2w
      clear r2w
      rw [HLG.out x (by rw [HN.out]; exact hxn)] at hu
      obtain ⟨u1, uc, hus, hu2⟩ := hu.form
      subst hus
      rw [nn_len] at hu hu2 r2
      have HU := Lib.hid hu
      obtain ⟨K, hK⟩ : ∃ K, (Si.linksZ s x).length = K := ⟨_, rfl⟩
      rw [hK] at HU hu2 r2
      have HK := Lib.hid hK
      have x0 : (0 : Int) ≤ (x : Int) := by omega
      have x1 : (x : Int) < (n : Int) := by omega
      have i0 : (0 : Int) ≤ (i : Int) := by omega
      have i1 : (i : Int) < (m : Int) := by omega
      obtain ⟨wo, rfl⟩ : ∃ wo : World, wo = wr := ⟨_, rfl⟩
      have HX : Hid (q[i]? = some x) := Lib.hid (by rw [List.getElem?_eq_getElem hiq, hx])
      have HR0 : Hid (Pt.Rc (Si.linked s) n a seen q i ((Si.linksZ s x).take 0)) := Lib.hid (by rw [List.take_zero]; exact HR.out)
      clear hu hx hnx hK hiq
      go_wp2_with fail
      go_loopw [6, 9] (fun qv kv wr => ∃ (k m : Nat) (seen : List Bool) (q : List Nat), k ≤ K ∧ i < m ∧ m ≤ n ∧ kv = .int .i64 k ∧ Hid (q.length = m) ∧ Hid (q[i]? = some x) ∧ Hid (Pt.Rc (Si.linked s) n a seen q i ((Si.linksZ s x).take k)) ∧ Hid (wr.heap[w.heap.size]? = some (.cells (bools seen).toArray 4 (0, 0))) ∧
        Hid (wr.ownsRow (w.heap.size + 1) 3 1 qv m (ints (Si.nn q))) ∧ Hid (Below w.heap.size w wr)) (fun _ kv _ => K - (intOf kv).toNat)
      case atStart => exact ⟨0, m, seen, q, by omega, hi, hmn, rfl, HM, HX, HR0, HG, HQ, HB⟩
      case round =>
        clear HR0 HM HX HR HG HQ HB r1 r2
        obtain ⟨k, m, seen, q, hk, him, hmn, rfl, HM, HX, HR, HG, HQ, HB⟩ := hrel
        obtain ⟨qa, qc, hqs, hq1⟩ := own_slice HQ.out
        subst hqs
        by_cases hkK : k < K
        · have hkl : k < (Si.linksZ s x).length := by rw [HK.out]; exact hkK
          obtain ⟨b3, o3, e3, r3⟩ := (HU.out.keep HB.out).cell k (by rw [nn_len]; exact hkl)
          subst e3
          obtain ⟨c, hc⟩ : ∃ c, (Si.linksZ s x)[k] = c := ⟨_, rfl⟩
          have hnc : (Si.nn (Si.linksZ s x))[k]'(by rw [nn_len]; exact hkl) = (c : Int) := by unfold Si.nn; rw [List.getElem_map, hc]; rfl
          rw [hnc] at r3
          have hcm : c ∈ Si.linksZ s x := by rw [← hc]; exact List.getElem_mem hkl
          obtain ⟨hcn, hcl⟩ := Si.mem_linksZ.1 hcm
          rw [HN.out] at hcn
          have HTK : Hid ((Si.linksZ s x).take (k + 1) = (Si.linksZ s x).take k ++ [c]) := Lib.hid (by rw [List.take_succ_eq_append_getElem hkl, hc])
          have HCL := Lib.hid hcl
          have hsl : c < seen.length := by rw [HR.out.ln]; exact hcn
          have c0 : (0 : Int) ≤ (c : Int) := by omega
          have c1 : (c : Int) < (n : Int) := by omega
          have k0 : (0 : Int) ≤ (k : Int) := by omega
          have k1 : (k : Int) < (K : Int) := by omega
          have g1 : wr.frozen? ⟨w.heap.size, c, none⟩ = false := free_of_heap HG.out c
          have HSE : Hid (seen.getD c false = seen[c]) := Lib.hid (by simp [List.getD, hsl])
          have hqi : i < q.length := by rw [HM.out]; exact him
          have HQX : Hid (q[i] = x) := Lib.hid (by have h9 := HX.out; rw [List.getElem?_eq_getElem hqi] at h9; injection h9)
          have lw : w.heap.size < wr.heap.size := heap_lt HG.out
          have lb3 := cell_block_lt r3
          have HB3 : Hid (b3 < w.heap.size) := Lib.hid (by
            obtain ⟨b4, o4, e4, r4⟩ := HU.out.cell k (by rw [nn_len]; exact hkl)
            injection e4 with e4; injection e4 with e4 e5
            subst e4
            exact cell_block_lt r4)
          clear hc hnc hcm hcl
          cases hsc : seen[c] with
          | true =>
            have g0 : wr.cell? ⟨w.heap.size, c, none⟩ = some (.bool true) := cell_of_heap HG.out c (by simp [bools, hsl, hsc])
            have HNX := Lib.hid (HR.out.old (c := c) (by rw [HSE.out]; exact hsc))
            clear hsc
            go_wp2_with fail
            go_roundw
            case rel => exact ⟨k + 1, m, seen, q, by omega, him, hmn, by go_num, HM, HX, Lib.hid (by rw [HTK.out]; exact HNX.out), HG, HQ, HB⟩
            case measure => simp [intOf]; omega
          | false =>
            have g0 : wr.cell? ⟨w.heap.size, c, none⟩ = some (.bool false) := cell_of_heap HG.out c (by simp [bools, hsl, hsc])
            have HNX := Lib.hid (HR.out.new (c := c) (by rw [HSE.out]; exact hsc) hcn hqi (by rw [HQX.out]; exact HCL.out))
            have hmn2 : m + 1 ≤ n := by
              have h9 := HNX.out.len
              rw [List.length_append, HM.out, List.length_singleton] at h9
              exact h9
            obtain ⟨W2, hW2⟩ : ∃ W2, W2 = wr.setCell ⟨w.heap.size, c, none⟩ (.bool true) := ⟨_, rfl⟩
            have HG2 : Hid (W2.heap[w.heap.size]? = some (.cells (bools (seen.set c true)).toArray 4 (0, 0))) := Lib.hid (by rw [hW2, ← bools_set]; exact set_heap HG.out c _)
            have HQ2 : Hid (W2.ownsRow (w.heap.size + 1) 3 1 (.slice qa m qc) m (ints (Si.nn q))) := Lib.hid (by rw [hW2]; exact own_set HQ.out HG.out (by decide) c _)
            have HB2 : Hid (Below w.heap.size w W2) := Lib.hid (by rw [hW2]; exact HB.out.setCell (Nat.le_refl _) _)
            have hz2 : W2.heap.size = wr.heap.size := by rw [hW2]; simp [World.setCell]
            have lz1 : w.heap.size + 1 ≤ W2.heap.size := by omega
            have r4 : W2.cell? ⟨b3, o3 + k, none⟩ = some (.int .i64 (c : Int)) := by rw [hW2]; exact (World.cell?_of_block (heap_setCell_other _ _ b3 _ (by have h1 := HB3.out; show b3 ≠ w.heap.size; omega))).trans r3
            have HW2 := Lib.hid hW2
            clear hsc hz2 hW2
            go_upto_region 14 with fail
            rw [← HW2.out]
            clear r3 g0 g1 lw lb3
            go_wp2_with (at_builtin; refine wpList_app_int rfl (.tmp 65) (.tmp 70) rfl (w.heap.size + 1) (.slice qa m qc) m _ rfl (World.ownsRow.alloc HQ2.out _) W2.heap.size 1 (c : Int) rfl (heap_alloc_new _ _) ?c1 ?c2 ?_)
            case c1 => omega
            case c2 => simp; omega
            intro a' c' w4 ho4 hg4
            have HG4 : Hid (w4.heap[w.heap.size]? = some (.cells (bools (seen.set c true)).toArray 4 (0, 0))) := Lib.hid ((hg4.block w.heap.size (by have := heap_lt HG2.out; simp; omega) (fun e => by have := (World.ownsRow.lt HQ2.out _ e.symm).1; omega)).trans (heap_old HG2.out))
            have HB4 : Hid (Below w.heap.size w w4) := Lib.hid ((HB2.out.alloc HB2.out.size _).trans (below_own (World.ownsRow.alloc HQ2.out _) hg4 (by omega) (by have := HB2.out.size; simp; omega)))
            have HO4 := Lib.hid ho4
            clear ho4 hg4
            go_wp2_with fail
            go_roundw
            case rel =>
              refine ⟨k + 1, m + 1, seen.set c true, q ++ [c], by omega, by omega, hmn2, by go_num, Lib.hid (by rw [List.length_append, HM.out]; rfl), Lib.hid (by rw [List.getElem?_append_left hqi]; exact HX.out), Lib.hid (by rw [HTK.out]; exact HNX.out), HG4, Lib.hid ?_, HB4⟩
              rw [nn_append, ints_append]
              exact HO4.out
            case measure => simp [intOf]; omega
        · obtain rfl : K = k := by omega
          have HNX := Lib.hid (HR.out.next (by rw [HM.out]; exact him) (fun c hc hl => by
            have hqi : i < q.length := by rw [HM.out]; exact him
            have h9 := HX.out
            rw [List.getElem?_eq_getElem hqi] at h9
            injection h9 with h9
            rw [h9] at hl
            rw [← HK.out]
            exact mem_take_links HN.out hc hl))
          go_wp2_with fail
          go_roundw
          case rel => exact ⟨i + 1, m, seen, q, by omega, hmn, by go_num, HM, HNX, HG, HQ, HB⟩
          case measure => simp [intOf]; omega
    · obtain rfl : i = m := by omega
      go_wp2_with fail
      go_ret
      exact ⟨HB.out, w.heap.size, seen, rfl, HG.out, HR.out.ln, fun j => HR.out.all (by rw [HM.out]; omega) j⟩
end Go.Proofs.YtfcbcpfnaadpeaaDoor
