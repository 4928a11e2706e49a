/- Parts Rg of this claim, laid one behind the other: walks and the plain laws behind them; each contract states its own conditions. -/
import Derived.Test.YtfcbcpfnaadpeaaGreatDoorZF
import Derived.Test.YtfcbcpfnaadpeaaGreatDoorZC
/- Walks of package taquinref11: Right. -/
namespace Go.Proofs.YtfcbcpfnaadpeaaGreatDoor
set_option linter.unusedSimpArgs false
set_option linter.unusedVariables false
open Go.RowKit

/-- The first shelves are right. -/
structure ShOk (f : Fl.Floor) (l : List (Int × List UInt8)) : Prop where
  a : ∀ x ∈ l, Fl.isC f x.1 = true ∧ (Si.kindAt f x.1 = 1 ∨ Si.kindAt f x.1 = 2)
  d : (l.map (·.1)).Nodup
structure RbOk (f : Fl.Floor) (l : List (Int × Int)) : Prop where
  a : ∀ x ∈ l, Fl.isC f x.1 = true ∧ Si.kindAt f x.1 ≠ 0 ∧ 0 ≤ x.2 ∧ x.2 ≤ 1000000
  d : (l.map (·.1)).Nodup
theorem nodup_step {α : Type} {l : List (Int × α)} {k : Nat} (h : ((l.take k).map (·.1)).Nodup) (hk : k < l.length) (hn : noAt (l.take k) l[k].1) : ((l.take (k + 1)).map (·.1)).Nodup := by
  rw [List.take_succ_eq_append_getElem hk, List.map_append, List.nodup_append]
  refine ⟨h, by simp, fun x hx y hy => ?_⟩
  obtain ⟨z, hz, rfl⟩ := List.mem_map.1 hx
  rw [List.map_singleton, List.mem_singleton] at hy
  subst hy
  exact hn z hz
theorem ShOk.nil (f : Fl.Floor) : ShOk f [] := ⟨fun z h => (by cases h), List.Pairwise.nil⟩
theorem RbOk.nil (f : Fl.Floor) : RbOk f [] := ⟨fun z h => (by cases h), List.Pairwise.nil⟩
theorem ShOk.step {f : Fl.Floor} {l : List (Int × List UInt8)} {k : Nat} (h : ShOk f (l.take k)) (hk : k < l.length) (h1 : Fl.isC f l[k].1 = true ∧ (Si.kindAt f l[k].1 = 1 ∨ Si.kindAt f l[k].1 = 2)) (hn : sIdx (l.take k) l[k].1 < 0) : ShOk f (l.take (k + 1)) :=
  ⟨all_take h.a hk h1, nodup_step h.d hk ((sIdx_neg _ _).1 hn)⟩
theorem RbOk.step {f : Fl.Floor} {l : List (Int × Int)} {k : Nat} (h : RbOk f (l.take k)) (hk : k < l.length) (h1 : Fl.isC f l[k].1 = true ∧ Si.kindAt f l[k].1 ≠ 0 ∧ 0 ≤ l[k].2 ∧ l[k].2 ≤ 1000000) (hn : sIdx (l.take k) l[k].1 < 0) : RbOk f (l.take (k + 1)) :=
  ⟨all_take h.a hk h1, nodup_step h.d hk ((sIdx_neg _ _).1 hn)⟩
theorem Si.Right.of {s : Si.Site} (hf : Fl.Right s.floor) (hz : ZOk s.floor s.zones) (hn : s.zones.length ≤ 64) (hs : ShOk s.floor s.shelves) (hsn : s.shelves.length ≤ 3000) (hr : RbOk s.floor s.robots) (hrn : s.robots.length ≤ 200) : Si.Right s where
  fl := hf
  zn := hn
  zc := fun z h => let ⟨h1, h2, h3, h4, h5⟩ := hz.a z h; ⟨h1, h2, h3, h4, h5⟩
  zk := fun z h c hc => hz.b z h c hc
  zd := hz.d
  sn := hsn
  sc := hs.a
  sd := hs.d
  rn := hrn
  rc := hr.a
  rd := hr.d
theorem kindAt_nat {f : Fl.Floor} {C : Nat} {K : Int} (h : C < f.kind.length) (hK : f.kind[C] = K) : Si.kindAt f (C : Int) = K := by
  unfold Si.kindAt
  rw [Int.toNat_natCast, List.getD_eq_getElem?_getD, List.getElem?_eq_getElem h, Option.getD_some, hK]
/-- What Right tells. -/
def RtP (s : Si.Site) : Prop := Si.Right s ∧ ∀ z ∈ s.zones, z.keep ≤ z.cells.length
/-- Names are short. -/
structure Names (s : Si.Site) : Prop where
  z : ∀ z ∈ s.zones, z.name.length ≤ 1000000
  a : ∀ p ∈ s.aparts, p.1.length ≤ 1000000 ∧ p.2.length ≤ 1000000
  s : ∀ p ∈ s.shelves, p.2.length ≤ 1000000
theorem bytes_size (l : List UInt8) : (⟨l.toArray⟩ : ByteArray).size = l.length := by show l.toArray.size = _; simp
set_option maxRecDepth 100000 in
set_option maxHeartbeats 64000000 in
theorem rRight11_any (s : Si.Site) (kv ov zv av sv rv : Value) (w : World) (h : SiV w kv ov zv av sv rv s) (hcp : SiCap zv av sv rv) (hnm : Names s) :
    Calls Tryz.prog 99 #[siV s kv ov zv av sv rv] w fun e w' => TruePost (RtP s) e ∧ Below w.heap.size w w' := by
  obtain ⟨a1, c1, a2, c2, a3, c3, a4, c4, a5, c5, a6, c6, rfl, rfl, rfl, rfl, rfl, rfl, m1, m2, m3, m4, m5, m6⟩ := h.open
  have hca : s.aparts.length ≤ c4 := hcp.a.1
  have hcs : s.shelves.length ≤ c5 := hcp.s.1
  have hcr : s.robots.length ≤ c6 := hcp.r.1
  have HV := Lib.hid h
  have HNM := Lib.hid hnm
  have HFL := Lib.hid (fun W hb => rFloor_any s.floor (.slice a1 s.floor.kind.length c1) (.slice a2 s.floor.out.length c2) W (h.fl.keep hb))
  have HIS := Lib.hid (fun (hf : Fl.Right s.floor) c W => rIs_any s.floor (.slice a1 s.floor.kind.length c1) (.slice a2 s.floor.out.length c2) c W (.of hf))
  have HRZ := Lib.hid (fun (hf : Fl.Right s.floor) W hb => rightZones_any s (.slice a1 s.floor.kind.length c1) (.slice a2 s.floor.out.length c2) (.slice a3 s.zones.length c3) (.slice a4 s.aparts.length c4) (.slice a5 s.shelves.length c5) (.slice a6 s.robots.length c6) W (h.keep hb) hcp hf hnm.z)
  have HBE := Lib.hid (fun (hf : Fl.Right s.floor) W hb => rBesideS_any s (.slice a1 s.floor.kind.length c1) (.slice a2 s.floor.out.length c2) (.slice a3 s.zones.length c3) (.slice a4 s.aparts.length c4) (.slice a5 s.shelves.length c5) (.slice a6 s.robots.length c6) W (h.keep hb) hf)
  have HCH := Lib.hid (fun W hb => charger_any s.floor (.slice a1 s.floor.kind.length c1) (.slice a2 s.floor.out.length c2) W (h.fl.keep hb))
  have HBL := Lib.hid (fun (z : Si.Zone) u1 u2 W hb h1 h2 h3 => blanks_any s (.slice a1 s.floor.kind.length c1) (.slice a2 s.floor.out.length c2) (.slice a3 s.zones.length c3) (.slice a4 s.aparts.length c4) (.slice a5 s.shelves.length c5) (.slice a6 s.robots.length c6) z u1 u2 W (h.keep hb) h1 h2 h3)
  obtain ⟨l1, e1⟩ : ∃ n, s.floor.kind.length = n := ⟨_, rfl⟩
  obtain ⟨l2, e2⟩ : ∃ n, s.floor.out.length = n := ⟨_, rfl⟩
  obtain ⟨l3, e3⟩ : ∃ n, s.zones.length = n := ⟨_, rfl⟩
  obtain ⟨l4, e4⟩ : ∃ n, s.aparts.length = n := ⟨_, rfl⟩
  obtain ⟨l5, e5⟩ : ∃ n, s.shelves.length = n := ⟨_, rfl⟩
  obtain ⟨l6, e6⟩ : ∃ n, s.robots.length = n := ⟨_, rfl⟩
  unfold siV at HRZ HBE HBL ⊢
  unfold flV at HFL HIS HCH
  rw [e1, e2] at HFL HIS HCH
  rw [e3] at m3
  rw [e4] at m4 hca
  rw [e5] at m5 hcs
  rw [e6] at m6 hcr
  rw [e1, e2, e3, e4, e5, e6] at HV HRZ HBE HBL
  rw [e1, e2, e3, e4, e5, e6]
  have E1 := Lib.hid e1
  have E3 := Lib.hid e3
  have E4 := Lib.hid e4
  have E5 := Lib.hid e5
  have E6 := Lib.hid e6
  have B1 := Lib.hid ((Below.refl _ w).alloc (Nat.le_refl _) (.cells #[.int .i64 s.floor.w, .int .i64 s.floor.h, .int .i64 s.floor.d, .slice a1 l1 c1, .slice a2 l2 c2, .slice a3 l3 c3, .slice a4 l4 c4, .slice a5 l5 c5, .slice a6 l6 c6] 30))
  have I0 := Lib.hid (heap_alloc_new w (.cells #[.int .i64 s.floor.w, .int .i64 s.floor.h, .int .i64 s.floor.d, .slice a1 l1 c1, .slice a2 l2 c2, .slice a3 l3 c3, .slice a4 l4 c4, .slice a5 l5 c5, .slice a6 l6 c6] 30))
  have hab : ∀ p : Bool, p = true ∨ p = false := fun p => by cases p <;> simp
  clear h hcp hnm e1 e2 e3 e4 e5 e6
  go_enter Tryz.func99, Tryz.ntmps99
  go_wp2_with fail
  go_at_call 166; refine (HFL.out _ B1.out).mono ?_; rintro e w1 ⟨⟨rb, rfl, hrb⟩, b1⟩
  have HRB := Lib.hid hrb
  have B2 := Lib.hid (B1.out.trans (b1.mono B1.out.size))
  have i1 := keep_heap I0.out b1
  have I1 := Lib.hid i1
  have pw10 : w1.cell? ⟨w.heap.size, 0, none⟩ = some (.int .i64 s.floor.w) := cell_of_heap i1 0 rfl
  have pw11 : w1.cell? ⟨w.heap.size, 1, none⟩ = some (.int .i64 s.floor.h) := cell_of_heap i1 1 rfl
  have pw12 : w1.cell? ⟨w.heap.size, 2, none⟩ = some (.int .i64 s.floor.d) := cell_of_heap i1 2 rfl
  have pw13 : w1.cell? ⟨w.heap.size, 3, none⟩ = some (.slice a1 l1 c1) := cell_of_heap i1 3 rfl
  have pw14 : w1.cell? ⟨w.heap.size, 4, none⟩ = some (.slice a2 l2 c2) := cell_of_heap i1 4 rfl
  have pw15 : w1.cell? ⟨w.heap.size, 5, none⟩ = some (.slice a3 l3 c3) := cell_of_heap i1 5 rfl
  have pw16 : w1.cell? ⟨w.heap.size, 6, none⟩ = some (.slice a4 l4 c4) := cell_of_heap i1 6 rfl
  have pw17 : w1.cell? ⟨w.heap.size, 7, none⟩ = some (.slice a5 l5 c5) := cell_of_heap i1 7 rfl
  have pw18 : w1.cell? ⟨w.heap.size, 8, none⟩ = some (.slice a6 l6 c6) := cell_of_heap i1 8 rfl
  clear b1 i1 hrb
  cases rb with
  | false =>
    go_wp2_with fail
    go_ret
    exact ⟨TruePost.no _, B2.out⟩
  | true =>
    have HF := Lib.hid (HRB.out rfl)
    have HKL : Hid ((l1 : Int) = s.floor.size) := Lib.hid (by rw [← E1.out]; exact HF.out.kl)
    clear HRB
    go_wp2_with fail
    go_at_call 167; refine (HRZ.out HF.out _ B2.out).mono ?_; rintro e w2 ⟨⟨rb, rfl, hrb⟩, b2⟩
    have HZR := Lib.hid hrb
    have B3 := Lib.hid (B2.out.trans (b2.mono B2.out.size))
    have i2 := keep_heap I1.out b2
    have I2 := Lib.hid i2
    clear b2 hrb pw10 pw11 pw12 pw13 pw14 pw15 pw16 pw17 pw18 B1 B2 I0 I1
    have pw20 : w2.cell? ⟨w.heap.size, 0, none⟩ = some (.int .i64 s.floor.w) := cell_of_heap i2 0 rfl
    have pw21 : w2.cell? ⟨w.heap.size, 1, none⟩ = some (.int .i64 s.floor.h) := cell_of_heap i2 1 rfl
    have pw22 : w2.cell? ⟨w.heap.size, 2, none⟩ = some (.int .i64 s.floor.d) := cell_of_heap i2 2 rfl
    have pw23 : w2.cell? ⟨w.heap.size, 3, none⟩ = some (.slice a1 l1 c1) := cell_of_heap i2 3 rfl
    have pw24 : w2.cell? ⟨w.heap.size, 4, none⟩ = some (.slice a2 l2 c2) := cell_of_heap i2 4 rfl
    have pw25 : w2.cell? ⟨w.heap.size, 5, none⟩ = some (.slice a3 l3 c3) := cell_of_heap i2 5 rfl
    have pw26 : w2.cell? ⟨w.heap.size, 6, none⟩ = some (.slice a4 l4 c4) := cell_of_heap i2 6 rfl
    have pw27 : w2.cell? ⟨w.heap.size, 7, none⟩ = some (.slice a5 l5 c5) := cell_of_heap i2 7 rfl
    have pw28 : w2.cell? ⟨w.heap.size, 8, none⟩ = some (.slice a6 l6 c6) := cell_of_heap i2 8 rfl
    clear i2
    cases rb with
    | false =>
      go_wp2_with fail
      go_ret
      exact ⟨TruePost.no _, B3.out⟩
    | true =>
      have HZ := Lib.hid (HZR.out rfl)
      clear HZR
      rcases hab (decide ((l5 : Int) > 3000)) with hN | hN
      · go_wp2_with fail
        go_ret
        exact ⟨TruePost.no _, B3.out⟩
      · rcases hab (decide ((l6 : Int) > 200)) with hM | hM
        · go_wp2_with fail
          go_ret
          exact ⟨TruePost.no _, B3.out⟩
        · have HNN : Hid (s.shelves.length ≤ 3000 ∧ s.robots.length ≤ 200) := Lib.hid (by rw [E5.out, E6.out]; simp at hN hM; omega)
          go_wp2_with fail
          go_loopw [3] (fun iv wr => ∃ k : Nat, k ≤ l4 ∧ iv = .int .i64 k ∧ Hid (Below w.heap.size w wr) ∧ Hid (wr.heap[w.heap.size]? = some (.cells #[.int .i64 s.floor.w, .int .i64 s.floor.h, .int .i64 s.floor.d, .slice a1 l1 c1, .slice a2 l2 c2, .slice a3 l3 c3, .slice a4 l4 c4, .slice a5 l5 c5, .slice a6 l6 c6] 30 (0, 0)))) (fun iv _ => l4 - (intOf iv).toNat)
          case atStart => exact ⟨0, by omega, rfl, B3, I2⟩
          case round =>
            clear B3 I2
            obtain ⟨k, hk, rfl, HB, J0⟩ := hrel
            obtain ⟨wo, rfl⟩ : ∃ wo : World, wo = wr := ⟨_, rfl⟩
            have lw : w.heap.size < wo.heap.size := heap_lt J0.out
            have p6 : wo.cell? ⟨w.heap.size, 6, none⟩ = some (.slice a4 l4 c4) := cell_of_heap J0.out 6 rfl
            by_cases hkn : k < l4
            · have hkl : k < s.aparts.length := by rw [E4.out]; exact hkn
              obtain ⟨zb, zo, t1, hzb, r0, r1⟩ := ApV.cell (Rw.keep HV.out.ap HB.out) k hkl
              subst t1
              obtain ⟨NA, hNA⟩ : ∃ N : ByteArray, ⟨s.aparts[k].1.toArray⟩ = N := ⟨_, rfl⟩
              obtain ⟨NB, hNB⟩ : ∃ N : ByteArray, ⟨s.aparts[k].2.toArray⟩ = N := ⟨_, rfl⟩
              rw [hNA] at r0
              rw [hNB] at r1
              obtain ⟨N1, hN1⟩ := rName_ex NA (by rw [← hNA, bytes_size]; exact (HNM.out.a _ (List.getElem_mem hkl)).1)
              obtain ⟨N2, hN2⟩ := rName_ex NB (by rw [← hNB, bytes_size]; exact (HNM.out.a _ (List.getElem_mem hkl)).2)
              obtain ⟨AP, hAP⟩ := Apart_ex (s.aparts.take k) NA NB
              have HN1 := Lib.hid hN1
              have HN2 := Lib.hid hN2
              have HAP := Lib.hid (fun W hb => hAP (.slice (some ⟨zb, zo, none⟩) k c4) W (Rw.keep (ApV.take (show ApV w (.slice (some ⟨zb, zo, none⟩) l4 c4) s.aparts from HV.out.ap) k (by omega)) hb))
              have BO : Hid (Below wo.heap.size wo (wo.alloc (.cells #[.string NA, .string NB] 161))) := Lib.hid ((Below.refl _ wo).alloc (Nat.le_refl _) _)
              have BQ : Hid (∀ q, Below w.heap.size w ((wo.alloc (.cells #[.string NA, .string NB] 161)).drewN q)) := Lib.hid (fun q => (HB.out.trans (BO.out.mono HB.out.size)).trans (below_drewN _ _ _))
              have J9 := Lib.hid (keep_heap J0.out BO.out)
              have k1 : (k : Int) < (l4 : Int) := by omega
              have k0 : (0 : Int) ≤ (k : Int) := by omega
              have k9 : (k : Int) ≤ (c4 : Int) := by omega
              have k8 : k ≤ c4 := by omega
              clear hNA hNB hN1 hN2 hAP
              cases N1 with
              | false =>
                go_wp2_with fail
                go_quiet (first
                  | (go_at_call 168; with_reducible exact qsame (HN1.out _))
                  | (go_at_call 168; with_reducible exact qsame (HN2.out _))
                  | (go_at_call 169; exact qsame (HAP.out _ (BQ.out _))))
                go_wp2_with fail
                go_ret
                exact ⟨TruePost.no _, BQ.out _⟩
              | true =>
                cases N2 with
                | false =>
                  go_wp2_with fail
                  go_quiet (first
                    | (go_at_call 168; with_reducible exact qsame (HN1.out _))
                    | (go_at_call 168; with_reducible exact qsame (HN2.out _))
                    | (go_at_call 169; exact qsame (HAP.out _ (BQ.out _))))
                  go_wp2_with fail
                  go_ret
                  exact ⟨TruePost.no _, BQ.out _⟩
                | true =>
                  cases AP with
                  | true =>
                    go_wp2_with fail
                    go_quiet (first
                      | (go_at_call 168; with_reducible exact qsame (HN1.out _))
                      | (go_at_call 168; with_reducible exact qsame (HN2.out _))
                      | (go_at_call 169; exact qsame (HAP.out _ (BQ.out _))))
                    go_wp2_with fail
                    go_ret
                    exact ⟨TruePost.no _, BQ.out _⟩
                  | false =>
                    go_wp2_with fail
                    go_quiet (first
                      | (go_at_call 168; with_reducible exact qsame (HN1.out _))
                      | (go_at_call 168; with_reducible exact qsame (HN2.out _))
                      | (go_at_call 169; exact qsame (HAP.out _ (BQ.out _))))
                    go_wp2_with fail
                    go_roundw
                    case rel => exact ⟨k + 1, by omega, by go_num, Lib.hid (BQ.out _), J9⟩
                    case measure => simp [intOf]; omega
            · have S0 : Hid (ShOk s.floor (s.shelves.take 0)) := Lib.hid (by rw [List.take_zero]; exact ShOk.nil _)
              go_wp2_with fail
              go_loopw [5] (fun iv wr => ∃ k : Nat, k ≤ l5 ∧ iv = .int .i64 k ∧ Hid (ShOk s.floor (s.shelves.take k)) ∧ Hid (Below w.heap.size w wr) ∧ Hid (wr.heap[w.heap.size]? = some (.cells #[.int .i64 s.floor.w, .int .i64 s.floor.h, .int .i64 s.floor.d, .slice a1 l1 c1, .slice a2 l2 c2, .slice a3 l3 c3, .slice a4 l4 c4, .slice a5 l5 c5, .slice a6 l6 c6] 30 (0, 0)))) (fun iv _ => l5 - (intOf iv).toNat)
              case atStart => exact ⟨0, by omega, rfl, S0, HB, J0⟩
              case round =>
                clear HB J0 S0 p6 lw
                obtain ⟨k, hk, rfl, HS, HB, J0⟩ := hrel
                obtain ⟨wo, rfl⟩ : ∃ wo : World, wo = wr := ⟨_, rfl⟩
                have lw : w.heap.size < wo.heap.size := heap_lt J0.out
                have pwo0 : wo.cell? ⟨w.heap.size, 0, none⟩ = some (.int .i64 s.floor.w) := cell_of_heap J0.out 0 rfl
                have pwo1 : wo.cell? ⟨w.heap.size, 1, none⟩ = some (.int .i64 s.floor.h) := cell_of_heap J0.out 1 rfl
                have pwo2 : wo.cell? ⟨w.heap.size, 2, none⟩ = some (.int .i64 s.floor.d) := cell_of_heap J0.out 2 rfl
                have pwo3 : wo.cell? ⟨w.heap.size, 3, none⟩ = some (.slice a1 l1 c1) := cell_of_heap J0.out 3 rfl
                have pwo4 : wo.cell? ⟨w.heap.size, 4, none⟩ = some (.slice a2 l2 c2) := cell_of_heap J0.out 4 rfl
                have pwo5 : wo.cell? ⟨w.heap.size, 5, none⟩ = some (.slice a3 l3 c3) := cell_of_heap J0.out 5 rfl
                have pwo6 : wo.cell? ⟨w.heap.size, 6, none⟩ = some (.slice a4 l4 c4) := cell_of_heap J0.out 6 rfl
                have pwo7 : wo.cell? ⟨w.heap.size, 7, none⟩ = some (.slice a5 l5 c5) := cell_of_heap J0.out 7 rfl
                have pwo8 : wo.cell? ⟨w.heap.size, 8, none⟩ = some (.slice a6 l6 c6) := cell_of_heap J0.out 8 rfl
                by_cases hkn : k < l5
                · have hkl : k < s.shelves.length := by rw [E5.out]; exact hkn
                  obtain ⟨zb, zo, t1, hzb, r0, r1⟩ := SfV.cell (Rw.keep HV.out.sf HB.out) k hkl
                  subst t1
                  have HSF : Hid (SfV w (.slice (some ⟨zb, zo, none⟩) l5 c5) s.shelves) := Lib.hid HV.out.sf
                  obtain ⟨NM, hNM⟩ : ∃ N : ByteArray, ⟨s.shelves[k].2.toArray⟩ = N := ⟨_, rfl⟩
                  rw [hNM] at r1
                  obtain ⟨N1, hN1⟩ := rName_ex NM (by rw [← hNM, bytes_size]; exact HNM.out.s _ (List.getElem_mem hkl))
                  have HN1 := Lib.hid hN1
                  obtain ⟨C, hC⟩ : ∃ C, s.shelves[k].1 = C := ⟨_, rfl⟩
                  rw [hC] at r0
                  have HC := Lib.hid hC
                  have HI := Lib.hid (fun W => HIS.out HF.out C W)
                  obtain ⟨IB, hIB⟩ : ∃ x, Fl.isC s.floor C = x := ⟨_, rfl⟩
                  rw [hIB] at HI
                  have HIB := Lib.hid hIB
                  have BO : Hid (Below wo.heap.size wo (wo.alloc (.cells #[.int .i64 C, .string NM] 163))) := Lib.hid ((Below.refl _ wo).alloc (Nat.le_refl _) _)
                  have HB2 : Hid (Below w.heap.size w (wo.alloc (.cells #[.int .i64 C, .string NM] 163))) := Lib.hid (HB.out.trans (BO.out.mono HB.out.size))
                  have J2 := Lib.hid (keep_heap J0.out BO.out)
                  have X2 := Lib.hid (heap_alloc_new wo (.cells #[.int .i64 C, .string NM] 163))
                  have k1 : (k : Int) < (l5 : Int) := by omega
                  have k0 : (0 : Int) ≤ (k : Int) := by omega
                  have k9 : (k : Int) ≤ (c5 : Int) := by omega
                  have k8 : k ≤ c5 := by omega
                  clear hNM hN1 hC hIB
                  go_upto_region 13 with fail
                  go_cut [92] (fun v wx => ∃ b : Bool, v = .bool b ∧ Hid (b = false → IB = true) ∧ Hid (Below wo.heap.size (wo.alloc (.cells #[.int .i64 C, .string NM] 163)) wx) ∧ Hid (wx.heap[wo.heap.size]? = some (.cells #[.int .i64 C, .string NM] 163 (0, 0))))
                  case first =>
                    go_wp2_with fail
                    go_at_call 170; refine (HI.out _).mono ?_; rintro e w3 ⟨rfl, b3⟩
                    have B4 : Hid (Below wo.heap.size (wo.alloc (.cells #[.int .i64 C, .string NM] 163)) w3) := Lib.hid (b3.mono (by simp))
                    have X3 := Lib.hid (keep_heap X2.out b3)
                    have y1 : w3.cell? ⟨wo.heap.size, 1, none⟩ = some (.string NM) := cell_of_heap X3.out 1 rfl
                    clear b3
                    cases IB with
                    | false =>
                      go_wp2_with fail
                      go_meet
                      exact ⟨true, rfl, Lib.hid (fun h => (by cases h)), B4, X3⟩
                    | true =>
                      go_wp2_with fail
                      all_goals first
                        | (go_meet; exact ⟨_, rfl, Lib.hid (fun _ => by first | rfl | trivial), B4, X3⟩)
                        | (go_at_call 168; refine (HN1.out _).mono ?_; rintro e w4 ⟨rfl, rfl⟩
                           cases N1
                           all_goals
                             go_wp2_with fail
                             go_meet
                             exact ⟨_, rfl, Lib.hid (fun _ => by first | rfl | trivial), B4, X3⟩)
                  case rest =>
                    obtain ⟨bb, rfl, HBI, HBX, HXC⟩ := hcut
                    have HBC : Hid (Below w.heap.size w wc) := Lib.hid (HB2.out.trans (HBX.out.mono HB.out.size))
                    have J3 : Hid (wc.heap[w.heap.size]? = _) := Lib.hid ((HBX.out.block w.heap.size lw).trans J2.out)
                    cases bb with
                    | true =>
                      go_wp2_with fail
                      go_ret
                      exact ⟨TruePost.no _, HBC.out⟩
                    | false =>
                      have hIt := HBI.out rfl
                      have hin : 0 ≤ C ∧ C < s.floor.size := by
                        have h9 := HIB.out
                        rw [hIt] at h9
                        unfold Fl.isC at h9
                        simpa using h9
                      have HIT : Hid (Fl.isC s.floor C = true) := Lib.hid (by rw [HIB.out]; exact hIt)
                      obtain ⟨D, rfl⟩ : ∃ D : Nat, C = (D : Int) := ⟨C.toNat, by omega⟩
                      have hDl : (D : Int) < (l1 : Int) := by rw [HKL.out]; exact hin.2
                      have D0 : (0 : Int) ≤ (D : Int) := by omega
                      obtain ⟨g3, o3, t3, r3⟩ := (HV.out.fl.kind.keep HBC.out).cell D (by rw [E1.out]; omega)
                      subst t3
                      obtain ⟨K, hK⟩ : ∃ x, s.floor.kind[D]'(by rw [E1.out]; omega) = x := ⟨_, rfl⟩
                      rw [hK] at r3
                      have HKA := Lib.hid (kindAt_nat (by rw [E1.out]; omega) hK)
                      have HST := Lib.hid (stands_any K)
                      obtain ⟨SB, hSB⟩ : ∃ x, (decide (K = 1) || decide (K = 2)) = x := ⟨_, rfl⟩
                      rw [hSB] at HST
                      have HSB := Lib.hid hSB
                      have HSH := Lib.hid (fun W hb => shelfAt_is (.slice (some ⟨zb, zo, none⟩) k c5) (s.shelves.take k) (D : Int) W (Rw.keep (SfV.take HSF.out k (by omega)) hb))
                      have HIX : Hid (sIdx (s.shelves.take k) (D : Int) = sIdx (s.shelves.take k) (D : Int)) := Lib.hid rfl
                      obtain ⟨X, hX⟩ : ∃ x, sIdx (s.shelves.take k) (D : Int) = x := ⟨_, rfl⟩
                      rw [hX] at HSH
                      have HX := Lib.hid hX
                      have BQ : Hid (∀ q, Below w.heap.size w (wc.drewN q)) := Lib.hid (fun q => HBC.out.trans (below_drewN _ _ _))
                      have x0 : wc.cell? ⟨wo.heap.size, 0, none⟩ = some (.int .i64 (D : Int)) := cell_of_heap HXC.out 0 rfl
                      have lw2 : w.heap.size < wc.heap.size := heap_lt J3.out
                      have q3 : wc.cell? ⟨w.heap.size, 3, none⟩ = some (.slice (some ⟨g3, o3, none⟩) l1 c1) := cell_of_heap J3.out 3 rfl
                      have q7 : wc.cell? ⟨w.heap.size, 7, none⟩ = some (.slice (some ⟨zb, zo, none⟩) l5 c5) := cell_of_heap J3.out 7 rfl
                      clear hIt hin hK hSB hX HIX
                      cases SB with
                      | false =>
                        go_wp2_with fail
                        go_quiet (first
                          | (go_at_call 171; exact qsame (HST.out _))
                          | (go_at_call 172; exact qsame (HSH.out _ (BQ.out _))))
                        go_wp2_with fail
                        go_ret
                        exact ⟨TruePost.no _, BQ.out _⟩
                      | true =>
                        rcases hab (decide (X ≥ 0)) with hG | hG
                        · go_wp2_with fail
                          go_quiet (first
                            | (go_at_call 171; exact qsame (HST.out _))
                            | (go_at_call 172; exact qsame (HSH.out _ (BQ.out _))))
                          go_wp2_with fail
                          go_ret
                          exact ⟨TruePost.no _, BQ.out _⟩
                        · have HNX : Hid (ShOk s.floor (s.shelves.take (k + 1))) := Lib.hid (HS.out.step hkl (by rw [HC.out]; exact ⟨HIT.out, by rw [HKA.out]; have h9 := HSB.out; simp at h9; exact h9⟩) (by rw [HC.out, HX.out]; simp at hG; omega))
                          go_wp2_with fail
                          go_quiet (first
                            | (go_at_call 171; exact qsame (HST.out _))
                            | (go_at_call 172; exact qsame (HSH.out _ (BQ.out _))))
                          go_wp2_with fail
                          go_roundw
                          case rel => exact ⟨k + 1, by omega, by go_num, HNX, Lib.hid (BQ.out _), J3⟩
                          case measure => simp [intOf]; omega
                · obtain rfl : l5 = k := by omega
                  have HSA : Hid (ShOk s.floor s.shelves) := Lib.hid (by have h9 := HS.out; have e9 : s.shelves.take l5 = s.shelves := List.take_of_length_le (by rw [E5.out]; omega); rw [e9] at h9; exact h9)
                  have S0 : Hid (RbOk s.floor (s.robots.take 0)) := Lib.hid (by rw [List.take_zero]; exact RbOk.nil _)
                  go_wp2_with fail
                  go_loopw [7] (fun iv wr => ∃ k : Nat, k ≤ l6 ∧ iv = .int .i64 k ∧ Hid (RbOk s.floor (s.robots.take k)) ∧ Hid (Below w.heap.size w wr) ∧ Hid (wr.heap[w.heap.size]? = some (.cells #[.int .i64 s.floor.w, .int .i64 s.floor.h, .int .i64 s.floor.d, .slice a1 l1 c1, .slice a2 l2 c2, .slice a3 l3 c3, .slice a4 l4 c4, .slice a5 l5 c5, .slice a6 l6 c6] 30 (0, 0)))) (fun iv _ => l6 - (intOf iv).toNat)
                  case atStart => exact ⟨0, by omega, rfl, S0, HB, J0⟩
                  case round =>
                    clear HB J0 S0 HS lw pwo0 pwo1 pwo2 pwo3 pwo4 pwo5 pwo6 pwo7 pwo8
                    obtain ⟨k, hk, rfl, HS, HB, J0⟩ := hrel
                    obtain ⟨wo, rfl⟩ : ∃ wo : World, wo = wr := ⟨_, rfl⟩
                    have lw : w.heap.size < wo.heap.size := heap_lt J0.out
                    have pwo0 : wo.cell? ⟨w.heap.size, 0, none⟩ = some (.int .i64 s.floor.w) := cell_of_heap J0.out 0 rfl
                    have pwo1 : wo.cell? ⟨w.heap.size, 1, none⟩ = some (.int .i64 s.floor.h) := cell_of_heap J0.out 1 rfl
                    have pwo2 : wo.cell? ⟨w.heap.size, 2, none⟩ = some (.int .i64 s.floor.d) := cell_of_heap J0.out 2 rfl
                    have pwo3 : wo.cell? ⟨w.heap.size, 3, none⟩ = some (.slice a1 l1 c1) := cell_of_heap J0.out 3 rfl
                    have pwo4 : wo.cell? ⟨w.heap.size, 4, none⟩ = some (.slice a2 l2 c2) := cell_of_heap J0.out 4 rfl
                    have pwo5 : wo.cell? ⟨w.heap.size, 5, none⟩ = some (.slice a3 l3 c3) := cell_of_heap J0.out 5 rfl
                    have pwo6 : wo.cell? ⟨w.heap.size, 6, none⟩ = some (.slice a4 l4 c4) := cell_of_heap J0.out 6 rfl
                    have pwo7 : wo.cell? ⟨w.heap.size, 7, none⟩ = some (.slice a5 l5 c5) := cell_of_heap J0.out 7 rfl
                    have pwo8 : wo.cell? ⟨w.heap.size, 8, none⟩ = some (.slice a6 l6 c6) := cell_of_heap J0.out 8 rfl
                    by_cases hkn : k < l6
                    · have hkl : k < s.robots.length := by rw [E6.out]; exact hkn
                      have HRB : Hid (ShV w (.slice a6 l6 c6) s.robots) := Lib.hid HV.out.rb
                      obtain ⟨zb, zo, t1, hzb, r0, r1⟩ := ShV.cell (Rw.keep HRB.out HB.out) k hkl
                      subst t1
                      obtain ⟨C, hC⟩ : ∃ C, s.robots[k].1 = C := ⟨_, rfl⟩
                      obtain ⟨CH, hCH⟩ : ∃ C, s.robots[k].2 = C := ⟨_, rfl⟩
                      rw [hC] at r0
                      rw [hCH] at r1
                      have HC := Lib.hid hC
                      have HCHG := Lib.hid hCH
                      have HI := Lib.hid (fun W => HIS.out HF.out C W)
                      obtain ⟨IB, hIB⟩ : ∃ x, Fl.isC s.floor C = x := ⟨_, rfl⟩
                      rw [hIB] at HI
                      have HIB := Lib.hid hIB
                      have BO : Hid (Below wo.heap.size wo (wo.alloc (.cells #[.int .i64 C, .int .i64 CH] 159))) := Lib.hid ((Below.refl _ wo).alloc (Nat.le_refl _) _)
                      have HB2 : Hid (Below w.heap.size w (wo.alloc (.cells #[.int .i64 C, .int .i64 CH] 159))) := Lib.hid (HB.out.trans (BO.out.mono HB.out.size))
                      have J2 := Lib.hid (keep_heap J0.out BO.out)
                      have X2 := Lib.hid (heap_alloc_new wo (.cells #[.int .i64 C, .int .i64 CH] 159))
                      have k1 : (k : Int) < (l6 : Int) := by omega
                      have k0 : (0 : Int) ≤ (k : Int) := by omega
                      have k9 : (k : Int) ≤ (c6 : Int) := by omega
                      have k8 : k ≤ c6 := by omega
                      clear hC hCH hIB
                      cases IB with
                      | false =>
                        go_wp2_with fail
                        go_at_call 170; refine (HI.out _).mono ?_; rintro e w3 ⟨rfl, b3⟩
                        have B4 := Lib.hid (HB2.out.trans (b3.mono HB2.out.size))
                        clear b3
                        go_wp2_with fail
                        go_ret
                        exact ⟨TruePost.no _, B4.out⟩
                      | true =>
                        have hin : 0 ≤ C ∧ C < s.floor.size := by
                          have h9 := HIB.out
                          unfold Fl.isC at h9
                          simpa using h9
                        obtain ⟨D, rfl⟩ : ∃ D : Nat, C = (D : Int) := ⟨C.toNat, by omega⟩
                        have hDl : (D : Int) < (l1 : Int) := by rw [HKL.out]; exact hin.2
                        have D0 : (0 : Int) ≤ (D : Int) := by omega
                        obtain ⟨g3, o3, t3, r3⟩ := (HV.out.fl.kind.keep HB.out).cell D (by rw [E1.out]; omega)
                        subst t3
                        have lg3 := cell_block_lt r3
                        obtain ⟨K, hK⟩ : ∃ x, s.floor.kind[D]'(by rw [E1.out]; omega) = x := ⟨_, rfl⟩
                        rw [hK] at r3
                        have HKA := Lib.hid (kindAt_nat (by rw [E1.out]; omega) hK)
                        have HSH := Lib.hid (fun W hb => robotAt_is (.slice (some ⟨zb, zo, none⟩) k c6) (s.robots.take k) (D : Int) W (Rw.keep (RbV.take (show RbV w (.slice (some ⟨zb, zo, none⟩) l6 c6) s.robots from HRB.out) k (by omega)) hb))
                        obtain ⟨X, hX⟩ : ∃ x, decide (0 ≤ sIdx (s.robots.take k) (D : Int)) = x := ⟨_, rfl⟩
                        rw [hX] at HSH
                        have HX := Lib.hid hX
                        clear hin hK hX
                        rcases hab (decide (CH < 0)) with hP | hP
                        · go_wp2_with fail
                          go_at_call 170; refine (HI.out _).mono ?_; rintro e w3 ⟨rfl, b3⟩
                          have B4 := Lib.hid (HB2.out.trans (b3.mono HB2.out.size))
                          have X3 := Lib.hid (keep_heap X2.out b3)
                          have x1 : w3.cell? ⟨wo.heap.size, 1, none⟩ = some (.int .i64 CH) := cell_of_heap X3.out 1 rfl
                          clear b3
                          go_wp2_with fail
                          go_ret
                          exact ⟨TruePost.no _, B4.out⟩
                        · rcases hab (decide (CH > 1000000)) with hQ | hQ
                          · go_wp2_with fail
                            go_at_call 170; refine (HI.out _).mono ?_; rintro e w3 ⟨rfl, b3⟩
                            have B4 := Lib.hid (HB2.out.trans (b3.mono HB2.out.size))
                            have X3 := Lib.hid (keep_heap X2.out b3)
                            have x1 : w3.cell? ⟨wo.heap.size, 1, none⟩ = some (.int .i64 CH) := cell_of_heap X3.out 1 rfl
                            clear b3
                            go_wp2_with fail
                            go_ret
                            exact ⟨TruePost.no _, B4.out⟩
                          · go_wp2_with fail
                            go_at_call 170; refine (HI.out _).mono ?_; rintro e w3 ⟨rfl, b3⟩
                            have B4 := Lib.hid (HB2.out.trans (b3.mono HB2.out.size))
                            have X3 := Lib.hid (keep_heap X2.out b3)
                            have J3 := Lib.hid (keep_heap J2.out b3)
                            have x0 : w3.cell? ⟨wo.heap.size, 0, none⟩ = some (.int .i64 (D : Int)) := cell_of_heap X3.out 0 rfl
                            have x1 : w3.cell? ⟨wo.heap.size, 1, none⟩ = some (.int .i64 CH) := cell_of_heap X3.out 1 rfl
                            have x3 : w3.cell? ⟨w.heap.size, 3, none⟩ = some (.slice (some ⟨g3, o3, none⟩) l1 c1) := cell_of_heap J3.out 3 rfl
                            have x8 : w3.cell? ⟨w.heap.size, 8, none⟩ = some (.slice (some ⟨zb, zo, none⟩) l6 c6) := cell_of_heap J3.out 8 rfl
                            have x9 : w3.cell? ⟨g3, o3 + D, none⟩ = some (.int .i64 K) := ((BO.out.trans (b3.mono (by simp))).cell (p := ⟨g3, o3 + D, none⟩) lg3).trans r3
                            have lw3 : w.heap.size < w3.heap.size := heap_lt J3.out
                            have BQ : Hid (∀ q, Below w.heap.size w (w3.drewN q)) := Lib.hid (fun q => B4.out.trans (below_drewN _ _ _))
                            clear b3 r3 pwo0 pwo1 pwo2 pwo3 pwo4 pwo5 pwo6 pwo7 pwo8
                            by_cases hK0 : K = 0
                            · have e1 : (K == 0) = true := by simp [hK0]
                              clear hK0
                              go_wp2_with fail
                              go_quiet (first
                                | (go_at_call 173; exact qsame (HSH.out _ (BQ.out _))))
                              go_wp2_with fail
                              go_ret
                              exact ⟨TruePost.no _, BQ.out _⟩
                            · have e1 : (K == 0) = false := by simp [hK0]
                              have HK0 := Lib.hid hK0
                              clear hK0
                              cases X with
                              | true =>
                                go_wp2_with fail
                                go_quiet (first
                                  | (go_at_call 173; exact qsame (HSH.out _ (BQ.out _))))
                                go_wp2_with fail
                                go_ret
                                exact ⟨TruePost.no _, BQ.out _⟩
                              | false =>
                                have HNX : Hid (RbOk s.floor (s.robots.take (k + 1))) := Lib.hid (HS.out.step hkl (by rw [HC.out, HCHG.out]; exact ⟨HIB.out, by rw [HKA.out]; exact HK0.out, by simp at hP; omega, by simp at hQ; omega⟩) (by rw [HC.out]; have h9 := HX.out; simp at h9; omega))
                                go_wp2_with fail
                                go_quiet (first
                                  | (go_at_call 173; exact qsame (HSH.out _ (BQ.out _))))
                                go_wp2_with fail
                                go_roundw
                                case rel => exact ⟨k + 1, by omega, by go_num, HNX, Lib.hid (BQ.out _), J3⟩
                                case measure => simp [intOf]; omega
                    · obtain rfl : l6 = k := by omega
                      have HRA : Hid (RbOk s.floor s.robots) := Lib.hid (by have h9 := HS.out; have e9 : s.robots.take l6 = s.robots := List.take_of_length_le (by rw [E6.out]; omega); rw [e9] at h9; exact h9)
                      go_wp2_with fail
                      go_loopw [9] (fun iv wr => ∃ k : Nat, k ≤ l3 ∧ iv = .int .i64 k ∧ Hid (∀ z ∈ s.zones.take k, z.keep ≤ z.cells.length) ∧ Hid (Below w.heap.size w wr) ∧ Hid (wr.heap[w.heap.size]? = some (.cells #[.int .i64 s.floor.w, .int .i64 s.floor.h, .int .i64 s.floor.d, .slice a1 l1 c1, .slice a2 l2 c2, .slice a3 l3 c3, .slice a4 l4 c4, .slice a5 l5 c5, .slice a6 l6 c6] 30 (0, 0)))) (fun iv _ => l3 - (intOf iv).toNat)
                      case atStart => exact ⟨0, by omega, rfl, Lib.hid (by simp), HB, J0⟩
                      case round =>
                        clear HB J0 lw HS pwo0 pwo1 pwo2 pwo3 pwo4 pwo5 pwo6 pwo7 pwo8
                        obtain ⟨k, hk, rfl, HS, HB, J0⟩ := hrel
                        obtain ⟨wo, rfl⟩ : ∃ wo : World, wo = wr := ⟨_, rfl⟩
                        have lw : w.heap.size < wo.heap.size := heap_lt J0.out
                        have pwo0 : wo.cell? ⟨w.heap.size, 0, none⟩ = some (.int .i64 s.floor.w) := cell_of_heap J0.out 0 rfl
                        have pwo1 : wo.cell? ⟨w.heap.size, 1, none⟩ = some (.int .i64 s.floor.h) := cell_of_heap J0.out 1 rfl
                        have pwo2 : wo.cell? ⟨w.heap.size, 2, none⟩ = some (.int .i64 s.floor.d) := cell_of_heap J0.out 2 rfl
                        have pwo3 : wo.cell? ⟨w.heap.size, 3, none⟩ = some (.slice a1 l1 c1) := cell_of_heap J0.out 3 rfl
                        have pwo4 : wo.cell? ⟨w.heap.size, 4, none⟩ = some (.slice a2 l2 c2) := cell_of_heap J0.out 4 rfl
                        have pwo5 : wo.cell? ⟨w.heap.size, 5, none⟩ = some (.slice a3 l3 c3) := cell_of_heap J0.out 5 rfl
                        have pwo6 : wo.cell? ⟨w.heap.size, 6, none⟩ = some (.slice a4 l4 c4) := cell_of_heap J0.out 6 rfl
                        have pwo7 : wo.cell? ⟨w.heap.size, 7, none⟩ = some (.slice a5 l5 c5) := cell_of_heap J0.out 7 rfl
                        have pwo8 : wo.cell? ⟨w.heap.size, 8, none⟩ = some (.slice a6 l6 c6) := cell_of_heap J0.out 8 rfl
                        by_cases hkn : k < l3
                        · have hkl : k < s.zones.length := by rw [E3.out]; exact hkn
                          obtain ⟨zb, zo, u1, u2, t1, hzb, hu1, hu2, r0, r1, r2, r3, r4⟩ := (HV.out.zn.keep HB.out).cell k hkl
                          subst t1
                          obtain ⟨z, hz⟩ : ∃ z, s.zones[k] = z := ⟨_, rfl⟩
                          have HZM : Hid (z ∈ s.zones) := Lib.hid (by rw [← hz]; exact List.getElem_mem hkl)
                          have HZE := Lib.hid hz
                          rw [hz] at r0 r2 r3 hu1 hu2
                          have HU1 := Lib.hid hu1
                          have HU2 := Lib.hid hu2
                          obtain ⟨b1, d1, rfl, n1⟩ := hu1.form
                          obtain ⟨b2, d2, rfl, n2⟩ := two_form hu2
                          have HCC : Hid (∀ c ∈ z.cells, 0 ≤ c ∧ c.toNat < l1) := Lib.hid (fun c hc => by
                            have h9 := (HZ.out.1.b z HZM.out c hc).1
                            have h8 : 0 ≤ c ∧ c < s.floor.size := by unfold Fl.isC at h9; simpa using h9
                            have := HKL.out
                            omega)
                          have k1 : (k : Int) < (l3 : Int) := by omega
                          have k0 : (0 : Int) ≤ (k : Int) := by omega
                          obtain ⟨KP, hKP⟩ : ∃ x, z.keep = x := ⟨_, rfl⟩
                          have HKP := Lib.hid hKP
                          rw [hKP] at r3
                          have HB9 := Lib.hid (fun W hb h1 h2 => HBL.out z (.slice b1 z.cells.length d1) (.slice b2 z.shut.length d2) W hb h1 h2 HCC.out)
                          obtain ⟨n, hn⟩ : ∃ n, z.cells.length = n := ⟨_, rfl⟩
                          obtain ⟨m, hm⟩ : ∃ n, z.shut.length = n := ⟨_, rfl⟩
                          rw [hn] at r1 n1 HU1
                          rw [hm] at r4 n2 HU2
                          rw [hn, hm] at HB9
                          have HN := Lib.hid hn
                          obtain ⟨NM, hNM⟩ : ∃ N : ByteArray, ⟨z.name.toArray⟩ = N := ⟨_, rfl⟩
                          rw [hNM] at r0 HB9
                          rw [hKP] at HB9
                          obtain ⟨SP, hSP⟩ : ∃ x, z.speed = x := ⟨_, rfl⟩
                          rw [hSP] at r2 HB9
                          clear hu1 hu2 hz hKP hn hm hNM hSP
                          go_upto_region 28 with fail
                          go_cut [177] (fun v wx => ∃ b : Bool, v = .bool b ∧ Hid (b = false → KP ≤ n) ∧ Hid (Below wo.heap.size wo wx))
                          case first =>
                            go_region_held3 (fun w' => w'.cell? ⟨w.heap.size, 0, none⟩ = some (.int .i64 s.floor.w) ∧ w'.cell? ⟨w.heap.size, 1, none⟩ = some (.int .i64 s.floor.h) ∧ w'.cell? ⟨w.heap.size, 2, none⟩ = some (.int .i64 s.floor.d) ∧ w'.cell? ⟨w.heap.size, 3, none⟩ = some (.slice a1 l1 c1) ∧ w'.cell? ⟨w.heap.size, 4, none⟩ = some (.slice a2 l2 c2) ∧ w'.cell? ⟨w.heap.size, 5, none⟩ = some (.slice (some ⟨zb, zo, none⟩) l3 c3) ∧ w'.cell? ⟨w.heap.size, 6, none⟩ = some (.slice a4 l4 c4) ∧ w'.cell? ⟨w.heap.size, 7, none⟩ = some (.slice a5 l5 c5) ∧ w'.cell? ⟨w.heap.size, 8, none⟩ = some (.slice a6 l6 c6) ∧ w'.cell? ⟨zb, zo + k * 5, none⟩ = some (.string NM) ∧ w'.cell? ⟨zb, zo + k * 5 + 1, none⟩ = some (.slice b1 n d1) ∧ w'.cell? ⟨zb, zo + k * 5 + 2, none⟩ = some (.int .i64 SP) ∧ w'.cell? ⟨zb, zo + k * 5 + 3, none⟩ = some (.int .i64 KP) ∧ w'.cell? ⟨zb, zo + k * 5 + 4, none⟩ = some (.slice b2 m d2)) (go_keep)
                              ((go_at_call 174; refine (HB9.out wo.drew (HB.out.trans (below_drewN _ _ 1)) (HU1.out.keep (below_drewN _ _ 1)) (Rw.keep HU2.out (below_drewN _ _ 1))).mono ?_; rintro e w3 ⟨⟨q, rfl, hq⟩, b3⟩; have BX : Below wo.heap.size wo w3 := (show Below wo.heap.size wo wo.drew from below_drewN _ _ 1).trans b3; have HQ := Lib.hid hq; have s0 := (BX.cell (p := ⟨w.heap.size, 0, none⟩) lw).trans pwo0; have s1 := (BX.cell (p := ⟨w.heap.size, 1, none⟩) lw).trans pwo1; have s2 := (BX.cell (p := ⟨w.heap.size, 2, none⟩) lw).trans pwo2; have s3 := (BX.cell (p := ⟨w.heap.size, 3, none⟩) lw).trans pwo3; have s4 := (BX.cell (p := ⟨w.heap.size, 4, none⟩) lw).trans pwo4; have s5 := (BX.cell (p := ⟨w.heap.size, 5, none⟩) lw).trans pwo5; have s6 := (BX.cell (p := ⟨w.heap.size, 6, none⟩) lw).trans pwo6; have s7 := (BX.cell (p := ⟨w.heap.size, 7, none⟩) lw).trans pwo7; have s8 := (BX.cell (p := ⟨w.heap.size, 8, none⟩) lw).trans pwo8; have z0 := (BX.cell (p := ⟨zb, zo + k * 5, none⟩) hzb).trans r0; have z1 := (BX.cell (p := ⟨zb, zo + k * 5 + 1, none⟩) hzb).trans r1; have z2 := (BX.cell (p := ⟨zb, zo + k * 5 + 2, none⟩) hzb).trans r2; have z3 := (BX.cell (p := ⟨zb, zo + k * 5 + 3, none⟩) hzb).trans r3; have z4 := (BX.cell (p := ⟨zb, zo + k * 5 + 4, none⟩) hzb).trans r4; clear b3 hq))
                            all_goals go_wp2_with fail
                            all_goals
                              go_meet
                              exact ⟨_, rfl, Lib.hid (fun h => by have h9 := HQ.out; simp at h; omega), Lib.hid BX⟩
                          case rest =>
                            obtain ⟨bb, rfl, HBB, HBX⟩ := hcut
                            have HBC := Lib.hid (HB.out.trans (HBX.out.mono HB.out.size))
                            have J3 := Lib.hid (keep_heap J0.out HBX.out)
                            cases bb with
                            | true =>
                              go_wp2_with fail
                              go_ret
                              exact ⟨TruePost.no _, HBC.out⟩
                            | false =>
                              have HNX : Hid (∀ z ∈ s.zones.take (k + 1), z.keep ≤ z.cells.length) := Lib.hid (all_take HS.out hkl (by rw [HZE.out, HKP.out, HN.out]; exact HBB.out (by first | rfl | trivial)))
                              go_wp2_with fail
                              go_roundw
                              case rel => exact ⟨k + 1, by omega, by go_num, HNX, HBC, J3⟩
                              case measure => simp [intOf]; omega
                        · obtain rfl : l3 = k := by omega
                          have HKA : Hid (∀ z ∈ s.zones, z.keep ≤ z.cells.length) := Lib.hid (all_end HS.out (by rw [E3.out]; omega))
                          have HRT : Hid (RtP s) := Lib.hid ⟨Si.Right.of HF.out HZ.out.1 (by rw [E3.out]; exact HZ.out.2) HSA.out HNN.out.1 HRA.out HNN.out.2, HKA.out⟩
                          go_wp2_with fail
                          go_at_call 175; refine (HBE.out HF.out _ HB.out).mono ?_; rintro e w3 ⟨⟨q, rfl⟩, b3⟩
                          have B4 := Lib.hid (HB.out.trans (b3.mono HB.out.size))
                          have J3 := Lib.hid (keep_heap J0.out b3)
                          clear b3 pwo0 pwo1 pwo2 pwo3 pwo4 pwo5 pwo6 pwo7 pwo8
                          have pw30 : w3.cell? ⟨w.heap.size, 0, none⟩ = some (.int .i64 s.floor.w) := cell_of_heap J3.out 0 rfl
                          have pw31 : w3.cell? ⟨w.heap.size, 1, none⟩ = some (.int .i64 s.floor.h) := cell_of_heap J3.out 1 rfl
                          have pw32 : w3.cell? ⟨w.heap.size, 2, none⟩ = some (.int .i64 s.floor.d) := cell_of_heap J3.out 2 rfl
                          have pw33 : w3.cell? ⟨w.heap.size, 3, none⟩ = some (.slice a1 l1 c1) := cell_of_heap J3.out 3 rfl
                          have pw34 : w3.cell? ⟨w.heap.size, 4, none⟩ = some (.slice a2 l2 c2) := cell_of_heap J3.out 4 rfl
                          have pw35 : w3.cell? ⟨w.heap.size, 5, none⟩ = some (.slice a3 l3 c3) := cell_of_heap J3.out 5 rfl
                          have pw36 : w3.cell? ⟨w.heap.size, 6, none⟩ = some (.slice a4 l4 c4) := cell_of_heap J3.out 6 rfl
                          have pw37 : w3.cell? ⟨w.heap.size, 7, none⟩ = some (.slice a5 l5 c5) := cell_of_heap J3.out 7 rfl
                          have pw38 : w3.cell? ⟨w.heap.size, 8, none⟩ = some (.slice a6 l6 c6) := cell_of_heap J3.out 8 rfl
                          rcases hab (decide (q < 0)) with hG | hG
                          · go_wp2_with fail
                            go_at_call 176; refine (HCH.out _ B4.out).mono ?_; rintro e w4 ⟨⟨r, rfl⟩, b4⟩
                            have B5 := Lib.hid (B4.out.trans (b4.mono B4.out.size))
                            clear b4
                            cases r
                            all_goals
                              go_wp2_with fail
                              go_ret
                              exact ⟨⟨_, rfl, fun _ => HRT.out⟩, B5.out⟩
                          · go_wp2_with fail
                            go_ret
                            exact ⟨TruePost.no _, B4.out⟩
end Go.Proofs.YtfcbcpfnaadpeaaGreatDoor
