/- Parts Rz of this claim, laid one behind the other: walks and the plain laws behind them; each contract states its own conditions. -/
import Derived.Test.YtfcbcpfnaadpeaaGreatDoorMC
namespace Go.Proofs.YtfcbcpfnaadpeaaGreatDoor
set_option maxRecDepth 100000
set_option maxHeartbeats 64000000
set_option linter.unusedSimpArgs false
set_option linter.unusedVariables false
open Go.RowKit
def znKind (f : Fl.Floor) (c : Int) : Prop := Fl.isC f c = true ∧ Si.kindAt f c ≠ 0 ∧ Si.kindAt f c ≠ 4 ∧ Si.kindAt f c ≠ 5
def znNum (z : Si.Zone) : Prop := z.cells ≠ [] ∧ z.cells.Pairwise (· < ·) ∧ 0 ≤ z.keep ∧ 1 ≤ z.speed ∧ z.speed ≤ 100
structure ZOk (f : Fl.Floor) (zs : List Si.Zone) : Prop where
 a : ∀ z ∈ zs, znNum z
 b : ∀ z ∈ zs, ∀ c ∈ z.cells, znKind f c
 d : zs.Pairwise (fun y z => ∀ c ∈ y.cells, c ∉ z.cells)
theorem ZOk.nil (f : Fl.Floor) : ZOk f [] := ⟨fun z h => (by cases h), fun z h => (by cases h), List.Pairwise.nil⟩
theorem ZOk.step {f : Fl.Floor} {zs : List Si.Zone} {k : Nat} (h : ZOk f (zs.take k)) (hk : k < zs.length) (h1 : znNum zs[k]) (h2 : ∀ c ∈ zs[k].cells, znKind f c ∧ zoned (zs.take k) c = false) : ZOk f (zs.take (k + 1)) := by
 rw [List.take_succ_eq_append_getElem hk]
 refine ⟨fun z hz => ?_, fun z hz => ?_, ?_⟩
 · rcases List.mem_append.1 hz with h3 | h3
   · exact h.a z h3
   · rw [List.mem_singleton] at h3; subst h3; exact h1
 · rcases List.mem_append.1 hz with h3 | h3
   · exact h.b z h3
   · rw [List.mem_singleton] at h3; subst h3; exact fun c hc => (h2 c hc).1
 · rw [List.pairwise_append]
   refine ⟨h.d, by simp, fun y hy z hz c hc hcz => ?_⟩
   rw [List.mem_singleton] at hz; subst hz
   have := (h2 c hcz).2
   unfold zoned at this
   rw [List.any_eq_false] at this
   have := this y hy
   rw [List.any_eq_true] at this
   exact this ⟨c, hc, by simp⟩
structure COk (f : Fl.Floor) (zs : List Si.Zone) (l : List Int) : Prop where
 a : ∀ c ∈ l, znKind f c ∧ zoned zs c = false
 p : l.Pairwise (· < ·)
theorem COk.nil (f : Fl.Floor) (zs : List Si.Zone) : COk f zs [] := ⟨fun z h => (by cases h), List.Pairwise.nil⟩
theorem COk.step {f : Fl.Floor} {zs : List Si.Zone} {l : List Int} {j : Nat} (h : COk f zs (l.take j)) (hj : j < l.length) (h1 : znKind f l[j]) (h2 : zoned zs l[j] = false) (h3 : ∀ p, j = p + 1 → (hp : p < l.length) → l[p] < l[j]) : COk f zs (l.take (j + 1)) := by
 rw [List.take_succ_eq_append_getElem hj]
 refine ⟨fun c hc => ?_, ?_⟩
 · rcases List.mem_append.1 hc with h4 | h4
   · exact h.a c h4
   · rw [List.mem_singleton] at h4; subst h4; exact ⟨h1, h2⟩
 · rw [List.pairwise_append]
   refine ⟨h.p, by simp, fun x hx y hy => ?_⟩
   rw [List.mem_singleton] at hy; subst hy
   cases j with
   | zero => simp at hx
   | succ p =>
    have hl := h3 p rfl (by omega)
    have hp := h.p
    rw [List.take_succ_eq_append_getElem (by omega)] at hx hp
    rw [List.pairwise_append] at hp
    rcases List.mem_append.1 hx with h4 | h4
    · have := hp.2.2 x h4 l[p] (by simp); omega
    · rw [List.mem_singleton] at h4; subst h4; exact hl
theorem Rw.take {w : World} {a : Option Addr} {n cap k : Nat} {xs : List (List Value)} (h : Rw w (.slice a n cap) k xs) (i : Nat) (hi : i ≤ xs.length) : Rw w (.slice a i cap) k (xs.take i) := by
 obtain ⟨a2, cap2, e, hm, hn, hc⟩ := h
 injection e with e1 e2 e3
 subst e1 e3
 refine ⟨a, cap, by rw [List.length_take, Nat.min_eq_left hi], by rw [List.length_take]; omega, hn, fun j hj => ?_⟩
 rw [List.length_take] at hj
 obtain ⟨b, off, h1, h2, h3⟩ := hc j (by omega)
 exact ⟨b, off, h1, h2, by rw [List.getElem_take]; exact h3⟩
theorem ZnV.take {w : World} {a : Option Addr} {n cap : Nat} {zs : List Si.Zone} (h : ZnV w (.slice a n cap) zs) (i : Nat) (hi : i ≤ zs.length) : ZnV w (.slice a i cap) (zs.take i) := by
 obtain ⟨l, h1, h2, h3⟩ := h
 have hl : l.length = zs.length := by rw [← h1, List.length_map]
 refine ⟨l.take i, by rw [List.map_take, h1], by rw [List.map_take]; exact h2.take i (by rw [List.length_map]; omega), fun x hx => h3 x (List.mem_of_mem_take hx)⟩
theorem SfV.take {w : World} {a : Option Addr} {n cap : Nat} {l : List (Int × List UInt8)} (h : SfV w (.slice a n cap) l) (i : Nat) (hi : i ≤ l.length) : SfV w (.slice a i cap) (l.take i) := by
 unfold SfV; rw [List.map_take]; exact Rw.take h i (by rw [List.length_map]; exact hi)
theorem RbV.take {w : World} {a : Option Addr} {n cap : Nat} {l : List (Int × Int)} (h : RbV w (.slice a n cap) l) (i : Nat) (hi : i ≤ l.length) : RbV w (.slice a i cap) (l.take i) := by
 unfold RbV; rw [List.map_take]; exact Rw.take h i (by rw [List.length_map]; exact hi)
theorem ApV.take {w : World} {a : Option Addr} {n cap : Nat} {l : List (List UInt8 × List UInt8)} (h : ApV w (.slice a n cap) l) (i : Nat) (hi : i ≤ l.length) : ApV w (.slice a i cap) (l.take i) := by
 unfold ApV; rw [List.map_take]; exact Rw.take h i (by rw [List.length_map]; exact hi)
theorem qadd {P : Program} {f : FuncId} {args : Array Value} {w : World} {n : Nat} {v : Value}
 (h : Calls P f args (w.drewN n) fun e w' => e = .returned v ∧ ∃ q, w' = (w.drewN n).drewN q) : Calls P f args (w.drewN n) fun e w'' => e = .returned v ∧ ∃ m, w'' = w.drewN m :=
 h.mono fun _ _ ⟨he, q, hq⟩ => ⟨he, n + q, by rw [hq, World.drewN_drewN]⟩
def TruePost (p : Prop) (e : Ending) : Prop := ∃ r : Bool, e = .returned (.bool r) ∧ (r = true → p)
theorem TruePost.no (p : Prop) : TruePost p (.returned (.bool false)) := ⟨false, rfl, fun h => by cases h⟩
theorem znKind_of {f : Fl.Floor} {c : Nat} {K : Int} (hI : Fl.isC f (c : Int) = true) (hK : f.kind.getD c 0 = K) (hz : (!(decide (K = 0)) && (!(decide (K = 4)) && !(decide (K = 5)))) = true) : znKind f (c : Int) := by
 unfold znKind Si.kindAt
 rw [Int.toNat_natCast, hK]
 simp at hz
 exact ⟨hI, hz.1, hz.2.1, hz.2.2⟩
structure SiCap (zv av sv rv : Value) : Prop where
 z : capV zv
 a : capV av
 s : capV sv
 r : capV rv
theorem rightZones_any (s : Si.Site) (kv ov zv av sv rv : Value) (w : World) (h : SiV w kv ov zv av sv rv s) (hcp : SiCap zv av sv rv) (hfl : Fl.Right s.floor) (hnm : ∀ z ∈ s.zones, z.name.length ≤ 1000000) :
 Calls Tryz.prog 167 #[siV s kv ov zv av sv rv] w fun e w' => TruePost (ZOk s.floor s.zones ∧ s.zones.length ≤ 64) e ∧ Below w.heap.size w w' := by
 obtain ⟨a1, c1, a2, c2, a3, c3, a4, c4, a5, c5, a6, c6, rfl, rfl, rfl, rfl, rfl, rfl, m1, m2, m3, m4, m5, m6⟩ := h.open
 have hcz : s.zones.length ≤ c3 := hcp.z.1
 have HV := hid h
 have HFL := hid hfl
 have HNM := hid hnm
 have HIS := hid (fun kv ov c W => rIs_any s.floor kv ov c W (.of hfl))
 have HKL : Hid ((s.floor.kind.length : Int) = s.floor.size) := hid hfl.kl
 obtain ⟨l1, e1⟩ : ∃ n, s.floor.kind.length = n := ⟨_, rfl⟩
 obtain ⟨l2, e2⟩ : ∃ n, s.floor.out.length = n := ⟨_, rfl⟩
 obtain ⟨l3, e3⟩ : ∃ n, s.zones.length = n := ⟨_, rfl⟩
 obtain ⟨l4, e4⟩ : ∃ n, s.aparts.length = n := ⟨_, rfl⟩
 obtain ⟨l5, e5⟩ : ∃ n, s.shelves.length = n := ⟨_, rfl⟩
 obtain ⟨l6, e6⟩ : ∃ n, s.robots.length = n := ⟨_, rfl⟩
 unfold siV
 rw [e1] at m1 HKL
 rw [e3] at m3 hcz
 rw [e1, e2, e3, e4, e5, e6] at HV
 rw [e1, e2, e3, e4, e5, e6]
 have E1 := hid e1
 have E3 := hid e3
 have hz64 : l3 ≤ 64 → s.zones.length ≤ 64 := fun h => by rw [e3]; exact h
 have H64 := hid hz64
 have B1 := hid ((Below.refl _ w).alloc (Nat.le_refl _) (.cells #[.int .i64 s.floor.w, .int .i64 s.floor.h, .int .i64 s.floor.d, .slice a1 l1 c1, .slice a2 l2 c2, .slice a3 l3 c3, .slice a4 l4 c4, .slice a5 l5 c5, .slice a6 l6 c6] 30))
 have I0 := hid (heap_alloc_new w (.cells #[.int .i64 s.floor.w, .int .i64 s.floor.h, .int .i64 s.floor.d, .slice a1 l1 c1, .slice a2 l2 c2, .slice a3 l3 c3, .slice a4 l4 c4, .slice a5 l5 c5, .slice a6 l6 c6] 30))
 have hZ0 : Hid (ZOk s.floor (s.zones.take 0)) := hid (by rw [List.take_zero]; exact ZOk.nil _)
 clear h hfl hnm hcp e1 e2 e3 e4 e5 e6 hz64
 go_enter Tryz.func167, Tryz.ntmps167
 go_wp2_with fail
 go_loopw [3] (fun iv wr => ∃ k : Nat, k ≤ l3 ∧ iv = .int .i64 k ∧ Hid (ZOk s.floor (s.zones.take k)) ∧ Hid (Below w.heap.size w wr) ∧
  Hid (wr.heap[w.heap.size]? = some (.cells #[.int .i64 s.floor.w, .int .i64 s.floor.h, .int .i64 s.floor.d, .slice a1 l1 c1, .slice a2 l2 c2, .slice a3 l3 c3, .slice a4 l4 c4, .slice a5 l5 c5, .slice a6 l6 c6] 30 (0, 0)))) (fun iv _ => l3 - (intOf iv).toNat)
 case atStart => exact ⟨0, by omega, rfl, hZ0, B1, I0⟩
 case round =>
  obtain ⟨k, hk, rfl, HZ, HB, J0⟩ := hrel
  obtain ⟨wo, rfl⟩ : ∃ wo : World, wo = wr := ⟨_, rfl⟩
  have lw : w.heap.size < wo.heap.size := heap_lt J0.out
  have p5 : wo.cell? ⟨w.heap.size, 5, none⟩ = some (.slice a3 l3 c3) := cell_of_heap J0.out 5 rfl
  by_cases hkn : k < l3
  · have hkl : k < s.zones.length := by rw [E3.out]; exact hkn
    obtain ⟨zb, zo, u1, u2, t1, hzb, hu1, hu2, r0, r1, r2, r3, r4⟩ := (HV.out.zn.keep HB.out).cell k hkl
    subst t1
    obtain ⟨z, hz⟩ : ∃ z, s.zones[k] = z := ⟨_, rfl⟩
    have HZM : Hid (z ∈ s.zones) := hid (by rw [← hz]; exact List.getElem_mem hkl)
    have HZE := hid hz
    rw [hz] at r0 r2 r3 hu1 hu2
    obtain ⟨b1, d1, rfl, n1⟩ := hu1.form
    obtain ⟨b2, d2, rfl, n2⟩ := two_form hu2
    have HU1 := hid hu1
    have HU2 := hid hu2
    obtain ⟨n, hn⟩ : ∃ n, z.cells.length = n := ⟨_, rfl⟩
    obtain ⟨m, hm⟩ : ∃ n, z.shut.length = n := ⟨_, rfl⟩
    rw [hn] at r1 n1 HU1
    rw [hm] at r4 n2 HU2
    have HN := hid hn
    obtain ⟨NM, hNM⟩ : ∃ N : ByteArray, ⟨z.name.toArray⟩ = N := ⟨_, rfl⟩
    rw [hNM] at r0
    obtain ⟨NB, hNB⟩ := rName_ex NM (by rw [← hNM]; show z.name.toArray.size ≤ 1000000; simpa using HNM.out z HZM.out)
    have HNB := hid hNB
    have HNI := hid (fun W hb => named_is (.slice (some ⟨zb, zo, none⟩) k c3) (s.zones.take k) NM W ((HV.out.zn.take k (by omega)).keep hb))
    have HSP := hid (fun W hb => spans_is (.slice b2 m d2) z.shut W (Rw.keep HU2.out hb))
    obtain ⟨SP, hSP⟩ : ∃ x, z.speed = x := ⟨_, rfl⟩
    obtain ⟨KP, hKP⟩ : ∃ x, z.keep = x := ⟨_, rfl⟩
    have HSPE := hid hSP
    have HKPE := hid hKP
    rw [hSP] at r2
    rw [hKP] at r3
    obtain ⟨NI, hNI⟩ : ∃ x, nIdx (s.zones.take k) NM = x := ⟨_, rfl⟩
    obtain ⟨SB, hSB⟩ : ∃ x, spansB 0 z.shut = x := ⟨_, rfl⟩
    rw [hNI] at HNI
    rw [hSB] at HSP
    have k1 : (k : Int) < (l3 : Int) := by omega
    have k0 : (0 : Int) ≤ (k : Int) := by omega
    have k9 : (k : Int) ≤ (c3 : Int) := by omega
    have k8 : k ≤ c3 := by omega
    have B2 : Hid (Below wo.heap.size wo (wo.alloc (.cells #[.string NM, .slice b1 n d1, .int .i64 SP, .int .i64 KP, .slice b2 m d2] 80))) := hid ((Below.refl _ wo).alloc (Nat.le_refl _) _)
    have I1 := hid (heap_alloc_new wo (.cells #[.string NM, .slice b1 n d1, .int .i64 SP, .int .i64 KP, .slice b2 m d2] 80))
    have J1 : Hid ((wo.alloc (.cells #[.string NM, .slice b1 n d1, .int .i64 SP, .int .i64 KP, .slice b2 m d2] 80)).heap[w.heap.size]? = _) := hid (keep_heap J0.out B2.out)
    have BQ : Hid (∀ q, Below w.heap.size w ((wo.alloc (.cells #[.string NM, .slice b1 n d1, .int .i64 SP, .int .i64 KP, .slice b2 m d2] 80)).drewN q)) := hid (fun q => (HB.out.trans (B2.out.mono HB.out.size)).trans (below_drewN _ _ _))
    have BR : Hid (∀ q, Below wo.heap.size wo ((wo.alloc (.cells #[.string NM, .slice b1 n d1, .int .i64 SP, .int .i64 KP, .slice b2 m d2] 80)).drewN q)) := hid (fun q => B2.out.trans (below_drewN _ _ _))
    have hab : ∀ p : Bool, p = true ∨ p = false := fun p => by cases p <;> simp
    clear hu1 hu2 hz hn hm hNM hNB hSP hKP hNI hSB
    cases NB with
    | false =>
     go_wp2_with fail
     go_quiet (first
      | (go_at_call 168; exact qsame (HNB.out _))
      | (go_at_call 230; exact qsame (HNI.out _ (BQ.out _)))
      | (go_at_call 231; exact qadd (HSP.out _ (BR.out _))))
     go_wp2_with fail
     go_ret
     exact ⟨TruePost.no _, BQ.out _⟩
    | true =>
     rcases hab (decide (NI ≥ 0)) with hA | hA
     · go_wp2_with fail
       go_quiet (first
        | (go_at_call 168; exact qsame (HNB.out _))
        | (go_at_call 230; exact qsame (HNI.out _ (BQ.out _)))
        | (go_at_call 231; exact qadd (HSP.out _ (BR.out _))))
       go_wp2_with fail
       go_ret
       exact ⟨TruePost.no _, BQ.out _⟩
     · rcases hab ((n : Int) == 0) with hN0 | hN0
       · go_wp2_with fail
         go_quiet (first
          | (go_at_call 168; exact qsame (HNB.out _))
          | (go_at_call 230; exact qsame (HNI.out _ (BQ.out _)))
          | (go_at_call 231; exact qadd (HSP.out _ (BR.out _))))
         go_wp2_with fail
         go_ret
         exact ⟨TruePost.no _, BQ.out _⟩
       · rcases hab (decide (SP < 1)) with hS1 | hS1
         · go_wp2_with fail
           go_quiet (first
            | (go_at_call 168; exact qsame (HNB.out _))
            | (go_at_call 230; exact qsame (HNI.out _ (BQ.out _)))
            | (go_at_call 231; exact qadd (HSP.out _ (BR.out _))))
           go_wp2_with fail
           go_ret
           exact ⟨TruePost.no _, BQ.out _⟩
         · rcases hab (decide (SP > 100)) with hS2 | hS2
           · go_wp2_with fail
             go_quiet (first
              | (go_at_call 168; exact qsame (HNB.out _))
              | (go_at_call 230; exact qsame (HNI.out _ (BQ.out _)))
              | (go_at_call 231; exact qadd (HSP.out _ (BR.out _))))
             go_wp2_with fail
             go_ret
             exact ⟨TruePost.no _, BQ.out _⟩
           · rcases hab (decide (KP < 0)) with hS3 | hS3
             · go_wp2_with fail
               go_quiet (first
                | (go_at_call 168; exact qsame (HNB.out _))
                | (go_at_call 230; exact qsame (HNI.out _ (BQ.out _)))
                | (go_at_call 231; exact qadd (HSP.out _ (BR.out _))))
               go_wp2_with fail
               go_ret
               exact ⟨TruePost.no _, BQ.out _⟩
             · cases SB with
               | false =>
                go_wp2_with fail
                go_quiet (first
                 | (go_at_call 168; exact qsame (HNB.out _))
                 | (go_at_call 230; exact qsame (HNI.out _ (BQ.out _)))
                 | (go_at_call 231; exact qadd (HSP.out _ (BR.out _))))
                go_wp2_with fail
                go_ret
                exact ⟨TruePost.no _, BQ.out _⟩
               | true =>
                have HNUM : Hid (0 ≤ z.keep ∧ 1 ≤ z.speed ∧ z.speed ≤ 100) := hid (by rw [HKPE.out, HSPE.out]; simp at hS1 hS2 hS3; omega)
                have HNE : Hid (z.cells ≠ []) := hid (fun e => by have := HN.out; rw [e] at this; simp at hN0; simp at this; omega)
                go_wp2_with fail
                go_quiet (first
                 | (go_at_call 168; exact qsame (HNB.out _))
                 | (go_at_call 230; exact qsame (HNI.out _ (BQ.out _)))
                 | (go_at_call 231; exact qadd (HSP.out _ (BR.out _))))
                go_wp2_with fail
                go_loopw [5] (fun jv wr => ∃ j : Nat, j ≤ n ∧ jv = .int .i64 j ∧ Hid (COk s.floor (s.zones.take k) (z.cells.take j)) ∧ Hid (Below wo.heap.size wo wr) ∧
                 Hid (wr.heap[wo.heap.size]? = some (.cells #[.string NM, .slice b1 n d1, .int .i64 SP, .int .i64 KP, .slice b2 m d2] 80 (0, 0)))) (fun jv _ => n - (intOf jv).toNat)
                case atStart => exact ⟨0, by omega, rfl, hid (by rw [List.take_zero]; exact COk.nil _ _), hid (BR.out _), I1⟩
                case round =>
                 obtain ⟨j, hj, rfl, HC, HBX, J4⟩ := hrel
                 have HBW := hid (HB.out.trans (HBX.out.mono HB.out.size))
                 have J3 := hid (keep_heap J0.out HBX.out)
                 obtain ⟨x0, x1, x2, x3, x4, -⟩ := cells9 J3.out
                 have q1 : wr.cell? ⟨wo.heap.size, 1, none⟩ = some (.slice b1 n d1) := cell_of_heap J4.out 1 rfl
                 by_cases hjn : j < n
                 · have hjl : j < z.cells.length := by rw [HN.out]; exact hjn
                   obtain ⟨g1, o1, t1, rc⟩ := (HU1.out.keep HBX.out).cell j hjl
                   subst t1
                   have lx : w.heap.size < wr.heap.size := heap_lt J3.out
                   have HCS := hid (fun a b c => HC.out.step hjl a b c)
                   have HPV : Hid (∀ p, (hp : j = p + 1) → wr.cell? ⟨g1, o1 + p, none⟩ = some (.int .i64 (z.cells[p]'(by omega)))) := hid (fun p hp => by
                    obtain ⟨g2, o2, t2, r2⟩ := (HU1.out.keep HBX.out).cell p (by omega)
                    injection t2 with t2; injection t2 with t2 t3
                    subst t2 t3
                    exact r2)
                   have HI := hid (fun W => HIS.out (.slice a1 l1 c1) (.slice a2 l2 c2) z.cells[j] W)
                   unfold flV at HI
                   obtain ⟨IB, hIB⟩ : ∃ x, Fl.isC s.floor z.cells[j] = x := ⟨_, rfl⟩
                   rw [hIB] at HI
                   have HIB := hid hIB
                   have j0 : (0 : Int) ≤ (j : Int) := by omega
                   have j1 : (j : Int) < (n : Int) := by omega
                   clear hIB
                   cases IB with
                   | false =>
                    obtain ⟨C, hC⟩ : ∃ C, z.cells[j] = C := ⟨_, rfl⟩
                    rw [hC] at rc HI
                    clear hC
                    go_wp2_with fail
                    go_at_call 170; refine (HI.out _).mono ?_; rintro e w2 ⟨rfl, b2⟩
                    have B9 := hid (HBW.out.trans (b2.mono HBW.out.size))
                    clear b2
                    go_wp2_with fail
                    go_ret
                    exact ⟨TruePost.no _, B9.out⟩
                   | true =>
                    have hin : 0 ≤ z.cells[j] ∧ z.cells[j] < s.floor.size := by
                     have := HIB.out
                     unfold Fl.isC at this
                     simpa using this
                    obtain ⟨C, hC⟩ : ∃ C : Nat, z.cells[j] = (C : Int) := ⟨z.cells[j].toNat, by omega⟩
                    rw [hC] at rc HI hin
                    have hCl : (C : Int) < (l1 : Int) := by rw [HKL.out]; exact hin.2
                    have C0 : (0 : Int) ≤ (C : Int) := by omega
                    obtain ⟨g3, o3, t3, r3⟩ := (HV.out.fl.kind.keep HBW.out).cell C (by rw [E1.out]; omega)
                    subst t3
                    obtain ⟨K, hK⟩ : ∃ x, s.floor.kind[C]'(by rw [E1.out]; omega) = x := ⟨_, rfl⟩
                    rw [hK] at r3
                    have HKD : Hid (s.floor.kind.getD C 0 = K) := hid (by rw [List.getD_eq_getElem?_getD, List.getElem?_eq_getElem (by rw [E1.out]; omega), Option.getD_some, hK])
                    have HC1 := hid hC
                    have lg3 := cell_block_lt r3
                    have lg1 := cell_block_lt rc
                    clear hin hC hK
                    have HZD := hid (rzoned_any K)
                    have HZK : Hid ((!(decide (K = 0)) && (!(decide (K = 4)) && !(decide (K = 5)))) = true → znKind s.floor (C : Int)) := hid (fun h => znKind_of (by rw [← HC1.out]; exact HIB.out) HKD.out h)
                    obtain ⟨ZB, hZB⟩ : ∃ x, (!(decide (K = 0)) && (!(decide (K = 4)) && !(decide (K = 5)))) = x := ⟨_, rfl⟩
                    rw [hZB] at HZD HZK
                    have HZA := hid (fun W hb => zoneAt_any (.slice (some ⟨zb, zo, none⟩) k c3) (s.zones.take k) (C : Int) W ((HV.out.zn.take k (by omega)).keep hb))
                    have HZZ0 : Hid (∀ b, zoned (s.zones.take k) (C : Int) = b → zoned (s.zones.take k) z.cells[j] = b) := hid (fun b h => by rw [HC1.out]; exact h)
                    obtain ⟨ZA, hZA⟩ : ∃ x, zoned (s.zones.take k) (C : Int) = x := ⟨_, rfl⟩
                    rw [hZA] at HZA
                    have HZZ := hid (HZZ0.out _ hZA)
                    have HZK2 : Hid (ZB = true → znKind s.floor z.cells[j]) := hid (fun h => by rw [HC1.out]; exact HZK.out h)
                    clear hZB hZA
                    by_cases hj0 : j = 0
                    · have t0 : ¬ (j : Int) > 0 := by omega
                      have H3 : Hid (∀ p, j = p + 1 → (hp : p < z.cells.length) → z.cells[p] < z.cells[j]) := hid (fun p hp _ => by omega)
                      clear hj0
                      go_wp2_with fail
                      go_at_call 170; refine (HI.out _).mono ?_; rintro e w2 ⟨rfl, b2⟩
                      have B9 := hid (HBW.out.trans (b2.mono HBW.out.size))
                      have BX9 := hid (HBX.out.trans (b2.mono HBX.out.size))
                      have i3 := keep_heap J3.out b2
                      have i4 := keep_heap J4.out b2
                      have y3 : w2.cell? ⟨w.heap.size, 3, none⟩ = some (.slice (some ⟨g3, o3, none⟩) l1 c1) := cell_of_heap i3 3 rfl
                      have y5 : w2.cell? ⟨w.heap.size, 5, none⟩ = some (.slice (some ⟨zb, zo, none⟩) l3 c3) := cell_of_heap i3 5 rfl
                      have y6 : w2.cell? ⟨wo.heap.size, 1, none⟩ = some (.slice (some ⟨g1, o1, none⟩) n d1) := cell_of_heap i4 1 rfl
                      have y7 : w2.cell? ⟨g3, o3 + C, none⟩ = some (.int .i64 K) := (b2.cell (p := ⟨g3, o3 + C, none⟩) lg3).trans r3
                      have J9 := hid i4
                      clear b2 i3 i4 x0 x1 x2 x3 x4 q1 rc r3
                      cases ZB with
                      | false =>
                       go_wp2_with fail
                       go_at_call 232; refine (HZD.out _).mono ?_; rintro e w3 ⟨rfl, rfl⟩
                       go_wp2_with fail
                       go_ret
                       exact ⟨TruePost.no _, B9.out⟩
                      | true =>
                       cases ZA with
                       | true =>
                        go_wp2_with fail
                        go_at_call 232; refine (HZD.out _).mono ?_; rintro e w3 ⟨rfl, rfl⟩
                        go_wp2_with fail
                        go_at_call 233; refine (HZA.out _ B9.out).mono ?_; rintro e w3 ⟨rfl, rfl⟩
                        go_wp2_with fail
                        go_ret
                        exact ⟨TruePost.no _, B9.out⟩
                       | false =>
                        have HCN := hid (HCS.out (HZK2.out rfl) HZZ.out H3.out)
                        go_wp2_with fail
                        go_at_call 232; refine (HZD.out _).mono ?_; rintro e w3 ⟨rfl, rfl⟩
                        go_wp2_with fail
                        go_at_call 233; refine (HZA.out _ B9.out).mono ?_; rintro e w3 ⟨rfl, rfl⟩
                        go_wp2_with fail
                        go_roundw
                        case rel => exact ⟨j + 1, by omega, by go_num, HCN, BX9, J9⟩
                        case measure => simp [intOf]; omega
                    · obtain ⟨p, hp⟩ : ∃ p, j = p + 1 := ⟨j - 1, by omega⟩
                      have rp := HPV.out p hp
                      have HY : Hid (∀ p', (hp' : j = p' + 1) → p' = p) := hid (fun p' hp' => by omega)
                      obtain ⟨Y, hY⟩ : ∃ Y, z.cells[p]'(by omega) = Y := ⟨_, rfl⟩
                      rw [hY] at rp
                      have H3 : Hid (Y < (C : Int) → ∀ p', j = p' + 1 → (hp' : p' < z.cells.length) → z.cells[p'] < z.cells[j]) := hid (fun hlt p' hp' _ => by
                       obtain rfl := HY.out p' hp'
                       rw [hY, HC1.out]; exact hlt)
                      have t0 : (j : Int) > 0 := by omega
                      have t1 : IntKind.i64.wrap ((j : Int) - 1) = (p : Int) := by rw [IntWalk.i64_in _ (by omega)]; omega
                      have t2 : (0 : Int) ≤ (p : Int) := by omega
                      have t3 : (p : Int) < (n : Int) := by omega
                      clear hY hj0 hp
                      by_cases hYC : Y ≥ (C : Int)
                      · go_wp2_with fail
                        go_at_call 170; refine (HI.out _).mono ?_; rintro e w2 ⟨rfl, b2⟩
                        have B9 := hid (HBW.out.trans (b2.mono HBW.out.size))
                        have i4 := keep_heap J4.out b2
                        have y6 : w2.cell? ⟨wo.heap.size, 1, none⟩ = some (.slice (some ⟨g1, o1, none⟩) n d1) := cell_of_heap i4 1 rfl
                        have y8 : w2.cell? ⟨g1, o1 + p, none⟩ = some (.int .i64 Y) := (b2.cell (p := ⟨g1, o1 + p, none⟩) lg1).trans rp
                        clear b2 i4 x0 x1 x2 x3 x4 q1 rc r3 rp
                        go_wp2_with fail
                        go_ret
                        exact ⟨TruePost.no _, B9.out⟩
                      · have H4 := hid (H3.out (by omega))
                        go_wp2_with fail
                        go_at_call 170; refine (HI.out _).mono ?_; rintro e w2 ⟨rfl, b2⟩
                        have B9 := hid (HBW.out.trans (b2.mono HBW.out.size))
                        have BX9 := hid (HBX.out.trans (b2.mono HBX.out.size))
                        have i3 := keep_heap J3.out b2
                        have i4 := keep_heap J4.out b2
                        have y3 : w2.cell? ⟨w.heap.size, 3, none⟩ = some (.slice (some ⟨g3, o3, none⟩) l1 c1) := cell_of_heap i3 3 rfl
                        have y5 : w2.cell? ⟨w.heap.size, 5, none⟩ = some (.slice (some ⟨zb, zo, none⟩) l3 c3) := cell_of_heap i3 5 rfl
                        have y6 : w2.cell? ⟨wo.heap.size, 1, none⟩ = some (.slice (some ⟨g1, o1, none⟩) n d1) := cell_of_heap i4 1 rfl
                        have y7 : w2.cell? ⟨g3, o3 + C, none⟩ = some (.int .i64 K) := (b2.cell (p := ⟨g3, o3 + C, none⟩) lg3).trans r3
                        have y8 : w2.cell? ⟨g1, o1 + p, none⟩ = some (.int .i64 Y) := (b2.cell (p := ⟨g1, o1 + p, none⟩) lg1).trans rp
                        have J9 := hid i4
                        clear b2 i3 i4 x0 x1 x2 x3 x4 q1 rc r3 rp
                        cases ZB with
                        | false =>
                         go_wp2_with fail
                         go_at_call 232; refine (HZD.out _).mono ?_; rintro e w3 ⟨rfl, rfl⟩
                         go_wp2_with fail
                         go_ret
                         exact ⟨TruePost.no _, B9.out⟩
                        | true =>
                         cases ZA with
                         | true =>
                          go_wp2_with fail
                          go_at_call 232; refine (HZD.out _).mono ?_; rintro e w3 ⟨rfl, rfl⟩
                          go_wp2_with fail
                          go_at_call 233; refine (HZA.out _ B9.out).mono ?_; rintro e w3 ⟨rfl, rfl⟩
                          go_wp2_with fail
                          go_ret
                          exact ⟨TruePost.no _, B9.out⟩
                         | false =>
                          have HCN := hid (HCS.out (HZK2.out rfl) HZZ.out H4.out)
                          go_wp2_with fail
                          go_at_call 232; refine (HZD.out _).mono ?_; rintro e w3 ⟨rfl, rfl⟩
                          go_wp2_with fail
                          go_at_call 233; refine (HZA.out _ B9.out).mono ?_; rintro e w3 ⟨rfl, rfl⟩
                          go_wp2_with fail
                          go_roundw
                          case rel => exact ⟨j + 1, by omega, by go_num, HCN, BX9, J9⟩
                          case measure => simp [intOf]; omega
                 · obtain rfl : j = n := by omega
                   have HCA : Hid (COk s.floor (s.zones.take k) z.cells) := hid (by have h9 := HC.out; have e9 : z.cells.take j = z.cells := List.take_of_length_le (by rw [HN.out]; omega); rw [e9] at h9; exact h9)
                   have HZN : Hid (ZOk s.floor (s.zones.take (k + 1))) := hid (HZ.out.step hkl (by rw [HZE.out]; exact ⟨HNE.out, HCA.out.p, HNUM.out⟩) (by rw [HZE.out]; exact HCA.out.a))
                   go_wp2_with fail
                   go_roundw
                   case rel => exact ⟨k + 1, by omega, by go_num, HZN, HBW, J3⟩
                   case measure => simp [intOf]; omega
  · obtain rfl : k = l3 := by omega
    have HA : Hid (ZOk s.floor s.zones) := hid (by have := HZ.out; rwa [List.take_of_length_le (by rw [E3.out]; omega)] at this)
    by_cases g : k ≤ 64
    · have g1 : (k : Int) ≤ 64 := by omega
      go_wp2_with fail
      go_ret
      exact ⟨⟨true, rfl, fun _ => ⟨HA.out, g⟩⟩, HB.out⟩
    · have g1 : ¬ (k : Int) ≤ 64 := by omega
      go_wp2_with fail
      go_ret
      exact ⟨TruePost.no _, HB.out⟩
end Go.Proofs.YtfcbcpfnaadpeaaGreatDoor
