/- Parts Rbe, Rfe, Rg of this claim, laid one behind the other: walks and the plain laws behind them; each contract states its own conditions. -/
import Derived.Laws.Tables
import Derived.Test.YtcdfmgobokjcnaaGreatDoorUJ
/- Walks of package taquinref11: Beside, in few words: it returns a number. -/
namespace Go.Proofs.YtcdfmgobokjcnaaGreatDoor
set_option linter.unusedSimpArgs false
set_option linter.unusedVariables false
open Go.RowKit

def IsInt (e : Ending) : Prop := ∃ r : Int, e = .returned (.int .i64 r)
end Go.Proofs.YtcdfmgobokjcnaaGreatDoor
/- Walks of package taquinref11: Few. -/
namespace Go.Proofs.YtcdfmgobokjcnaaGreatDoor
set_option linter.unusedSimpArgs false
set_option linter.unusedVariables false
open Go.RowKit

/-- What is few where Few says so. -/
structure FewP (s : Si.Site) (c m : Int) : Prop where
  zn : ∀ z ∈ s.zones, (z.cells.length : Int) ≤ c ∧ z.name.length ≤ 40
  ap : ∀ p ∈ s.aparts, p.1.length ≤ 40 ∧ p.2.length ≤ 40
  sf : ∀ p ∈ s.shelves, p.2.length ≤ 40
  kl : (s.floor.kind.length : Int) ≤ c
  nz : (s.zones.length : Int) ≤ m
  na : (s.aparts.length : Int) ≤ m
  ns : (s.shelves.length : Int) ≤ m
  nr : (s.robots.length : Int) ≤ m
theorem all_take {α : Type} {p : α → Prop} {l : List α} {k : Nat} (h : ∀ x ∈ l.take k, p x) (hk : k < l.length) (h1 : p l[k]) : ∀ x ∈ l.take (k + 1), p x := by
  rw [List.take_succ_eq_append_getElem hk]
  intro x hx
  rcases List.mem_append.1 hx with h2 | h2
  · exact h x h2
  · rw [List.mem_singleton] at h2; subst h2; exact h1
theorem all_end {α : Type} {p : α → Prop} {l : List α} {k : Nat} (h : ∀ x ∈ l.take k, p x) (hk : l.length ≤ k) : ∀ x ∈ l, p x := by rwa [List.take_of_length_le hk] at h
set_option maxRecDepth 100000 in
set_option maxHeartbeats 16000000 in
theorem rFewS_any (s : Si.Site) (kv ov zv av sv rv : Value) (c m : Int) (w : World) (h : SiV w kv ov zv av sv rv s) (hm0 : m < 1000000000) :
    Calls Tryz.prog 43 #[siV s kv ov zv av sv rv, .int .i64 c, .int .i64 m] w fun e w' => TruePost (FewP s c m) e ∧ Below w.heap.size w w' := by
  obtain ⟨a1, c1, a2, c2, a3, c3, a4, c4, a5, c5, a6, c6, rfl, rfl, rfl, rfl, rfl, rfl, m1, m2, m3, m4, m5, m6⟩ := h.open
  have HV := Lib.hid h
  have HFW := Lib.hid (fun W hb => rFew_any s.floor (.slice a1 s.floor.kind.length c1) (.slice a2 s.floor.out.length c2) c W (h.fl.keep hb))
  obtain ⟨l1, e1⟩ : ∃ n, s.floor.kind.length = n := ⟨_, rfl⟩
  obtain ⟨l2, e2⟩ : ∃ n, s.floor.out.length = n := ⟨_, rfl⟩
  obtain ⟨l3, e3⟩ : ∃ n, s.zones.length = n := ⟨_, rfl⟩
  obtain ⟨l4, e4⟩ : ∃ n, s.aparts.length = n := ⟨_, rfl⟩
  obtain ⟨l5, e5⟩ : ∃ n, s.shelves.length = n := ⟨_, rfl⟩
  obtain ⟨l6, e6⟩ : ∃ n, s.robots.length = n := ⟨_, rfl⟩
  unfold siV
  unfold flV at HFW
  rw [e1, e2] at HFW
  rw [e3] at m3
  rw [e4] at m4
  rw [e5] at m5
  rw [e1, e2, e3, e4, e5, e6] at HV
  rw [e1, e2, e3, e4, e5, e6]
  have E1 := Lib.hid e1
  have E3 := Lib.hid e3
  have E4 := Lib.hid e4
  have E5 := Lib.hid e5
  have E6 := Lib.hid e6
  have B1 := Lib.hid ((Below.refl _ w).alloc (Nat.le_refl _) (.cells #[.int .i64 s.floor.w, .int .i64 s.floor.h, .int .i64 s.floor.d, .slice a1 l1 c1, .slice a2 l2 c2, .slice a3 l3 c3, .slice a4 l4 c4, .slice a5 l5 c5, .slice a6 l6 c6] 30))
  have I0 := Lib.hid (heap_alloc_new w (.cells #[.int .i64 s.floor.w, .int .i64 s.floor.h, .int .i64 s.floor.d, .slice a1 l1 c1, .slice a2 l2 c2, .slice a3 l3 c3, .slice a4 l4 c4, .slice a5 l5 c5, .slice a6 l6 c6] 30))
  have hab : ∀ p : Bool, p = true ∨ p = false := fun p => by cases p <;> simp
  clear h e1 e2 e3 e4 e5 e6
  go_enter Tryz.func43, Tryz.ntmps43
  go_wp2_with fail
  go_loopw [7] (fun iv wr => ∃ k : Nat, k ≤ l3 ∧ iv = .int .i64 k ∧ Hid (∀ x ∈ s.zones.take k, (fun z : Si.Zone => ((z.cells.length : Int) ≤ c ∧ z.name.length ≤ 40)) x) ∧ wr = w.alloc (.cells #[.int .i64 s.floor.w, .int .i64 s.floor.h, .int .i64 s.floor.d, .slice a1 l1 c1, .slice a2 l2 c2, .slice a3 l3 c3, .slice a4 l4 c4, .slice a5 l5 c5, .slice a6 l6 c6] 30)) (fun iv _ => l3 - (intOf iv).toNat)
  case atStart => exact ⟨0, by omega, rfl, Lib.hid (by simp), rfl⟩
  case round =>
    obtain ⟨k, hk, rfl, HK, rfl⟩ := hrel
    have p5 : (w.alloc (.cells #[.int .i64 s.floor.w, .int .i64 s.floor.h, .int .i64 s.floor.d, .slice a1 l1 c1, .slice a2 l2 c2, .slice a3 l3 c3, .slice a4 l4 c4, .slice a5 l5 c5, .slice a6 l6 c6] 30)).cell? ⟨w.heap.size, 5, none⟩ = some (.slice a3 l3 c3) := cell_of_heap I0.out 5 rfl
    have hthree : (k < l3 ∧ (k : Int) ≤ m) ∨ (k < l3 ∧ ¬ (k : Int) ≤ m) ∨ ¬ k < l3 := by omega
    rcases hthree with ⟨hkn, hkm⟩ | ⟨hkn, hkm⟩ | hkn
    · have hkl : k < s.zones.length := by rw [E3.out]; exact hkn
      have k1 : (k : Int) < (l3 : Int) := by omega
      have k0 : (0 : Int) ≤ (k : Int) := by omega
      have HT := Lib.hid (fun h => all_take HK.out hkl h)
      obtain ⟨zb, zo, u1, u2, t1, hzb, hu1, hu2, r0, r1, r2, r3, r4⟩ := (HV.out.zn.keep B1.out).cell k hkl
      subst t1
      obtain ⟨b1, d1, rfl, n1⟩ := hu1.form
      obtain ⟨b2, d2, rfl, n2⟩ := two_form hu2
      obtain ⟨z, hz⟩ : ∃ z, s.zones[k] = z := ⟨_, rfl⟩
      rw [hz] at r0 r1 r4 HT n1 n2
      have HNL : Hid (((⟨z.name.toArray⟩ : ByteArray).size) = z.name.length) := Lib.hid (by show z.name.toArray.size = _; simp)
      obtain ⟨NM, hNM⟩ : ∃ N : ByteArray, ⟨z.name.toArray⟩ = N := ⟨_, rfl⟩
      rw [hNM] at r0 HNL
      obtain ⟨n, hn⟩ : ∃ n, z.cells.length = n := ⟨_, rfl⟩
      obtain ⟨q, hq⟩ : ∃ n, z.shut.length = n := ⟨_, rfl⟩
      rw [hn] at r1 n1 HT
      rw [hq] at r4 n2
      clear hu1 hu2 hz hNM hn hq r2 r3
      by_cases g1 : (n : Int) > c
      · go_wp2_with fail
        go_ret
        exact ⟨TruePost.no _, B1.out⟩
      · by_cases g2 : (q : Int) > 20
        · go_wp2_with fail
          go_ret
          exact ⟨TruePost.no _, B1.out⟩
        · by_cases g3 : (NM.size : Int) > 40
          · go_wp2_with fail
            go_ret
            exact ⟨TruePost.no _, B1.out⟩
          · have HX := Lib.hid (HT.out ⟨by omega, by have := HNL.out; omega⟩)
            go_wp2_with fail
            go_roundw
            case rel => exact ⟨k + 1, by omega, by go_num, HX, by first | rfl | trivial⟩
            case measure => simp [intOf]; omega
    all_goals
      have HPZ : Hid ((l3 : Int) ≤ m → ∀ x ∈ s.zones, (fun z : Si.Zone => ((z.cells.length : Int) ≤ c ∧ z.name.length ≤ 40)) x) := Lib.hid (fun hle => all_end HK.out (by rw [E3.out]; omega))
      clear HK
      go_wp2_with fail
      go_loopw [8] (fun iv wr => ∃ k : Nat, k ≤ l4 ∧ iv = .int .i64 k ∧ Hid (∀ x ∈ s.aparts.take k, (fun p : List UInt8 × List UInt8 => p.1.length ≤ 40 ∧ p.2.length ≤ 40) x) ∧ wr = w.alloc (.cells #[.int .i64 s.floor.w, .int .i64 s.floor.h, .int .i64 s.floor.d, .slice a1 l1 c1, .slice a2 l2 c2, .slice a3 l3 c3, .slice a4 l4 c4, .slice a5 l5 c5, .slice a6 l6 c6] 30)) (fun iv _ => l4 - (intOf iv).toNat)
      case atStart => exact ⟨0, by omega, rfl, Lib.hid (by simp), rfl⟩
      case round =>
        obtain ⟨k, hk, rfl, HK, rfl⟩ := hrel
        have p6 : (w.alloc (.cells #[.int .i64 s.floor.w, .int .i64 s.floor.h, .int .i64 s.floor.d, .slice a1 l1 c1, .slice a2 l2 c2, .slice a3 l3 c3, .slice a4 l4 c4, .slice a5 l5 c5, .slice a6 l6 c6] 30)).cell? ⟨w.heap.size, 6, none⟩ = some (.slice a4 l4 c4) := cell_of_heap I0.out 6 rfl
        have hthree : (k < l4 ∧ (k : Int) ≤ m) ∨ (k < l4 ∧ ¬ (k : Int) ≤ m) ∨ ¬ k < l4 := by omega
        rcases hthree with ⟨hkn, hkm⟩ | ⟨hkn, hkm⟩ | hkn
        · have hkl : k < s.aparts.length := by rw [E4.out]; exact hkn
          have k1 : (k : Int) < (l4 : Int) := by omega
          have k0 : (0 : Int) ≤ (k : Int) := by omega
          have HT := Lib.hid (fun h => all_take HK.out hkl h)
          obtain ⟨zb, zo, t1, hzb, r0, r1⟩ := ApV.cell (Rw.keep HV.out.ap B1.out) k hkl
          subst t1
          obtain ⟨z, hz⟩ : ∃ z, s.aparts[k] = z := ⟨_, rfl⟩
          rw [hz] at r0 r1 HT
          have HNL : Hid (((⟨z.1.toArray⟩ : ByteArray).size) = z.1.length) := Lib.hid (by show z.1.toArray.size = _; simp)
          have HNM : Hid (((⟨z.2.toArray⟩ : ByteArray).size) = z.2.length) := Lib.hid (by show z.2.toArray.size = _; simp)
          obtain ⟨NA, hNA⟩ : ∃ N : ByteArray, ⟨z.1.toArray⟩ = N := ⟨_, rfl⟩
          obtain ⟨NB, hNB⟩ : ∃ N : ByteArray, ⟨z.2.toArray⟩ = N := ⟨_, rfl⟩
          rw [hNA] at r0 HNL
          rw [hNB] at r1 HNM
          clear hz hNA hNB
          by_cases g1 : (NA.size : Int) > 40
          · go_wp2_with fail
            go_ret
            exact ⟨TruePost.no _, B1.out⟩
          · by_cases g2 : (NB.size : Int) > 40
            · go_wp2_with fail
              go_ret
              exact ⟨TruePost.no _, B1.out⟩
            · have HX := Lib.hid (HT.out ⟨by have := HNL.out; omega, by have := HNM.out; omega⟩)
              go_wp2_with fail
              go_roundw
              case rel => exact ⟨k + 1, by omega, by go_num, HX, by first | rfl | trivial⟩
              case measure => simp [intOf]; omega
        all_goals
          have HPA : Hid ((l4 : Int) ≤ m → ∀ x ∈ s.aparts, (fun p : List UInt8 × List UInt8 => p.1.length ≤ 40 ∧ p.2.length ≤ 40) x) := Lib.hid (fun hle => all_end HK.out (by rw [E4.out]; omega))
          clear HK
          go_wp2_with fail
          go_loopw [9] (fun iv wr => ∃ k : Nat, k ≤ l5 ∧ iv = .int .i64 k ∧ Hid (∀ x ∈ s.shelves.take k, (fun p : Int × List UInt8 => p.2.length ≤ 40) x) ∧ wr = w.alloc (.cells #[.int .i64 s.floor.w, .int .i64 s.floor.h, .int .i64 s.floor.d, .slice a1 l1 c1, .slice a2 l2 c2, .slice a3 l3 c3, .slice a4 l4 c4, .slice a5 l5 c5, .slice a6 l6 c6] 30)) (fun iv _ => l5 - (intOf iv).toNat)
          case atStart => exact ⟨0, by omega, rfl, Lib.hid (by simp), rfl⟩
          case round =>
            obtain ⟨k, hk, rfl, HK, rfl⟩ := hrel
            have p7 : (w.alloc (.cells #[.int .i64 s.floor.w, .int .i64 s.floor.h, .int .i64 s.floor.d, .slice a1 l1 c1, .slice a2 l2 c2, .slice a3 l3 c3, .slice a4 l4 c4, .slice a5 l5 c5, .slice a6 l6 c6] 30)).cell? ⟨w.heap.size, 7, none⟩ = some (.slice a5 l5 c5) := cell_of_heap I0.out 7 rfl
            have hthree : (k < l5 ∧ (k : Int) ≤ m) ∨ (k < l5 ∧ ¬ (k : Int) ≤ m) ∨ ¬ k < l5 := by omega
            rcases hthree with ⟨hkn, hkm⟩ | ⟨hkn, hkm⟩ | hkn
            · have hkl : k < s.shelves.length := by rw [E5.out]; exact hkn
              have k1 : (k : Int) < (l5 : Int) := by omega
              have k0 : (0 : Int) ≤ (k : Int) := by omega
              have HT := Lib.hid (fun h => all_take HK.out hkl h)
              obtain ⟨zb, zo, t1, hzb, r0, r1⟩ := SfV.cell (Rw.keep HV.out.sf B1.out) k hkl
              subst t1
              obtain ⟨z, hz⟩ : ∃ z, s.shelves[k] = z := ⟨_, rfl⟩
              rw [hz] at r0 r1 HT
              have HNM : Hid (((⟨z.2.toArray⟩ : ByteArray).size) = z.2.length) := Lib.hid (by show z.2.toArray.size = _; simp)
              obtain ⟨NB, hNB⟩ : ∃ N : ByteArray, ⟨z.2.toArray⟩ = N := ⟨_, rfl⟩
              rw [hNB] at r1 HNM
              clear hz hNB
              by_cases g2 : (NB.size : Int) > 40
              · go_wp2_with fail
                go_ret
                exact ⟨TruePost.no _, B1.out⟩
              · have HX := Lib.hid (HT.out (by have := HNM.out; omega))
                go_wp2_with fail
                go_roundw
                case rel => exact ⟨k + 1, by omega, by go_num, HX, by first | rfl | trivial⟩
                case measure => simp [intOf]; omega
            all_goals
              have HPS : Hid ((l5 : Int) ≤ m → ∀ x ∈ s.shelves, (fun p : Int × List UInt8 => p.2.length ≤ 40) x) := Lib.hid (fun hle => all_end HK.out (by rw [E5.out]; omega))
              clear HK
              go_wp2_with fail
              have p0 : (w.alloc (.cells #[.int .i64 s.floor.w, .int .i64 s.floor.h, .int .i64 s.floor.d, .slice a1 l1 c1, .slice a2 l2 c2, .slice a3 l3 c3, .slice a4 l4 c4, .slice a5 l5 c5, .slice a6 l6 c6] 30)).cell? ⟨w.heap.size, 0, none⟩ = some (.int .i64 s.floor.w) := cell_of_heap I0.out 0 rfl
              have HW := HFW.out _ B1.out
              have HFF : Hid ((decide ((l1 : Int) ≤ c) && decide ((l2 : Int) ≤ c)) = true → (l1 : Int) ≤ c) := Lib.hid (fun h => by simp at h; exact h.1)
              obtain ⟨FB, hFB⟩ : ∃ b, (decide ((l1 : Int) ≤ c) && decide ((l2 : Int) ≤ c)) = b := ⟨_, rfl⟩
              rw [hFB] at HW HFF
              have HWW := Lib.hid HW
              clear hFB HW p5 p6 p7
              go_at_call 68; refine HWW.out.mono ?_; rintro e w2 ⟨rfl, b2⟩
              have i2 := keep_heap I0.out b2
              have B2 := Lib.hid (B1.out.trans (b2.mono B1.out.size))
              have lw2 : w.heap.size < w2.heap.size := heap_lt i2
              have p5 : w2.cell? ⟨w.heap.size, 5, none⟩ = some (.slice a3 l3 c3) := cell_of_heap i2 5 rfl
              have p6 : w2.cell? ⟨w.heap.size, 6, none⟩ = some (.slice a4 l4 c4) := cell_of_heap i2 6 rfl
              have p7 : w2.cell? ⟨w.heap.size, 7, none⟩ = some (.slice a5 l5 c5) := cell_of_heap i2 7 rfl
              have p8 : w2.cell? ⟨w.heap.size, 8, none⟩ = some (.slice a6 l6 c6) := cell_of_heap i2 8 rfl
              clear b2 i2 p0
              cases FB with
              | false =>
                go_wp2_with fail
                go_ret
                exact ⟨TruePost.no _, B2.out⟩
              | true =>
                go_wp2_with fail
                all_goals
                  go_ret
                  first
                    | exact ⟨TruePost.no _, B2.out⟩
                    | (refine ⟨⟨_, rfl, fun h => ?_⟩, B2.out⟩
                       have h9 : (l6 : Int) ≤ m := by first | exact of_decide_eq_true h | simpa using h
                       exact ⟨HPZ.out (by omega), HPA.out (by omega), HPS.out (by omega), by rw [E1.out]; exact HFF.out (by first | rfl | trivial), by rw [E3.out]; omega, by rw [E4.out]; omega, by rw [E5.out]; omega, by rw [E6.out]; omega⟩)
end Go.Proofs.YtcdfmgobokjcnaaGreatDoor
/- Walks of package taquinref11: Right. -/
namespace Go.Proofs.YtcdfmgobokjcnaaGreatDoor
set_option linter.unusedSimpArgs false
set_option linter.unusedVariables false
open Go.RowKit

/-- The first shelves are right. -/
structure ShOk (f : Fl.Floor) (l : List (Int × List UInt8)) : Prop where
  a : ∀ x ∈ l, Fl.isC f x.1 = true ∧ (Si.kindAt f x.1 = 1 ∨ Si.kindAt f x.1 = 2)
  d : (l.map (·.1)).Nodup
structure RbOk (f : Fl.Floor) (l : List (Int × Int)) : Prop where
  a : ∀ x ∈ l, Fl.isC f x.1 = true ∧ Si.kindAt f x.1 ≠ 0 ∧ 0 ≤ x.2 ∧ x.2 ≤ 1000000
  d : (l.map (·.1)).Nodup
theorem nodup_step {α : Type} {l : List (Int × α)} {k : Nat} (h : ((l.take k).map (·.1)).Nodup) (hk : k < l.length) (hn : noAt (l.take k) l[k].1) : ((l.take (k + 1)).map (·.1)).Nodup := by
  rw [List.take_succ_eq_append_getElem hk, List.map_append, List.nodup_append]
  refine ⟨h, by simp, fun x hx y hy => ?_⟩
  obtain ⟨z, hz, rfl⟩ := List.mem_map.1 hx
  rw [List.map_singleton, List.mem_singleton] at hy
  subst hy
  exact hn z hz
theorem ShOk.nil (f : Fl.Floor) : ShOk f [] := ⟨fun z h => (by cases h), List.Pairwise.nil⟩
theorem RbOk.nil (f : Fl.Floor) : RbOk f [] := ⟨fun z h => (by cases h), List.Pairwise.nil⟩
theorem ShOk.step {f : Fl.Floor} {l : List (Int × List UInt8)} {k : Nat} (h : ShOk f (l.take k)) (hk : k < l.length) (h1 : Fl.isC f l[k].1 = true ∧ (Si.kindAt f l[k].1 = 1 ∨ Si.kindAt f l[k].1 = 2)) (hn : sIdx (l.take k) l[k].1 < 0) : ShOk f (l.take (k + 1)) :=
  ⟨all_take h.a hk h1, nodup_step h.d hk ((sIdx_neg _ _).1 hn)⟩
theorem RbOk.step {f : Fl.Floor} {l : List (Int × Int)} {k : Nat} (h : RbOk f (l.take k)) (hk : k < l.length) (h1 : Fl.isC f l[k].1 = true ∧ Si.kindAt f l[k].1 ≠ 0 ∧ 0 ≤ l[k].2 ∧ l[k].2 ≤ 1000000) (hn : sIdx (l.take k) l[k].1 < 0) : RbOk f (l.take (k + 1)) :=
  ⟨all_take h.a hk h1, nodup_step h.d hk ((sIdx_neg _ _).1 hn)⟩
theorem Si.Right.of {s : Si.Site} (hf : Fl.Right s.floor) (hz : ZOk s.floor s.zones) (hn : s.zones.length ≤ 64) (hs : ShOk s.floor s.shelves) (hsn : s.shelves.length ≤ 3000) (hr : RbOk s.floor s.robots) (hrn : s.robots.length ≤ 200) : Si.Right s where
  fl := hf
  zn := hn
  zc := fun z h => let ⟨h1, h2, h3, h4, h5⟩ := hz.a z h; ⟨h1, h2, h3, h4, h5⟩
  zk := fun z h c hc => hz.b z h c hc
  zd := hz.d
  sn := hsn
  sc := hs.a
  sd := hs.d
  rn := hrn
  rc := hr.a
  rd := hr.d
/-- What Right tells. -/
def RtP (s : Si.Site) : Prop := Si.Right s ∧ ∀ z ∈ s.zones, z.keep ≤ z.cells.length
/-- Names are short. -/
structure Names (s : Si.Site) : Prop where
  z : ∀ z ∈ s.zones, z.name.length ≤ 1000000
  a : ∀ p ∈ s.aparts, p.1.length ≤ 1000000 ∧ p.2.length ≤ 1000000
  s : ∀ p ∈ s.shelves, p.2.length ≤ 1000000
end Go.Proofs.YtcdfmgobokjcnaaGreatDoor
