/- Parts Bx of this claim, laid one behind the other: walks and the plain laws behind them; each contract states its own conditions. -/
import Derived.Test.YtfcbcpfnaadpeaaDoorZP
/- The statement BlocksLinks: the walk. -/
namespace Go.Proofs.YtfcbcpfnaadpeaaDoor
set_option linter.unusedSimpArgs false
set_option linter.unusedVariables false
open Go.RowKit

theorem ints_get {l : List Int} {i : Nat} {n : Int} (h : l[i]? = some n) : (ints l).toArray[i]? = some (.int .i64 n) := by simp [ints, h]
theorem getD_get {l : List Int} {i : Nat} (h : i < l.length) : l[i]? = some (l.getD i (-1)) := by simp [List.getD, h]
theorem near_linked {s : Si.Site} (hr : Si.Right s) {a b c d m : Nat} (ha : a < s.zones.length) (hb : b < s.zones.length) (hd : d < 6) (hn : Fl.next s.floor c d = some m) (h1 : Si.zoneOf s.zones (c : Int) = (a : Int)) (h2 : Si.zoneOf s.zones (m : Int) = (b : Int)) : a = b ∨ Si.linked s a b = true := by
  by_cases hab : a = b
  · exact .inl hab
  · exact .inr (Si.beside_linked hr ha hb hab hd hn ((Si.zoneOf_iff hr.zd ha).1 h1) ((Si.zoneOf_iff hr.zd hb).1 h2))
/-- A bool that tells that two zones are one, or next to each other. -/
def NearB (s : Si.Site) (a b : Nat) (x : Bool) : Prop := x = true → a = b ∨ Si.linked s a b = true
theorem NearB.no (s : Si.Site) (a b : Nat) : NearB s a b false := fun h => by cases h
theorem NearB.yes {s : Si.Site} {a b : Nat} (h : a = b ∨ Si.linked s a b = true) : NearB s a b true := fun _ => h
theorem NearB.at {s : Si.Site} {a b : Nat} (h : NearB s a b true) : a = b ∨ Si.linked s a b = true := h rfl
theorem cap_now {s : Si.Site} (hr : Si.Right s) {a : Nat} (ha : a < s.zones.length) {bl t : Nat} {V KP : Int} (hb : bl = s.zones[a].cells.length) (ht : t = Si.taken s a) (hV : V = (bl : Int) - (t : Int)) (hk : s.zones[a].keep = KP) : 0 ≤ Si.capOf s a ∧ Si.capOf s a ≤ V ∧ Si.capOf s a = max 0 (V - KP) := by
  subst hb ht hV hk; exact Si.cap_says hr ha
set_option maxRecDepth 100000 in
set_option maxHeartbeats 64000000 in
theorem BlocksLinks_any (s : Si.Site) (kv ov zv av sv rv : Value) (A B : Int) (w : World) (hE : Env w) (h : SiV w kv ov zv av sv rv s) (hcp : SiCap zv av sv rv) :
    Calls Tryd.prog 4 #[siV s kv ov zv av sv rv, .int .i64 A, .int .i64 B] w fun e w' => e = .returned (.bool true) ∧ Below w.heap.size w w' := by
  obtain ⟨a1, c1, a2, c2, a3, c3, a4, c4, a5, c5, a6, c6, rfl, rfl, rfl, rfl, rfl, rfl, m1, m2, m3, m4, m5, m6⟩ := h.open
  have HV := Lib.hid h
  have HE := Lib.hid hE
  have HFA := Lib.hid (fun W hb => fair_any s (.slice a1 s.floor.kind.length c1) (.slice a2 s.floor.out.length c2) (.slice a3 s.zones.length c3) (.slice a4 s.aparts.length c4) (.slice a5 s.shelves.length c5) (.slice a6 s.robots.length c6) W (h.keep hb) hcp)
  have HLK := Lib.hid (fun (hk : Si.Ok s) W hb => Links_any s (.slice a1 s.floor.kind.length c1) (.slice a2 s.floor.out.length c2) (.slice a3 s.zones.length c3) (.slice a4 s.aparts.length c4) (.slice a5 s.shelves.length c5) (.slice a6 s.robots.length c6) W (h.keep hb) hk)
  have HCP := Lib.hid (fun (hk : Si.Ok s) W hb => Caps_any s (.slice a1 s.floor.kind.length c1) (.slice a2 s.floor.out.length c2) (.slice a3 s.zones.length c3) (.slice a4 s.aparts.length c4) (.slice a5 s.shelves.length c5) (.slice a6 s.robots.length c6) W (h.keep hb) hk)
  have HZO := Lib.hid (fun (hk : Si.Ok s) c W hb => ZoneOf_any s (.slice a1 s.floor.kind.length c1) (.slice a2 s.floor.out.length c2) (.slice a3 s.zones.length c3) (.slice a4 s.aparts.length c4) (.slice a5 s.shelves.length c5) (.slice a6 s.robots.length c6) c W (h.keep hb) hk.zs)
  have HNX := Lib.hid (fun (hk : Si.Ok s) (c d : Nat) W hb hc hd => Next_any s.floor (.slice a1 s.floor.kind.length c1) (.slice a2 s.floor.out.length c2) c d W hk.fl (h.fl.keep hb) hc hd)
  obtain ⟨l1, e1⟩ : ∃ n, s.floor.kind.length = n := ⟨_, rfl⟩
  obtain ⟨l2, e2⟩ : ∃ n, s.floor.out.length = n := ⟨_, rfl⟩
  obtain ⟨l3, e3⟩ : ∃ n, s.zones.length = n := ⟨_, rfl⟩
  obtain ⟨l4, e4⟩ : ∃ n, s.aparts.length = n := ⟨_, rfl⟩
  obtain ⟨l5, e5⟩ : ∃ n, s.shelves.length = n := ⟨_, rfl⟩
  obtain ⟨l6, e6⟩ : ∃ n, s.robots.length = n := ⟨_, rfl⟩
  unfold siV at HFA HLK HCP HZO ⊢
  unfold flV at HNX
  rw [e1, e2] at HNX
  rw [e1, e2, e3, e4, e5, e6] at HFA HCP HZO HLK HV
  rw [e1, e2, e3, e4, e5, e6]
  rw [e1] at m1
  rw [e3] at m3
  rw [e5] at m5
  have E1 := Lib.hid e1
  have E3 := Lib.hid e3
  have E5 := Lib.hid e5
  have B1 := Lib.hid ((Below.refl _ w).alloc (Nat.le_refl _) (.cells #[.int .i64 s.floor.w, .int .i64 s.floor.h, .int .i64 s.floor.d, .slice a1 l1 c1, .slice a2 l2 c2, .slice a3 l3 c3, .slice a4 l4 c4, .slice a5 l5 c5, .slice a6 l6 c6] 30))
  have I0 := Lib.hid (heap_alloc_new w (.cells #[.int .i64 s.floor.w, .int .i64 s.floor.h, .int .i64 s.floor.d, .slice a1 l1 c1, .slice a2 l2 c2, .slice a3 l3 c3, .slice a4 l4 c4, .slice a5 l5 c5, .slice a6 l6 c6] 30))
  have hab : ∀ p : Bool, p = true ∨ p = false := fun p => by cases p <;> simp
  clear h hE hcp e1 e2 e3 e4 e5 e6
  go_enter Tryd.func4, Tryd.ntmps4
  go_wp2_with fail
  go_at_call 5; refine (small19_any _ (HE.out.below B1.out)).mono ?_; rintro e w1 ⟨rfl, b1⟩
  have B2 := Lib.hid (B1.out.trans (b1.mono B1.out.size))
  have i1 := keep_heap I0.out b1
  have I1 := Lib.hid i1
  have p0 : w1.cell? ⟨w.heap.size, 0, none⟩ = some (.int .i64 s.floor.w) := cell_of_heap i1 0 rfl
  have p1 : w1.cell? ⟨w.heap.size, 1, none⟩ = some (.int .i64 s.floor.h) := cell_of_heap i1 1 rfl
  have p2 : w1.cell? ⟨w.heap.size, 2, none⟩ = some (.int .i64 s.floor.d) := cell_of_heap i1 2 rfl
  have p3 : w1.cell? ⟨w.heap.size, 3, none⟩ = some (.slice a1 l1 c1) := cell_of_heap i1 3 rfl
  have p4 : w1.cell? ⟨w.heap.size, 4, none⟩ = some (.slice a2 l2 c2) := cell_of_heap i1 4 rfl
  have p5 : w1.cell? ⟨w.heap.size, 5, none⟩ = some (.slice a3 l3 c3) := cell_of_heap i1 5 rfl
  have p6 : w1.cell? ⟨w.heap.size, 6, none⟩ = some (.slice a4 l4 c4) := cell_of_heap i1 6 rfl
  have p7 : w1.cell? ⟨w.heap.size, 7, none⟩ = some (.slice a5 l5 c5) := cell_of_heap i1 7 rfl
  have p8 : w1.cell? ⟨w.heap.size, 8, none⟩ = some (.slice a6 l6 c6) := cell_of_heap i1 8 rfl
  clear b1 i1
  go_wp2_with fail
  go_at_call 6; refine (HFA.out _ B2.out).mono ?_; rintro e w2 ⟨⟨rb, rfl, hrb⟩, b2⟩
  have HRB := Lib.hid hrb
  have B3 := Lib.hid (B2.out.trans (b2.mono B2.out.size))
  have i2 := keep_heap I1.out b2
  have I2 := Lib.hid i2
  have lw : w.heap.size < w2.heap.size := heap_lt i2
  clear b2 hrb p0 p1 p2 p3 p4 p5 p6 p7 p8 B1 B2 I0 I1
  have p0 : w2.cell? ⟨w.heap.size, 0, none⟩ = some (.int .i64 s.floor.w) := cell_of_heap i2 0 rfl
  have p1 : w2.cell? ⟨w.heap.size, 1, none⟩ = some (.int .i64 s.floor.h) := cell_of_heap i2 1 rfl
  have p2 : w2.cell? ⟨w.heap.size, 2, none⟩ = some (.int .i64 s.floor.d) := cell_of_heap i2 2 rfl
  have p3 : w2.cell? ⟨w.heap.size, 3, none⟩ = some (.slice a1 l1 c1) := cell_of_heap i2 3 rfl
  have p4 : w2.cell? ⟨w.heap.size, 4, none⟩ = some (.slice a2 l2 c2) := cell_of_heap i2 4 rfl
  have p5 : w2.cell? ⟨w.heap.size, 5, none⟩ = some (.slice a3 l3 c3) := cell_of_heap i2 5 rfl
  have p6 : w2.cell? ⟨w.heap.size, 6, none⟩ = some (.slice a4 l4 c4) := cell_of_heap i2 6 rfl
  have p7 : w2.cell? ⟨w.heap.size, 7, none⟩ = some (.slice a5 l5 c5) := cell_of_heap i2 7 rfl
  have p8 : w2.cell? ⟨w.heap.size, 8, none⟩ = some (.slice a6 l6 c6) := cell_of_heap i2 8 rfl
  clear i2
  cases rb with
  | false =>
    go_wp2_with fail
    go_ret
    exact ⟨rfl, B3.out⟩
  | true =>
    have HP := Lib.hid (HRB.out rfl)
    have HK := Lib.hid HP.out.ok
    have HRI := Lib.hid HP.out.right
    clear HRB HFA HE
    by_cases q1 : A < 0
    · go_wp2_with fail
      go_ret
      exact ⟨rfl, B3.out⟩
    by_cases q2 : A ≥ (l3 : Int)
    · go_wp2_with fail
      go_ret
      exact ⟨rfl, B3.out⟩
    by_cases q3 : B < 0
    · go_wp2_with fail
      go_ret
      exact ⟨rfl, B3.out⟩
    by_cases q4 : B ≥ (l3 : Int)
    · go_wp2_with fail
      go_ret
      exact ⟨rfl, B3.out⟩
    obtain ⟨a, rfl⟩ : ∃ a : Nat, A = (a : Int) := ⟨A.toNat, by omega⟩
    obtain ⟨b, rfl⟩ : ∃ b : Nat, B = (b : Int) := ⟨B.toNat, by omega⟩
    have a9 : (a : Int) < (l3 : Int) := by omega
    have b9 : (b : Int) < (l3 : Int) := by omega
    have a0 : (0 : Int) ≤ (a : Int) := by omega
    have b0 : (0 : Int) ≤ (b : Int) := by omega
    clear q1 q2 q3 q4
    go_wp2_with fail
    go_at_call 8; refine (HLK.out HK.out _ B3.out).mono ?_; rintro e w3 ⟨g, n, rfl, hn, hl, b3⟩
    obtain rfl : l3 = n := hn.symm
    have HL3 := Lib.hid hl
    have B4 := Lib.hid (B3.out.trans (b3.mono B3.out.size))
    have i3 := keep_heap I2.out b3
    have I3 := Lib.hid i3
    have lw3 : w.heap.size < w3.heap.size := heap_lt i3
    clear hl hn b3 p0 p1 p2 p3 p4 p5 p6 p7 p8 B3 I2 lw
    have p0 : w3.cell? ⟨w.heap.size, 0, none⟩ = some (.int .i64 s.floor.w) := cell_of_heap i3 0 rfl
    have p1 : w3.cell? ⟨w.heap.size, 1, none⟩ = some (.int .i64 s.floor.h) := cell_of_heap i3 1 rfl
    have p2 : w3.cell? ⟨w.heap.size, 2, none⟩ = some (.int .i64 s.floor.d) := cell_of_heap i3 2 rfl
    have p3 : w3.cell? ⟨w.heap.size, 3, none⟩ = some (.slice a1 l1 c1) := cell_of_heap i3 3 rfl
    have p4 : w3.cell? ⟨w.heap.size, 4, none⟩ = some (.slice a2 l2 c2) := cell_of_heap i3 4 rfl
    have p5 : w3.cell? ⟨w.heap.size, 5, none⟩ = some (.slice a3 l3 c3) := cell_of_heap i3 5 rfl
    have p6 : w3.cell? ⟨w.heap.size, 6, none⟩ = some (.slice a4 l4 c4) := cell_of_heap i3 6 rfl
    have p7 : w3.cell? ⟨w.heap.size, 7, none⟩ = some (.slice a5 l5 c5) := cell_of_heap i3 7 rfl
    have p8 : w3.cell? ⟨w.heap.size, 8, none⟩ = some (.slice a6 l6 c6) := cell_of_heap i3 8 rfl
    clear i3
    go_wp2_with fail
    go_at_call 11; refine (HCP.out HK.out _ B4.out).mono ?_; rintro e w4 ⟨cv, rfl, hcv, -, b4⟩
    obtain ⟨ca, cc, rfl, -⟩ := hcv.form
    have hcl : (Si.capsL s).length = l3 := by rw [Si.capsL_len, E3.out]
    rw [hcl] at hcv
    rw [hcl]
    have HC4 := Lib.hid hcv
    have HL4 := Lib.hid (HL3.out.keep b4)
    have B5 := Lib.hid (B4.out.trans (b4.mono B4.out.size))
    have i4 := keep_heap I3.out b4
    have I4 := Lib.hid i4
    have lw4 : w.heap.size < w4.heap.size := heap_lt i4
    clear hcv hcl b4 p0 p1 p2 p3 p4 p5 p6 p7 p8 B4 I3 lw3 HL3
    have p0 : w4.cell? ⟨w.heap.size, 0, none⟩ = some (.int .i64 s.floor.w) := cell_of_heap i4 0 rfl
    have p1 : w4.cell? ⟨w.heap.size, 1, none⟩ = some (.int .i64 s.floor.h) := cell_of_heap i4 1 rfl
    have p2 : w4.cell? ⟨w.heap.size, 2, none⟩ = some (.int .i64 s.floor.d) := cell_of_heap i4 2 rfl
    have p3 : w4.cell? ⟨w.heap.size, 3, none⟩ = some (.slice a1 l1 c1) := cell_of_heap i4 3 rfl
    have p4 : w4.cell? ⟨w.heap.size, 4, none⟩ = some (.slice a2 l2 c2) := cell_of_heap i4 4 rfl
    have p5 : w4.cell? ⟨w.heap.size, 5, none⟩ = some (.slice a3 l3 c3) := cell_of_heap i4 5 rfl
    have p6 : w4.cell? ⟨w.heap.size, 6, none⟩ = some (.slice a4 l4 c4) := cell_of_heap i4 6 rfl
    have p7 : w4.cell? ⟨w.heap.size, 7, none⟩ = some (.slice a5 l5 c5) := cell_of_heap i4 7 rfl
    have p8 : w4.cell? ⟨w.heap.size, 8, none⟩ = some (.slice a6 l6 c6) := cell_of_heap i4 8 rfl
    clear i4
    have H0 : Hid (w4.ownsRow w4.heap.size 3 1 (.slice none 0 0) (Si.others a b 0 (s.zones.take 0)).length (ints (Si.others a b 0 (s.zones.take 0)))) := Lib.hid (by
      rw [List.take_zero]; exact World.ownsRow_nil w4 w4.heap.size 3 1)
    go_wp2_with fail
    go_loopw [10, 11] (fun vv iv wr => ∃ k : Nat, k ≤ l3 ∧ iv = .int .i64 k ∧ Hid (wr.ownsRow w4.heap.size 3 1 vv (Si.others a b 0 (s.zones.take k)).length (ints (Si.others a b 0 (s.zones.take k)))) ∧ Hid (Below w4.heap.size w4 wr)) (fun _ iv _ => l3 - (intOf iv).toNat)
    case atStart => exact ⟨0, by omega, rfl, H0, Lib.hid (Below.refl _ _)⟩
    case round =>
      obtain ⟨k, hkl, rfl, HO, HB⟩ := hrel
      obtain ⟨vv, rfl⟩ : ∃ v, v = u10 := ⟨_, rfl⟩
      have BT := Lib.hid (B5.out.trans (HB.out.mono B5.out.size))
      have J0 := Lib.hid (keep_heap I4.out HB.out)
      have lw : w.heap.size < wr.heap.size := heap_lt J0.out
      clear p0 p1 p2 p3 p4 p5 p6 p7 p8
      have p5 : wr.cell? ⟨w.heap.size, 5, none⟩ = some (.slice a3 l3 c3) := cell_of_heap J0.out 5 rfl
      by_cases hkn : k < l3
      · have hku : k < s.zones.length := by rw [E3.out]; exact hkn
        obtain ⟨zb, zo, u1', u2', e1, hzb, hu1, hu2, -, q1, -, -, -⟩ := (HV.out.zn.keep BT.out).cell k hku
        subst e1
        have hlr := (HK.out.zs _ (List.getElem_mem hku)).2
        have kI0 : (0 : Int) ≤ (k : Int) := by omega
        have kI1 : (k : Int) < (l3 : Int) := by omega
        obtain ⟨z1, d1, rfl, -⟩ := hu1.form
        obtain ⟨Z, hZ⟩ : ∃ Z, s.zones[k] = Z := ⟨_, rfl⟩
        rw [hZ] at q1 hu1 hlr
        obtain ⟨y1, hy1⟩ : ∃ n, Z.cells.length = n := ⟨_, rfl⟩
        rw [hy1] at q1 hu1 hlr
        have HZ := Lib.hid hZ
        have HU := Lib.hid hu1
        have HY := Lib.hid hy1
        clear hZ hu1 hu2 hy1
        by_cases hka : k = a
        · have t1 : ((k : Int) != (a : Int)) = false := by simp [hka]
          have HST : Hid (Si.others a b 0 (s.zones.take (k + 1)) = Si.others a b 0 (s.zones.take k)) := Lib.hid (by rw [Si.others_step a b s.zones 0 k hku, if_neg (by omega), List.append_nil])
          clear hka
          go_wp2_with fail
          go_roundw
          case rel => exact ⟨k + 1, by omega, by go_num, Lib.hid (by rw [HST.out]; exact HO.out), HB⟩
          case measure => simp [intOf]; omega
        by_cases hkb : k = b
        · have t1 : ((k : Int) != (a : Int)) = true := by simp; omega
          have t2 : ((k : Int) != (b : Int)) = false := by simp [hkb]
          have HST : Hid (Si.others a b 0 (s.zones.take (k + 1)) = Si.others a b 0 (s.zones.take k)) := Lib.hid (by rw [Si.others_step a b s.zones 0 k hku, if_neg (by omega), List.append_nil])
          clear hka hkb
          go_wp2_with fail
          go_roundw
          case rel => exact ⟨k + 1, by omega, by go_num, Lib.hid (by rw [HST.out]; exact HO.out), HB⟩
          case measure => simp [intOf]; omega
        have t1 : ((k : Int) != (a : Int)) = true := by simp; omega
        have t2 : ((k : Int) != (b : Int)) = true := by simp; omega
        have HST : Hid (Si.others a b 0 (s.zones.take (k + 1)) = Si.others a b 0 (s.zones.take k) ++ Z.cells) := Lib.hid (by rw [Si.others_step a b s.zones 0 k hku, if_pos (by omega), HZ.out])
        have hol := Si.others_len a b 100000 (s.zones.take k) 0 (fun z hz => (HK.out.zs z (List.mem_of_mem_take hz)).2)
        rw [List.length_take] at hol
        obtain ⟨y3, hy3⟩ : ∃ n, (Si.others a b 0 (s.zones.take k)).length = n := ⟨_, rfl⟩
        have hy4 : y3 ≤ 6400000 := by rw [← hy3]; have := Nat.min_le_left k s.zones.length; have := Nat.mul_le_mul_right 100000 this; have := HK.out.zn; have := E3.out; omega
        rw [hy3] at HO
        have HY3 := Lib.hid hy3
        clear hy3 hol hka hkb
        have hwz := HB.out.size
        go_wp2_with (at_builtin; refine wpList_append_sl rfl (.tmp 82) (.tmp 88) 22 rfl w4.heap.size 3 (.int .i64 0) 8 Tryd.underlying22 Tryd.intInfo rfl vv y3 (ints (Si.others a b 0 (s.zones.take k))) rfl HO.out (.slice z1 y1 d1) (ints Z.cells) rfl HU.out ?c1 ?c2 ?c3 ?c4 ?_)
        case c1 => intro u hu; obtain ⟨x, -, rfl⟩ := List.mem_map.1 hu; rfl
        case c2 => rw [ints_len, HY.out]; unfold maxLen; omega
        case c3 => rw [ints_len, HY.out]; omega
        case c4 => omega
        intro v' w' ho' hg'
        have HO2 := Lib.hid ho'
        have HG2 := Lib.hid hg'
        clear ho' hg'
        go_wp2_with fail
        go_roundw
        case rel =>
          refine ⟨k + 1, by omega, by go_num, Lib.hid ?_, Lib.hid (HB.out.trans (below_own HO.out HG2.out (Nat.le_refl _) hwz))⟩
          rw [HST.out, ints_append, List.length_append, HY3.out]
          have := HO2.out
          rw [ints_len] at this
          exact this
        case measure => simp [intOf]; omega
      · obtain rfl : l3 = k := by omega
        have haz : a < s.zones.length := by rw [E3.out]; omega
        have hbz : b < s.zones.length := by rw [E3.out]; omega
        obtain ⟨zb, zo, u1', u2', e1, hzb, hu1, hu2, -, q1, -, -, -⟩ := (HV.out.zn.keep BT.out).cell a haz
        subst e1
        obtain ⟨oa, oc, hvs, -⟩ := own_slice HO.out
        subst hvs
        have HAV : Hid (Is wr (.slice oa (Si.others a b 0 (s.zones.take l3)).length oc) (Si.others a b 0 s.zones)) := Lib.hid (by
          have h9 := own_is HO.out
          have e9 : s.zones.take l3 = s.zones := List.take_of_length_le (by rw [E3.out]; omega)
          rw [e9] at h9 ⊢
          exact h9)
        have HFL := Lib.hid (HV.out.fl.keep BT.out)
        have HU := Lib.hid hu1
        have HCA : Hid (Si.cellsOf s a = s.zones[a].cells) := Lib.hid (Si.cellsOf_eq haz)
        have HFAR : Hid (Si.far s a b = Fl.dist s.floor s.zones[a].cells (Si.others a b 0 s.zones)) := Lib.hid (by unfold Si.far; rw [HCA.out])
        obtain ⟨z1, d1, rfl, -⟩ := hu1.form
        obtain ⟨y1, hy1⟩ : ∃ n, s.zones[a].cells.length = n := ⟨_, rfl⟩
        obtain ⟨y3, hy3⟩ : ∃ n, (Si.others a b 0 (s.zones.take l3)).length = n := ⟨_, rfl⟩
        rw [hy1] at q1 HU
        rw [hy3] at HAV HO ⊢
        have HAZ := Lib.hid haz
        have HBZ := Lib.hid hbz
        have HFR := Lib.hid HK.out.fl
        have BD : Hid (Below wr.heap.size wr wr.drew) := Lib.hid ((Below.refl _ wr).drew)
        have p0 : wr.cell? ⟨w.heap.size, 0, none⟩ = some (.int .i64 s.floor.w) := cell_of_heap J0.out 0 rfl
        have p1 : wr.cell? ⟨w.heap.size, 1, none⟩ = some (.int .i64 s.floor.h) := cell_of_heap J0.out 1 rfl
        have p2 : wr.cell? ⟨w.heap.size, 2, none⟩ = some (.int .i64 s.floor.d) := cell_of_heap J0.out 2 rfl
        have p3 : wr.cell? ⟨w.heap.size, 3, none⟩ = some (.slice a1 l1 c1) := cell_of_heap J0.out 3 rfl
        have p4 : wr.cell? ⟨w.heap.size, 4, none⟩ = some (.slice a2 l2 c2) := cell_of_heap J0.out 4 rfl
        have HDI := Lib.hid (Dist_any s.floor (.slice a1 l1 c1) (.slice a2 l2 c2) (.slice z1 y1 d1) (.slice oa y3 oc) s.zones[a].cells (Si.others a b 0 s.zones) wr.drew HFR.out (HFL.out.keep BD.out) (HU.out.keep BD.out) (HAV.out.keep BD.out))
        have HFE : Hid (Fl.dist s.floor s.zones[a].cells (Si.others a b 0 s.zones) = Si.far s a b) := Lib.hid HFAR.out.symm
        have HFLN : Hid ((Si.far s a b).length = l1) := Lib.hid (by rw [Si.far_len, E1.out])
        clear hu1 hu2 hy1 hy3
        go_upto_region 14 with fail
        go_cut [12] (fun v wx => ∃ g2, v = .slice (some ⟨g2, 0, none⟩) l1 l1 ∧ Hid (wx.heap[g2]? = some (.cells (ints (Si.far s a b)).toArray 3 (0, 0))) ∧ Hid (Below wr.heap.size wr wx))
        case first =>
          go_still_tail 9, (by kernel_rfl)
          change wpList _ _ _ _ _ wr.drew
          go_wp2_with fail
          go_at_call 12; refine HDI.out.mono ?_; rintro e w5 ⟨g2, n2, rfl, hn2, hg2, hh2, hb2⟩
          rw [HFE.out] at hn2 hh2
          rw [HFLN.out] at hn2
          subst hn2
          have HH := Lib.hid hh2
          have B6 := Lib.hid ((show Below wr.heap.size wr wr.drew from BD.out).trans hb2)
          clear hh2 hg2 hb2
          go_wp2_with fail
          go_meet
          exact ⟨g2, rfl, HH, B6⟩
        case rest =>
          obtain ⟨g2, rfl, HG2, HBX⟩ := hcut
          obtain ⟨wL, rfl⟩ : ∃ x : World, x = wc := ⟨_, rfl⟩
          have BW := Lib.hid (BT.out.trans (HBX.out.mono BT.out.size))
          have JW := Lib.hid (keep_heap J0.out HBX.out)
          have lwc : w.heap.size < wL.heap.size := heap_lt JW.out
          have HCW := Lib.hid ((HC4.out.keep HB.out).keep (HBX.out))
          have HLW := Lib.hid ((HL4.out.keep HB.out).keep (HBX.out))
          have HBLK := Lib.hid (Si.blankK_all HRI.out HAZ.out)
          have HMET := Lib.hid (Si.metK_all HRI.out HBZ.out (a := a))
          rw [E1.out] at HBLK HMET
          have hl1 : l1 ≤ 4096 := by have h1 := HK.out.fl.kl; have h2 := HK.out.fl.sz; have h3 := E1.out; omega
          clear p0 p1 p2 p3 p4 p5 q1 lw BD J0 HO HB HBX HDI HAV HU
          go_wp2_with fail
          go_loopw [13, 14, 15, 16] (fun mv bv nv iv wr => ∃ (k bl : Nat) (mt bs : Bool), k ≤ l1 ∧ bl ≤ k ∧ iv = .int .i64 k ∧ mv = .bool mt ∧ bv = .bool bs ∧ nv = .int .i64 bl ∧ Hid (mt = Si.metK s a b k) ∧ Hid (bl = Si.blankK s a k) ∧ Hid (NearB s a b bs) ∧ Hid (Below wL.heap.size wL wr)) (fun _ _ _ iv _ => l1 - (intOf iv).toNat)
          case atStart => exact ⟨0, 0, false, false, by omega, by omega, rfl, rfl, rfl, rfl, Lib.hid rfl, Lib.hid rfl, Lib.hid (NearB.no _ _ _), Lib.hid (Below.refl _ _)⟩
          case round =>
            obtain ⟨k, bl, mt, bs, hkl, hbk, rfl, rfl, rfl, rfl, HMT, HBL, HBS, HBR⟩ := hrel
            have BR := Lib.hid (BW.out.trans (HBR.out.mono BW.out.size))
            have i9 := keep_heap JW.out HBR.out
            have lwr : w.heap.size < wr.heap.size := heap_lt i9
            by_cases hkn : k < l1
            · have hkk : k < s.floor.kind.length := by rw [E1.out]; exact hkn
              have HGR := Lib.hid (keep_heap HG2.out HBR.out)
              have hfk := getD_get (l := Si.far s a b) (i := k) (by rw [HFLN.out]; exact hkn)
              have HM1 := Lib.hid (Si.metK_succ s a b k)
              have HB1 := Lib.hid (Si.blankK_succ s a k)
              obtain ⟨F, hF⟩ : ∃ F, (Si.far s a b).getD k (-1) = F := ⟨_, rfl⟩
              rw [hF] at hfk HM1
              have f0 : wr.cell? ⟨g2, k, none⟩ = some (.int .i64 F) := cell_of_heap HGR.out k (ints_get hfk)
              have lg2 := cell_block_lt f0
              have HZC := Lib.hid (fun W hb => HZO.out HK.out (k : Int) W hb)
              have HNC := Lib.hid (fun (d : Nat) W hb hd => HNX.out HK.out k d W hb hkn hd)
              have hzr := Si.zoneOf_range s.zones (k : Int)
              have HNL := Lib.hid (fun (d m : Nat) (hd : d < 6) (hn : Fl.next s.floor k d = some m) (h1 : Si.zoneOf s.zones (k : Int) = (a : Int)) (h2 : Si.zoneOf s.zones (m : Int) = (b : Int)) => near_linked HRI.out HAZ.out HBZ.out hd hn h1 h2)
              obtain ⟨Z, hZ⟩ : ∃ Z, Si.zoneOf s.zones (k : Int) = Z := ⟨_, rfl⟩
              rw [hZ] at HZC hzr HM1 HB1 HNL
              have k0 : (0 : Int) ≤ (k : Int) := by omega
              have k1 : (k : Int) < (l1 : Int) := by omega
              have hF2 := Lib.hid hfk
              clear hF hZ hfk hkk
              have p0 : wr.cell? ⟨w.heap.size, 0, none⟩ = some (.int .i64 s.floor.w) := cell_of_heap i9 0 rfl
              have p1 : wr.cell? ⟨w.heap.size, 1, none⟩ = some (.int .i64 s.floor.h) := cell_of_heap i9 1 rfl
              have p2 : wr.cell? ⟨w.heap.size, 2, none⟩ = some (.int .i64 s.floor.d) := cell_of_heap i9 2 rfl
              have p3 : wr.cell? ⟨w.heap.size, 3, none⟩ = some (.slice a1 l1 c1) := cell_of_heap i9 3 rfl
              have p4 : wr.cell? ⟨w.heap.size, 4, none⟩ = some (.slice a2 l2 c2) := cell_of_heap i9 4 rfl
              have p5 : wr.cell? ⟨w.heap.size, 5, none⟩ = some (.slice (some ⟨zb, zo, none⟩) l3 c3) := cell_of_heap i9 5 rfl
              have p6 : wr.cell? ⟨w.heap.size, 6, none⟩ = some (.slice a4 l4 c4) := cell_of_heap i9 6 rfl
              have p7 : wr.cell? ⟨w.heap.size, 7, none⟩ = some (.slice a5 l5 c5) := cell_of_heap i9 7 rfl
              have p8 : wr.cell? ⟨w.heap.size, 8, none⟩ = some (.slice a6 l6 c6) := cell_of_heap i9 8 rfl
              have I9 := Lib.hid i9
              clear i9
              go_wp2_with fail
              go_at_call 13; refine (HZC.out _ BR.out).mono ?_; rintro e w5 ⟨rfl, b5⟩
              have B5x := Lib.hid (HBR.out.trans (b5.mono HBR.out.size))
              have f1 : w5.cell? ⟨g2, k, none⟩ = some (.int .i64 F) := (b5.cell (p := ⟨g2, k, none⟩) lg2).trans f0
              clear b5 p0 p1 p2 p3 p4 p5 p6 p7 p8 f0 lg2 lwr HBR BR HGR
              obtain ⟨MT, hMT⟩ : ∃ M, (mt || (decide (Z = (b : Int)) && decide (0 ≤ F))) = M := ⟨_, rfl⟩
              have HMN : Hid (MT = Si.metK s a b (k + 1)) := Lib.hid (by rw [HM1.out, ← hMT, HMT.out])
              have HMD := Lib.hid hMT
              clear hMT
              go_upto_region 22 with fail
              go_cut [13] (fun v wx => v = .bool MT ∧ wx = w5)
              case first =>
                cases mt with
                | true =>
                  have HV2 : Hid (MT = true) := Lib.hid (by rw [← HMD.out]; rfl)
                  go_wp2_with fail
                  go_meet
                  exact ⟨by rw [HV2.out], rfl⟩
                | false =>
                  by_cases hzb : Z = (b : Int)
                  · have t1 : (Z == (b : Int)) = true := by simp [hzb]
                    by_cases hf0 : 0 ≤ F
                    · have HV2 : Hid (MT = true) := Lib.hid (by rw [← HMD.out, decide_eq_true hzb, decide_eq_true hf0]; rfl)
                      have t2 : F ≥ 0 := hf0
                      clear hzb
                      go_wp2_with fail
                      go_meet
                      exact ⟨by rw [HV2.out], rfl⟩
                    · have HV2 : Hid (MT = false) := Lib.hid (by rw [← HMD.out, decide_eq_true hzb, decide_eq_false hf0]; rfl)
                      have t2 : ¬ F ≥ 0 := hf0
                      clear hzb
                      go_wp2_with fail
                      go_meet
                      exact ⟨by rw [HV2.out], rfl⟩
                  · have t1 : (Z == (b : Int)) = false := by simp [hzb]
                    have HV2 : Hid (MT = false) := Lib.hid (by rw [← HMD.out, decide_eq_false hzb]; rfl)
                    clear hzb
                    go_wp2_with fail
                    go_meet
                    exact ⟨by rw [HV2.out], rfl⟩
              case rest =>
                obtain ⟨rfl, hwc⟩ := hcut
                obtain rfl : w5 = wc := hwc.symm
                clear HMT HMD HM1 f1
                by_cases hza : Z = (a : Int)
                · have t1 : (Z == (a : Int)) = true := by simp [hza]
                  have HBN : Hid (bl + 1 = Si.blankK s a (k + 1)) := Lib.hid (by rw [HB1.out, if_pos hza, ← HBL.out])
                  have HZA := Lib.hid hza
                  clear hza
                  go_wp2_with fail
                  go_loopw [14, 18] (fun bv dv wr => ∃ (d : Nat) (bs : Bool), d ≤ 6 ∧ dv = .int .i64 d ∧ bv = .bool bs ∧ Hid (NearB s a b bs) ∧ Hid (Below wL.heap.size wL wr)) (fun _ dv _ => 6 - (intOf dv).toNat)
                  case atStart => exact ⟨0, bs, by omega, rfl, rfl, HBS, B5x⟩
                  case round =>
                    as_aux_lemma =>
                      clear B5x HBS
                      obtain ⟨d, bs, hd, rfl, rfl, HBS, HBR⟩ := hrel
                      by_cases hdn : d < 6
                      · have BR := Lib.hid (BW.out.trans (HBR.out.mono BW.out.size))
                        have i9 := keep_heap JW.out HBR.out
                        have J9 := Lib.hid i9
                        have lwr : w.heap.size < wr.heap.size := heap_lt i9
                        have p0 : wr.cell? ⟨w.heap.size, 0, none⟩ = some (.int .i64 s.floor.w) := cell_of_heap i9 0 rfl
                        have p1 : wr.cell? ⟨w.heap.size, 1, none⟩ = some (.int .i64 s.floor.h) := cell_of_heap i9 1 rfl
                        have p2 : wr.cell? ⟨w.heap.size, 2, none⟩ = some (.int .i64 s.floor.d) := cell_of_heap i9 2 rfl
                        have p3 : wr.cell? ⟨w.heap.size, 3, none⟩ = some (.slice a1 l1 c1) := cell_of_heap i9 3 rfl
                        have p4 : wr.cell? ⟨w.heap.size, 4, none⟩ = some (.slice a2 l2 c2) := cell_of_heap i9 4 rfl
                        have p5 : wr.cell? ⟨w.heap.size, 5, none⟩ = some (.slice (some ⟨zb, zo, none⟩) l3 c3) := cell_of_heap i9 5 rfl
                        have p6 : wr.cell? ⟨w.heap.size, 6, none⟩ = some (.slice a4 l4 c4) := cell_of_heap i9 6 rfl
                        have p7 : wr.cell? ⟨w.heap.size, 7, none⟩ = some (.slice a5 l5 c5) := cell_of_heap i9 7 rfl
                        have p8 : wr.cell? ⟨w.heap.size, 8, none⟩ = some (.slice a6 l6 c6) := cell_of_heap i9 8 rfl
                        clear i9
                        have d0 : (0 : Int) ≤ (d : Int) := by omega
                        have d1 : (d : Int) < 6 := by omega
                        have HNN := Lib.hid (HNC.out d _ BR.out hdn)
                        have HNB := Lib.hid (fun m hn h1 h2 => HNL.out d m hdn hn h1 h2)
                        obtain ⟨NX, hNX⟩ : ∃ x, Fl.next s.floor k d = x := ⟨_, rfl⟩
                        rw [hNX] at HNN HNB
                        clear hNX
                        cases NX with
                        | none =>
                          dsimp only [nextV] at HNN
                          go_wp2_with fail
                          go_at_call 14; refine HNN.out.mono ?_; rintro e w6 ⟨rfl, b6⟩
                          have B6 := Lib.hid (HBR.out.trans (b6.mono HBR.out.size))
                          clear b6
                          cases bs
                          all_goals
                            go_wp2_with fail
                            go_roundw
                            case rel => exact ⟨d + 1, _, by omega, by go_num, rfl, HBS, B6⟩
                            case measure => simp [intOf]; omega
                        | some m =>
                          dsimp only [nextV] at HNN
                          cases bs with
                          | true =>
                            go_wp2_with fail
                            go_at_call 14; refine HNN.out.mono ?_; rintro e w6 ⟨rfl, b6⟩
                            have B6 := Lib.hid (HBR.out.trans (b6.mono HBR.out.size))
                            clear b6
                            go_wp2_with fail
                            go_roundw
                            case rel => exact ⟨d + 1, _, by omega, by go_num, rfl, HBS, B6⟩
                            case measure => simp [intOf]; omega
                          | false =>
                            have HZM := Lib.hid (fun W hb => HZO.out HK.out (m : Int) W hb)
                            have HNB2 := Lib.hid (fun h2 => HNB.out m rfl HZA.out h2)
                            obtain ⟨Y, hY⟩ : ∃ Y, Si.zoneOf s.zones (m : Int) = Y := ⟨_, rfl⟩
                            rw [hY] at HZM HNB2
                            clear hY
                            go_wp2_with fail
                            go_at_call 14; refine HNN.out.mono ?_; rintro e w6 ⟨rfl, b6⟩
                            have B6 := Lib.hid (HBR.out.trans (b6.mono HBR.out.size))
                            have i6 := keep_heap J9.out b6
                            have lw6 : w.heap.size < w6.heap.size := heap_lt i6
                            clear b6 p0 p1 p2 p3 p4 p5 p6 p7 p8 lwr
                            have p0 : w6.cell? ⟨w.heap.size, 0, none⟩ = some (.int .i64 s.floor.w) := cell_of_heap i6 0 rfl
                            have p1 : w6.cell? ⟨w.heap.size, 1, none⟩ = some (.int .i64 s.floor.h) := cell_of_heap i6 1 rfl
                            have p2 : w6.cell? ⟨w.heap.size, 2, none⟩ = some (.int .i64 s.floor.d) := cell_of_heap i6 2 rfl
                            have p3 : w6.cell? ⟨w.heap.size, 3, none⟩ = some (.slice a1 l1 c1) := cell_of_heap i6 3 rfl
                            have p4 : w6.cell? ⟨w.heap.size, 4, none⟩ = some (.slice a2 l2 c2) := cell_of_heap i6 4 rfl
                            have p5 : w6.cell? ⟨w.heap.size, 5, none⟩ = some (.slice (some ⟨zb, zo, none⟩) l3 c3) := cell_of_heap i6 5 rfl
                            have p6 : w6.cell? ⟨w.heap.size, 6, none⟩ = some (.slice a4 l4 c4) := cell_of_heap i6 6 rfl
                            have p7 : w6.cell? ⟨w.heap.size, 7, none⟩ = some (.slice a5 l5 c5) := cell_of_heap i6 7 rfl
                            have p8 : w6.cell? ⟨w.heap.size, 8, none⟩ = some (.slice a6 l6 c6) := cell_of_heap i6 8 rfl
                            clear i6
                            have B6W := Lib.hid (BW.out.trans (B6.out.mono BW.out.size))
                            by_cases hYb : Y = (b : Int)
                            · have t2 : (Y == (b : Int)) = true := by simp [hYb]
                              have HBS2 : Hid (NearB s a b true) := Lib.hid (.yes (HNB2.out hYb))
                              clear hYb
                              go_wp2_with fail
                              go_at_call 13; refine (HZM.out _ B6W.out).mono ?_; rintro e w7 ⟨rfl, b7⟩
                              have B7 := Lib.hid (B6.out.trans (b7.mono B6.out.size))
                              clear b7
                              go_wp2_with fail
                              go_roundw
                              case rel => exact ⟨d + 1, true, by omega, by go_num, rfl, HBS2, B7⟩
                              case measure => simp [intOf]; omega
                            · have t2 : (Y == (b : Int)) = false := by simp [hYb]
                              clear hYb
                              go_wp2_with fail
                              go_at_call 13; refine (HZM.out _ B6W.out).mono ?_; rintro e w7 ⟨rfl, b7⟩
                              have B7 := Lib.hid (B6.out.trans (b7.mono B6.out.size))
                              clear b7
                              go_wp2_with fail
                              go_roundw
                              case rel => exact ⟨d + 1, false, by omega, by go_num, rfl, HBS, B7⟩
                              case measure => simp [intOf]; omega
                      · obtain rfl : d = 6 := by omega
                        have d1 : ((6 : Nat) : Int) = 6 := rfl
                        go_wp2_with fail
                        go_roundw
                        case rel => exact ⟨k + 1, bl + 1, MT, bs, by omega, by omega, by go_num, rfl, rfl, (by first | rfl | go_num), HMN, HBN, HBS, HBR⟩
                        case measure => simp [intOf]; omega
                · have t1 : (Z == (a : Int)) = false := by simp [hza]
                  have HBN : Hid (bl = Si.blankK s a (k + 1)) := Lib.hid (by rw [HB1.out, if_neg hza, ← HBL.out]; rfl)
                  clear hza
                  go_wp2_with fail
                  go_loopw [14, 18] (fun bv dv wr => ∃ (d : Nat) (bs : Bool), d ≤ 6 ∧ dv = .int .i64 d ∧ bv = .bool bs ∧ Hid (NearB s a b bs) ∧ Hid (Below wL.heap.size wL wr)) (fun _ dv _ => 6 - (intOf dv).toNat)
                  case atStart => exact ⟨0, bs, by omega, rfl, rfl, HBS, B5x⟩
                  case round =>
                    as_aux_lemma =>
                      clear B5x HBS
                      obtain ⟨d, bs, hd, rfl, rfl, HBS, HBR⟩ := hrel
                      by_cases hdn : d < 6
                      · have BR := Lib.hid (BW.out.trans (HBR.out.mono BW.out.size))
                        have i9 := keep_heap JW.out HBR.out
                        have J9 := Lib.hid i9
                        have lwr : w.heap.size < wr.heap.size := heap_lt i9
                        have p0 : wr.cell? ⟨w.heap.size, 0, none⟩ = some (.int .i64 s.floor.w) := cell_of_heap i9 0 rfl
                        have p1 : wr.cell? ⟨w.heap.size, 1, none⟩ = some (.int .i64 s.floor.h) := cell_of_heap i9 1 rfl
                        have p2 : wr.cell? ⟨w.heap.size, 2, none⟩ = some (.int .i64 s.floor.d) := cell_of_heap i9 2 rfl
                        have p3 : wr.cell? ⟨w.heap.size, 3, none⟩ = some (.slice a1 l1 c1) := cell_of_heap i9 3 rfl
                        have p4 : wr.cell? ⟨w.heap.size, 4, none⟩ = some (.slice a2 l2 c2) := cell_of_heap i9 4 rfl
                        have p5 : wr.cell? ⟨w.heap.size, 5, none⟩ = some (.slice (some ⟨zb, zo, none⟩) l3 c3) := cell_of_heap i9 5 rfl
                        have p6 : wr.cell? ⟨w.heap.size, 6, none⟩ = some (.slice a4 l4 c4) := cell_of_heap i9 6 rfl
                        have p7 : wr.cell? ⟨w.heap.size, 7, none⟩ = some (.slice a5 l5 c5) := cell_of_heap i9 7 rfl
                        have p8 : wr.cell? ⟨w.heap.size, 8, none⟩ = some (.slice a6 l6 c6) := cell_of_heap i9 8 rfl
                        clear i9
                        have d0 : (0 : Int) ≤ (d : Int) := by omega
                        have d1 : (d : Int) < 6 := by omega
                        have HNN := Lib.hid (HNC.out d _ BR.out hdn)
                        have HNB := Lib.hid (fun m hn h1 h2 => HNL.out d m hdn hn h1 h2)
                        obtain ⟨NX, hNX⟩ : ∃ x, Fl.next s.floor k d = x := ⟨_, rfl⟩
                        rw [hNX] at HNN HNB
                        clear hNX
                        cases NX with
                        | none =>
                          dsimp only [nextV] at HNN
                          go_wp2_with fail
                          go_at_call 14; refine HNN.out.mono ?_; rintro e w6 ⟨rfl, b6⟩
                          have B6 := Lib.hid (HBR.out.trans (b6.mono HBR.out.size))
                          clear b6
                          cases bs
                          all_goals
                            go_wp2_with fail
                            go_roundw
                            case rel => exact ⟨d + 1, _, by omega, by go_num, rfl, HBS, B6⟩
                            case measure => simp [intOf]; omega
                        | some m =>
                          dsimp only [nextV] at HNN
                          go_wp2_with fail
                          go_at_call 14; refine HNN.out.mono ?_; rintro e w6 ⟨rfl, b6⟩
                          have B6 := Lib.hid (HBR.out.trans (b6.mono HBR.out.size))
                          clear b6
                          cases bs
                          all_goals
                            go_wp2_with fail
                            go_roundw
                            case rel => exact ⟨d + 1, _, by omega, by go_num, rfl, HBS, B6⟩
                            case measure => simp [intOf]; omega
                      · obtain rfl : d = 6 := by omega
                        have d1 : ((6 : Nat) : Int) = 6 := rfl
                        go_wp2_with fail
                        go_roundw
                        case rel => exact ⟨k + 1, bl, MT, bs, by omega, by omega, by go_num, rfl, rfl, (by first | rfl | go_num), HMN, HBN, HBS, HBR⟩
                        case measure => simp [intOf]; omega
            · obtain rfl : l1 = k := by omega
              have HBE : Hid (bl = s.zones[a].cells.length) := Lib.hid (HBL.out.trans HBLK.out)
              have HME : Hid (mt = Si.nextZ s a b) := Lib.hid (by rw [HMT.out, HMET.out])
              have HT0 : Hid ((bl : Int) = (bl : Int) - (Si.takenK s 0 a : Int)) := Lib.hid (by simp [Si.takenK])
              have hl5 : l5 ≤ 100000 := by have := HK.out.sn; have := E5.out; omega
              have p7 : wr.cell? ⟨w.heap.size, 7, none⟩ = some (.slice a5 l5 c5) := cell_of_heap i9 7 rfl
              clear i9 HMT HBL HBLK HMET HNX HG2
              go_wp2_with fail
              go_loopw [15, 21] (fun nv iv wr => ∃ (i : Nat) (V : Int), i ≤ l5 ∧ iv = .int .i64 i ∧ nv = .int .i64 V ∧ Hid (V = (bl : Int) - (Si.takenK s i a : Int)) ∧ Hid (Below wL.heap.size wL wr)) (fun _ iv _ => l5 - (intOf iv).toNat)
              case atStart => exact ⟨0, _, by omega, rfl, rfl, HT0, HBR⟩
              case round =>
                clear p7 lwr HBR BR
                obtain ⟨i, V, hi, rfl, rfl, HVV, HBR⟩ := hrel
                have BR := Lib.hid (BW.out.trans (HBR.out.mono BW.out.size))
                have i9 := keep_heap JW.out HBR.out
                have lwr : w.heap.size < wr.heap.size := heap_lt i9
                have p0 : wr.cell? ⟨w.heap.size, 0, none⟩ = some (.int .i64 s.floor.w) := cell_of_heap i9 0 rfl
                have p1 : wr.cell? ⟨w.heap.size, 1, none⟩ = some (.int .i64 s.floor.h) := cell_of_heap i9 1 rfl
                have p2 : wr.cell? ⟨w.heap.size, 2, none⟩ = some (.int .i64 s.floor.d) := cell_of_heap i9 2 rfl
                have p3 : wr.cell? ⟨w.heap.size, 3, none⟩ = some (.slice a1 l1 c1) := cell_of_heap i9 3 rfl
                have p4 : wr.cell? ⟨w.heap.size, 4, none⟩ = some (.slice a2 l2 c2) := cell_of_heap i9 4 rfl
                have p5 : wr.cell? ⟨w.heap.size, 5, none⟩ = some (.slice (some ⟨zb, zo, none⟩) l3 c3) := cell_of_heap i9 5 rfl
                have p6 : wr.cell? ⟨w.heap.size, 6, none⟩ = some (.slice a4 l4 c4) := cell_of_heap i9 6 rfl
                have p7 : wr.cell? ⟨w.heap.size, 7, none⟩ = some (.slice a5 l5 c5) := cell_of_heap i9 7 rfl
                have p8 : wr.cell? ⟨w.heap.size, 8, none⟩ = some (.slice a6 l6 c6) := cell_of_heap i9 8 rfl
                by_cases hin : i < l5
                · as_aux_lemma =>
                    have hku : i < s.shelves.length := by rw [E5.out]; exact hin
                    obtain ⟨sb, so, e1, hsb, q0, q1⟩ := SfV.cell (Rw.keep HV.out.sf BR.out) i hku
                    subst e1
                    have HTS := Lib.hid (Si.takenK_step s i a hku)
                    obtain ⟨C, hC⟩ : ∃ C, s.shelves[i].1 = C := ⟨_, rfl⟩
                    obtain ⟨NM, hNM⟩ : ∃ C, s.shelves[i].2 = C := ⟨_, rfl⟩
                    rw [hC] at q0 HTS
                    rw [hNM] at q1
                    have hzr := Si.zoneOf_range s.zones C
                    have HZC := Lib.hid (fun W hb => HZO.out HK.out C W hb)
                    obtain ⟨Z, hZ⟩ : ∃ Z, Si.zoneOf s.zones C = Z := ⟨_, rfl⟩
                    rw [hZ] at HZC HTS hzr
                    have htl := Si.takenK_le s i a
                    have hv1 : -100000 ≤ V := by have := HVV.out; omega
                    have hv2 : V ≤ 4096 := by have := HVV.out; omega
                    have i0 : (0 : Int) ≤ (i : Int) := by omega
                    have i1 : (i : Int) < (l5 : Int) := by omega
                    clear hC hNM hZ htl
                    by_cases hza : Z = (a : Int)
                    · have t1 : (Z == (a : Int)) = true := by simp [hza]
                      have HVN : Hid (V - 1 = (bl : Int) - (Si.takenK s (i + 1) a : Int)) := Lib.hid (by rw [HTS.out, if_pos hza, HVV.out]; omega)
                      clear hza
                      go_wp2_with fail
                      go_upto_region 33 with fail
                      go_cut [171] (fun v wx => v = .bool true ∧ Hid (Below wr.heap.size wr wx))
                      case first =>
                        go_region_held3 (fun w' => w'.cell? ⟨w.heap.size, 0, none⟩ = some (.int .i64 s.floor.w) ∧ w'.cell? ⟨w.heap.size, 1, none⟩ = some (.int .i64 s.floor.h) ∧ w'.cell? ⟨w.heap.size, 2, none⟩ = some (.int .i64 s.floor.d) ∧ w'.cell? ⟨w.heap.size, 3, none⟩ = some (.slice a1 l1 c1) ∧ w'.cell? ⟨w.heap.size, 4, none⟩ = some (.slice a2 l2 c2) ∧ w'.cell? ⟨w.heap.size, 5, none⟩ = some (.slice (some ⟨zb, zo, none⟩) l3 c3) ∧ w'.cell? ⟨w.heap.size, 6, none⟩ = some (.slice a4 l4 c4) ∧ w'.cell? ⟨w.heap.size, 7, none⟩ = some (.slice (some ⟨sb, so, none⟩) l5 c5) ∧ w'.cell? ⟨w.heap.size, 8, none⟩ = some (.slice a6 l6 c6) ∧ w'.cell? ⟨sb, so + i * 2, none⟩ = some (.int .i64 C)) (go_keep)
                          ((go_at_call 13; refine (HZC.out wr.drew (BR.out.trans (below_drewN _ _ 1))).mono ?_; rintro e w5 ⟨rfl, b5⟩; have BX : Below wr.heap.size wr w5 := (show Below wr.heap.size wr wr.drew from below_drewN _ _ 1).trans b5; have s0 := (BX.cell (p := ⟨w.heap.size, 0, none⟩) lwr).trans p0; have s1 := (BX.cell (p := ⟨w.heap.size, 1, none⟩) lwr).trans p1; have s2 := (BX.cell (p := ⟨w.heap.size, 2, none⟩) lwr).trans p2; have s3 := (BX.cell (p := ⟨w.heap.size, 3, none⟩) lwr).trans p3; have s4 := (BX.cell (p := ⟨w.heap.size, 4, none⟩) lwr).trans p4; have s5 := (BX.cell (p := ⟨w.heap.size, 5, none⟩) lwr).trans p5; have s6 := (BX.cell (p := ⟨w.heap.size, 6, none⟩) lwr).trans p6; have s7 := (BX.cell (p := ⟨w.heap.size, 7, none⟩) lwr).trans p7; have s8 := (BX.cell (p := ⟨w.heap.size, 8, none⟩) lwr).trans p8; have sq := (BX.cell (p := ⟨sb, so + i * 2, none⟩) hsb).trans q0; clear b5))
                        all_goals go_wp2_with fail
                        all_goals
                          go_meet
                          exact ⟨rfl, Lib.hid BX⟩
                      case rest =>
                        obtain ⟨rfl, HBX⟩ := hcut
                        have B5y := Lib.hid (HBR.out.trans (HBX.out.mono HBR.out.size))
                        go_wp2_with fail
                        go_roundw
                        case rel => exact ⟨i + 1, V - 1, by omega, by go_num, by first | rfl | go_num, HVN, B5y⟩
                        case measure => simp [intOf]; omega
                    · have t1 : (Z == (a : Int)) = false := by simp [hza]
                      have HVN : Hid (V = (bl : Int) - (Si.takenK s (i + 1) a : Int)) := Lib.hid (by rw [HTS.out, if_neg hza, HVV.out]; omega)
                      clear hza
                      go_wp2_with fail
                      go_upto_region 33 with fail
                      go_cut [171] (fun v wx => v = .bool false ∧ Hid (Below wr.heap.size wr wx))
                      case first =>
                        go_region_held3 (fun w' => w'.cell? ⟨w.heap.size, 0, none⟩ = some (.int .i64 s.floor.w) ∧ w'.cell? ⟨w.heap.size, 1, none⟩ = some (.int .i64 s.floor.h) ∧ w'.cell? ⟨w.heap.size, 2, none⟩ = some (.int .i64 s.floor.d) ∧ w'.cell? ⟨w.heap.size, 3, none⟩ = some (.slice a1 l1 c1) ∧ w'.cell? ⟨w.heap.size, 4, none⟩ = some (.slice a2 l2 c2) ∧ w'.cell? ⟨w.heap.size, 5, none⟩ = some (.slice (some ⟨zb, zo, none⟩) l3 c3) ∧ w'.cell? ⟨w.heap.size, 6, none⟩ = some (.slice a4 l4 c4) ∧ w'.cell? ⟨w.heap.size, 7, none⟩ = some (.slice (some ⟨sb, so, none⟩) l5 c5) ∧ w'.cell? ⟨w.heap.size, 8, none⟩ = some (.slice a6 l6 c6) ∧ w'.cell? ⟨sb, so + i * 2, none⟩ = some (.int .i64 C)) (go_keep)
                          ((go_at_call 13; refine (HZC.out wr.drew (BR.out.trans (below_drewN _ _ 1))).mono ?_; rintro e w5 ⟨rfl, b5⟩; have BX : Below wr.heap.size wr w5 := (show Below wr.heap.size wr wr.drew from below_drewN _ _ 1).trans b5; have s0 := (BX.cell (p := ⟨w.heap.size, 0, none⟩) lwr).trans p0; have s1 := (BX.cell (p := ⟨w.heap.size, 1, none⟩) lwr).trans p1; have s2 := (BX.cell (p := ⟨w.heap.size, 2, none⟩) lwr).trans p2; have s3 := (BX.cell (p := ⟨w.heap.size, 3, none⟩) lwr).trans p3; have s4 := (BX.cell (p := ⟨w.heap.size, 4, none⟩) lwr).trans p4; have s5 := (BX.cell (p := ⟨w.heap.size, 5, none⟩) lwr).trans p5; have s6 := (BX.cell (p := ⟨w.heap.size, 6, none⟩) lwr).trans p6; have s7 := (BX.cell (p := ⟨w.heap.size, 7, none⟩) lwr).trans p7; have s8 := (BX.cell (p := ⟨w.heap.size, 8, none⟩) lwr).trans p8; have sq := (BX.cell (p := ⟨sb, so + i * 2, none⟩) hsb).trans q0; clear b5))
                        all_goals go_wp2_with fail
                        all_goals
                          go_meet
                          exact ⟨rfl, Lib.hid BX⟩
                      case rest =>
                        obtain ⟨rfl, HBX⟩ := hcut
                        have B5y := Lib.hid (HBR.out.trans (HBX.out.mono HBR.out.size))
                        go_wp2_with fail
                        go_roundw
                        case rel => exact ⟨i + 1, V, by omega, by go_num, rfl, HVN, B5y⟩
                        case measure => simp [intOf]; omega
                · as_aux_lemma =>
                    obtain rfl : l5 = i := by omega
                    have htk := Si.takenK_all s a
                    rw [E5.out] at htk
                    obtain ⟨CP, hCP⟩ : ∃ x, Si.capOf s a = x := ⟨_, rfl⟩
                    obtain ⟨KP, hKP⟩ : ∃ x, (s.zones[a]'HAZ.out).keep = x := ⟨_, rfl⟩
                    have hcs := cap_now HRI.out HAZ.out HBE.out htk HVV.out hKP
                    rw [hCP] at hcs
                    obtain ⟨cb, co, e1, k0⟩ := (HCW.out.keep HBR.out).cell a (by rw [Si.capsL_len]; exact HAZ.out)
                    subst e1
                    have hcg : (Si.capsL s)[a]'(by rw [Si.capsL_len]; exact HAZ.out) = CP := by rw [← hCP]; simp [Si.capsL]
                    rw [hcg] at k0
                    obtain ⟨gb, go', u, e1, k1, hu⟩ := (HLW.out.keep HBR.out).cell a (by rw [Si.linksL_len]; exact HAZ.out)
                    injection e1 with e1; injection e1 with e1 e2; subst e1 e2
                    rw [Nat.zero_add] at k1
                    rw [Si.linksL_get s a HAZ.out] at hu
                    obtain ⟨u1, uc, rfl, -⟩ := hu.form
                    obtain ⟨zb2, zo2, u2, u3, e1, hzb2, hu2, hu3, r0, r1, r2, r3, r4⟩ := (HV.out.zn.keep BR.out).cell a HAZ.out
                    injection e1 with e1; injection e1 with e1 e2; subst e1 e2
                    replace r3 := r3.trans (congrArg (fun x => some (Value.int .i64 x)) hKP)
                    have hkp : 0 ≤ KP ∧ KP ≤ 100000 := by rw [← hKP]; exact HK.out.zk _ (List.getElem_mem HAZ.out)
                    obtain ⟨kp0, kp1⟩ := hkp
                    obtain ⟨cs0, cs1, cs2⟩ := hcs
                    have hv1 : -100000 ≤ V := by have := HVV.out; have := Si.takenK_le s l5 a; omega
                    have hv2 : V ≤ 4096 := by have := HVV.out; omega
                    have HHS := Lib.hid (fun W hb => Has_any _ _ (b : Int) W (hu.keep hb))
                    rw [Si.linked_any HBZ.out] at HHS
                    obtain ⟨L, hL⟩ : ∃ L, Si.linked s a b = L := ⟨_, rfl⟩
                    have HLL : Hid (L = (decide (a ≠ b) && mt)) := Lib.hid (by rw [← hL, HME.out]; rfl)
                    rw [hL] at HHS
                    have HBS2 : Hid (bs = true → a = b ∨ L = true) := Lib.hid (fun h => by subst h; rw [← hL]; exact HBS.out.at)
                    have a9' : (a : Int) < (l5 : Int) + 1 ∨ True := .inr trivial
                    have t1 : decide (CP < 0) = false := by rw [decide_eq_false_iff_not]; omega
                    have t2 : decide (CP > V) = false := by rw [decide_eq_false_iff_not]; omega
                    have HCS2 := Lib.hid cs2
                    have hw1 : IntKind.i64.wrap (V - KP) = V - KP := IntWalk.i64_in _ (by omega)
                    clear hCP hKP hcg hu hu2 hu3 hL HBS htk i9 cs0 cs1
                    go_wp2_with fail
                    go_upto_region 35 with fail
                    go_cut [202] (fun v wx => v = .bool false ∧ Hid (Below wr.heap.size wr wx))
                    case first =>
                      rcases Int.lt_or_le (V - KP) 0 with hm | hm
                      · have t3 : (CP != 0) = false := by simp; omega
                        have t4 : max 0 (V - KP) = 0 := by omega
                        clear cs2
                        go_quiet (fail)
                        go_wp2_with fail
                        all_goals go_meet
                        all_goals exact ⟨by first | rfl | (have h9 := HCS2.out; congr 1; simp; omega), Lib.hid (below_drewN _ _ _)⟩
                      · have t3 : (CP != V - KP) = false := by simp; omega
                        have t4 : max 0 (V - KP) = V - KP := by omega
                        clear cs2
                        go_quiet (fail)
                        go_wp2_with fail
                        all_goals go_meet
                        all_goals exact ⟨by first | rfl | (have h9 := HCS2.out; congr 1; simp; omega), Lib.hid (below_drewN _ _ _)⟩
                    case rest =>
                      obtain ⟨rfl, HBX⟩ := hcut
                      have k1' : wc.cell? ⟨g, a, none⟩ = some (.slice u1 (Si.linksZ s a).length uc) := (HBX.out.cell (p := ⟨g, a, none⟩) (cell_block_lt k1)).trans (by rw [nn_len] at k1; exact k1)
                      rw [nn_len] at HHS
                      clear p0 p1 p2 p3 p4 p5 p6 p7 p8 k0 k1 r0 r1 r2 r3 r4 t1 t2 cs2
                      go_wp2_with fail
                      go_at_call 10; refine (HHS.out _ HBX.out).mono ?_; rintro e w6 ⟨rfl, rfl⟩
                      have BE := Lib.hid (BR.out.trans (HBX.out.mono BR.out.size))
                      by_cases hab2 : a = b
                      · have hLf : L = false := by rw [HLL.out, hab2]; simp
                        subst hLf
                        have t1 : ((a : Int) != (b : Int)) = false := by simp [hab2]
                        have t2 : ((a : Int) == (b : Int)) = true := by simp [hab2]
                        clear hab2
                        cases mt <;> cases bs
                        all_goals
                          go_wp2_with fail
                          go_ret
                          exact ⟨rfl, BE.out⟩
                      · have hLf : L = mt := by rw [HLL.out]; simp [hab2]
                        subst hLf
                        have t1 : ((a : Int) != (b : Int)) = true := by simp; omega
                        have t2 : ((a : Int) == (b : Int)) = false := by simp; omega
                        cases L with
                        | true =>
                          cases bs
                          all_goals
                            go_wp2_with fail
                            go_ret
                            exact ⟨rfl, BE.out⟩
                        | false =>
                          have hbf : bs = false := by
                            cases bs with
                            | false => rfl
                            | true => rcases HBS2.out (by trivial) with h | h
                                      · exact absurd h hab2
                                      · cases h
                          subst hbf
                          clear hab2
                          go_wp2_with fail
                          go_ret
                          exact ⟨rfl, BE.out⟩
end Go.Proofs.YtfcbcpfnaadpeaaDoor
