/- Parts Mb of this claim, laid one behind the other: walks and the plain laws behind them; each contract states its own conditions. -/
import Derived.Test.YtcdfmgobokjcnaaGreatDoorShelf
import Derived.Test.YtcdfmgobokjcnaaGreatDoorZL
/- Walks of package survey: cells, shut, Name, Apart. -/
namespace Go.Proofs.YtcdfmgobokjcnaaGreatDoor
set_option linter.unusedSimpArgs false
set_option linter.unusedVariables false
open Go.RowKit Go.Maps

/-- The first cells are cells of the floor, ascending. -/
structure AscK (f : Fl.Floor) (l : List Int) : Prop where
  cell : ∀ c ∈ l, inK f c = true
  asc : l.Pairwise (· < ·)
theorem AscK.nil (f : Fl.Floor) : AscK f [] := ⟨fun c h => (by cases h), List.Pairwise.nil⟩
theorem AscK.step {f : Fl.Floor} {l : List Int} {k : Nat} (h : AscK f (l.take k)) (hk : k < l.length) (h1 : inK f l[k] = true) (h2 : ∀ j, (hj : j + 1 = k) → l[j]'(by omega) < l[k]) : AscK f (l.take (k + 1)) := by
  rw [List.take_succ_eq_append_getElem hk]
  refine ⟨fun c hc => ?_, ?_⟩
  · rcases List.mem_append.1 hc with h3 | h3
    · exact h.cell c h3
    · rw [List.mem_singleton] at h3; subst h3; exact h1
  · rw [List.pairwise_append]
    refine ⟨h.asc, by simp, fun x hx y hy => ?_⟩
    rw [List.mem_singleton] at hy
    subst hy
    obtain ⟨i, hi, rfl⟩ := List.getElem_of_mem hx
    rw [List.length_take] at hi
    have hj := h2 (k - 1) (by omega)
    rw [List.getElem_take]
    rcases Nat.lt_or_eq_of_le (show i ≤ k - 1 by omega) with h4 | h4
    · have h5 := List.pairwise_iff_getElem.1 h.asc i (k - 1) (by rw [List.length_take]; omega) (by rw [List.length_take]; omega) h4
      rw [List.getElem_take, List.getElem_take] at h5
      omega
    · subst h4; exact hj
set_option maxRecDepth 100000 in
set_option maxHeartbeats 16000000 in
theorem cellsM_any (f : Fl.Floor) (B : Nat) (cs : Array Value) (kv v : Value) (l : List Int) (w : World) (hB : w.heap[B]? = some (.cells cs 153 (0, 0))) (h3 : cs[3]? = some kv) (hk : Is w kv f.kind) (h : Is w v l) :
    Calls Tryz.prog 74 #[.pointer (some ⟨B, 0, none⟩), v] w fun e w' => TruePost (AscK f l ∧ l ≠ []) e ∧ w = w' := by
  obtain ⟨a, cap, rfl, hm⟩ := h.form
  have HK := Lib.hid (fun c => kindAt_any f B cs kv c w hB h3 hk)
  have H := Lib.hid h
  obtain ⟨n, hn⟩ : ∃ n, l.length = n := ⟨_, rfl⟩
  rw [hn] at hm H ⊢
  have HN := Lib.hid hn
  have H0 : Hid (AscK f (l.take 0)) := Lib.hid (by rw [List.take_zero]; exact .nil f)
  clear h hn hB h3 hk
  go_enter Tryz.func74, Tryz.ntmps74
  go_wp2_with fail
  go_loop [11] (fun iv => ∃ k : Nat, k ≤ n ∧ iv = .int .i64 k ∧ Hid (AscK f (l.take k))) (fun iv => n - (intOf iv).toNat)
  case atStart => exact ⟨0, by omega, rfl, H0⟩
  case round =>
    obtain ⟨k, hk, rfl, HA⟩ := hrel
    by_cases hkn : k < n
    · have hkl : k < l.length := by rw [HN.out]; exact hkn
      obtain ⟨b, off, e, hc⟩ := H.out.cell k hkl
      subst e
      have HCK := Lib.hid (HK.out l[k])
      have HST := Lib.hid (fun h1 h2 => HA.out.step hkl h1 h2)
      have HPV : Hid (∀ j, (hj : j + 1 = k) → w.cell? ⟨b, off + j, none⟩ = some (.int .i64 (l[j]'(by omega)))) := Lib.hid (fun j hj => by
        obtain ⟨b2, off2, e2, hc2⟩ := H.out.cell j (by omega)
        injection e2 with e2; injection e2 with e2 e3; subst e2 e3
        exact hc2)
      have k0 : (0 : Int) ≤ (k : Int) := by omega
      have k1 : (k : Int) < (n : Int) := by omega
      obtain ⟨C, hC⟩ : ∃ C, l[k] = C := ⟨_, rfl⟩
      rw [hC] at hc HCK HST
      obtain ⟨T, hT⟩ : ∃ T, inK f C = T := ⟨_, rfl⟩
      rw [hT] at HCK HST
      obtain ⟨KO, hKO⟩ : ∃ T, kOf f C = T := ⟨_, rfl⟩
      rw [hKO] at HCK
      clear hC hT hKO
      cases T with
      | false =>
        go_wp2_with fail
        go_at_call 110; refine HCK.out.mono ?_; rintro e w1 ⟨rfl, rfl⟩
        go_wp2_with fail
        go_ret
        exact ⟨TruePost.no _, rfl⟩
      | true =>
        rcases Nat.eq_zero_or_pos k with hk0 | hk0
        · have HNX : Hid (AscK f (l.take (k + 1))) := Lib.hid (HST.out rfl (fun j hj => by omega))
          have t0 : ¬ (k : Int) > 0 := by omega
          clear hk0
          go_wp2_with fail
          go_at_call 110; refine HCK.out.mono ?_; rintro e w1 ⟨rfl, rfl⟩
          go_wp2_with fail
          go_round
          case rel => exact ⟨k + 1, by omega, by go_num, HNX⟩
          case measure => simp [intOf]; omega
        · obtain ⟨j, hj⟩ : ∃ j, j + 1 = k := ⟨k - 1, by omega⟩
          have hp := HPV.out j hj
          have j1 : IntKind.i64.wrap ((k : Int) - 1) = (j : Int) := by rw [show (k : Int) - 1 = (j : Int) by omega]; exact IntWalk.i64_in _ (by omega)
          have j2 : (0 : Int) ≤ (j : Int) := by omega
          have j3 : (j : Int) < (n : Int) := by omega
          have j4 : (k : Int) > 0 := by omega
          have hjl : j < l.length := by omega
          obtain ⟨D, hD⟩ : ∃ D, l[j]'hjl = D := ⟨_, rfl⟩
          rw [hD] at hp
          have HD := Lib.hid hD
          have HJ := Lib.hid hj
          clear hD hj hk0
          by_cases hlt : D ≥ C
          · go_wp2_with fail
            go_at_call 110; refine HCK.out.mono ?_; rintro e w1 ⟨rfl, rfl⟩
            go_wp2_with fail
            go_ret
            exact ⟨TruePost.no _, rfl⟩
          · have HNX : Hid (AscK f (l.take (k + 1))) := Lib.hid (HST.out rfl (fun i hi => by
              have e : i = j := by have := HJ.out; omega
              subst e; rw [HD.out]; omega))
            go_wp2_with fail
            go_at_call 110; refine HCK.out.mono ?_; rintro e w1 ⟨rfl, rfl⟩
            go_wp2_with fail
            go_round
            case rel => exact ⟨k + 1, by omega, by go_num, HNX⟩
            case measure => simp [intOf]; omega
    · obtain rfl : n = k := by omega
      have HAL : Hid (AscK f l) := Lib.hid (by have h9 := HA.out; rw [List.take_of_length_le (by rw [HN.out]; omega)] at h9; exact h9)
      rcases Nat.eq_zero_or_pos n with h0 | h0
      · subst h0
        have z0 : ((0 : Nat) : Int) = 0 := rfl
        go_wp2_with fail
        go_ret
        exact ⟨TruePost.no _, rfl⟩
      · have hne : Hid (l ≠ []) := Lib.hid (fun e => by have h9 := HN.out; rw [e] at h9; simp at h9; omega)
        go_wp2_with fail
        go_ret
        exact ⟨⟨_, rfl, fun _ => ⟨HAL.out, hne.out⟩⟩, rfl⟩
set_option maxRecDepth 100000 in
set_option maxHeartbeats 8000000 in
theorem shut_any (v : Value) (l : List (Int × Int)) (w : World) (h : ShV w v l) :
    Calls Tryz.prog 73 #[v] w fun e w' => ABool e ∧ Below w.heap.size w w' := by
  obtain ⟨a, cap, rfl, hm⟩ := two_form h
  have H := Lib.hid h
  obtain ⟨n, hn⟩ : ∃ n, l.length = n := ⟨_, rfl⟩
  rw [hn] at hm H ⊢
  have HN := Lib.hid hn
  clear h hn
  go_enter Tryz.func73, Tryz.ntmps73
  go_wp2_with fail
  go_loopw [3, 8] (fun lv iv wr => ∃ (k : Nat) (L : Int), k ≤ n ∧ iv = .int .i64 k ∧ lv = .int .i64 L ∧ Hid (Below w.heap.size w wr)) (fun _ iv _ => n - (intOf iv).toNat)
  case atStart => exact ⟨0, 0, by omega, rfl, rfl, Lib.hid (Below.refl _ _)⟩
  case round =>
    obtain ⟨k, L, hk, rfl, rfl, HB⟩ := hrel
    by_cases hkn : k < n
    · have hkl : k < l.length := by rw [HN.out]; exact hkn
      obtain ⟨b, off, e1, -, c0, c1⟩ := ShV.cell (Rw.keep H.out HB.out) k hkl
      subst e1
      obtain ⟨F, hF⟩ : ∃ y, l[k].1 = y := ⟨_, rfl⟩
      obtain ⟨T, hT⟩ : ∃ y, l[k].2 = y := ⟨_, rfl⟩
      rw [hF] at c0
      rw [hT] at c1
      have k1 : (k : Int) < (n : Int) := by omega
      have k0 : (0 : Int) ≤ (k : Int) := by omega
      have HB2 := Lib.hid (HB.out.alloc HB.out.size (.cells #[.int .i64 F, .int .i64 T] 155))
      clear hF hT
      go_wp2_with fail
      all_goals first
        | (go_ret; exact ⟨⟨_, rfl⟩, HB2.out⟩)
        | (go_roundw
           case rel => exact ⟨k + 1, T, by omega, by go_num, rfl, HB2⟩
           case measure => simp [intOf]; omega)
    · go_wp2_with fail
      all_goals
        go_ret
        exact ⟨⟨_, rfl⟩, HB.out⟩
set_option maxRecDepth 100000 in
set_option maxHeartbeats 8000000 in
theorem SName_any (s : ByteArray) (w : World) (hs : s.size ≤ 9223372036854775807) :
    Calls Tryz.prog 71 #[.string s] w fun e w' => ABool e ∧ w = w' := by
  obtain ⟨n, hn⟩ : ∃ n, s.size = n := ⟨_, rfl⟩
  have HN := Lib.hid hn
  rw [hn] at hs
  have hIB := fun (t : ByteArray) (c : Int) => Tryz.strings_IndexByte t c w
  have HIB := Lib.hid hIB
  clear hIB
  go_enter Tryz.func71, Tryz.ntmps71
  go_upto_region 1 with fail
  go_cut [21] (fun v wx => ∃ b : Bool, v = .bool b ∧ Hid (b = false → 1 ≤ n) ∧ wx = w)
  case first =>
    by_cases h0 : n < 1
    · go_wp2_with fail
      all_goals
        go_meet
        exact ⟨_, rfl, Lib.hid (fun h => by simp at h), rfl⟩
    · have h1 : ¬ (n : Int) < 1 := by omega
      have h2 : 0 < s.size := by omega
      go_wp2_with fail
      all_goals
        go_meet
        exact ⟨_, rfl, Lib.hid (fun h => by omega), rfl⟩
  case rest =>
    obtain ⟨b, rfl, H1, rfl⟩ := hcut
    cases b with
    | true =>
      go_wp2_with fail
      go_ret
      exact ⟨⟨_, rfl⟩, rfl⟩
    | false =>
      go_wp2_with fail
      go_loop [24] (fun iv => ∃ k : Nat, k ≤ n ∧ iv = .int .i64 k) (fun iv => n - (intOf iv).toNat)
      case atStart => exact ⟨0, by omega, rfl⟩
      case round =>
        obtain ⟨k, hk, rfl⟩ := hrel
        by_cases hkn : k < n
        · have k1 : (k : Int) < (n : Int) := by omega
          have k0 : (0 : Int) ≤ (k : Int) := by omega
          have k2 : k < s.size := by omega
          go_wp2_with fail
          go_at_call 103; refine (HIB.out _ _).mono ?_; rintro e w1 ⟨rfl, rfl⟩
          go_wp2_with fail
          all_goals first
            | (go_ret; exact ⟨⟨_, rfl⟩, rfl⟩)
            | (go_round
               case rel => exact ⟨k + 1, by omega, by go_num⟩
               case measure => simp [intOf]; omega)
        · go_wp2_with fail
          all_goals
            go_ret
            exact ⟨⟨_, rfl⟩, rfl⟩
set_option maxRecDepth 100000 in
set_option maxHeartbeats 8000000 in
theorem IndexA_any (v : Value) (l : List (List UInt8 × List UInt8)) (s t : ByteArray) (w : World) (h : ApV w v l) :
    Calls Tryz.prog 184 #[v, .agg #[.string s, .string t]] w fun e w' => (∃ n : Int, e = .returned (.int .i64 n)) ∧ Below w.heap.size w w' := by
  obtain ⟨a, cap, rfl, hm⟩ := two_form h
  have H := Lib.hid h
  obtain ⟨n, hn⟩ : ∃ n, l.length = n := ⟨_, rfl⟩
  rw [hn] at hm H ⊢
  have HN := Lib.hid hn
  have B1 := Lib.hid ((Below.refl _ w).alloc (Nat.le_refl _) (.cells #[.string s, .string t] 109))
  have I1 := Lib.hid (heap_alloc_new w (.cells #[.string s, .string t] 109))
  clear h hn
  go_enter Tryz.func184, Tryz.ntmps184
  go_wp2_with fail
  go_loopw [8] (fun iv wr => ∃ k : Nat, k ≤ n ∧ iv = .int .i64 k ∧ Hid (Below w.heap.size w wr) ∧ Hid (wr.heap[w.heap.size]? = some (.cells #[.string s, .string t] 109 (0, 0)))) (fun iv _ => n - (intOf iv).toNat)
  case atStart => exact ⟨0, by omega, rfl, B1, I1⟩
  case round =>
    obtain ⟨k, hk, rfl, HB, HI⟩ := hrel
    by_cases hkn : k < n
    · have hkl : k < l.length := by rw [HN.out]; exact hkn
      obtain ⟨b, off, e1, hb, c0, c1⟩ := ApV.cell (Rw.keep H.out HB.out) k hkl
      subst e1
      have p0 := cell_of_heap HI.out 0 (v := .string s) rfl
      have p1 := cell_of_heap HI.out 1 (v := .string t) rfl
      have hw : w.heap.size < wr.heap.size := heap_lt HI.out
      obtain ⟨y, hy⟩ : ∃ y : ByteArray, ⟨l[k].1.toArray⟩ = y := ⟨_, rfl⟩
      obtain ⟨z, hz⟩ : ∃ y : ByteArray, ⟨l[k].2.toArray⟩ = y := ⟨_, rfl⟩
      rw [hy] at c0
      rw [hz] at c1
      have k1 : (k : Int) < (n : Int) := by omega
      have k0 : (0 : Int) ≤ (k : Int) := by omega
      have BQ : Hid (∀ q, Below w.heap.size w (wr.drewN q)) := Lib.hid (fun q => HB.out.trans (below_drewN _ _ _))
      have IQ : Hid (∀ q, (wr.drewN q).heap[w.heap.size]? = some (.cells #[.string s, .string t] 109 (0, 0))) := Lib.hid (fun q => keep_heap HI.out (below_drewN _ _ q))
      have heq := fun (W : World) => apart_eql s t y z W
      clear hy hz
      go_wp2_with fail
      go_quiet (fail)
      go_wp2_with fail
      all_goals first
        | (go_ret; exact ⟨⟨_, rfl⟩, BQ.out _⟩)
        | (go_roundw
           case rel => exact ⟨k + 1, by omega, by go_num, Lib.hid (BQ.out _), Lib.hid (IQ.out _)⟩
           case measure => simp [intOf]; omega)
    · go_wp2_with fail
      all_goals
        go_ret
        exact ⟨⟨_, rfl⟩, HB.out⟩
theorem ContainsA_any (v : Value) (l : List (List UInt8 × List UInt8)) (s t : ByteArray) (w : World) (h : ApV w v l) :
    Calls Tryz.prog 150 #[v, .agg #[.string s, .string t]] w fun e w' => ABool e ∧ Below w.heap.size w w' := by
  have HX := Lib.hid (fun W hb => IndexA_any v l s t W (Rw.keep h hb))
  have B1 := Lib.hid ((Below.refl _ w).alloc (Nat.le_refl _) (.cells #[.string s, .string t] 109))
  clear h
  go_enter Tryz.func150, Tryz.ntmps150
  go_wp2_with fail
  go_at_call 184; refine (HX.out _ B1.out).mono ?_; rintro e w1 ⟨⟨n, rfl⟩, b1⟩
  have B2 := Lib.hid (B1.out.trans (b1.mono B1.out.size))
  clear b1
  go_wp2_with fail
  go_ret
  exact ⟨⟨_, rfl⟩, B2.out⟩
theorem SApart_any (v : Value) (l : List (List UInt8 × List UInt8)) (s t : ByteArray) (w : World) (h : ApV w v l) :
    Calls Tryz.prog 112 #[v, .string s, .string t] w fun e w' => ABool e ∧ Below w.heap.size w w' := by
  have HX := Lib.hid (fun s t W hb => ContainsA_any v l s t W (Rw.keep h hb))
  have B0 := Lib.hid (Below.refl w.heap.size w)
  clear h
  go_enter Tryz.func112, Tryz.ntmps112
  go_upto_region 1 with fail
  go_cut [12] (fun v wx => IsB v ∧ wx = w)
  case first =>
    go_wp2_with fail
    all_goals
      go_meet
      exact ⟨⟨_, rfl⟩, rfl⟩
  case rest =>
    obtain ⟨⟨b, rfl⟩, rfl⟩ := hcut
    cases b with
    | true =>
      go_wp2_with fail
      go_ret
      exact ⟨⟨_, rfl⟩, B0.out⟩
    | false =>
      go_wp2_with fail
      go_at_call 150; refine (HX.out _ _ _ B0.out).mono ?_; rintro e w1 ⟨⟨b, rfl⟩, b1⟩
      have B1 := Lib.hid b1
      clear b1
      cases b with
      | true =>
        go_wp2_with fail
        go_ret
        exact ⟨⟨_, rfl⟩, B1.out⟩
      | false =>
        go_wp2_with fail
        go_at_call 150; refine (HX.out _ _ _ B1.out).mono ?_; rintro e w2 ⟨⟨b, rfl⟩, b2⟩
        have B2 := Lib.hid (B1.out.trans (b2.mono B1.out.size))
        clear b2
        go_wp2_with fail
        go_ret
        exact ⟨⟨_, rfl⟩, B2.out⟩
end Go.Proofs.YtcdfmgobokjcnaaGreatDoor
