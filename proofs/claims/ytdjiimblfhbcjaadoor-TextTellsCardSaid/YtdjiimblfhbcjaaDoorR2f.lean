/- Walks of taquinref02: Lines, Unlines, Fields, Escape. -/
import Derived.Test.YtdjiimblfhbcjaaDoorR2e
import Derived.Test.YtdjiimblfhbcjaaDoorTxLaw4
import Derived.Test.YtdjiimblfhbcjaaDoorTxLaw1
namespace Go.Proofs.YtdjiimblfhbcjaaDoor
set_option linter.unusedSimpArgs false
open Go.RowKit

/-- The slice value v owns these strings. -/
def OS (base : Nat) (w : World) (v : Value) (ls : List (List UInt8)) : Prop := w.ownsRow base 9 1 v ls.length (strs ls)
theorem OS.nil (base : Nat) (w : World) : OS base w (.slice none 0 0) [] := ⟨rfl, .inl ⟨rfl, rfl⟩⟩
theorem OS.keep {base : Nat} {w W : World} {v : Value} {l : List (List UInt8)} (h : OS base w v l) (hb : Below w.heap.size w W) : OS base W v l := own_below h hb
theorem OS.sl {base : Nat} {w : World} {v : Value} {l : List (List UInt8)} (h : OS base w v l) (hl : l.length ≤ 1000000000) : Sl w v (strs l) := Sl.of_own h (by unfold maxLen; omega)
theorem wpList_app_str {w : World} {ops : Array Oper} {rest : List Oper} {o : Oper} {a : Act} {Q : Exit → Act → World → Prop} (hgd : o.guard = none) (s x : Operand)
    (ho : o.op = .call { callee := .builtin .append, args := #[s, x], argTypes := #[22, 22] })
    (base : Nat) (v : Value) (l : List (List UInt8)) (hs : a.eval s = v) (hown : OS base w v l)
    (g c : Nat) (t : ByteArray) (hx : a.eval x = .slice (some ⟨g, 0, none⟩) 1 c) (hg : w.heap[g]? = some (.cells #[.string t] 9 (0, 0)))
    (hsz : l.length + 1 ≤ 1000000000) (hbase : base ≤ w.heap.size)
    (h : ∀ v' w', OS base w' v' (l ++ [bs t]) → Below base w w' → wpList Tryd.prog ops Q rest (a.put o.dst v') w') : wpList Tryd.prog ops Q (o :: rest) a w := by
  obtain ⟨i, hi, hz, hsize, hby⟩ := info_parts Tryd.infoStr
  have hlt := hown
  refine wpList_append_own w hgd s x _ ho base 9 i _ 1 16 Tryd.underlying22 hi hz hsize hby rfl (by decide) v l.length (strs l) hs hown ⟨g, 0, none⟩ 1 c [.string t] hx rfl ?_ ?_ (by unfold maxLen; omega) (by omega) hbase ?_
  · intro j u hj
    have h0 : j = 0 := by
      have := (List.getElem?_eq_some_iff.1 hj).1; simpa using this
    subst h0
    simp at hj; subst hj
    simp [World.cell?, Addr.add, hg]
  · intro u hu
    obtain rfl := List.mem_singleton.1 hu
    rfl
  · intro v' w' h2 h3 _
    refine h v' w' ?_ ((Below.refl _ _).grown h3 hbase (fun k hk => (World.ownsRow.lt hlt k hk).1))
    unfold OS
    rw [List.length_append, strs_append]
    have e : strs [bs t] = [.string t] := by
      show [Value.string ⟨(bs t).toArray⟩] = _
      rw [show (⟨(bs t).toArray⟩ : ByteArray) = t from mk_data t]
    rw [e]; exact h2

theorem lnA_step10 (now r : List UInt8) : lnA now (10 :: r) = now :: lnA [] r := by rw [lnA, if_pos rfl]
theorem lnA_step (now r : List UInt8) (c : UInt8) (h : c ≠ 10) : lnA now (c :: r) = lnA (now ++ [c]) r := by rw [lnA, if_neg h]
theorem now_step (s : ByteArray) (f k : Nat) (hf : f ≤ k) (hk : k < s.size) : bs (s.extract f (k + 1)) = bs (s.extract f k) ++ [s[k]] := by
  have h := ex_snoc s f k 1 hf
  rw [h, bs_drop s k hk]; rfl

/-- The relation of Lines' loop. -/
def LnRel (G : List (List UInt8)) (s : ByteArray) (base : Nat) (w : World) (v : Value) (f k : Nat) (wr : World) : Prop :=
  ∃ acc, acc.length ≤ k ∧ OS base wr v acc ∧ G = acc ++ lnA (bs (s.extract f k)) ((bs s).drop k) ∧ Below base w wr
set_option maxRecDepth 100000 in
set_option maxHeartbeats 16000000 in
theorem rLines_any (s : ByteArray) (w : World) (hs : s.size ≤ 100000000) :
    Calls Tryd.prog 38 #[.string s] w fun e w' => ∃ v, e = .returned v ∧ Sl w' v (strs (lines (bs s))) ∧ Below w.heap.size w w' := by
  obtain ⟨G, hG⟩ : ∃ G, G = lines (bs s) := ⟨_, rfl⟩
  rw [← hG]
  have H0 : Hid (LnRel G s w.heap.size w (.slice none 0 0) 0 0 w) := Lib.hid ⟨[], by simp, OS.nil _ _, by rw [hG, lines_eq, ex_self]; rfl, Below.refl _ _⟩
  have HGL : Hid (G.length ≤ 100000001) := Lib.hid (by
    have := unl_count G
    rw [hG, unl_lines, List.length_append, bs_len] at this
    rw [hG]; split at this <;> simp at this <;> omega)
  clear hG
  go_enter Tryd.func38, Tryd.ntmps38
  go_wp2_with fail
  go_loopw [3, 4, 5] (fun v fv iv wr => ∃ (u : Value) (f k : Nat), u = v ∧ f ≤ k ∧ k ≤ s.size ∧ fv = .int .i64 f ∧ iv = .int .i64 k ∧ Hid (LnRel G s w.heap.size w u f k wr)) (fun _ _ iv _ => s.size - (intOf iv).toNat)
  case atStart => exact ⟨_, 0, 0, rfl, by omega, by omega, rfl, rfl, H0⟩
  case round =>
    obtain ⟨u, f, k, rfl, hf, hk, rfl, rfl, HR⟩ := hrel
    clear H0
    by_cases hlt : k < s.size
    · have kI0 : (0 : Int) ≤ (k : Int) := by omega
      have kI1 : (k : Int) < (s.size : Int) := by omega
      have kI2 : (k : Int).toNat = k := by omega
      by_cases h10 : s[k] = 10
      · have e10 : ((s[k].toNat : Int) == 10) = true := u8_is (b := 10) h10
        obtain ⟨acc, hal, hown, hG, hB⟩ := HR.out
        have HO := Lib.hid hown
        have HB := Lib.hid hB
        have hbz := hB.size
        have HG2 : Hid (G = (acc ++ [bs (s.extract f k)]) ++ lnA (bs (s.extract (k + 1) (k + 1))) ((bs s).drop (k + 1))) := Lib.hid (by
          rw [hG, bs_drop s k hlt, h10, lnA_step10, ex_self]; simp)
        clear hown hB hG h10 HR
        have f0 : (0 : Int) ≤ (f : Int) := by omega
        have f1 : (f : Int) ≤ (k : Int) := by omega
        have f2 : (f : Int).toNat = f := by omega
        go_wp2_with (at_builtin; refine wpList_app_str rfl _ _ rfl w.heap.size _ acc rfl (HO.out.keep ((Below.refl _ _).alloc (Nat.le_refl _) _)) wr.heap.size 1 (s.extract f k) rfl (heap_alloc_new _ _) (by omega) (by simp; omega) ?_; intro v' w' h1 h2)
        have HR2 : Hid (LnRel G s w.heap.size w v' (k + 1) (k + 1) w') := Lib.hid ⟨_, by simp; omega, h1, HG2.out, (HB.out.alloc hbz _).trans h2⟩
        clear h1 h2 HO HB HG2
        go_wp2_with fail
        go_roundw
        case rel => exact ⟨_, k + 1, k + 1, rfl, by omega, by omega, by go_num, by go_num, HR2⟩
        case measure => simp [intOf]; omega
      · have e10 : ((s[k].toNat : Int) == 10) = false := u8_ne (b := 10) h10
        have HR2 : Hid (LnRel G s w.heap.size w u f (k + 1) wr) := Lib.hid (by
          obtain ⟨acc, hal, hown, hG, hB⟩ := HR.out
          refine ⟨acc, by omega, hown, ?_, hB⟩
          rw [hG, bs_drop s k hlt, lnA_step _ _ _ h10, now_step s f k hf hlt])
        clear HR h10
        go_wp2_with fail
        go_roundw
        case rel => exact ⟨_, f, k + 1, rfl, by omega, by omega, rfl, by go_num, HR2⟩
        case measure => simp [intOf]; omega
    · obtain rfl : k = s.size := by omega
      obtain ⟨acc, hal, hown, hG, hB⟩ := HR.out
      have hd : (bs s).drop s.size = [] := drop_all s s.size (Nat.le_refl _)
      rw [hd] at hG
      have HO := Lib.hid hown
      have HB := Lib.hid hB
      have hbz := hB.size
      by_cases hlf : f < s.size
      · have f0 : (0 : Int) ≤ (f : Int) := by omega
        have f1 : (f : Int) ≤ (s.size : Int) := by omega
        have f2 : (f : Int).toNat = f := by omega
        have HG2 : Hid (G = acc ++ [bs (s.extract f s.size)]) := Lib.hid (by
          rw [hG, lnA, if_neg]
          intro h
          have := congrArg List.length h
          rw [bs_extract, List.length_take, List.length_drop, bs_len] at this; simp at this; omega)
        clear hown hB hG HR hd
        go_wp2_with (at_builtin; refine wpList_app_str rfl _ _ rfl w.heap.size _ acc rfl (HO.out.keep ((Below.refl _ _).alloc (Nat.le_refl _) _)) wr.heap.size 1 (s.extract f s.size) rfl (heap_alloc_new _ _) (by omega) (by simp; omega) ?_; intro v' w' h1 h2)
        have HR2 : Hid (Sl w' v' (strs G)) := Lib.hid (by
          rw [HG2.out]; exact h1.sl (by have := HGL.out; rw [HG2.out] at this; omega))
        have HB2 := Lib.hid ((HB.out.alloc hbz _).trans h2)
        clear h1 h2 HO HB HG2
        go_wp2_with fail
        go_ret
        exact ⟨_, rfl, HR2.out, HB2.out⟩
      · obtain rfl : f = s.size := by omega
        have HG2 : Hid (G = acc) := Lib.hid (by rw [hG, ex_self]; simp [lnA])
        clear hown hB hG HR hd
        have HR2 : Hid (Sl wr u (strs G)) := Lib.hid (by
          rw [HG2.out]; exact HO.out.sl (by omega))
        go_wp2_with fail
        go_ret
        exact ⟨_, rfl, HR2.out, HB.out⟩

/-- The relation of Fields' loop. -/
def FdRel (G : List (List UInt8)) (s nw : ByteArray) (base : Nat) (w : World) (v : Value) (k : Nat) (wr : World) : Prop :=
  ∃ acc, acc.length ≤ k ∧ OS base wr v acc ∧ G = acc ++ fd (bs nw) ((bs s).drop k) ∧ Below base w wr
theorem wh_of {c : UInt8} (h : c = 32 ∨ c = 9 ∨ c = 10) : wh c = true := by rcases h with rfl | rfl | rfl <;> decide
theorem fd_in (now r : List UInt8) (c : UInt8) (h : wh c = false) : fd now (c :: r) = fd (now ++ [c]) r := by rw [fd, if_neg (by rw [h]; simp)]
theorem fd_out (now r : List UInt8) (c : UInt8) (h : wh c = true) (hn : now ≠ []) : fd now (c :: r) = now :: fd [] r := by rw [fd, if_pos h, if_neg hn]
theorem fd_skip1 (r : List UInt8) (c : UInt8) (h : wh c = true) : fd [] (c :: r) = fd [] r := by rw [fd, if_pos h, if_pos rfl]
theorem now_app (nw s : ByteArray) (k : Nat) (hk : k < s.size) : bs (nw ++ s.extract k (k + 1)) = bs nw ++ [s[k]] := by
  rw [bs_app, now_step s k k (Nat.le_refl _) hk, ex_self]; rfl
theorem size_app (a b : ByteArray) : (a ++ b).size = a.size + b.size := by rw [← bs_len, bs_app, List.length_append, bs_len, bs_len]
set_option maxRecDepth 100000 in
set_option maxHeartbeats 16000000 in
theorem rFields_any (s : ByteArray) (w : World) (hs : s.size ≤ 100000000) :
    Calls Tryd.prog 40 #[.string s] w fun e w' => ∃ v, e = .returned v ∧ Sl w' v (strs (fd [] (bs s))) ∧ Below w.heap.size w w' := by
  obtain ⟨G, hG⟩ : ∃ G, G = fd [] (bs s) := ⟨_, rfl⟩
  rw [← hG]
  have H0 : Hid (FdRel G s ⟨#[]⟩ w.heap.size w (.slice none 0 0) 0 w) := Lib.hid ⟨[], by simp, OS.nil _ _, by rw [hG]; rfl, Below.refl _ _⟩
  have HGL : Hid (G.length ≤ 100000001) := Lib.hid (by
    have := fd_count (bs s) []
    rw [hG, ]; rw [bs_len] at this; omega)
  clear hG
  go_enter Tryd.func40, Tryd.ntmps40
  go_wp2_with fail
  go_loopw [3, 4, 5] (fun v nv iv wr => ∃ (u : Value) (nw : ByteArray) (k : Nat), u = v ∧ nv = .string nw ∧ nw.size ≤ k ∧ k ≤ s.size ∧ iv = .int .i64 k ∧ Hid (FdRel G s nw w.heap.size w u k wr)) (fun _ _ iv _ => s.size - (intOf iv).toNat)
  case atStart => exact ⟨_, _, 0, rfl, rfl, by decide, by omega, rfl, H0⟩
  case round =>
    obtain ⟨u, nw, k, rfl, rfl, hn, hk, rfl, HR⟩ := hrel
    clear H0
    by_cases hlt : k < s.size
    · have kI0 : (0 : Int) ≤ (k : Int) := by omega
      have kI1 : (k : Int) < (s.size : Int) := by omega
      have kI2 : (k : Int).toNat = k := by omega
      obtain ⟨c, hc⟩ : ∃ c, c = s[k] := ⟨_, rfl⟩
      have hidx : s[k] = c := hc.symm
      have HD : Hid ((bs s).drop k = c :: (bs s).drop (k + 1)) := Lib.hid (by rw [hc]; exact bs_drop s k hlt)
      have HA : Hid (bs (nw ++ s.extract k (k + 1)) = bs nw ++ [c]) := Lib.hid (by rw [hc]; exact now_app nw s k hlt)
      clear hc
      by_cases hw : c = 32 ∨ c = 9 ∨ c = 10
      · have HWH := Lib.hid (wh_of hw)
        by_cases hne : nw.size = 0
        · obtain rfl : nw = ⟨#[]⟩ := bs_inj' (List.eq_nil_of_length_eq_zero (by rw [bs_len]; exact hne))
          have HR2 : Hid (FdRel G s ⟨#[]⟩ w.heap.size w u (k + 1) wr) := Lib.hid (by
            obtain ⟨acc, hal, hown, hG, hB⟩ := HR.out
            refine ⟨acc, by omega, hown, ?_, hB⟩
            rw [hG, HD.out]; exact congrArg _ (fd_skip1 _ _ HWH.out))
          clear HR HA hne
          rcases hw with h | h | h
          · have e1 : ((c.toNat : Int) != 32) = false := by have := u8_is (b := 32) h; rw [bne]; rw [show ((c.toNat : Int) == 32) = true from this]; rfl
            clear h
            go_wp2_with fail
            go_roundw
            case rel => exact ⟨_, _, k + 1, rfl, rfl, Nat.zero_le _, by omega, by go_num, HR2⟩
            case measure => simp [intOf]; omega
          · have e0 : ((c.toNat : Int) != 32) = true := by subst h; decide
            have e1 : ((c.toNat : Int) != 9) = false := by subst h; decide
            clear h
            go_wp2_with fail
            go_roundw
            case rel => exact ⟨_, _, k + 1, rfl, rfl, Nat.zero_le _, by omega, by go_num, HR2⟩
            case measure => simp [intOf]; omega
          · have e0 : ((c.toNat : Int) != 32) = true := by subst h; decide
            have e1 : ((c.toNat : Int) != 9) = true := by subst h; decide
            have e2 : ((c.toNat : Int) != 10) = false := by subst h; decide
            clear h
            go_wp2_with fail
            go_roundw
            case rel => exact ⟨_, _, k + 1, rfl, rfl, Nat.zero_le _, by omega, by go_num, HR2⟩
            case measure => simp [intOf]; omega
        · obtain ⟨acc, hal, hown, hG, hB⟩ := HR.out
          have HO := Lib.hid hown
          have HB := Lib.hid hB
          have hbz := hB.size
          have hq1 : ¬ nw.toList = [] := by rw [toList_bs]; exact fun e => by have := bs_len nw; rw [e] at this; simp at this; omega
          have hq3 : nw.toList.isEmpty = false := by cases h : nw.toList with | nil => exact absurd h hq1 | cons _ _ => rfl
          have HG2 : Hid (G = (acc ++ [bs nw]) ++ fd (bs ⟨#[]⟩) ((bs s).drop (k + 1))) := Lib.hid (by
            rw [hG, HD.out, fd_out _ _ _ HWH.out (by rw [← toList_bs]; exact hq1)]; simp; rfl)
          clear hown hB hG HR HA hne
          rcases hw with h | h | h
          · have e1 : ((c.toNat : Int) != 32) = false := by subst h; decide
            clear h
            go_wp2_with (at_builtin; refine wpList_app_str rfl _ _ rfl w.heap.size _ acc rfl (HO.out.keep ((Below.refl _ _).alloc (Nat.le_refl _) _)) wr.heap.size 1 nw rfl (heap_alloc_new _ _) (by omega) (by simp; omega) ?_; intro v' w' h1 h2)
            have HR2 : Hid (FdRel G s ⟨#[]⟩ w.heap.size w v' (k + 1) w') := Lib.hid ⟨_, by simp; omega, h1, HG2.out, (HB.out.alloc hbz _).trans h2⟩
            clear h1 h2 HO HB HG2
            go_wp2_with fail
            go_roundw
            case rel => exact ⟨_, _, k + 1, rfl, rfl, Nat.zero_le _, by omega, by go_num, HR2⟩
            case measure => simp [intOf]; omega
          · have e0 : ((c.toNat : Int) != 32) = true := by subst h; decide
            have e1 : ((c.toNat : Int) != 9) = false := by subst h; decide
            clear h
            go_wp2_with (at_builtin; refine wpList_app_str rfl _ _ rfl w.heap.size _ acc rfl (HO.out.keep ((Below.refl _ _).alloc (Nat.le_refl _) _)) wr.heap.size 1 nw rfl (heap_alloc_new _ _) (by omega) (by simp; omega) ?_; intro v' w' h1 h2)
            have HR2 : Hid (FdRel G s ⟨#[]⟩ w.heap.size w v' (k + 1) w') := Lib.hid ⟨_, by simp; omega, h1, HG2.out, (HB.out.alloc hbz _).trans h2⟩
            clear h1 h2 HO HB HG2
            go_wp2_with fail
            go_roundw
            case rel => exact ⟨_, _, k + 1, rfl, rfl, Nat.zero_le _, by omega, by go_num, HR2⟩
            case measure => simp [intOf]; omega
          · have e0 : ((c.toNat : Int) != 32) = true := by subst h; decide
            have e1 : ((c.toNat : Int) != 9) = true := by subst h; decide
            have e2 : ((c.toNat : Int) != 10) = false := by subst h; decide
            clear h
            go_wp2_with (at_builtin; refine wpList_app_str rfl _ _ rfl w.heap.size _ acc rfl (HO.out.keep ((Below.refl _ _).alloc (Nat.le_refl _) _)) wr.heap.size 1 nw rfl (heap_alloc_new _ _) (by omega) (by simp; omega) ?_; intro v' w' h1 h2)
            have HR2 : Hid (FdRel G s ⟨#[]⟩ w.heap.size w v' (k + 1) w') := Lib.hid ⟨_, by simp; omega, h1, HG2.out, (HB.out.alloc hbz _).trans h2⟩
            clear h1 h2 HO HB HG2
            go_wp2_with fail
            go_roundw
            case rel => exact ⟨_, _, k + 1, rfl, rfl, Nat.zero_le _, by omega, by go_num, HR2⟩
            case measure => simp [intOf]; omega
      · rw [not_or, not_or] at hw
        have HWH : Hid (wh c = false) := Lib.hid (by unfold wh; simp [hw.1, hw.2.1, hw.2.2])
        have e0 : ((c.toNat : Int) != 32) = true := by have := u8_ne (b := 32) hw.1; rw [bne]; rw [show ((c.toNat : Int) == 32) = false from this]; rfl
        have e1 : ((c.toNat : Int) != 9) = true := by have := u8_ne (b := 9) hw.2.1; rw [bne]; rw [show ((c.toNat : Int) == 9) = false from this]; rfl
        have e2 : ((c.toNat : Int) != 10) = true := by have := u8_ne (b := 10) hw.2.2; rw [bne]; rw [show ((c.toNat : Int) == 10) = false from this]; rfl
        have HR2 : Hid (FdRel G s (nw ++ s.extract k (k + 1)) w.heap.size w u (k + 1) wr) := Lib.hid (by
          obtain ⟨acc, hal, hown, hG, hB⟩ := HR.out
          refine ⟨acc, by omega, hown, ?_, hB⟩
          rw [hG, HD.out, HA.out, fd_in _ _ _ HWH.out])
        have hns : (nw ++ s.extract k (k + 1)).size ≤ k + 1 := by rw [size_app, ByteArray.size_extract]; omega
        have hna : ¬ 9223372036854775807 < nw.size + (s.extract k (k + 1)).size := by rw [ByteArray.size_extract]; omega
        have hex : (s.extract k (k + 1)).size = 1 := by rw [ByteArray.size_extract]; omega
        have HX := Lib.hid hex
        clear HR hw HA HD hex
        go_wp2_with fail
        go_roundw
        case rel => exact ⟨_, _, k + 1, rfl, rfl, hns, by omega, by go_num, HR2⟩
        case measure => simp [intOf]; omega
    · obtain rfl : k = s.size := by omega
      obtain ⟨acc, hal, hown, hG, hB⟩ := HR.out
      have hd : (bs s).drop s.size = [] := drop_all s s.size (Nat.le_refl _)
      rw [hd] at hG
      have HO := Lib.hid hown
      have HB := Lib.hid hB
      have hbz := hB.size
      by_cases hne : nw.size = 0
      · obtain rfl : nw = ⟨#[]⟩ := bs_inj' (List.eq_nil_of_length_eq_zero (by rw [bs_len]; exact hne))
        have HG2 : Hid (G = acc) := Lib.hid (by rw [hG, show bs ⟨#[]⟩ = [] from rfl]; simp [fd])
        clear hown hB hG HR hd hne
        have HR2 : Hid (Sl wr u (strs G)) := Lib.hid (by
          rw [HG2.out]; exact HO.out.sl (by omega))
        go_wp2_with fail
        go_ret
        exact ⟨_, rfl, HR2.out, HB.out⟩
      · have hq1 : ¬ nw.toList = [] := by rw [toList_bs]; exact fun e => by have := bs_len nw; rw [e] at this; simp at this; omega
        have hq3 : nw.toList.isEmpty = false := by cases h : nw.toList with | nil => exact absurd h hq1 | cons _ _ => rfl
        have HG2 : Hid (G = acc ++ [bs nw]) := Lib.hid (by rw [hG, fd, if_neg (by rw [← toList_bs]; exact hq1)])
        clear hown hB hG HR hd hne
        go_wp2_with (at_builtin; refine wpList_app_str rfl _ _ rfl w.heap.size _ acc rfl (HO.out.keep ((Below.refl _ _).alloc (Nat.le_refl _) _)) wr.heap.size 1 nw rfl (heap_alloc_new _ _) (by omega) (by simp; omega) ?_; intro v' w' h1 h2)
        have HR2 : Hid (Sl w' v' (strs G)) := Lib.hid (by
          rw [HG2.out]; exact h1.sl (by have := HGL.out; rw [HG2.out] at this; omega))
        have HB2 := Lib.hid ((HB.out.alloc hbz _).trans h2)
        clear h1 h2 HO HB HG2
        go_wp2_with fail
        go_ret
        exact ⟨_, rfl, HR2.out, HB2.out⟩

theorem conv1d (c : UInt8) (w : World) : Sem.run Tryd.prog (convert 46 9 (.slice (some ⟨w.heap.size, 0, none⟩) 1 1)) (w.alloc (.cells #[.int .u8 c.toNat] 5)).drew = .ok (.string ⟨#[c]⟩) (w.alloc (.cells #[.int .u8 c.toNat] 5)).drew := by
  have h := run_convert_bytes_back (P := Tryd.prog) (w.alloc (.cells #[.int .u8 c.toNat] 5)).drew 46 9 5 ⟨w.heap.size, 0, none⟩ 1 [c] Tryd.underlying46 Tryd.underlying5 Tryd.underlying9
  exact h (fun j hj => by
    have h0 : j = 0 := by simpa using hj
    subst h0
    simp [Addr.add])
set_option maxRecDepth 100000 in
set_option maxHeartbeats 16000000 in
theorem rUnlines_any (v : Value) (ls : List (List UInt8)) (w : World) (h : Sl w v (strs ls)) (hs : (unl ls).length ≤ 1000000) :
    Calls Tryd.prog 39 #[v] w fun e w' => e = .returned (.string ⟨(unl ls).toArray⟩) ∧ Below w.heap.size w w' := by
  obtain ⟨a, ca, rfl, hla⟩ := h.len
  rw [strs_len] at h hla ⊢
  obtain ⟨n, hn⟩ : ∃ n, n = ls.length := ⟨_, rfl⟩
  rw [← hn] at h hla ⊢
  have HT := Lib.hid h
  have HN := Lib.hid hn
  clear h hn
  go_enter Tryd.func39, Tryd.ntmps39
  go_wp2_with fail
  go_loopw [3, 4] (fun o i wr => ∃ (s : ByteArray) (k : Nat), k ≤ n ∧ i = .int .i64 k ∧ o = .string s ∧ Hid (bs s = unl (ls.take k)) ∧ Hid (Below w.heap.size w wr)) (fun _ i _ => n - (intOf i).toNat)
  case atStart => exact ⟨⟨#[]⟩, 0, by omega, rfl, rfl, Lib.hid (by rfl), Lib.hid (Below.refl _ _)⟩
  case round =>
    obtain ⟨s, k, hk, rfl, rfl, HS, HB⟩ := hrel
    by_cases hlt : k < n
    · have hkt : k < ls.length := by rw [← HN.out]; exact hlt
      obtain ⟨b, off, cb, e1, q0⟩ := (HT.out.below HB.out).str n HN.out k hkt
      cases e1
      have kI0 : (0 : Int) ≤ (k : Int) := by omega
      have kI1 : (k : Int) < (n : Int) := by omega
      have kI2 : (k : Int).toNat = k := by omega
      have hw1 := unl1_le ls k hkt
      rw [← HS.out, bs_len] at hw1
      have hsz := lit_size ls[k]
      have HS2 : Hid (bs (s ++ ⟨ls[k].toArray⟩ ++ ⟨#[10]⟩) = unl (ls.take (k + 1))) := Lib.hid (by rw [unl_take ls k hkt, bs_app, bs_app, bs_lit0 ls[k], HS.out, List.append_assoc]; rfl)
      generalize ls[k] = t at *
      have na : ¬ 9223372036854775807 < s.size + (⟨t.toArray⟩ : ByteArray).size := by omega
      have na2 : ¬ 9223372036854775807 < s.size + t.length := by omega
      have nb : ¬ 9223372036854775807 < s.size + t.length + 1 := by omega
      have hbz := HB.out.size
      have hcv : Sem.run Tryd.prog (convert 46 9 (.slice (some ⟨wr.heap.size, 0, none⟩) 1 1)) (wr.alloc (.cells #[.int .u8 10] 5)).drew = .ok (.string ⟨#[10]⟩) (wr.alloc (.cells #[.int .u8 10] 5)).drew := conv1d 10 wr
      have q1 : (wr.alloc (.cells #[.int .u8 10] 5)).cell? ⟨b, off + k, none⟩ = some (.string ⟨t.toArray⟩) := (((Below.refl wr.heap.size wr).alloc (Nat.le_refl _) _).cell (p := ⟨b, off + k, none⟩) (cell_lt q0)).trans q0
      clear hw1
      go_wp2_with fail
      go_region
      all_goals
        have HB2 := Lib.hid ((HB.out.alloc hbz (.cells #[.int .u8 10] 5)).drew)
        go_wp2_with fail
        go_roundw
        case rel => exact ⟨_, k + 1, by omega, by go_num, rfl, HS2, HB2⟩
        case measure => simp [intOf]; omega
    · have hkn : ls.take k = ls := List.take_of_length_le (by rw [← HN.out]; omega)
      rw [hkn] at HS
      obtain rfl : s = ⟨(unl ls).toArray⟩ := bs_inj' (by rw [bs_lit0]; exact HS.out)
      go_wp2_with fail
      go_ret
      exact ⟨rfl, HB.out⟩
theorem es1_cases (c : UInt8) : (Pat.es1 c = [92, c] ∧ (c = 42 ∨ c = 63 ∨ c = 91 ∨ c = 92)) ∨ (Pat.es1 c = [c] ∧ c ≠ 42 ∧ c ≠ 63 ∧ c ≠ 91 ∧ c ≠ 92) := by
  have h : (List.range 256).all (fun n => ((Pat.es1 (UInt8.ofNat n) == [92, UInt8.ofNat n]) && (UInt8.ofNat n == 42 || UInt8.ofNat n == 63 || UInt8.ofNat n == 91 || UInt8.ofNat n == 92)) || ((Pat.es1 (UInt8.ofNat n) == [UInt8.ofNat n]) && UInt8.ofNat n != 42 && UInt8.ofNat n != 63 && UInt8.ofNat n != 91 && UInt8.ofNat n != 92)) = true := by decide +kernel
  have h2 := List.all_eq_true.1 h c.toNat (List.mem_range.2 c.toNat_lt)
  rw [UInt8.ofNat_toNat] at h2
  simpa [and_assoc, or_assoc] using h2
theorem es_take (s : ByteArray) (k : Nat) (hk : k < s.size) : Pat.es ((bs s).take (k + 1)) = Pat.es ((bs s).take k) ++ Pat.es1 s[k] := by
  rw [bs_take s k hk]; simp [Pat.es]
theorem es_len (l : List UInt8) : (Pat.es l).length ≤ 2 * l.length := by rw [← esc_es]; exact esc_len l
set_option maxRecDepth 100000 in
set_option maxHeartbeats 16000000 in
theorem rEscape_any (s : ByteArray) (w : World) (hs : s.size ≤ 100000000) :
    Calls Tryd.prog 44 #[.string s] w fun e w' => e = .returned (.string ⟨(Pat.es (bs s)).toArray⟩) ∧ Below w.heap.size w w' := by
  go_enter Tryd.func44, Tryd.ntmps44
  go_wp2_with fail
  go_loopw [3, 4] (fun v iv wr => ∃ k : Nat, k ≤ s.size ∧ iv = .int .i64 k ∧ Hid (OB w.heap.size wr v (Pat.es ((bs s).take k))) ∧ Hid (Below w.heap.size w wr)) (fun _ iv _ => s.size - (intOf iv).toNat)
  case atStart => exact ⟨0, by omega, rfl, Lib.hid (OB.nil _ _), Lib.hid (Below.refl _ _)⟩
  case round =>
    obtain ⟨k, hk, rfl, HO, HW⟩ := hrel
    by_cases hlt : k < s.size
    · have hlen : (Pat.es ((bs s).take k)).length ≤ 2 * k := by
        have := es_len ((bs s).take k)
        rw [List.length_take] at this; omega
      have HT := Lib.hid (es_take s k hlt)
      have kI0 : (0 : Int) ≤ (k : Int) := by omega
      have kI1 : (k : Int) < (s.size : Int) := by omega
      have kI2 : (k : Int).toNat = k := by omega
      have hwb : w.heap.size ≤ wr.heap.size := HW.out.size
      obtain ⟨l, hl⟩ : ∃ l, l = Pat.es ((bs s).take k) := ⟨_, rfl⟩
      rw [← hl] at HO HT hlen
      clear hl
      obtain ⟨c, hc⟩ : ∃ c, c = s[k] := ⟨_, rfl⟩
      have hidx : s[k] = c := hc.symm
      rw [hidx] at HT
      clear hc
      rcases es1_cases c with ⟨h1, h2⟩ | ⟨h1, h2, h3, h4, h5⟩
      · rw [h1] at HT
        clear h1
        rcases h2 with h | h | h | h
        · have e1 : ((c.toNat : Int) == 42) = true := by rw [h]; decide
          clear h
          go_wp2_with (at_builtin; refine wpList_app_bytes rfl _ (.tmp 34) rfl w.heap.size _ l rfl (HO.out.keep ((Below.refl _ _).alloc (Nat.le_refl _) _)) wr.heap.size 1 [92] #[.int .u8 92] rfl (heap_alloc_new _ _) (by rfl) (by simp; omega) (by simp; omega) ?_)
          intro v' w' h1 h2
          have HO2 := Lib.hid h1
          have HW2 : Hid (Below w.heap.size w w') := Lib.hid ((HW.out.alloc hwb _).trans h2)
          have hwb2 := HW2.out.size
          clear h1 h2 HO HW
          go_wp2_with (at_builtin; refine wpList_app_bytes rfl _ (.tmp 40) rfl w.heap.size _ (l ++ [92]) rfl (HO2.out.keep ((Below.refl _ _).alloc (Nat.le_refl _) _)) w'.heap.size 1 [c] #[.int .u8 c.toNat] rfl (heap_alloc_new _ _) (by rfl) (by simp; omega) (by simp; omega) ?_)
          intro v'' w'' h1 h2
          have HO3 := Lib.hid h1
          have HW3 : Hid (Below w.heap.size w w'') := Lib.hid ((HW2.out.alloc hwb2 _).trans h2)
          clear h1 h2 HO2 HW2
          go_wp2_with fail
          go_roundw
          case rel => exact ⟨k + 1, by omega, by go_num, Lib.hid (by rw [HT.out]; exact HO3.out), HW3⟩
          case measure => simp [intOf]; omega
        · have e1 : ((c.toNat : Int) == 42) = false := by rw [h]; decide
          have e2 : ((c.toNat : Int) == 63) = true := by rw [h]; decide
          clear h
          go_wp2_with (at_builtin; refine wpList_app_bytes rfl _ (.tmp 34) rfl w.heap.size _ l rfl (HO.out.keep ((Below.refl _ _).alloc (Nat.le_refl _) _)) wr.heap.size 1 [92] #[.int .u8 92] rfl (heap_alloc_new _ _) (by rfl) (by simp; omega) (by simp; omega) ?_)
          intro v' w' h1 h2
          have HO2 := Lib.hid h1
          have HW2 : Hid (Below w.heap.size w w') := Lib.hid ((HW.out.alloc hwb _).trans h2)
          have hwb2 := HW2.out.size
          clear h1 h2 HO HW
          go_wp2_with (at_builtin; refine wpList_app_bytes rfl _ (.tmp 40) rfl w.heap.size _ (l ++ [92]) rfl (HO2.out.keep ((Below.refl _ _).alloc (Nat.le_refl _) _)) w'.heap.size 1 [c] #[.int .u8 c.toNat] rfl (heap_alloc_new _ _) (by rfl) (by simp; omega) (by simp; omega) ?_)
          intro v'' w'' h1 h2
          have HO3 := Lib.hid h1
          have HW3 : Hid (Below w.heap.size w w'') := Lib.hid ((HW2.out.alloc hwb2 _).trans h2)
          clear h1 h2 HO2 HW2
          go_wp2_with fail
          go_roundw
          case rel => exact ⟨k + 1, by omega, by go_num, Lib.hid (by rw [HT.out]; exact HO3.out), HW3⟩
          case measure => simp [intOf]; omega
        · have e1 : ((c.toNat : Int) == 42) = false := by rw [h]; decide
          have e2 : ((c.toNat : Int) == 63) = false := by rw [h]; decide
          have e3 : ((c.toNat : Int) == 91) = true := by rw [h]; decide
          clear h
          go_wp2_with (at_builtin; refine wpList_app_bytes rfl _ (.tmp 34) rfl w.heap.size _ l rfl (HO.out.keep ((Below.refl _ _).alloc (Nat.le_refl _) _)) wr.heap.size 1 [92] #[.int .u8 92] rfl (heap_alloc_new _ _) (by rfl) (by simp; omega) (by simp; omega) ?_)
          intro v' w' h1 h2
          have HO2 := Lib.hid h1
          have HW2 : Hid (Below w.heap.size w w') := Lib.hid ((HW.out.alloc hwb _).trans h2)
          have hwb2 := HW2.out.size
          clear h1 h2 HO HW
          go_wp2_with (at_builtin; refine wpList_app_bytes rfl _ (.tmp 40) rfl w.heap.size _ (l ++ [92]) rfl (HO2.out.keep ((Below.refl _ _).alloc (Nat.le_refl _) _)) w'.heap.size 1 [c] #[.int .u8 c.toNat] rfl (heap_alloc_new _ _) (by rfl) (by simp; omega) (by simp; omega) ?_)
          intro v'' w'' h1 h2
          have HO3 := Lib.hid h1
          have HW3 : Hid (Below w.heap.size w w'') := Lib.hid ((HW2.out.alloc hwb2 _).trans h2)
          clear h1 h2 HO2 HW2
          go_wp2_with fail
          go_roundw
          case rel => exact ⟨k + 1, by omega, by go_num, Lib.hid (by rw [HT.out]; exact HO3.out), HW3⟩
          case measure => simp [intOf]; omega
        · have e1 : ((c.toNat : Int) == 42) = false := by rw [h]; decide
          have e2 : ((c.toNat : Int) == 63) = false := by rw [h]; decide
          have e3 : ((c.toNat : Int) == 91) = false := by rw [h]; decide
          have e4 : ((c.toNat : Int) == 92) = true := by rw [h]; decide
          clear h
          go_wp2_with (at_builtin; refine wpList_app_bytes rfl _ (.tmp 34) rfl w.heap.size _ l rfl (HO.out.keep ((Below.refl _ _).alloc (Nat.le_refl _) _)) wr.heap.size 1 [92] #[.int .u8 92] rfl (heap_alloc_new _ _) (by rfl) (by simp; omega) (by simp; omega) ?_)
          intro v' w' h1 h2
          have HO2 := Lib.hid h1
          have HW2 : Hid (Below w.heap.size w w') := Lib.hid ((HW.out.alloc hwb _).trans h2)
          have hwb2 := HW2.out.size
          clear h1 h2 HO HW
          go_wp2_with (at_builtin; refine wpList_app_bytes rfl _ (.tmp 40) rfl w.heap.size _ (l ++ [92]) rfl (HO2.out.keep ((Below.refl _ _).alloc (Nat.le_refl _) _)) w'.heap.size 1 [c] #[.int .u8 c.toNat] rfl (heap_alloc_new _ _) (by rfl) (by simp; omega) (by simp; omega) ?_)
          intro v'' w'' h1 h2
          have HO3 := Lib.hid h1
          have HW3 : Hid (Below w.heap.size w w'') := Lib.hid ((HW2.out.alloc hwb2 _).trans h2)
          clear h1 h2 HO2 HW2
          go_wp2_with fail
          go_roundw
          case rel => exact ⟨k + 1, by omega, by go_num, Lib.hid (by rw [HT.out]; exact HO3.out), HW3⟩
          case measure => simp [intOf]; omega
      · rw [h1] at HT
        have e1 : ((c.toNat : Int) == 42) = false := u8_ne (b := 42) h2
        have e2 : ((c.toNat : Int) == 63) = false := u8_ne (b := 63) h3
        have e3 : ((c.toNat : Int) == 91) = false := u8_ne (b := 91) h4
        have e4 : ((c.toNat : Int) == 92) = false := u8_ne (b := 92) h5
        clear h1 h2 h3 h4 h5
        go_wp2_with (at_builtin; refine wpList_app_bytes rfl _ (.tmp 40) rfl w.heap.size _ l rfl (HO.out.keep ((Below.refl _ _).alloc (Nat.le_refl _) _)) wr.heap.size 1 [c] #[.int .u8 c.toNat] rfl (heap_alloc_new _ _) (by rfl) (by simp; omega) (by simp; omega) ?_)
        intro v' w' h1 h2
        have HO2 := Lib.hid h1
        have HW2 : Hid (Below w.heap.size w w') := Lib.hid ((HW.out.alloc hwb _).trans h2)
        clear h1 h2 HO HW
        go_wp2_with fail
        go_roundw
        case rel => exact ⟨k + 1, by omega, by go_num, Lib.hid (by rw [HT.out]; exact HO2.out), HW2⟩
        case measure => simp [intOf]; omega
    · obtain rfl : k = s.size := by omega
      rw [show (bs s).take s.size = bs s by rw [← bs_len, List.take_length]] at HO
      have HCV := Lib.hid (conv_own HO.out)
      have hcv := HCV.out
      go_wp2_with fail
      go_ret
      exact ⟨rfl, HW.out⟩
end Go.Proofs.YtdjiimblfhbcjaaDoor
