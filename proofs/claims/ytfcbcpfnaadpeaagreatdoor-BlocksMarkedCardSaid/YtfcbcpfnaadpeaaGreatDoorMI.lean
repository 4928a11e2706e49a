/- Parts Wi, Pw, Px, Py, Ps, Pt of this claim, laid one behind the other: walks and the plain laws behind them; each contract states its own conditions. -/
import Derived.Shelf.Spec.TrailingZeros
import Derived.Test.YtfcbcpfnaadpeaaGreatDoorMF
import Derived.Test.YtfcbcpfnaadpeaaGreatDoorShelf
namespace Go.Proofs.YtfcbcpfnaadpeaaGreatDoor
set_option maxRecDepth 100000
set_option maxHeartbeats 64000000
set_option linter.unusedSimpArgs false
set_option linter.unusedVariables false
open Go.RowKit
theorem Tryz.intInfo0 : (Tryz.prog.info? 3).map (fun i => (i.zero, i.size, i.bytes)) = some (some (.int .i64 0), 1, 8) := by kernel_rfl
theorem news_one {w : World} {g : Nat} {u : Value} {t : TypeId} {fr : Nat × Nat} (hg : w.heap[g]? = some (.cells #[u] t fr)) : ∀ j y, [u][j]? = some y → w.cell? ((⟨g, 0, none⟩ : Addr).add j) = some y := by
 intro j y hj
 have h0 : j = 0 := by have := (List.getElem?_eq_some_iff.1 hj).1; simpa using this
 subst h0
 simp at hj; subst hj
 rw [Addr.add_lit]; exact cell_of_heap hg 0 rfl
theorem wpList_app_int {w : World} {ops : Array Oper} {rest : List Oper} {o : Oper} {a : Act} {Q : Exit → Act → World → Prop} (hgd : o.guard = none) (s x : Operand)
 (ho : o.op = .call { callee := .builtin .append, args := #[s, x], argTypes := #[22, 22] })
 (base : Nat) (v : Value) (n : Nat) (xs : List Value) (hs : a.eval s = v) (hown : w.ownsRow base 3 1 v n xs)
 (g c : Nat) (y : Int) (hx : a.eval x = .slice (some ⟨g, 0, none⟩) 1 c) (hg : w.heap[g]? = some (.cells #[.int .i64 y] 3 (0, 0)))
 (hsz : n + 1 ≤ 1000000000) (hbase : base ≤ w.heap.size)
 (h : ∀ a' c' w', w'.ownsRow base 3 1 (.slice a' (n + 1) c') (n + 1) (xs ++ [.int .i64 y]) → w.grownBy w' v.ownBlock → wpList Tryz.prog ops Q rest (a.put o.dst (.slice a' (n + 1) c')) w') : wpList Tryz.prog ops Q (o :: rest) a w := by
 obtain ⟨i, hi, hz, hsize, hby⟩ := info_parts Tryz.intInfo0
 refine wpList_append_own w hgd s x _ ho base 3 i _ 1 8 Tryz.underlying22 hi hz hsize hby rfl (by decide) v n xs hs hown ⟨g, 0, none⟩ 1 c [.int .i64 y] hx rfl (news_one hg) ?_ (by unfold maxLen; omega) (by omega) hbase ?_
 · intro u hu
   obtain rfl := List.mem_singleton.1 hu
   rfl
 · intro v' w' h2 h3 _
   obtain ⟨a', c', rfl, -⟩ := own_slice h2
   exact h a' c' w' h2 h3
theorem step_app_int {w : World} {ops : Array Oper} {o : Oper} {a : Act} {K : Act → World → Prop} {Q : Exit → Act → World → Prop} {E : Prop} (hgd : o.guard = none) (s x : Operand)
 (ho : o.op = .call { callee := .builtin .append, args := #[s, x], argTypes := #[22, 22] })
 (base : Nat) (v : Value) (n : Nat) (xs : List Value) (hs : a.eval s = v) (hown : w.ownsRow base 3 1 v n xs)
 (g c : Nat) (y : Int) (hx : a.eval x = .slice (some ⟨g, 0, none⟩) 1 c) (hg : w.heap[g]? = some (.cells #[.int .i64 y] 3 (0, 0)))
 (hsz : n + 1 ≤ 1000000000) (hbase : base ≤ w.heap.size)
 (h : ∀ a' c' w', w'.ownsRow base 3 1 (.slice a' (n + 1) c') (n + 1) (xs ++ [.int .i64 y]) → w.grownBy w' v.ownBlock → K (a.put o.dst (.slice a' (n + 1) c')) w') :
 if Region.wanted o (yielded ops a.tmps) = true then Oper.wp Tryz.prog o a w K Q else E := by
 obtain ⟨i, hi, hz, hsize, hby⟩ := info_parts Tryz.intInfo0
 refine step_append_lies _ hgd s x _ ho base 3 i _ 1 8 Tryz.underlying22 hi hz hsize hby rfl (by decide) v n xs hs hown ⟨g, 0, none⟩ 1 c [.int .i64 y] hx rfl (news_one hg) ?_ (by omega) (by unfold maxLen; omega) (by omega) hbase _ rfl ?_
 · intro u hu
   obtain rfl := List.mem_singleton.1 hu
   rfl
 · intro g' c' w' h2 h3 _ _
   exact h _ c' w' h2 h3
structure Env (w : World) : Prop where
 tab : TabAt 0 Lib.deBruijn64tab w
 lt : 0 < w.heap.size
theorem Env.below {w w' : World} (h : Env w) (hb : Below w.heap.size w w') : Env w' :=
 ⟨fun j hj => (hb.cell (p := ⟨0, j, none⟩) h.lt).trans (h.tab j hj), Nat.lt_of_lt_of_le h.lt hb.size⟩
theorem ctz_bits {x : Nat} (h0 : x ≠ 0) (h : x < 18446744073709551616) : Lib.ctz 64 x < 64 ∧ x.testBit (Lib.ctz 64 x) = true ∧ ∀ j, j < Lib.ctz 64 x → x.testBit j = false := by
 have e : Lib.ctz 64 x = Lib.ctzFrom 64 x := by unfold Lib.ctz; rw [if_neg h0]
 obtain ⟨m, hm, hk⟩ := Lib.ctzFrom_spec 64 x (by omega) (by simpa using h)
 rw [e]
 obtain ⟨k, hk2⟩ : ∃ k, Lib.ctzFrom 64 x = k := ⟨_, rfl⟩
 rw [hk2] at hm hk ⊢
 refine ⟨hk, ?_, fun j hj => ?_⟩
 · rw [hm, Nat.mul_comm, Nat.testBit_mul_two_pow]
   simp [Nat.testBit_zero]
 · rw [hm, Nat.mul_comm, Nat.testBit_mul_two_pow]
   have : ¬ k ≤ j := by omega
   simp [this]
theorem tz_core (x k idx : Nat) (w : World) (hx0 : ((x : Int) == 0) = false)
 (key : IntKind.u64.wrap (bits BinOp.and IntKind.u64 (x : Int) (IntKind.u64.wrap (-(x : Int))) * 285870213051353865) / 288230376151711744 = (idx : Int))
 (hi : idx < 64) (hk : k < 64) (hcell : w.cell? ⟨0, idx, none⟩ = some (.int .u8 k)) :
 Calls Tryz.prog 144 #[.int .u64 x] w fun e w' => e = .returned (.int .i64 k) ∧ w = w' := by
 go_enter Tryz.func144, Tryz.ntmps144
 go_wp2_with (simp only [key])
 go_ret
 exact ⟨rfl, rfl⟩
theorem tz_any (x : Nat) (w : World) (h0 : x ≠ 0) (hx : x < 18446744073709551616) (hE : Env w) :
 Calls Tryz.prog 144 #[.int .u64 x] w fun e w' => e = .returned (.int .i64 (Lib.ctz 64 x)) ∧ w = w' := by
 obtain ⟨hlow, hk⟩ := Lib.lowest_bit 64 x h0 hx
 obtain ⟨hi, htab⟩ := Lib.deBruijn64_at _ hk
 have hcell := hE.tab _ hi
 rw [htab] at hcell
 exact tz_core x _ _ w (by simp; omega) (tz64_key x _ hx h0 hlow) hi hk hcell
theorem and_pred_lt {y : Nat} (h : y ≠ 0) : y &&& (y - 1) < y := by
 have := Nat.and_le_right (n := y) (m := y - 1)
 omega
theorem bits_and_nat (a b : Nat) (ha : a < 18446744073709551616) (hb : b < 18446744073709551616) : bits .and .u64 (a : Int) (b : Int) = ((a &&& b : Nat) : Int) := bits_and_u64_nat a b ha hb
theorem wpList_app_int_up {w : World} {ops : Array Oper} {rest : List Oper} {o : Oper} {a : Act} {Q : Exit → Act → World → Prop} (hgd : o.guard = none) (s x : Operand)
 (ho : o.op = .call { callee := .builtin .append, args := #[s, x], argTypes := #[22, 22] })
 (base : Nat) (v : Value) (n : Nat) (xs : List Value) (hs : a.eval s = v) (hown : w.ownsRow base 3 1 v n xs)
 (g c : Nat) (y : Int) (hx : a.eval x = .slice (some ⟨g, 0, none⟩) 1 c) (hg : w.heap[g]? = some (.cells #[.int .i64 y] 3 (0, 0)))
 (hsz : n + 1 ≤ 1000000000) (hbase : base ≤ w.heap.size)
 (h : ∀ a' c' w', w'.ownsRow base 3 1 (.slice a' (n + 1) c') (n + 1) (xs ++ [.int .i64 y]) → w.grownBy w' v.ownBlock → w.drawn ≤ w'.drawn → wpList Tryz.prog ops Q rest (a.put o.dst (.slice a' (n + 1) c')) w') : wpList Tryz.prog ops Q (o :: rest) a w := by
 obtain ⟨i, hi, hz, hsize, hby⟩ := info_parts Tryz.intInfo0
 refine wpList_append_up w hgd s x _ ho base 3 i _ 8 Tryz.underlying22 hi hz hsize hby rfl v n xs hs hown ⟨g, 0, none⟩ c (.int .i64 y) hx rfl (by rw [Addr.add_lit]; exact cell_of_heap hg 0 rfl) (by unfold maxLen; omega) (by omega) hbase ?_
 intro v' w' h2 h3 h4
 obtain ⟨a', c', rfl, -⟩ := own_slice h2
 exact h a' c' w' h2 h3 h4
def ListPost (w : World) (l : List Nat) (e : Ending) (w' : World) : Prop := ∃ a c, e = .returned (.slice a l.length c) ∧ w'.ownsRow w.heap.size 3 1 (.slice a l.length c) l.length (ints (Si.nn l)) ∧ Up w w'
theorem list_any (x : Nat) (w : World) (hx : x < 18446744073709551616) (hE : Env w) : Calls Tryz.prog 61 #[.int .u64 x] w (ListPost w (Pt.listW x)) := by
 have HE := hid hE
 obtain ⟨R, hR⟩ : ∃ R, Pt.listW x = R := ⟨_, rfl⟩
 rw [hR]
 have HR : Hid (([] : List Nat) ++ Pt.listW x = R) := hid hR
 have H0 : Hid (w.ownsRow w.heap.size 3 1 (.slice none 0 0) ([] : List Nat).length (ints (Si.nn []))) := hid (World.ownsRow_nil ..)
 have HRL : Hid (R.length ≤ 64) := hid (by rw [← hR]; unfold Pt.listW; have := List.length_filter_le (fun i => x.testBit i) (List.range 64); simpa using this)
 clear hE hR
 go_enter Tryz.func61, Tryz.ntmps61
 go_wp2_with fail
 go_loopw [0, 3] (fun wv ov wr => ∃ (y : Nat) (l : List Nat), wv = .int .u64 y ∧ y < 18446744073709551616 ∧ Hid (l ++ Pt.listW y = R) ∧ Hid (wr.ownsRow w.heap.size 3 1 ov l.length (ints (Si.nn l))) ∧ Hid (Up w wr)) (fun wv _ _ => (intOf wv).toNat)
 case atStart => exact ⟨x, [], rfl, hx, HR, H0, hid (Up.refl w)⟩
 case round =>
  obtain ⟨y, l, rfl, hy, HL, HO, HU⟩ := hrel
  by_cases hy0 : y = 0
  · have e1 : ((y : Int) != 0) = false := by simp [hy0]
    have HF : Hid (l = R) := hid (by have := HL.out; rw [hy0, Pt.listW_zero, List.append_nil] at this; exact this)
    clear hy0
    obtain ⟨oa, oc, hos, -⟩ := own_slice HO.out
    subst hos
    go_wp2_with fail
    go_ret
    rw [← HF.out]
    exact ⟨oa, oc, rfl, HO.out, HU.out⟩
  · have e1 : ((y : Int) != 0) = true := by simp; omega
    obtain ⟨hk, hb1, hb0⟩ := ctz_bits hy0 hy
    have hst := Pt.listW_step hk hb1 hb0
    have hlt := and_pred_lt hy0
    have hbn := bits_and_nat y (y - 1) hy (by omega)
    have hyc : ((y - 1 : Nat) : Int) = (y : Int) - 1 := by omega
    rw [hyc] at hbn
    have HT := hid (tz_any y wr hy0 hy (HE.out.below HU.out.1))
    obtain ⟨k, hkk⟩ : ∃ k, Lib.ctz 64 y = k := ⟨_, rfl⟩
    rw [hkk] at hst HT
    obtain ⟨y', hy'⟩ : ∃ y', y &&& (y - 1) = y' := ⟨_, rfl⟩
    rw [hy'] at hst hlt hbn
    have HN : Hid ((l ++ [k]) ++ Pt.listW y' = R) := hid (by rw [← HL.out, hst]; simp)
    have hll : l.length ≤ 64 := by have h1 := HRL.out; rw [← HL.out, List.length_append] at h1; omega
    have y1 : (1 : Int) ≤ (y : Int) := by omega
    obtain ⟨n, hn⟩ : ∃ n, l.length = n := ⟨_, rfl⟩
    rw [hn] at HO hll
    have HNL := hid hn
    obtain ⟨oa, oc, hos, -⟩ := own_slice HO.out
    subst hos
    have hwz := HU.out.1.size
    clear hb1 hb0 hst hyc hkk hy' hk hn hy0
    go_wp2_with fail
    go_at_call 144; refine HT.out.mono ?_; rintro e w3 ⟨rfl, rfl⟩
    go_wp2_with (at_builtin; refine wpList_app_int_up rfl (.tmp 10) (.tmp 13) rfl w.heap.size (.slice oa n oc) n (ints (Si.nn l)) rfl (World.ownsRow.alloc HO.out _) wr.heap.size 1 (k : Int) rfl (heap_alloc_new _ _) ?c1 ?c2 ?_)
    case c1 => omega
    case c2 => simp; omega
    intro av cv w4 ho4 hg4 hd4
    have HO4 := hid ho4
    have HU4 : Hid (Up w w4) := hid ⟨(HU.out.1.alloc hwz _).trans (below_own (World.ownsRow.alloc HO.out _) hg4 (Nat.le_refl _) (by simp; omega)), Nat.le_trans HU.out.2 hd4⟩
    clear ho4 hg4 hd4
    go_wp2_with fail
    go_roundw
    case rel => exact ⟨y', l ++ [k], rfl, by omega, HN, hid (by rw [List.length_append, HNL.out, show ints (Si.nn (l ++ [k])) = ints (Si.nn l) ++ [.int .i64 k] by simp [ints, Si.nn]]; exact HO4.out), HU4⟩
    case measure => simp [intOf]; omega
theorem u64_or (a b : Nat) (ha : a < 18446744073709551616) (hb : b < 18446744073709551616) : bits .or .u64 (a : Int) (b : Int) = ((a ||| b : Nat) : Int) := by
 have hx : a ||| b < 2 ^ 64 := Nat.or_lt_two_pow (by omega) (by omega)
 have h1 : (BitVec.ofInt 64 (a : Int)).toNat = a := by
  rw [BitVec.ofInt_natCast, BitVec.toNat_ofNat]; exact Nat.mod_eq_of_lt (by omega)
 have h2 : (BitVec.ofInt 64 (b : Int)).toNat = b := by
  rw [BitVec.ofInt_natCast, BitVec.toNat_ofNat]; exact Nat.mod_eq_of_lt (by omega)
 show IntKind.u64.wrap ((BitVec.ofInt 64 (a : Int) ||| BitVec.ofInt 64 (b : Int)).toNat : Int) = _
 rw [BitVec.toNat_or, h1, h2, IntKind.wrap_u64]
 omega
theorem word_any (v : Value) (l : List Int) (w : World) (h : Is w v l) (hl : ∀ p ∈ l, 0 ≤ p ∧ p < 64) :
 Calls Tryz.prog 66 #[v] w fun e w' => e = .returned (.int .u64 (Si.wordI l)) ∧ w = w' := by
 obtain ⟨a, cap, rfl, hm⟩ := h.form
 have H := hid h
 have HL := hid hl
 obtain ⟨R, hR⟩ : ∃ R, Si.wordI l = R := ⟨_, rfl⟩
 have HR : Hid (0 ||| Si.wordI (l.drop 0) = R) := hid (by simpa using hR)
 rw [hR]
 obtain ⟨n, hn⟩ : ∃ n, l.length = n := ⟨_, rfl⟩
 rw [hn] at hm H ⊢
 have HN := hid hn
 clear h hl hR hn
 go_enter Tryz.func66, Tryz.ntmps66
 go_wp2_with fail
 go_loop [8, 3] (fun iv wv => ∃ (k y : Nat), k ≤ n ∧ iv = .int .i64 k ∧ wv = .int .u64 y ∧ y < 18446744073709551616 ∧ Hid (y ||| Si.wordI (l.drop k) = R)) (fun iv _ => n - (intOf iv).toNat)
 case atStart => exact ⟨0, 0, by omega, rfl, rfl, by omega, HR⟩
 case round =>
  obtain ⟨k, y, hk, rfl, rfl, hy, HY⟩ := hrel
  by_cases hkn : k < n
  · have hkl : k < l.length := by rw [HN.out]; exact hkn
    obtain ⟨b, off, e1, c0⟩ := H.out.cell k hkl
    subst e1
    obtain ⟨p0, p1⟩ := HL.out _ (List.getElem_mem hkl)
    have hd := List.drop_eq_getElem_cons hkl
    obtain ⟨P, hP⟩ : ∃ P, l[k] = P := ⟨_, rfl⟩
    rw [hP] at c0 p0 p1 hd
    obtain ⟨p, rfl⟩ : ∃ p : Nat, P = (p : Int) := ⟨P.toNat, by omega⟩
    have k0 : (0 : Int) ≤ (k : Int) := by omega
    have k1 : (k : Int) < (n : Int) := by omega
    have hp : p < 64 := by omega
    have h2p : 2 ^ p < 18446744073709551616 := Nat.lt_of_lt_of_le (Nat.pow_lt_pow_right (by omega) hp) (by decide)
    have hor := u64_or y (2 ^ p) hy h2p
    have hor2 : y ||| 2 ^ p < 18446744073709551616 := by
     have := Nat.or_lt_two_pow (n := 64) (show y < 2 ^ 64 by omega) (show 2 ^ p < 2 ^ 64 by omega)
     omega
    have HS : Hid ((y ||| 2 ^ p) ||| Si.wordI (l.drop (k + 1)) = R) := hid (by
     rw [← HY.out, hd]
     unfold Si.wordI
     rw [List.map_cons, Pt.wordL, Int.toNat_natCast, Nat.or_assoc])
    clear hd hP
    have hwr : IntKind.u64.wrap ((2 : Int) ^ p) = ((2 ^ p : Nat) : Int) := by
     rw [show ((2 : Int) ^ p) = ((2 ^ p : Nat) : Int) by simp, IntKind.wrap_u64]
     generalize hq : 2 ^ p = q at h2p
     omega
    have HWR := hid (show Value.int .u64 (bits BinOp.or IntKind.u64 (y : Int) (IntKind.u64.wrap ((2 : Int) ^ p))) = .int .u64 ((y ||| 2 ^ p : Nat) : Int) by rw [hwr, hor])
    clear hwr hor
    go_wp2_with fail
    go_round
    case rel => exact ⟨k + 1, y ||| 2 ^ p, by omega, by go_num, HWR.out, hor2, HS⟩
    case measure => simp [intOf]; omega
  · have HF : Hid (y = R) := hid (by
     have h1 := HY.out
     rw [List.drop_eq_nil_of_le (by rw [HN.out]; omega), show Si.wordI [] = 0 from rfl, Nat.or_zero] at h1
     exact h1)
    go_wp2_with fail
    go_ret
    exact ⟨by rw [← HF.out]; rfl, rfl⟩
def oc1 (x : Nat) : Nat := (x / 2 &&& 6148914691236517205) + (x &&& 6148914691236517205)
def oc2 (x : Nat) : Nat := (x / 4 &&& 3689348814741910323) + (x &&& 3689348814741910323)
def oc3 (x : Nat) : Nat := (x / 16 + x) &&& 1085102592571150095
def oc4 (x : Nat) : Nat := x + x / 256
def oc5 (x : Nat) : Nat := x + x / 65536
def oc6 (x : Nat) : Nat := x + x / 4294967296
def bitsN : Nat → Nat → Nat
 | 0, _ => 0
 | k + 1, x => x % 2 + bitsN k (x / 2)
theorem oc_all2 : ∀ a b : Fin 128, oc6 (oc5 (oc4 (oc3 (oc2 (oc1 (128 * a.1 + b.1)))))) &&& 127 = bitsN 14 (128 * a.1 + b.1) := by decide +kernel
theorem oc_all {x : Nat} (h : x < 16384) : oc6 (oc5 (oc4 (oc3 (oc2 (oc1 x))))) &&& 127 = bitsN 14 x := by
 have := oc_all2 ⟨x / 128, by omega⟩ ⟨x % 128, by omega⟩
 rwa [show 128 * (x / 128) + x % 128 = x by omega] at this
theorem bitsN_filter : ∀ (k x s : Nat), bitsN k x = ((List.range' s k).filter fun i => (x * 2 ^ s).testBit i).length
 | 0, x, s => rfl
 | k + 1, x, s => by
  rw [List.range'_succ, List.filter_cons, bitsN, bitsN_filter k (x / 2) (s + 1)]
  have e : ∀ i, s + 1 ≤ i → (x / 2 * 2 ^ (s + 1)).testBit i = (x * 2 ^ s).testBit i := by
   intro i hi
   rw [Nat.testBit_mul_two_pow, Nat.testBit_mul_two_pow, decide_eq_true (by omega : s + 1 ≤ i), decide_eq_true (by omega : s ≤ i), Bool.true_and, Bool.true_and]
   obtain ⟨j, rfl⟩ : ∃ j, i = s + 1 + j := ⟨i - (s + 1), by omega⟩
   rw [show s + 1 + j - (s + 1) = j by omega, show s + 1 + j - s = j + 1 by omega, Nat.testBit_succ]
  have e2 : (List.range' (s + 1) k).filter (fun i => (x / 2 * 2 ^ (s + 1)).testBit i) = (List.range' (s + 1) k).filter (fun i => (x * 2 ^ s).testBit i) := by
   apply List.filter_congr
   intro i hi
   rw [List.mem_range'_1] at hi
   exact e i hi.1
  rw [e2]
  have e3 : (x * 2 ^ s).testBit s = decide (x % 2 = 1) := by
   rw [Nat.testBit_mul_two_pow, decide_eq_true (Nat.le_refl s), Bool.true_and, Nat.sub_self, Nat.testBit_zero]
  rw [e3]
  by_cases h : x % 2 = 1
  · simp [h]; omega
  · simp [h]; omega
theorem ones_bitsN {x : Nat} (h : x < 16384) : Pt.ones x = bitsN 14 x := by
 rw [bitsN_filter 14 x 0]
 unfold Pt.ones Pt.listW
 rw [List.range_eq_range', show (64 : Nat) = 14 + 50 by rfl, ← List.range'_append_1, List.filter_append, List.length_append]
 have : (List.range' (0 + 14) 50).filter (fun i => x.testBit i) = [] := by
  rw [List.filter_eq_nil_iff]
  intro i hi
  rw [List.mem_range'_1] at hi
  have : x.testBit i = false := Nat.testBit_lt_two_pow (Nat.lt_of_lt_of_le h (by
   have := Nat.pow_le_pow_right (n := 2) (by omega) (show 14 ≤ i by omega)
   simpa using this))
  rw [this]; simp
 rw [this]
 simp
theorem oc1_le {x B : Nat} (h : x ≤ B) : x / 2 &&& 6148914691236517205 ≤ B ∧ x &&& 6148914691236517205 ≤ B := by
 have h1 := Nat.and_le_left (n := x / 2) (m := 6148914691236517205)
 have h2 := Nat.and_le_left (n := x) (m := 6148914691236517205)
 omega
theorem oc2_le {x B : Nat} (h : x ≤ B) : x / 4 &&& 3689348814741910323 ≤ B ∧ x &&& 3689348814741910323 ≤ B := by
 have h1 := Nat.and_le_left (n := x / 4) (m := 3689348814741910323)
 have h2 := Nat.and_le_left (n := x) (m := 3689348814741910323)
 omega
theorem u64_and (a b : Nat) (ha : a < 18446744073709551616) (hb : b < 18446744073709551616) : bits .and .u64 (a : Int) (b : Int) = ((a &&& b : Nat) : Int) := bits_and_u64_nat a b ha hb
theorem u64_wrap (a : Nat) (ha : a < 18446744073709551616) : IntKind.u64.wrap (a : Int) = (a : Int) := by rw [IntKind.wrap_u64]; omega
theorem i64_and127 (a : Nat) (ha : a < 9223372036854775808) : bits .and .i64 (wrap64 (a : Int)) 127 = ((a &&& 127 : Nat) : Int) := by
 have h0 : wrap64 (a : Int) = (a : Int) := by unfold wrap64; omega
 have h1 : (BitVec.ofInt 64 (a : Int)).toNat = a := by
  rw [BitVec.ofInt_natCast, BitVec.toNat_ofNat]; exact Nat.mod_eq_of_lt (by omega)
 have h2 : (BitVec.ofInt 64 127).toNat = 127 := by decide
 have hx : a &&& 127 ≤ 127 := Nat.and_le_right
 rw [h0]
 show IntKind.i64.wrap ((BitVec.ofInt 64 (a : Int) &&& BitVec.ofInt 64 127).toNat : Int) = _
 rw [BitVec.toNat_and, h1, h2, IntKind.wrap_i64]
 omega
def oa1 (v : Int) : Int := IntKind.u64.wrap (bits .and .u64 (v / 2) 6148914691236517205 + bits .and .u64 v 6148914691236517205)
def oa2 (v : Int) : Int := IntKind.u64.wrap (bits .and .u64 (v / 4) 3689348814741910323 + bits .and .u64 v 3689348814741910323)
def oa3 (v : Int) : Int := bits .and .u64 (IntKind.u64.wrap (v / 16 + v)) 1085102592571150095
def oa4 (v : Int) : Int := IntKind.u64.wrap (v + v / 256)
def oa5 (v : Int) : Int := IntKind.u64.wrap (v + v / 65536)
def oa6 (v : Int) : Int := IntKind.u64.wrap (v + v / 4294967296)
theorem oa1_eq {x : Nat} (h : x ≤ 1000000) : oa1 (x : Int) = (oc1 x : Int) ∧ oc1 x ≤ 2000000 := by
 obtain ⟨h1, h2⟩ := oc1_le h
 have e1 := u64_and (x / 2) 6148914691236517205 (by omega) (by omega)
 have e2 := u64_and x 6148914691236517205 (by omega) (by omega)
 unfold oa1 oc1
 rw [show ((x : Int) / 2) = ((x / 2 : Nat) : Int) by omega]
 rw [show (6148914691236517205 : Int) = ((6148914691236517205 : Nat) : Int) by rfl, e1, e2, ← Int.natCast_add, u64_wrap _ (by omega)]
 exact ⟨rfl, by omega⟩
theorem oa2_eq {x : Nat} (h : x ≤ 2000000) : oa2 (x : Int) = (oc2 x : Int) ∧ oc2 x ≤ 4000000 := by
 obtain ⟨h1, h2⟩ := oc2_le h
 have e1 := u64_and (x / 4) 3689348814741910323 (by omega) (by omega)
 have e2 := u64_and x 3689348814741910323 (by omega) (by omega)
 unfold oa2 oc2
 rw [show ((x : Int) / 4) = ((x / 4 : Nat) : Int) by omega]
 rw [show (3689348814741910323 : Int) = ((3689348814741910323 : Nat) : Int) by rfl, e1, e2, ← Int.natCast_add, u64_wrap _ (by omega)]
 exact ⟨rfl, by omega⟩
theorem oa3_eq {x : Nat} (h : x ≤ 4000000) : oa3 (x : Int) = (oc3 x : Int) ∧ oc3 x ≤ 8000000 := by
 have h1 := Nat.and_le_left (n := x / 16 + x) (m := 1085102592571150095)
 have e1 := u64_and (x / 16 + x) 1085102592571150095 (by omega) (by omega)
 unfold oa3 oc3
 rw [show ((x : Int) / 16 + (x : Int)) = ((x / 16 + x : Nat) : Int) by omega, u64_wrap _ (by omega)]
 rw [show (1085102592571150095 : Int) = ((1085102592571150095 : Nat) : Int) by rfl, e1]
 exact ⟨rfl, by omega⟩
theorem oa4_eq {x : Nat} (h : x ≤ 8000000) : oa4 (x : Int) = (oc4 x : Int) ∧ oc4 x ≤ 16000000 := by
 unfold oa4 oc4
 rw [show ((x : Int) + (x : Int) / 256) = ((x + x / 256 : Nat) : Int) by omega, u64_wrap _ (by omega)]
 exact ⟨rfl, by omega⟩
theorem oa5_eq {x : Nat} (h : x ≤ 16000000) : oa5 (x : Int) = (oc5 x : Int) ∧ oc5 x ≤ 32000000 := by
 unfold oa5 oc5
 rw [show ((x : Int) + (x : Int) / 65536) = ((x + x / 65536 : Nat) : Int) by omega, u64_wrap _ (by omega)]
 exact ⟨rfl, by omega⟩
theorem oa6_eq {x : Nat} (h : x ≤ 32000000) : oa6 (x : Int) = (oc6 x : Int) ∧ oc6 x ≤ 64000000 := by
 unfold oa6 oc6
 rw [show ((x : Int) + (x : Int) / 4294967296) = ((x + x / 4294967296 : Nat) : Int) by omega, u64_wrap _ (by omega)]
 exact ⟨rfl, by omega⟩
theorem oa_all {x : Nat} (h : x < 16384) : bits .and .i64 (wrap64 (oa6 (oa5 (oa4 (oa3 (oa2 (oa1 (x : Int)))))))) 127 = (Pt.ones x : Int) := by
 obtain ⟨e1, l1⟩ := oa1_eq (x := x) (by omega)
 obtain ⟨e2, l2⟩ := oa2_eq l1
 obtain ⟨e3, l3⟩ := oa3_eq l2
 obtain ⟨e4, l4⟩ := oa4_eq l3
 obtain ⟨e5, l5⟩ := oa5_eq l4
 obtain ⟨e6, l6⟩ := oa6_eq l5
 rw [e1, e2, e3, e4, e5, e6, i64_and127 _ (by omega), oc_all h, ones_bitsN h]
theorem ones_core (x x1 x2 x3 x4 x5 x6 x7 : Int) (w : World) (k1 : oa1 x = x1) (k2 : oa2 x1 = x2) (k3 : oa3 x2 = x3) (k4 : oa4 x3 = x4) (k5 : oa5 x4 = x5) (k6 : oa6 x5 = x6) (k7 : bits .and .i64 (wrap64 x6) 127 = x7) :
 Calls Tryz.prog 59 #[.int .u64 x] w fun e w' => e = .returned (.int .i64 x7) ∧ w = w' := by
 unfold oa1 at k1
 unfold oa2 at k2
 unfold oa3 at k3
 unfold oa4 at k4
 unfold oa5 at k5
 unfold oa6 at k6
 go_enter Tryz.func59, Tryz.ntmps59
 go_wp2_with (simp only [k1, k2, k3, k4, k5, k6, k7])
 go_ret
 exact ⟨rfl, rfl⟩
theorem ones_any (x : Nat) (w : World) (h : x < 16384) :
 Calls Tryz.prog 59 #[.int .u64 x] w fun e w' => e = .returned (.int .i64 (Pt.ones x)) ∧ w = w' :=
 ones_core x _ _ _ _ _ _ _ w rfl rfl rfl rfl rfl rfl (oa_all h)
theorem or_any (b c : Nat) (p q : Int) (w : World) (h0 : w.cell? ⟨b, 0, none⟩ = some (.int .i64 p)) (h1 : w.cell? ⟨b, 1, none⟩ = some (.int .i64 q)) :
 Calls Tryz.prog 57 #[.slice (some ⟨b, 0, none⟩) 2 c] w fun e w' => e = .returned (.int .i64 (if p ≠ 0 then p else q)) ∧ w = w' := by
 obtain ⟨R, hR⟩ : ∃ R, (if p ≠ 0 then p else q) = R := ⟨_, rfl⟩
 rw [hR]
 have HR := hid hR
 clear hR
 go_enter Tryz.func57, Tryz.ntmps57
 go_wp2_with fail
 go_loop [8] (fun iv => ∃ (k : Nat), k ≤ 2 ∧ iv = .int .i64 k ∧ Hid (0 < k → p = 0) ∧ Hid (1 < k → q = 0)) (fun iv => 2 - (intOf iv).toNat)
 case atStart => exact ⟨0, by omega, rfl, hid (by omega), hid (by omega)⟩
 case round =>
  obtain ⟨k, hk, rfl, H0, H1⟩ := hrel
  obtain rfl | rfl | rfl : k = 0 ∨ k = 1 ∨ k = 2 := by omega
  · by_cases hp : p = 0
    · have hpb : (p != 0) = false := by simp [hp]
      have HP := hid hp
      clear hp
      go_wp2_with fail
      go_round
      case rel => exact ⟨1, by omega, rfl, hid (fun _ => HP.out), hid (by omega)⟩
      case measure => simp [intOf]
    · have hpb : (p != 0) = true := by simp [hp]
      have HP : Hid (p = R) := hid (by rw [← HR.out, if_pos hp])
      clear hp
      go_wp2_with fail
      go_ret
      exact ⟨by rw [HP.out]; rfl, rfl⟩
  · by_cases hp : q = 0
    · have hpb : (q != 0) = false := by simp [hp]
      have HP := hid hp
      clear hp
      go_wp2_with fail
      go_round
      case rel => exact ⟨2, by omega, rfl, hid (fun _ => H0.out (by omega)), hid (fun _ => HP.out)⟩
      case measure => simp [intOf]
    · have hpb : (q != 0) = true := by simp [hp]
      have HP : Hid (q = R) := hid (by rw [← HR.out, if_neg (by simp [H0.out (by omega)])])
      clear hp
      go_wp2_with fail
      go_ret
      exact ⟨by rw [HP.out]; rfl, rfl⟩
  · have HP : Hid (0 = R) := hid (by rw [← HR.out, if_neg (by simp [H0.out (by omega)]), H1.out (by omega)])
    go_wp2_with fail
    go_ret
    exact ⟨by rw [← HP.out]; rfl, rfl⟩
theorem cmpN_int (a b : Nat) : Go.Lib.compareInt (a : Int) (b : Int) = Pt.cmpN a b := by
 unfold Go.Lib.compareInt Pt.cmpN
 split
 · rw [if_pos (by omega)]
 · split
   · rw [if_neg (by omega), if_pos (by omega)]
   · rw [if_neg (by omega), if_neg (by omega)]
theorem nn_len (l : List Nat) : (Si.nn l).length = l.length := by simp [Si.nn]
theorem compare_any (va vb : Value) (xs ys : List Nat) (w : World) (hx : Is w va (Si.nn xs)) (hy : Is w vb (Si.nn ys)) :
 Calls Tryz.prog 60 #[va, vb] w fun e w' => e = .returned (.int .i64 (Pt.cmpL xs ys)) ∧ w = w' := by
 obtain ⟨a, ca, rfl, hma⟩ := hx.form
 obtain ⟨b, cb, rfl, hmb⟩ := hy.form
 obtain ⟨R, hR⟩ : ∃ R, Pt.cmpL xs ys = R := ⟨_, rfl⟩
 rw [hR]
 have HR := hid hR
 have HX := hid hx
 have HY := hid hy
 rw [nn_len xs] at hma HX ⊢
 rw [nn_len ys] at hmb HY ⊢
 obtain ⟨n, hn⟩ : ∃ n, xs.length = n := ⟨_, rfl⟩
 obtain ⟨m, hm⟩ : ∃ m, ys.length = m := ⟨_, rfl⟩
 rw [hn] at hma HX ⊢
 rw [hm] at hmb HY ⊢
 have HN := hid hn
 have HM := hid hm
 have HQ : Hid (Pt.cmpL (xs.drop 0) (ys.drop 0) = R) := hid hR
 clear hR hx hy hn hm
 go_enter Tryz.func60, Tryz.ntmps60
 go_wp2_with fail
 go_loop [11] (fun iv => ∃ (k : Nat), k ≤ n ∧ k ≤ m ∧ iv = .int .i64 k ∧ Hid (Pt.cmpL (xs.drop k) (ys.drop k) = R)) (fun iv => n - (intOf iv).toNat)
 case atStart => exact ⟨0, by omega, by omega, rfl, HQ⟩
 case round =>
  obtain ⟨k, hk, hkm, rfl, HK⟩ := hrel
  by_cases hkn : k < n
  · have k1 : (k : Int) < (n : Int) := by omega
    have hkl : k < xs.length := by rw [HN.out]; exact hkn
    obtain ⟨b1, off1, e1, c1⟩ := HX.out.cell k (by rw [nn_len]; exact hkl)
    subst e1
    obtain ⟨x, hxv⟩ : ∃ x, xs[k] = x := ⟨_, rfl⟩
    have hd := List.drop_eq_getElem_cons hkl
    rw [hxv] at hd
    rw [show (Si.nn xs)[k]'(by rw [nn_len]; exact hkl) = (x : Int) by simp [Si.nn, hxv]] at c1
    by_cases hkm2 : k < m
    · have k2 : ((k : Int) ≥ (m : Int)) = False := by simp; omega
      have hkl2 : k < ys.length := by rw [HM.out]; exact hkm2
      obtain ⟨b2, off2, e2, c2⟩ := HY.out.cell k (by rw [nn_len]; exact hkl2)
      subst e2
      obtain ⟨y, hyv⟩ : ∃ y, ys[k] = y := ⟨_, rfl⟩
      have hd2 := List.drop_eq_getElem_cons hkl2
      rw [hyv] at hd2
      rw [show (Si.nn ys)[k]'(by rw [nn_len]; exact hkl2) = (y : Int) by simp [Si.nn, hyv]] at c2
      have HS : Hid (Pt.cmpL (x :: xs.drop (k + 1)) (y :: ys.drop (k + 1)) = R) := hid (by rw [← hd, ← hd2]; exact HK.out)
      have HT := Tryz.cmp_Compare_int (x : Int) (y : Int) w
      rw [cmpN_int] at HT
      obtain ⟨z, hz⟩ : ∃ z, Pt.cmpN x y = z := ⟨_, rfl⟩
      rw [hz] at HT
      replace HT := hid HT
      have HZ := hid hz
      clear hz hd hd2 hxv hyv
      by_cases hz0 : z = 0
      · have hzb : (z != 0) = false := by simp [hz0]
        have HF : Hid (Pt.cmpL (xs.drop (k + 1)) (ys.drop (k + 1)) = R) := hid (by have := HS.out; rw [Pt.cmpL, if_neg (by rw [HZ.out]; simp [hz0])] at this; exact this)
        clear hz0
        go_wp2_with fail
        go_at_call 58; refine HT.out.mono ?_; rintro e w3 ⟨rfl, hw3⟩; subst hw3
        go_wp2_with fail
        go_round
        case rel => exact ⟨k + 1, by omega, by omega, by go_num, HF⟩
        case measure => simp [intOf]; omega
      · have hzb : (z != 0) = true := by simp [hz0]
        have HF : Hid (z = R) := hid (by have := HS.out; rw [Pt.cmpL, if_pos (by rw [HZ.out]; exact hz0), HZ.out] at this; exact this)
        clear hz0
        go_wp2_with fail
        go_at_call 58; refine HT.out.mono ?_; rintro e w3 ⟨rfl, hw3⟩; subst hw3
        go_wp2_with fail
        go_ret
        exact ⟨by rw [HF.out]; rfl, rfl⟩
    · have HF : Hid ((1 : Int) = R) := hid (by rw [← HK.out, hd, List.drop_eq_nil_of_le (by rw [HM.out]; omega : ys.length ≤ k)]; rfl)
      clear hd
      go_wp2_with fail
      go_ret
      exact ⟨by rw [← HF.out]; rfl, rfl⟩
  · have hkn2 : k = n := by omega
    by_cases hnm : n < m
    · have HF : Hid ((-1 : Int) = R) := hid (by
       rw [← HK.out, List.drop_eq_nil_of_le (by rw [HN.out]; omega : xs.length ≤ k), List.drop_eq_getElem_cons (by rw [HM.out]; omega : k < ys.length)]; rfl)
      go_wp2_with fail
      go_ret
      exact ⟨by rw [← HF.out]; rfl, rfl⟩
    · have HF : Hid ((0 : Int) = R) := hid (by
       rw [← HK.out, List.drop_eq_nil_of_le (by rw [HN.out]; omega : xs.length ≤ k), List.drop_eq_nil_of_le (by rw [HM.out]; omega : ys.length ≤ k)]; rfl)
      go_wp2_with fail
      go_ret
      exact ⟨by rw [← HF.out]; rfl, rfl⟩
theorem list_is {w w' : World} {l : List Nat} {a : Option Addr} {c base : Nat} (h : w'.ownsRow base 3 1 (.slice a l.length c) l.length (ints (Si.nn l))) : Is w' (.slice a l.length c) (Si.nn l) := Sl.of_own h (own_max h)
theorem order_any (x y : Nat) (w : World) (hx : x < 16384) (hy : y < 16384) (hE : Env w) :
 Calls Tryz.prog 56 #[.int .u64 x, .int .u64 y] w fun e w' => e = .returned (.int .i64 (Pt.cmpW x y)) ∧ Up w w' := by
 have HE := hid hE
 obtain ⟨R, hR⟩ : ∃ R, Pt.cmpW x y = R := ⟨_, rfl⟩
 rw [hR]
 have h1 := ones_any x w hx
 have h2 := ones_any y w hy
 have h3 := Tryz.cmp_Compare_int (Pt.ones x : Int) (Pt.ones y : Int) w
 rw [cmpN_int] at h3
 unfold Pt.cmpW at hR
 obtain ⟨z, hz⟩ : ∃ z, Pt.cmpN (Pt.ones x) (Pt.ones y) = z := ⟨_, rfl⟩
 obtain ⟨u, hu⟩ : ∃ u, Pt.cmpL (Pt.listW x) (Pt.listW y) = u := ⟨_, rfl⟩
 rw [hz, hu] at hR
 rw [hz] at h3
 obtain ⟨o1, ho1⟩ : ∃ o, Pt.ones x = o := ⟨_, rfl⟩
 obtain ⟨o2, ho2⟩ : ∃ o, Pt.ones y = o := ⟨_, rfl⟩
 rw [ho1] at h1 h3
 rw [ho2] at h2 h3
 have HR := hid hR
 have H1 := hid h1
 have H2 := hid h2
 have H3 := hid h3
 have HX := hid hx
 have HY := hid hy
 have HU := hid hu
 clear hE hR h1 h2 h3 hx hy hz hu ho1 ho2
 go_enter Tryz.func56, Tryz.ntmps56
 go_wp2_with fail
 go_at_call 59; refine H1.out.mono ?_; rintro e w3 ⟨rfl, rfl⟩
 go_wp2_with fail
 go_at_call 59; refine H2.out.mono ?_; rintro e w3 ⟨rfl, rfl⟩
 go_wp2_with fail
 go_at_call 58; refine H3.out.mono ?_; rintro e w3 ⟨rfl, hw3⟩; subst hw3
 go_wp2_with fail
 go_at_call 61; refine (list_any x _ (by have := HX.out; omega) HE.out).mono ?_; rintro e w1 ⟨a1, c1, rfl, ho1, hu1⟩
 have HI1 := hid (list_is (w := w1) ho1)
 have HU1 := hid hu1
 clear ho1 hu1
 go_wp2_with fail
 go_at_call 61; refine (list_any y _ (by have := HY.out; omega) (HE.out.below HU1.out.1)).mono ?_; rintro e w2 ⟨a2, c2, rfl, ho2, hu2⟩
 have HI2 := hid (list_is (w := w2) ho2)
 have HI1' := hid (HI1.out.keep hu2.1)
 have HU2 := hid (HU1.out.trans hu2)
 clear ho2 hu2
 go_wp2_with fail
 go_at_call 60; refine (compare_any _ _ _ _ _ HI1'.out HI2.out).mono ?_; rintro e w3 ⟨rfl, rfl⟩
 rw [HU.out]
 go_wp2_with fail
 go_at_call 57; refine (or_any _ _ z u _ ?c1 ?c2).mono ?_
 case c1 => exact cell_of_heap (heap_alloc_new _ _) 0 rfl
 case c2 => exact cell_of_heap (heap_alloc_new _ _) 1 rfl
 rintro e w4 ⟨rfl, rfl⟩
 rw [HR.out]
 go_wp2_with fail
 go_ret
 exact ⟨rfl, HU2.out.alloc _⟩
open Go.RowKit Go.Sort
abbrev U14 := { x : Nat // x < 16384 }
instance : Inhabited U14 := ⟨⟨0, by omega⟩⟩
def encU (x : U14) : Value := .int .u64 (x.1 : Int)
def cmpU (x y : U14) : Int := Pt.cmpW x.1 y.1
def words (l : List Nat) : List Value := l.map fun x : Nat => Value.int .u64 (x : Int)
theorem words_len (l : List Nat) : (words l).length = l.length := by simp [words]
theorem encU_one : OneCell encU := fun x => rfl
theorem cmpU_swo : SWO (ltOf cmpU) := by
 have tot : ∀ x y : U14, ltOf cmpU x y = false → ltOf cmpU y x = true ∨ x = y := by
  intro x y h
  unfold ltOf cmpU at *
  have h1 := Pt.cmpW_swap x.1 y.1
  by_cases h0 : Pt.cmpW x.1 y.1 = 0
  · exact .inr (Subtype.ext (Pt.cmpW_zero (by have := x.2; omega) (by have := y.2; omega) h0))
  · refine .inl ?_
    simp at h ⊢
    omega
 have tr : ∀ x y z : U14, ltOf cmpU x y = true → ltOf cmpU y z = true → ltOf cmpU x z = true := by
  intro x y z h k
  unfold ltOf cmpU at *
  simp at h k ⊢
  exact Pt.cmpW_trans h k
 have irr : ∀ x : U14, ltOf cmpU x x = false := by
  intro x
  unfold ltOf cmpU
  have := Pt.cmpW_swap x.1 x.1
  simp; omega
 refine ⟨irr, tr, fun x y z h k => ?_⟩
 rcases tot x y h with h1 | rfl
 · rcases tot y z k with k1 | rfl
   · have h2 := tr _ _ _ k1 h1
     cases h3 : ltOf cmpU x z
     · rfl
     · have := tr _ _ _ h2 h3
       rw [irr] at this; cases this
   · exact h
 · exact k
theorem cmpU_tot (x y : U14) (h : ltOf cmpU x y = false) (k : ltOf cmpU y x = false) : x = y := by
 unfold ltOf cmpU at *
 have h1 := Pt.cmpW_swap x.1 y.1
 simp at h k
 exact Subtype.ext (Pt.cmpW_zero (by have := x.2; omega) (by have := y.2; omega) (by omega))
theorem sort_heap {α : Type} [Inhabited α] (enc : α → Value) (w : World) (blk off n : Nat) (d : Array α) (os : Array Obj) (k : Nat) (hk : k < w.heap.size) (hne : k ≠ blk) : (sortWorld enc w blk off n d os).heap[k]? = w.heap[k]? := by
 unfold sortWorld
 rw [heap_grow_old _ _ (by simpa using hk)]
 unfold putRow mapBlock
 dsimp only
 rw [Array.getElem?_modify, if_neg (fun h => hne h.symm)]
 rfl
theorem Env.other {w w' : World} {blk : Nat} (h : Env w) (hs : w.heap.size ≤ w'.heap.size) (hh : ∀ k, k < w.heap.size → k ≠ blk → w'.heap[k]? = w.heap[k]?) (hb : blk ≠ 0) : Env w' := by
 refine ⟨fun j hj => ?_, Nat.lt_of_lt_of_le h.lt hs⟩
 rw [← h.tab j hj]
 unfold World.cell?
 dsimp only
 rw [hh _ h.lt (fun e => hb e.symm)]
theorem sort_lays (w : World) (blk off size : Nat) (hE : Env w) (hb : blk ≠ 0) : CmpLays1 Tryz.prog 56 #[] encU cmpU blk off size w := by
 intro m os dk hs x y
 have hE2 : Env (sortWorld encU w blk off m dk os) := hE.other (by unfold sortWorld; simp) (fun k hk hne => sort_heap encU w blk off m dk os k hk hne) hb
 exact (order_any x.1 y.1 _ x.2 y.2 hE2).mono fun e w' ⟨he, hu⟩ => ⟨he, hu.grow⟩
def SortPost (base : Nat) (v : Value) (l : List Nat) (w : World) (e : Ending) (w' : World) : Prop :=
 e = .returned (.tuple #[]) ∧ ∃ ws : List Nat, ws.Perm l ∧ ws.Pairwise (fun a b => Pt.cmpW a b < 0) ∧ Sl w' v (words ws) ∧ Below base w w'
theorem liftU : ∀ {l : List Nat}, (∀ x ∈ l, x < 16384) → ∃ d : List U14, d.map (·.1) = l
 | [], _ => ⟨[], rfl⟩
 | x :: l, h => by
  obtain ⟨d, hd⟩ := liftU (l := l) fun y hy => h y (List.mem_cons_of_mem _ hy)
  exact ⟨⟨x, h x (List.mem_cons_self ..)⟩ :: d, by simp [hd]⟩
theorem sort_pair (d : List U14) (hn : (d.map (·.1)).Nodup) : ((d.mergeSort fun x y => !(ltOf cmpU) y x).map (·.1)).Pairwise (fun a b => Pt.cmpW a b < 0) := by
 have hp := List.pairwise_mergeSort (le := fun x y => !(ltOf cmpU) y x) (fun a b c h k => by
  simp at h k ⊢
  exact cmpU_swo.ntrans c b a k h) (fun a b => by
  cases h : ltOf cmpU b a
  · simp
  · cases k : ltOf cmpU a b
    · simp
    · have := cmpU_swo.trans _ _ _ h k
      rw [cmpU_swo.irrefl] at this; cases this) d
 have hperm := List.mergeSort_perm d fun x y => !(ltOf cmpU) y x
 obtain ⟨s, hs⟩ : ∃ s, d.mergeSort (fun x y => !(ltOf cmpU) y x) = s := ⟨_, rfl⟩
 rw [hs] at hp hperm ⊢
 have hn2 : (s.map (·.1)).Nodup := (hperm.map _).nodup_iff.2 hn
 rw [List.pairwise_map]
 rw [List.Nodup, List.pairwise_map] at hn2
 have := hp.and hn2
 refine this.imp ?_
 intro a b ⟨h1, h2⟩
 simp at h1
 cases h3 : ltOf cmpU a b
 · exact absurd (congrArg Subtype.val (cmpU_tot a b h3 h1)) h2
 · unfold ltOf cmpU at h3
   simpa using h3
theorem sort_any (base : Nat) (v : Value) (l : List Nat) (w : World) (hl : ∀ x ∈ l, x < 16384) (hn : l.Nodup) (hlen : l.length < 4611686018427387904) (ho : w.ownsRow base 90 1 v l.length (words l)) (hE : Env w) (hb : 0 < base) (hbw : base ≤ w.heap.size) :
 Calls Tryz.prog 55 #[v, .func (.func 56) #[] #[]] w (SortPost base v l w) := by
 obtain ⟨d, rfl⟩ := liftU hl
 rcases ho.2 with ⟨rfl, h0⟩ | ⟨g, cap, cur, rfl, hbg, hg, hnc, hcm, hcs, htake⟩
 · have h1 : d = [] := by simpa using h0
   subst h1
   refine (Tryz.slices_SortFunc_none_f55 (α := U14) none 0 _ w).mono ?_
   rintro e w' ⟨rfl, rfl⟩
   exact ⟨rfl, [], by simp, List.Pairwise.nil, Sl.nil _, Below.refl _ _⟩
 · have hD : (d.map (·.1)).length = d.toArray.size := by simp
   have hg2 : g < w.heap.size := heap_lt hg
   have hH : Holds encU w g 0 d.toArray := by
    intro j hj
    have hj2 : j < d.length := by simpa using hj
    refine ⟨?_, free_of_heap hg _⟩
    have := ho.cells (g := g) rfl j (encU d[j]) (by
     unfold words encU
     rw [List.map_map, List.getElem?_map, List.getElem?_eq_getElem hj2]; rfl)
    rw [Addr.add_lit] at this
    rw [this]
    congr 2
    rw [getElem!_pos d.toArray j hj]; simp
   rw [hD]
   refine (Tryz.slices_SortFunc_total_f55 encU encU_one cmpU cmpU_swo 56 #[] g 0 cap d.toArray w (fun _ _ => by kernel_rfl) (sort_lays w g 0 _ hE (by omega)) hH hg2 (by simpa using hlen) cmpU_tot).mono ?_
   rintro e w' ⟨rfl, m, os, rfl⟩
   obtain ⟨s, hs⟩ : ∃ s, d.mergeSort (fun x y => !(ltOf cmpU) y x) = s := ⟨_, rfl⟩
   have hperm := List.mergeSort_perm d fun x y => !(ltOf cmpU) y x
   have hpair := sort_pair d hn
   have e1 : d.toArray.toList = d := by simp
   rw [e1, hs]
   rw [hs] at hperm hpair
   have hlen2 : s.length = d.length := hperm.length_eq
   have hH2 := SW.holds (W := sortWorld encU w g 0 m s.toArray os) ⟨m, os, rfl⟩ hg2 hH (by simp [hlen2])
   refine ⟨rfl, s.map (·.1), hperm.map _, hpair, ?_, ?_⟩
   · refine ⟨some ⟨g, 0, none⟩, cap, by simp [words, hlen2], by have := own_max ho; simpa [words, hlen2] using this, by simp, ?_⟩
     intro i hi
     have hi2 : i < s.length := by simpa [words] using hi
     refine ⟨g, 0, rfl, ?_⟩
     rw [(hH2 i (by simpa using hi2)).1]
     congr 1
     rw [getElem!_pos s.toArray i (by simpa using hi2)]
     simp [words, encU]
   · refine ⟨rfl, rfl, rfl, by unfold sortWorld; simp, fun k hk => sort_heap encU w g 0 m _ os k (by omega) (by omega)⟩
end Go.Proofs.YtfcbcpfnaadpeaaGreatDoor
