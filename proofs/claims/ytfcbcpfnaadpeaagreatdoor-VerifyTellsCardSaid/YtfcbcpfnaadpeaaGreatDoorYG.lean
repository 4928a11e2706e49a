/- Parts Vd, Vl, Vr of this claim, laid one behind the other: walks and the plain laws behind them; each contract states its own conditions. -/
import Derived.Test.YtfcbcpfnaadpeaaGreatDoorYF
import Derived.Test.YtfcbcpfnaadpeaaGreatDoorZU
namespace Go.Proofs.YtfcbcpfnaadpeaaGreatDoor
set_option maxRecDepth 100000
set_option maxHeartbeats 64000000
set_option linter.unusedSimpArgs false
set_option linter.unusedVariables false
open Go.RowKit
def RL (w : World) (b1 b2 : Nat) (v : Value) (ls : List (List Int)) : Prop := ∃ us : List Value, us.length = ls.length ∧ w.ownsRow b1 22 1 v ls.length us ∧ ∀ i (h1 : i < ls.length) (h2 : i < us.length), w.ownsRow b2 3 1 us[i] ls[i].length (ints ls[i])
theorem RL.nil (w : World) (b1 b2 : Nat) : RL w b1 b2 (.slice none 0 0) [] := ⟨[], rfl, World.ownsRow_nil .., fun i h => by simp at h⟩
theorem RL.below {w w' : World} {b1 b2 : Nat} {v : Value} {ls : List (List Int)} (h : RL w b1 b2 v ls) (hb : Below w.heap.size w w') : RL w' b1 b2 v ls := by
 obtain ⟨us, a, b, c⟩ := h
 exact ⟨us, a, own_below b hb, fun i k1 k2 => own_below (c i k1 k2) hb⟩
theorem RL.alloc {w : World} {b1 b2 : Nat} {v : Value} {ls : List (List Int)} (h : RL w b1 b2 v ls) (o : Obj) : RL (w.alloc o) b1 b2 v ls := h.below ((Below.refl _ w).alloc (Nat.le_refl _) o)
theorem RL.form {w : World} {b1 b2 : Nat} {v : Value} {ls : List (List Int)} (h : RL w b1 b2 v ls) : ∃ a cap, v = .slice a ls.length cap ∧ ls.length ≤ 9223372036854775807 := by
 obtain ⟨us, -, b, -⟩ := h
 obtain ⟨a, c, rfl, h1⟩ := own_slice b
 exact ⟨a, c, rfl, h1⟩
theorem RL.ll {w : World} {b1 b2 : Nat} {v : Value} {ls : List (List Int)} (h : RL w b1 b2 v ls) : Ll w v ls := by
 obtain ⟨us, a, b, c⟩ := h
 refine ⟨ls.zip us, ?_, ?_, ?_⟩
 · rw [List.map_fst_zip]; omega
 · rw [List.map_snd_zip (by omega)]
   have b2 : w.ownsRow b1 22 1 v us.length us := by rw [a]; exact b
   exact Sl.of_own b2 (own_max b2)
 · intro x hx
   obtain ⟨i, hi, rfl⟩ := List.getElem_of_mem hx
   have h1 : i < ls.length := by simp at hi; omega
   have h2 : i < us.length := by omega
   rw [List.getElem_zip]
   exact Sl.of_own (c i h1 h2) (own_max (c i h1 h2))
theorem wpList_app_rl {w : World} {ops : Array Oper} {rest : List Oper} {o : Oper} {a : Act} {Q : Exit → Act → World → Prop} (hgd : o.guard = none) (s x : Operand)
 (ho : o.op = .call { callee := .builtin .append, args := #[s, x], argTypes := #[36, 36] })
 (b1 b2 : Nat) (v : Value) (n : Nat) (ls : List (List Int)) (hn : ls.length = n) (hs : a.eval s = v) (hR : RL w b1 b2 v ls)
 (g c : Nat) (y : List Int) (u : Value) (hx : a.eval x = .slice (some ⟨g, 0, none⟩) 1 c) (hg : w.heap[g]? = some (.cells #[u] 22 (0, 0)))
 (hu : w.ownsRow b2 3 1 u y.length (ints y)) (hsz : n + 1 ≤ 1000000000) (hbase : b1 ≤ w.heap.size)
 (h : ∀ a' c' w', RL w' b1 b2 (.slice a' (n + 1) c') (ls ++ [y]) → GT 22 w w' → Below b1 w w' → wpList Tryz.prog ops Q rest (a.put o.dst (.slice a' (n + 1) c')) w') : wpList Tryz.prog ops Q (o :: rest) a w := by
 subst hn
 obtain ⟨i, hi, hz, hsize, hby⟩ := info_parts Tryz.rowInfo
 obtain ⟨us, hul, hown, hin⟩ := hR
 obtain ⟨ua, uc, hus, -⟩ := own_slice hu
 refine wpList_append_own w hgd s x _ ho b1 22 i _ 1 24 Tryz.underlying36 hi hz hsize hby rfl (by decide) v ls.length us hs hown ⟨g, 0, none⟩ 1 c [u] hx rfl ?_ ?_ (by unfold maxLen; omega) (by omega) hbase ?_
 · intro j y hj
   have h0 : j = 0 := by have := (List.getElem?_eq_some_iff.1 hj).1; simpa using this
   subst h0
   simp at hj; subst hj
   rw [Addr.add_lit]; exact cell_of_heap hg 0 rfl
 · intro z hz
   obtain rfl := List.mem_singleton.1 hz
   rw [hus]; rfl
 · intro v' w' h2 h3 _
   obtain ⟨a', c', rfl, -⟩ := own_slice h2
   have hgt := GT.of_own hown h3
   refine h a' c' w' ⟨us ++ [u], by simp [hul], by simpa using h2, fun i k1 k2 => ?_⟩ hgt (below_own hown h3 (Nat.le_refl _) hbase)
   by_cases hi2 : i < ls.length
   · rw [List.getElem_append_left (by omega), List.getElem_append_left hi2]
     exact hgt.row (hin i hi2 (by omega)) (by decide)
   · have e : i = ls.length := by simp at k1; omega
     subst e
     rw [List.getElem_append_right (by omega), List.getElem_append_right (by omega)]
     simp only [hul, Nat.sub_self, List.getElem_singleton]
     exact hgt.row hu (by decide)
def OwnR (W : Nat) (l : List Nat) (v : Value) (w' : World) : Prop := w'.ownsRow W 3 1 v l.length (ints (Si.nn l))
theorem from_any (s : Si.Site) (kv ov zv av sv rv : Value) (B g0 a : Nat) (w : World) (h : ZdV w B g0 s kv ov zv av sv rv) (hr : Si.Right s) (hk : Si.Ok s) (ha : a < s.zones.length) :
 Calls Tryz.prog 207 #[.pointer (some ⟨B, 0, none⟩), .int .i64 a] w fun e w' => ∃ v, e = .returned v ∧ OwnR w.heap.size (Si.linksZ s a) v w' ∧ Below w.heap.size w w' := by
 obtain ⟨a1, c1, a2, c2, a3, c3, a4, c4, a5, c5, a6, c6, rfl, rfl, rfl, rfl, rfl, rfl, m1, m2, m3, m4, m5, m6⟩ := h.sv.open
 have hzn := hk.zn
 have HZ := hid h
 have hB := h.hB
 have HA := hid ha
 unfold zdC at hB
 have p5 : w.cell? ⟨B, 5, none⟩ = some (.slice a3 s.zones.length c3) := cell_of_heap hB 5 rfl
 have HG := hid (fun b W (hW : Below w.heap.size w W) hb => gets_any s _ _ _ _ _ _ B g0 a b W (h.below hW) hr hk ha hb)
 have HS := hid (fun k => Ve.linksN_succ s a k)
 have HL := hid (Ve.linked_self s a)
 have HN := hid (fun b h => Ve.linked_ne (s := s) (a := a) (b := b) h)
 have HLN : Hid (∀ k, (Ve.linksN s a k).length ≤ k) := hid (fun k => by unfold Ve.linksN; have := List.length_filter_le (Si.linked s a) (List.range k); rwa [List.length_range] at this)
 have HAL : Hid (Ve.linksN s a s.zones.length = Si.linksZ s a) := hid (Ve.linksN_all s a)
 obtain ⟨n, e1⟩ : ∃ n, s.zones.length = n := ⟨_, rfl⟩
 have E1 := hid e1
 rw [e1] at p5 m3 HAL ha hzn
 have H0 : Hid (w.ownsRow w.heap.size 3 1 (.slice none 0 0) (Ve.linksN s a 0).length (ints (Si.nn (Ve.linksN s a 0)))) := hid (World.ownsRow_nil ..)
 have lB : B < w.heap.size := heap_lt hB
 clear h hB e1 hr hk
 go_enter Tryz.func207, Tryz.ntmps207
 go_wp2_with fail
 go_loopw [5, 13] (fun vv iv wr => ∃ k : Nat, k ≤ n ∧ iv = .int .i64 k ∧ Hid (wr.ownsRow w.heap.size 3 1 vv (Ve.linksN s a k).length (ints (Si.nn (Ve.linksN s a k)))) ∧ Hid (Below w.heap.size w wr)) (fun _ iv _ => n - (intOf iv).toNat)
 case atStart => exact ⟨0, by omega, rfl, H0, hid (Below.refl _ _)⟩
 case round =>
  clear p5 H0
  obtain ⟨k, hk, rfl, HO, HB⟩ := hrel
  by_cases hkn : k < n
  · have hal := HLN.out k
    have HSK := hid (HS.out k)
    by_cases hka : k = a
    · subst hka
      have t1 : ((k : Int) != (k : Int)) = false := by simp
      have HO1 : Hid (wr.ownsRow w.heap.size 3 1 u5 (Ve.linksN s k (k + 1)).length (ints (Si.nn (Ve.linksN s k (k + 1))))) := hid (by rw [HSK.out, HL.out]; simpa using HO.out)
      go_wp2_with fail
      go_roundw
      case rel => exact ⟨k + 1, by omega, by go_num, HO1, HB⟩
      case measure => simp [intOf]; omega
    · have t1 : ((k : Int) != (a : Int)) = true := by simp; omega
      have HNX := hid (HN.out k (fun e => hka e.symm))
      have HGK := hid (HG.out k wr HB.out (by rw [E1.out]; exact hkn))
      obtain ⟨R, hR⟩ : ∃ R, Si.nextZ s a k = R := ⟨_, rfl⟩
      rw [hR] at HGK HNX
      clear hR
      go_wp2_with fail
      go_at_call 67; refine HGK.out.mono ?_; rintro e w2 ⟨rfl, b2⟩
      have HO2 := hid (own_below HO.out b2)
      have HB2 := hid (HB.out.trans (b2.mono HB.out.size))
      clear b2
      cases R with
      | false =>
       have HO1 : Hid (w2.ownsRow w.heap.size 3 1 u5 (Ve.linksN s a (k + 1)).length (ints (Si.nn (Ve.linksN s a (k + 1))))) := hid (by rw [HSK.out, HNX.out]; simpa using HO2.out)
       go_wp2_with fail
       go_roundw
       case rel => exact ⟨k + 1, by omega, by go_num, HO1, HB2⟩
       case measure => simp [intOf]; omega
      | true =>
       have HF : Hid (Ve.linksN s a (k + 1) = Ve.linksN s a k ++ [k]) := hid (by rw [HSK.out, HNX.out]; rfl)
       obtain ⟨m, hm⟩ : ∃ m, (Ve.linksN s a k).length = m := ⟨_, rfl⟩
       rw [hm] at HO2 hal
       have HM := hid hm
       have hwz := HB2.out.size
       clear hm
       obtain ⟨vv, rfl⟩ : ∃ v, v = u5 := ⟨_, rfl⟩
       go_wp2_with (at_builtin; refine wpList_app_int rfl (.tmp 25) (.tmp 27) rfl w.heap.size vv m _ rfl (World.ownsRow.alloc HO2.out _) w2.heap.size 1 (k : Int) rfl (heap_alloc_new _ _) ?c1 ?c2 ?_)
       case c1 => omega
       case c2 => simp; omega
       intro av' cv' w4 ho4 hg4
       have HO4 := hid ho4
       have HB4 : Hid (Below w.heap.size w w4) := hid ((HB2.out.alloc HB2.out.size _).trans (below_own (World.ownsRow.alloc HO2.out _) hg4 (Nat.le_refl _) (by simp; omega)))
       clear ho4 hg4
       go_wp2_with fail
       go_roundw
       case rel =>
        refine ⟨k + 1, by omega, by go_num, hid ?_, HB4⟩
        rw [HF.out, List.length_append, HM.out, nn_append, ints_append]
        exact HO4.out
       case measure => simp [intOf]; omega
  · obtain rfl : n = k := by omega
    go_wp2_with fail
    go_ret
    exact ⟨u5, rfl, by unfold OwnR; rw [← HAL.out]; exact HO.out, HB.out⟩
theorem own_base {w : World} {b b' : Nat} {e : TypeId} {sz : Nat} {v : Value} {n : Nat} {xs : List Value} (h : w.ownsRow b e sz v n xs) (hb : b' ≤ b) : w.ownsRow b' e sz v n xs := by
 refine ⟨h.1, ?_⟩
 rcases h.2 with h | ⟨g, cap, cur, rfl, h1, h2, h3⟩
 · exact .inl h
 · exact .inr ⟨g, cap, cur, rfl, by omega, h2, h3⟩
theorem RL.base {w : World} {b1 b2 c1 c2 : Nat} {v : Value} {ls : List (List Int)} (h : RL w b1 b2 v ls) (h1 : c1 ≤ b1) (h2 : c2 ≤ b2) : RL w c1 c2 v ls := by
 obtain ⟨us, a, b, c⟩ := h
 exact ⟨us, a, own_base b h1, fun i k1 k2 => own_base (c i k1 k2) h2⟩
theorem OwnR.nat {W : Nat} {l : List Nat} {v : Value} {w' : World} (h : OwnR W l v w') : w'.ownsRow W 3 1 v (Si.nn l).length (ints (Si.nn l)) := by
 unfold OwnR at h; rwa [nn_len]
theorem vlinks_any (s : Si.Site) (kv ov zv av sv rv : Value) (B g0 : Nat) (w : World) (h : ZdV w B g0 s kv ov zv av sv rv) (hr : Si.Right s) (hk : Si.Ok s) :
 Calls Tryz.prog 130 #[.pointer (some ⟨B, 0, none⟩)] w fun e w' => ∃ v, e = .returned v ∧ RL w' w.heap.size w.heap.size v (Si.linksL s) ∧ Below w.heap.size w w' := by
 obtain ⟨a1, c1, a2, c2, a3, c3, a4, c4, a5, c5, a6, c6, rfl, rfl, rfl, rfl, rfl, rfl, m1, m2, m3, m4, m5, m6⟩ := h.sv.open
 have hzn := hk.zn
 have hB := h.hB
 unfold zdC at hB
 have p5 : w.cell? ⟨B, 5, none⟩ = some (.slice a3 s.zones.length c3) := cell_of_heap hB 5 rfl
 have HG := hid (fun a W (hW : Below w.heap.size w W) ha => from_any s _ _ _ _ _ _ B g0 a W (h.below hW) hr hk ha)
 have HLG : Hid (∀ i, (hi : i < s.zones.length) → (Si.linksL s)[i]'(by rw [Si.linksL_len]; exact hi) = Si.nn (Si.linksZ s i)) := hid (fun i hi => Si.linksL_get s i hi)
 have HLE := hid (Si.linksL_len s)
 obtain ⟨n, e1⟩ : ∃ n, s.zones.length = n := ⟨_, rfl⟩
 have E1 := hid e1
 rw [e1] at p5 m3 hzn HLE
 have H0 : Hid (RL w w.heap.size w.heap.size (.slice none 0 0) ((Si.linksL s).take 0)) := hid (by rw [List.take_zero]; exact RL.nil ..)
 have lB : B < w.heap.size := heap_lt hB
 clear h hB e1 hr hk
 go_enter Tryz.func130, Tryz.ntmps130
 go_wp2_with fail
 go_loopw [3, 11] (fun vv iv wr => ∃ k : Nat, k ≤ n ∧ iv = .int .i64 k ∧ Hid (RL wr w.heap.size w.heap.size vv ((Si.linksL s).take k)) ∧ Hid (Below w.heap.size w wr)) (fun _ iv _ => n - (intOf iv).toNat)
 case atStart => exact ⟨0, by omega, rfl, H0, hid (Below.refl _ _)⟩
 case round =>
  clear p5 H0
  obtain ⟨k, hk, rfl, HO, HB⟩ := hrel
  by_cases hkn : k < n
  · have hkl : k < (Si.linksL s).length := by rw [HLE.out]; exact hkn
    have HGK := hid (HG.out k wr HB.out (by rw [E1.out]; exact hkn))
    have HTK : Hid ((Si.linksL s).take (k + 1) = (Si.linksL s).take k ++ [Si.nn (Si.linksZ s k)]) := hid (by rw [List.take_succ_eq_append_getElem hkl, HLG.out k (by rw [E1.out]; exact hkn)])
    have HTL : Hid (((Si.linksL s).take k).length = k) := hid (by rw [List.length_take]; omega)
    obtain ⟨vv, rfl⟩ : ∃ v, v = u3 := ⟨_, rfl⟩
    have hwb := HB.out.size
    go_wp2_with fail
    go_at_call 207; refine HGK.out.mono ?_; rintro e w2 ⟨fv, rfl, hf, b2⟩
    have HO2 := hid (HO.out.below b2)
    have HB2 := hid (HB.out.trans (b2.mono HB.out.size))
    have HF2 := hid (own_base hf.nat hwb)
    obtain ⟨fa, fc, hfv, hfm⟩ := own_slice HF2.out
    obtain ⟨fm, hfn⟩ : ∃ m, (Si.nn (Si.linksZ s k)).length = m := ⟨_, rfl⟩
    rw [hfn] at hfv hfm
    subst hfv
    have hwz := HB2.out.size
    clear b2 hf hfn
    go_wp2_with (at_builtin; refine wpList_app_rl rfl (.tmp 14) (.tmp 18) rfl w.heap.size w.heap.size vv k _ HTL.out rfl (HO2.out.alloc _) w2.heap.size 1 (Si.nn (Si.linksZ s k)) (.slice fa fm fc) rfl (heap_alloc_new _ _) (World.ownsRow.alloc HF2.out _) ?c1 ?c2 ?_)
    case c1 => omega
    case c2 => simp; omega
    intro av' cv' w4 ho4 hg4 hb4
    have HO4 := hid ho4
    have HB4 : Hid (Below w.heap.size w w4) := hid ((HB2.out.alloc HB2.out.size _).trans hb4)
    clear ho4 hg4 hb4
    go_wp2_with fail
    go_roundw
    case rel => exact ⟨k + 1, by omega, by go_num, hid (by rw [HTK.out]; exact HO4.out), HB4⟩
    case measure => simp [intOf]; omega
  · obtain rfl : n = k := by omega
    go_wp2_with fail
    go_ret
    exact ⟨u3, rfl, by have := HO.out; rwa [List.take_of_length_le (by rw [HLE.out]; omega)] at this, HB.out⟩
theorem vmade_bools (n : Nat) : madeCells #[.bool false] n = (bools (List.replicate n false)).toArray := by
 apply Array.ext_getElem?
 intro k
 by_cases hk : k < n
 · simp [madeCells, bools, hk, Nat.mod_one]
 · simp [madeCells, bools, hk]
theorem vown_mk {w : World} {g : Nat} {x : Value} {e : TypeId} (h : w.heap[g]? = some (.cells #[x] e (0, 0))) : w.ownsRow g e 1 (.slice (some ⟨g, 0, none⟩) 1 1) 1 [x] :=
 ⟨by simp, .inr ⟨g, 1, #[x], rfl, Nat.le_refl _, h, Nat.le_refl _, by unfold maxLen; omega, by simp, by simp⟩⟩
def falseV : Value → Bool
 | .bool false => true
 | _ => false
def stepsAt (g : Nat) (w : World) (v : Value) : Nat := (cellsAt w g).countP falseV + lenOfV v
theorem stepsAt_eq {g : Nat} {w : World} {l : List Bool} {t : TypeId} {fr : Nat × Nat} (h : w.heap[g]? = some (.cells (bools l).toArray t fr)) (a : Option Addr) (m c : Nat) : stepsAt g w (.slice a m c) = l.count false + m := by
 unfold stepsAt cellsAt
 rw [h]
 simp only [lenOfV, bools]
 congr 1
 rw [List.countP_map, List.count]
 congr 1
 funext x
 cases x <;> rfl
theorem count_set_true {l : List Bool} {c : Nat} (h : c < l.length) (hf : l[c] = false) : (l.set c true).count false + 1 = l.count false := by
 have h1 : 0 < l.count false := by rw [List.count_pos_iff]; rw [← hf]; exact List.getElem_mem h
 rw [List.count_set h]
 simp [hf]; omega
theorem below_qr {w w' : World} {base B : Nat} {e : TypeId} {v : Value} {xs : List Value} (h : Qr w base e v xs) (hg : w.grownBy w' v.ownBlock) (hB : B ≤ base) (hw : B ≤ w.heap.size) : Below B w w' :=
 ⟨hg.os, hg.tape, hg.output, hg.size, fun k hk => hg.block k (by omega) (fun e2 => by have := (h.block e2.symm).1; omega)⟩
theorem wpList_app_qi {w : World} {ops : Array Oper} {rest : List Oper} {o : Oper} {a : Act} {Q : Exit → Act → World → Prop} (hgd : o.guard = none) (s x : Operand)
 (ho : o.op = .call { callee := .builtin .append, args := #[s, x], argTypes := #[22, 22] })
 (base : Nat) (v : Value) (n : Nat) (l : List Int) (hn : l.length = n) (hs : a.eval s = v) (hq : Qr w base 3 v (ints l))
 (g c : Nat) (y : Int) (hx : a.eval x = .slice (some ⟨g, 0, none⟩) 1 c) (hg : w.heap[g]? = some (.cells #[.int .i64 y] 3 (0, 0)))
 (hsz : n + 1 ≤ 1000000000) (hbase : base ≤ w.heap.size)
 (h : ∀ a' c' w', Qr w' base 3 (.slice a' (n + 1) c') (ints (l ++ [y])) → GT 3 w w' → Below base w w' → wpList Tryz.prog ops Q rest (a.put o.dst (.slice a' (n + 1) c')) w') : wpList Tryz.prog ops Q (o :: rest) a w := by
 subst hn
 obtain ⟨i, hi, hz, hsize, hby⟩ := info_parts Tryz.intInfo0
 refine wpList_append_qr _ hgd s x 22 ho base 3 i _ 8 Tryz.underlying22 hi hz hsize hby rfl v (ints l) hs hq ⟨g, 0, none⟩ c (.int .i64 y) hx rfl (by rw [Addr.add_lit]; exact cell_of_heap hg 0 rfl) (by rw [ints_len]; unfold maxLen; omega) (by rw [ints_len]; omega) hbase ?_
 intro v' w' h2 h3
 obtain ⟨a', c', rfl, -⟩ := h2.form
 rw [List.length_append, ints_len, List.length_singleton] at *
 refine h a' c' w' ?_ ⟨v.ownBlock, h3, fun k hk => by
  obtain ⟨-, -, cs, h9⟩ := hq.block hk
  exact ⟨cs, _, h9⟩⟩ (below_qr hq h3 (Nat.le_refl _) hbase)
 have e : ints (l ++ [y]) = ints l ++ [.int .i64 y] := by simp [ints]
 rw [e]; exact h2
def VrPost (lk : Nat → Nat → Bool) (n a : Nat) (w : World) (e : Ending) (w' : World) : Prop :=
 Below w.heap.size w w' ∧ ∃ v l, e = .returned v ∧ OwnR w.heap.size l v w' ∧ Ve.RZ lk n a l
theorem vmem_take {s : Si.Site} {x c n : Nat} (hn : s.zones.length = n) (hc : c < n) (hl : Si.linked s x c = true) : c ∈ (Si.linksZ s x).take (Si.linksZ s x).length := by
 rw [List.take_length]; exact Si.mem_linksZ.2 ⟨by omega, hl⟩
theorem vreach_any (s : Si.Site) (v : Value) (a : Nat) (w : World) (h : Ll w v (Si.linksL s)) (ha : a < s.zones.length) (hz : s.zones.length ≤ 64) :
 Calls Tryz.prog 136 #[v, .int .i64 a] w (VrPost (Si.linked s) s.zones.length a w) := by
 obtain ⟨lv, lc, rfl, hm⟩ := h.form
 have HLG : Hid (∀ i, (hi : i < s.zones.length) → (Si.linksL s)[i]'(by rw [Si.linksL_len]; exact hi) = Si.nn (Si.linksZ s i)) := hid (fun i hi => Si.linksL_get s i hi)
 have HLE := hid (Si.linksL_len s)
 have HST := hid (Pt.Rc.start (lk := Si.linked s) ha)
 have HRZ := hid (fun bl h => Ve.RZ.of_seen (lk := Si.linked s) (n := s.zones.length) (a := a) (bl := bl) ha h)
 obtain ⟨n, hn⟩ : ∃ n, s.zones.length = n := ⟨_, rfl⟩
 have hll : (Si.linksL s).length = n := by rw [Si.linksL_len]; exact hn
 rw [hll] at h hm ⊢
 rw [hn] at ha hz HLE HST HRZ
 rw [hn]
 have HN := hid hn
 have HL := hid h
 have hmk := make_bools n (n : Int) rfl (by omega)
 have hma : (madeCells #[Value.bool false] n)[a]? = some (.bool false) := by rw [vmade_bools]; simp [bools, ha]
 have a0 : (0 : Int) ≤ (a : Int) := by omega
 have a1 : (a : Int) < (n : Int) := by omega
 obtain ⟨W0, hW0⟩ : ∃ W0, W0 = (w.alloc (.cells ((madeCells #[.bool false] n).setIfInBounds a (.bool true)) 4)).alloc (.cells #[.int .i64 (a : Int)] 3) := ⟨_, rfl⟩
 have G0 : Hid (W0.heap[w.heap.size]? = some (.cells (bools ((List.replicate n false).set a true)).toArray 4 (0, 0))) := hid (by
  rw [hW0, vmade_bools, bools_set]
  exact heap_two0 _ _ _)
 have Q0 : Hid (Qr W0 (w.heap.size + 1) 3 (.slice (some ⟨w.heap.size + 1, 0, none⟩) 1 1) (ints (Si.nn ([a].drop 0)))) := hid (by rw [hW0]; exact Qr.of_own (vown_mk (heap_two3 _ _ _)))
 have B0 : Hid (Below w.heap.size w W0) := hid (by
  rw [hW0]
  exact (((Below.refl _ w).alloc (Nat.le_refl _) _).alloc (by simp) _))
 have C0 : Hid (((List.replicate n false).set a true).count false + [a].length = n) := hid (by
  have h1 := count_set_true (l := List.replicate n false) (c := a) (by simp [ha]) (by simp)
  rw [List.count_replicate_self] at h1
  exact h1)
 have HW0 := hid hW0
 clear h hn hll hW0
 go_enter Tryz.func136, Tryz.ntmps136
 go_upto_region 4 with fail
 rw [← HW0.out]
 clear hmk hma HW0
 go_wp2_with fail
 go_loopw [6] (fun qv wr => ∃ (i m : Nat) (seen : List Bool) (q : List Nat), i ≤ m ∧ m ≤ n ∧ Hid (q.length = m) ∧ Hid (Pt.Rc (Si.linked s) n a seen q i []) ∧ Hid (seen.count false + q.length = n) ∧ Hid (wr.heap[w.heap.size]? = some (.cells (bools seen).toArray 4 (0, 0))) ∧
  Hid (Qr wr (w.heap.size + 1) 3 qv (ints (Si.nn (q.drop i)))) ∧ Hid (Below w.heap.size w wr)) (fun qv wr => stepsAt w.heap.size wr qv)
 case atStart => exact ⟨0, 1, _, [a], by omega, by omega, hid rfl, HST, C0, G0, Q0, B0⟩
 case round =>
  clear G0 Q0 B0 C0 HST
  obtain ⟨i, m, seen, q, him, hmn, HM, HR, HC, HG, HQ, HB⟩ := hrel
  obtain ⟨qv, rfl⟩ : ∃ v, v = u6 := ⟨_, rfl⟩
  by_cases hi : i < m
  · have hiq : i < q.length := by rw [HM.out]; exact hi
    obtain ⟨x, hx⟩ : ∃ x, q[i] = x := ⟨_, rfl⟩
    have HD : Hid (q.drop i = x :: q.drop (i + 1)) := hid (by rw [List.drop_eq_getElem_cons hiq, hx])
    have hq2 : Qr wr (w.heap.size + 1) 3 qv (.int .i64 (x : Int) :: ints (Si.nn (q.drop (i + 1)))) := by
     have h9 := HQ.out
     rw [HD.out] at h9
     exact h9
    obtain ⟨qg, qo, qc, e0, hc0, hc1, hc2⟩ := hq2.head
    have hl9 : (ints (Si.nn (q.drop (i + 1)))).length + 1 = m - i := by rw [ints_len, nn_len, List.length_drop, HM.out]; omega
    rw [hl9] at e0 hc1
    subst e0
    have hxn : x < n := by rw [← hx]; exact HR.out.lt _ (List.getElem_mem hiq)
    obtain ⟨b2, o2, u, e2, r2w, hu⟩ := HL.out.cell x (by rw [HLE.out]; exact hxn)
    subst e2
    have r2 := (HB.out.cell (p := ⟨b2, o2 + x, none⟩) (cell_block_lt r2w)).trans r2w
    clear r2w
    rw [HLG.out x (by rw [HN.out]; exact hxn)] at hu
    obtain ⟨u1, uc, hus, hu2⟩ := hu.form
    subst hus
    rw [nn_len] at hu hu2 r2
    have HU := hid hu
    obtain ⟨K, hK⟩ : ∃ K, (Si.linksZ s x).length = K := ⟨_, rfl⟩
    rw [hK] at HU hu2 r2
    have HK := hid hK
    have x0 : (0 : Int) ≤ (x : Int) := by omega
    have x1 : (x : Int) < (n : Int) := by omega
    obtain ⟨mi, hmi⟩ : ∃ k, k = m - i := ⟨_, rfl⟩
    rw [← hmi] at hc1 HQ
    rw [← hmi]
    have d0 : (0 : Int) < (mi : Int) := by omega
    have d1 : 0 < mi := by omega
    have d2 : mi ≤ 9223372036854775807 := by omega
    obtain ⟨wo, rfl⟩ : ∃ wo : World, wo = wr := ⟨_, rfl⟩
    have HME : Hid (stepsAt w.heap.size wo (.slice (some ⟨qg, qo, none⟩) mi qc) + i = n) := hid (by
     rw [stepsAt_eq HG.out]
     have h1 := HC.out
     have h2 := HM.out
     omega)
    have HX : Hid (q[i]? = some x) := hid (by rw [List.getElem?_eq_getElem hiq, hx])
    have HR0 : Hid (Pt.Rc (Si.linked s) n a seen q i ((Si.linksZ s x).take 0)) := hid (by rw [List.take_zero]; exact HR.out)
    clear hu hx hK hiq hq2 hc1 hc2 hl9 hmi HD
    go_wp2_with fail
    go_loopw [6, 32] (fun qv kv wr => ∃ (k m : Nat) (seen : List Bool) (q : List Nat), k ≤ K ∧ i < m ∧ m ≤ n ∧ kv = .int .i64 k ∧ Hid (q.length = m) ∧ Hid (q[i]? = some x) ∧ Hid (Pt.Rc (Si.linked s) n a seen q i ((Si.linksZ s x).take k)) ∧ Hid (seen.count false + q.length = n) ∧ Hid (wr.heap[w.heap.size]? = some (.cells (bools seen).toArray 4 (0, 0))) ∧
     Hid (Qr wr (w.heap.size + 1) 3 qv (ints (Si.nn (q.drop i)))) ∧ Hid (Below w.heap.size w wr)) (fun _ kv _ => K - (intOf kv).toNat)
    case atStart => exact ⟨0, m, seen, q, by omega, hi, hmn, rfl, HM, HX, HR0, HC, HG, HQ, HB⟩
    case round =>
     clear HR0 HM HX HR HG HQ HB HC r2 hc0
     obtain ⟨k, m, seen, q, hk, him, hmn, rfl, HM, HX, HR, HC, HG, HQ, HB⟩ := hrel
     obtain ⟨qv, rfl⟩ : ∃ v, v = u6 := ⟨_, rfl⟩
     by_cases hkK : k < K
     · have hkl : k < (Si.linksZ s x).length := by rw [HK.out]; exact hkK
       obtain ⟨b3, o3, e3, r3⟩ := (HU.out.keep HB.out).cell k (by rw [nn_len]; exact hkl)
       subst e3
       obtain ⟨c, hc⟩ : ∃ c, (Si.linksZ s x)[k] = c := ⟨_, rfl⟩
       have hnc : (Si.nn (Si.linksZ s x))[k]'(by rw [nn_len]; exact hkl) = (c : Int) := by unfold Si.nn; rw [List.getElem_map, hc]; rfl
       rw [hnc] at r3
       have hcm : c ∈ Si.linksZ s x := by rw [← hc]; exact List.getElem_mem hkl
       obtain ⟨hcn, hcl⟩ := Si.mem_linksZ.1 hcm
       rw [HN.out] at hcn
       have HTK : Hid ((Si.linksZ s x).take (k + 1) = (Si.linksZ s x).take k ++ [c]) := hid (by rw [List.take_succ_eq_append_getElem hkl, hc])
       have HCL := hid hcl
       have hsl : c < seen.length := by rw [HR.out.ln]; exact hcn
       have c0 : (0 : Int) ≤ (c : Int) := by omega
       have c1 : (c : Int) < (n : Int) := by omega
       have k0 : (0 : Int) ≤ (k : Int) := by omega
       have k1 : (k : Int) < (K : Int) := by omega
       have g1 : wr.frozen? ⟨w.heap.size, c, none⟩ = false := free_of_heap HG.out c
       have HSE : Hid (seen.getD c false = seen[c]) := hid (by simp [List.getD, hsl])
       have hqi : i < q.length := by rw [HM.out]; exact him
       have HQX : Hid (q[i] = x) := hid (by have h9 := HX.out; rw [List.getElem?_eq_getElem hqi] at h9; injection h9)
       have lw : w.heap.size < wr.heap.size := heap_lt HG.out
       have lb3 := cell_block_lt r3
       have HB3 : Hid (b3 < w.heap.size) := hid (by
        obtain ⟨b4, o4, e4, r4⟩ := HU.out.cell k (by rw [nn_len]; exact hkl)
        injection e4 with e4; injection e4 with e4 e5
        subst e4
        exact cell_block_lt r4)
       clear hc hnc hcm hcl
       cases hsc : seen[c] with
       | true =>
        have g0 : wr.cell? ⟨w.heap.size, c, none⟩ = some (.bool true) := cell_of_heap HG.out c (by simp [bools, hsl, hsc])
        have HNX := hid (HR.out.old (c := c) (by rw [HSE.out]; exact hsc))
        clear hsc
        go_wp2_with fail
        go_roundw
        case rel => exact ⟨k + 1, m, seen, q, by omega, him, hmn, by go_num, HM, HX, hid (by rw [HTK.out]; exact HNX.out), HC, HG, HQ, HB⟩
        case measure => simp [intOf]; omega
       | false =>
        have g0 : wr.cell? ⟨w.heap.size, c, none⟩ = some (.bool false) := cell_of_heap HG.out c (by simp [bools, hsl, hsc])
        have HNX := hid (HR.out.new (c := c) (by rw [HSE.out]; exact hsc) hcn hqi (by rw [HQX.out]; exact HCL.out))
        have HC2 : Hid ((seen.set c true).count false + (q ++ [c]).length = n) := hid (by
         have h1 := count_set_true hsl hsc
         have h2 := HC.out
         rw [List.length_append, List.length_singleton]
         omega)
        have hmn2 : m + 1 ≤ n := by
         have h9 := HNX.out.len
         rw [List.length_append, HM.out, List.length_singleton] at h9
         exact h9
        obtain ⟨W2, hW2⟩ : ∃ W2, W2 = wr.setCell ⟨w.heap.size, c, none⟩ (.bool true) := ⟨_, rfl⟩
        have HG2 : Hid (W2.heap[w.heap.size]? = some (.cells (bools (seen.set c true)).toArray 4 (0, 0))) := hid (by rw [hW2, ← bools_set]; exact set_heap HG.out c _)
        have HQ2 : Hid (Qr W2 (w.heap.size + 1) 3 qv (ints (Si.nn (q.drop i)))) := hid (by
         rw [hW2]
         exact HQ.out.kept fun g hg => heap_setCell_other _ _ g _ (by have := (HQ.out.block hg).1; show g ≠ w.heap.size; omega))
        have HB2 : Hid (Below w.heap.size w W2) := hid (by rw [hW2]; exact HB.out.setCell (Nat.le_refl _) _)
        have hz2 : W2.heap.size = wr.heap.size := by rw [hW2]; simp [World.setCell]
        have lz1 : w.heap.size + 1 ≤ W2.heap.size := by omega
        have r4 : W2.cell? ⟨b3, o3 + k, none⟩ = some (.int .i64 (c : Int)) := by rw [hW2]; exact (World.cell?_of_block (heap_setCell_other _ _ b3 _ (by have h1 := HB3.out; show b3 ≠ w.heap.size; omega))).trans r3
        have HDL : Hid ((Si.nn (q.drop i)).length = m - i) := hid (by rw [nn_len, List.length_drop, HM.out])
        have HDA : Hid (Si.nn ((q ++ [c]).drop i) = Si.nn (q.drop i) ++ [(c : Int)]) := hid (by rw [List.drop_append_of_le_length (by omega), nn_append]; rfl)
        have HW2 := hid hW2
        obtain ⟨mi2, hmi2⟩ : ∃ k, k = m - i := ⟨_, rfl⟩
        rw [← hmi2] at HDL
        clear hsc hz2 hW2
        go_upto_region 11 with fail
        rw [← HW2.out]
        clear r3 g0 g1 lw lb3
        go_wp2_with (at_builtin; refine wpList_app_qi rfl (.tmp 44) (.tmp 46) rfl (w.heap.size + 1) qv mi2 (Si.nn (q.drop i)) HDL.out rfl (HQ2.out.kept fun g hg => heap_alloc_old _ _ (HQ2.out.block hg).2.1) W2.heap.size 1 (c : Int) rfl (heap_alloc_new _ _) ?c1 ?c2 ?_)
        case c1 => omega
        case c2 => simp; omega
        intro a' c' w4 ho4 hg4 hb4
        have HG4 : Hid (w4.heap[w.heap.size]? = some (.cells (bools (seen.set c true)).toArray 4 (0, 0))) := hid (hg4.heap (heap_old HG2.out) (by decide))
        have HB4 : Hid (Below w.heap.size w w4) := hid ((HB2.out.alloc HB2.out.size _).trans (hb4.mono (by omega)))
        have HO4 := hid ho4
        clear ho4 hg4 hb4
        go_wp2_with fail
        go_roundw
        case rel =>
         refine ⟨k + 1, m + 1, seen.set c true, q ++ [c], by omega, by omega, hmn2, by go_num, hid (by rw [List.length_append, HM.out]; rfl), hid (by rw [List.getElem?_append_left hqi]; exact HX.out), hid (by rw [HTK.out]; exact HNX.out), HC2, HG4, hid ?_, HB4⟩
         rw [HDA.out]
         exact HO4.out
        case measure => simp [intOf]; omega
     · obtain rfl : K = k := by omega
       have hqi : i < q.length := by rw [HM.out]; exact him
       have HNX := hid (HR.out.next hqi (fun c hc hl => by
        have h9 := HX.out
        rw [List.getElem?_eq_getElem hqi] at h9
        injection h9 with h9
        rw [h9] at hl
        rw [← HK.out]
        exact vmem_take HN.out hc hl))
       have HD : Hid (q.drop i = x :: q.drop (i + 1)) := hid (by
        have h9 := HX.out
        rw [List.getElem?_eq_getElem hqi] at h9
        injection h9 with h9
        rw [List.drop_eq_getElem_cons hqi, h9])
       have hq2 : Qr wr (w.heap.size + 1) 3 qv (.int .i64 (x : Int) :: ints (Si.nn (q.drop (i + 1)))) := by
        have h9 := HQ.out
        rw [HD.out] at h9
        exact h9
       obtain ⟨a2, n2, c2, hrun, hq3⟩ := hq2.cut Tryz.underlying22 (fun W => by kernel_rfl)
       have HQ3 := hid hq3
       have hn2 : n2 = m - (i + 1) := by
        obtain ⟨a9, c9, e9, -, -⟩ := hq3.form
        injection e9 with _ e9 _
        rw [e9, ints_len, nn_len, List.length_drop, HM.out]
       have HME2 : Hid (stepsAt w.heap.size wr (.slice a2 n2 c2) + (i + 1) = n) := hid (by
        rw [stepsAt_eq HG.out]
        have h1 := HC.out
        have h2 := HM.out
        omega)
       clear hq2 hq3 hn2
       go_wp2_with fail
       go_roundw
       case rel => exact ⟨i + 1, m, seen, q, by omega, hmn, HM, HNX, HC, HG, HQ3, HB⟩
       case measure =>
        have h1 := HME.out
        have h2 := HME2.out
        omega
  · obtain rfl : i = m := by omega
    have HSN : Hid (Pt.Seen (Si.linked s) n a seen) := hid ⟨HR.out.ln, fun j => HR.out.all (by rw [HM.out]; omega) j⟩
    have hqf := HQ.out.form
    rw [ints_len, nn_len, List.length_drop, HM.out, Nat.sub_self] at hqf
    obtain ⟨qa, qc, rfl, -, -⟩ := hqf
    have HSL : Hid (seen.length = n) := hid HR.out.ln
    obtain ⟨w1, rfl⟩ : ∃ wo : World, wo = wr := ⟨_, rfl⟩
    have HSU : Hid (∀ k, (List.range (k + 1)).filter (fun j => seen.getD j false) = (List.range k).filter (fun j => seen.getD j false) ++ if seen.getD k false = true then [k] else []) := hid (fun k => range_filter_succ (fun j => seen.getD j false) k)
    have HFL : Hid (∀ k, ((List.range k).filter (fun j => seen.getD j false)).length ≤ k) := hid (fun k => by have := List.length_filter_le (fun j => seen.getD j false) (List.range k); rwa [List.length_range] at this)
    obtain ⟨F, hF⟩ : ∃ F : Nat → List Nat, F = fun k => (List.range k).filter (fun j => seen.getD j false) := ⟨_, rfl⟩
    have HF0 : Hid (F 0 = []) := hid (by rw [hF]; rfl)
    have HFS : Hid (∀ k, F (k + 1) = F k ++ if seen.getD k false = true then [k] else []) := hid (fun k => by rw [hF]; exact HSU.out k)
    have HFB : Hid (∀ k, (F k).length ≤ k) := hid (fun k => by rw [hF]; exact HFL.out k)
    have HFR : Hid (Ve.RZ (Si.linked s) n a (F n)) := hid (by rw [hF]; exact HRZ.out seen HSN.out)
    clear hF HSU HFL HR HQ HC
    go_wp2_with fail
    go_loopw [9, 51] (fun vv iv wr => ∃ k : Nat, k ≤ n ∧ iv = .int .i64 k ∧ Hid (wr.heap[w.heap.size]? = some (.cells (bools seen).toArray 4 (0, 0))) ∧ Hid (wr.ownsRow w.heap.size 3 1 vv (F k).length (ints (Si.nn (F k)))) ∧ Hid (Below w.heap.size w wr)) (fun _ iv _ => n - (intOf iv).toNat)
    case atStart => exact ⟨0, by omega, rfl, HG, hid (by rw [HF0.out]; exact World.ownsRow_nil ..), HB⟩
    case round =>
     clear HG HB
     obtain ⟨k, hk, rfl, HG, HO, HB⟩ := hrel
     obtain ⟨vv, rfl⟩ : ∃ v, v = u9 := ⟨_, rfl⟩
     by_cases hkn : k < n
     · have hal := HFB.out k
       have HSK := hid (HFS.out k)
       have hks : k < seen.length := by rw [HSL.out]; exact hkn
       have HSE : Hid (seen.getD k false = seen[k]) := hid (by simp [List.getD, hks])
       have k0 : (0 : Int) ≤ (k : Int) := by omega
       have k1 : (k : Int) < (n : Int) := by omega
       cases hsc : seen[k] with
       | false =>
        have g0 : wr.cell? ⟨w.heap.size, k, none⟩ = some (.bool false) := cell_of_heap HG.out k (by simp [bools, hks, hsc])
        have HO1 : Hid (wr.ownsRow w.heap.size 3 1 vv (F (k + 1)).length (ints (Si.nn (F (k + 1))))) := hid (by rw [HSK.out, HSE.out, hsc]; simpa using HO.out)
        clear hsc
        go_wp2_with fail
        go_roundw
        case rel => exact ⟨k + 1, by omega, by go_num, HG, HO1, HB⟩
        case measure => simp [intOf]; omega
       | true =>
        have g0 : wr.cell? ⟨w.heap.size, k, none⟩ = some (.bool true) := cell_of_heap HG.out k (by simp [bools, hks, hsc])
        have HF : Hid (F (k + 1) = F k ++ [k]) := hid (by rw [HSK.out, HSE.out, hsc]; rfl)
        obtain ⟨m2, hm2⟩ : ∃ m, (F k).length = m := ⟨_, rfl⟩
        rw [hm2] at HO hal
        have HM2 := hid hm2
        have hwz := HB.out.size
        clear hm2 hsc
        go_wp2_with (at_builtin; refine wpList_app_int rfl (.tmp 57) (.tmp 59) rfl w.heap.size vv m2 _ rfl (World.ownsRow.alloc HO.out _) wr.heap.size 1 (k : Int) rfl (heap_alloc_new _ _) ?c1 ?c2 ?_)
        case c1 => omega
        case c2 => simp; omega
        intro av' cv' w4 ho4 hg4
        have HO4 := hid ho4
        have HG4 : Hid (w4.heap[w.heap.size]? = some (.cells (bools seen).toArray 4 (0, 0))) := hid ((GT.of_own (World.ownsRow.alloc HO.out _) hg4).heap (heap_old HG.out) (by decide))
        have HB4 : Hid (Below w.heap.size w w4) := hid ((HB.out.alloc HB.out.size _).trans (below_own (World.ownsRow.alloc HO.out _) hg4 (Nat.le_refl _) (by simp; omega)))
        clear ho4 hg4
        go_wp2_with fail
        go_roundw
        case rel =>
         refine ⟨k + 1, by omega, by go_num, HG4, hid ?_, HB4⟩
         rw [HF.out, List.length_append, HM2.out, nn_append, ints_append]
         exact HO4.out
        case measure => simp [intOf]; omega
     · obtain rfl : n = k := by omega
       go_wp2_with fail
       go_ret
       exact ⟨HB.out, vv, F n, rfl, HO.out, HFR.out⟩
end Go.Proofs.YtfcbcpfnaadpeaaGreatDoor
