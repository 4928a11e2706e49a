/- Walks of taquinref02: Parts. -/
import Derived.Test.YtdjiimblfhbcjaaDoorR2g
namespace Go.Proofs.YtdjiimblfhbcjaaDoor
set_option linter.unusedSimpArgs false
open Go.RowKit

def partsC (l : List (Pat.Part × List UInt8)) : List Value := l.flatMap partC
theorem partsC_append (a b : List (Pat.Part × List UInt8)) : partsC (a ++ b) = partsC a ++ partsC b := by unfold partsC; rw [List.flatMap_append]
theorem partsC_len (l : List (Pat.Part × List UInt8)) : (partsC l).length = l.length * 5 := by
  induction l with
  | nil => rfl
  | cons a l ih => show (partC a ++ partsC l).length = _; rw [List.length_append, ih]; simp [partC]; omega
theorem Tryd.partInfo : (Tryd.prog.info? 84).map (fun i => (i.zero, i.size, i.bytes)) = some (some (.agg #[.int .i64 0, .int .u8 0, .string ⟨#[]⟩, .bool false, .string ⟨#[]⟩]), 5, 56) := by kernel_rfl
/-- A call's own list of parts. -/
def OP (base : Nat) (w : World) (v : Value) (l : List (Pat.Part × List UInt8)) : Prop := w.ownsRow base 84 5 v l.length (partsC l)
theorem OP.nil (base : Nat) (w : World) : OP base w (.slice none 0 0) [] := ⟨rfl, .inl ⟨rfl, rfl⟩⟩
theorem OP.keep {base : Nat} {w W : World} {v : Value} {l : List (Pat.Part × List UInt8)} (h : OP base w v l) (hb : Below w.heap.size w W) : OP base W v l := own_below h hb
set_option maxRecDepth 100000 in
theorem wpList_app_part {w : World} {ops : Array Oper} {rest : List Oper} {o : Oper} {a : Act} {Q : Exit → Act → World → Prop} (hgd : o.guard = none) (s x : Operand)
    (ho : o.op = .call { callee := .builtin .append, args := #[s, x], argTypes := #[80, 80] })
    (base : Nat) (v : Value) (l : List (Pat.Part × List UInt8)) (hs : a.eval s = v) (hown : OP base w v l)
    (g c : Nat) (t : Pat.Part × List UInt8) (cs : Array Value) (hx : a.eval x = .slice (some ⟨g, 0, none⟩) 1 c) (hg : w.heap[g]? = some (.cells cs 84 (0, 0))) (hcs : cs.toList = partC t)
    (hsz : l.length ≤ 1000000000) (hbase : base ≤ w.heap.size)
    (h : ∀ v' w', OP base w' v' (l ++ [t]) → Below base w w' → w.grownBy w' v.ownBlock → wpList Tryd.prog ops Q rest (a.put o.dst v') w') : wpList Tryd.prog ops Q (o :: rest) a w := by
  obtain ⟨i, hi, hz, hsize, hby⟩ := info_parts Tryd.partInfo
  have hlt := hown
  refine wpList_append_own w hgd s x _ ho base 84 i _ 5 56 Tryd.underlying80 hi hz hsize hby rfl (by decide) v l.length (partsC l) hs hown ⟨g, 0, none⟩ 1 c (partC t) hx (by simp [partC]) ?_ ?_ (by unfold maxLen; omega) (by omega) hbase ?_
  · intro j u hj
    have e2 : ((⟨g, 0, none⟩ : Addr).add j) = ⟨g, 0 + j, none⟩ := by unfold Addr.add; split <;> simp_all
    rw [e2, Nat.zero_add]
    have : cs[j]? = some u := by rw [← hj, ← hcs]; simp
    simp [World.cell?, hg, this]
  · intro u hu
    simp only [partC, List.mem_cons, List.not_mem_nil, or_false] at hu
    rcases hu with rfl | rfl | rfl | rfl | rfl <;> rfl
  · intro v' w' h2 h3 _
    refine h v' w' ?_ ((Below.refl _ _).grown h3 hbase (fun k hk => (World.ownsRow.lt hlt k hk).1)) h3
    unfold OP
    rw [List.length_append, partsC_append]
    have e : partsC [t] = partC t := by simp [partsC]
    rw [e]; exact h2

theorem pheap_two (w : World) (A B : Obj) : ((w.alloc A).alloc B).heap[w.heap.size + 1]? = some B := by
  have := heap_alloc_new (w.alloc A) B
  rwa [show (w.alloc A).heap.size = w.heap.size + 1 by simp] at this
theorem ptwo_cell (w : World) (cs : Array Value) (t : TypeId) (fr : Nat × Nat) (B : Obj) (i : Nat) {v : Value} (h : cs[i]? = some v) : ((w.alloc (.cells cs t fr)).alloc B).cell? ⟨w.heap.size, i, none⟩ = some v := by
  have e : ((w.alloc (.cells cs t fr)).alloc B).heap[w.heap.size]? = some (.cells cs t fr) := by
    rw [heap_alloc_old _ _ (by simp), heap_alloc_new]
  simp [World.cell?, e, h]
theorem pown_new {w : World} {B : Nat} {e : TypeId} {sz : Nat} {v : Value} {n : Nat} {xs : List Value} (hown : w.ownsRow B e sz v n xs) : some w.heap.size ≠ v.ownBlock := by
  rcases hown.2 with ⟨rfl, _⟩ | ⟨g, cap, cur, rfl, _, hg, _⟩
  · simp [Value.ownBlock]
  · intro h
    simp only [Value.ownBlock, Option.some.injEq] at h
    subst h
    simp at hg
theorem partC_str (x : Pat.Part) (T : ByteArray) : partC (x, bs T) = [.int .i64 x.kd, .int .u8 x.bt.toNat, .string ⟨x.st.toArray⟩, .bool x.ng, .string T] := by
  unfold partC; rw [show (⟨(bs T).toArray⟩ : ByteArray) = T from mk_data T]
theorem partC_cls (n : Bool) (S T : ByteArray) : partC (.cls n (bs S), bs T) = [.int .i64 3, .int .u8 0, .string S, .bool n, .string T] := by
  rw [partC_str]
  show [Value.int .i64 3, .int .u8 0, .string ⟨(bs S).toArray⟩, .bool n, .string T] = _
  rw [show (⟨(bs S).toArray⟩ : ByteArray) = S from mk_data S]
theorem pts_step {G : List (Pat.Part × List UInt8)} {acc : List (Pat.Part × List UInt8)} {p : ByteArray} {k n k2 : Nat} {x : Pat.Part} {T : ByteArray} (h : G = acc ++ Pat.pts ((bs p).drop k)) (hk : k < p.size) (hh : Pat.headPart ((bs p).drop k) = (x, n)) (e : k2 = k + n) (hT : T = p.extract k k2) :
    G = (acc ++ [(x, bs T)]) ++ Pat.pts ((bs p).drop k2) := by
  subst e
  rw [h, Pat.pts_drop (bs p) k (by rw [bs_len]; exact hk), hh, hT, bs_extract, show k + n - k = n by omega]; simp
theorem below_via {B : Nat} {a W x w' : World} (h2 : Below B W w') (h1 : Below B a x) (e : W.os = x.os ∧ W.tape = x.tape ∧ W.output = x.output ∧ W.heap = x.heap) : Below B a w' := (below_sm h1 e).trans h2
theorem rclosing_k (p : ByteArray) (first : Nat) (fi R : Int) (hf : fi = (first : Int)) (hR : Pat.closingAt (bs p) first = R) (w : World) (hp : p.size ≤ 140737488355328) (hl : first ≤ p.size + 2) :
    Calls Tryd.prog 88 #[.string p, .int .i64 fi] w fun e w' => e = .returned (.int .i64 R) ∧ w = w' := by
  subst hf; subst hR; exact rclosing_any p first w hp hl
theorem cls_neg {p : ByteArray} {k j : Nat} (h1 : k + 1 < p.size) (h33 : p[k + 1] = 33) (hj : Pat.closing ((bs p).drop (k + 2)) = some j) : Pat.cls ((bs p).drop (k + 1)) = some (true, ((bs p).drop (k + 2)).take j, j + 3) := by
  rw [bs_drop p (k + 1) h1, h33, Pat.cls, hj]
theorem cls_neg_none {p : ByteArray} {k : Nat} (h1 : k + 1 < p.size) (h33 : p[k + 1] = 33) (hj : Pat.closing ((bs p).drop (k + 2)) = none) : Pat.cls ((bs p).drop (k + 1)) = Pat.plainCls ((bs p).drop (k + 1)) := by
  rw [bs_drop p (k + 1) h1, h33, Pat.cls, hj]
theorem cls_other {p : ByteArray} {k : Nat} (h : ∀ h1 : k + 1 < p.size, p[k + 1] ≠ 33) : Pat.cls ((bs p).drop (k + 1)) = Pat.plainCls ((bs p).drop (k + 1)) := by
  by_cases h1 : k + 1 < p.size
  · rw [bs_drop p (k + 1) h1]; exact Pat.cls_plain _ _ (h h1)
  · rw [drop_all p (k + 1) (by omega)]; rfl
theorem plain_some {p : ByteArray} {k j : Nat} (hj : Pat.closing ((bs p).drop (k + 1)) = some j) : Pat.plainCls ((bs p).drop (k + 1)) = some (false, ((bs p).drop (k + 1)).take j, j + 2) := by
  unfold Pat.plainCls; rw [hj]; rfl
theorem plain_none {p : ByteArray} {k : Nat} (hj : Pat.closing ((bs p).drop (k + 1)) = none) : Pat.plainCls ((bs p).drop (k + 1)) = none := by
  unfold Pat.plainCls; rw [hj]; rfl
theorem ex_size (p : ByteArray) (a b : Nat) (h1 : a ≤ b) (h2 : b ≤ p.size) : (p.extract a b).size = b - a := by rw [ByteArray.size_extract]; omega
set_option maxRecDepth 100000 in
set_option maxHeartbeats 64000000 in
theorem rParts_any (p : ByteArray) (w : World) (hp : p.size ≤ 1000000) :
    Calls Tryd.prog 67 #[.string p] w fun e w' => ∃ v, e = .returned v ∧ OP w.heap.size w' v (Pat.pts (bs p)) ∧ Below w.heap.size w w' := by
  obtain ⟨G, hG⟩ : ∃ G, G = Pat.pts (bs p) := ⟨_, rfl⟩
  rw [← hG]
  have H0 : Hid (G = [] ++ Pat.pts ((bs p).drop 0)) := Lib.hid (by rw [hG]; rfl)
  clear hG
  go_enter Tryd.func67, Tryd.ntmps67
  go_wp2_with fail
  go_loopw [3, 4] (fun v i wr => ∃ (u : Value) (k : Nat) (acc : List (Pat.Part × List UInt8)), u = v ∧ k ≤ p.size ∧ acc.length ≤ k ∧ i = .int .i64 k ∧ Hid (OP w.heap.size wr u acc) ∧ Hid (Below w.heap.size w wr) ∧ Hid (G = acc ++ Pat.pts ((bs p).drop k))) (fun _ i _ => p.size - (intOf i).toNat)
  case atStart => exact ⟨_, 0, [], rfl, by omega, by simp, rfl, Lib.hid (OP.nil _ _), Lib.hid (Below.refl _ _), H0⟩
  case round =>
    obtain ⟨u, k, acc, rfl, hk, hal, rfl, HO, HB, HG⟩ := hrel
    clear H0
    by_cases hlt : k < p.size
    · have kI0 : (0 : Int) ≤ (k : Int) := by omega
      have kI1 : (k : Int) < (p.size : Int) := by omega
      have kI2 : (k : Int).toNat = k := by omega
      have kI3 : (k : Int) + 1 ≤ (p.size : Int) := by omega
      have kI4 : IntKind.i64.wrap ((k : Int) + 1) = (k : Int) + 1 := IntWalk.i64_in _ (by omega)
      have kI5 : (0 : Int) ≤ (k : Int) + 1 := by omega
      have kI6 : ((k : Int) + 1).toNat = k + 1 := by omega
      have hwb : w.heap.size ≤ wr.heap.size := HB.out.size
      obtain ⟨c, hc⟩ : ∃ c, c = p[k] := ⟨_, rfl⟩
      have hidx : p[k] = c := hc.symm
      have HD : Hid ((bs p).drop k = c :: (bs p).drop (k + 1)) := Lib.hid (by rw [hc]; exact bs_drop p k hlt)
      clear hc
      by_cases h92 : c = 92
      · have e92 : ((c.toNat : Int) == 92) = true := u8_is (b := 92) h92
        by_cases hk1 : k + 1 < p.size
        · have HH : Hid (Pat.headPart ((bs p).drop k) = (.byte p[k + 1], 2)) := Lib.hid (Pat.hp_esc hlt (by rw [hidx]; exact h92) hk1)
          have kI7 : (k : Int) + 1 < (p.size : Int) := by omega
          have kI8 : IntKind.i64.wrap ((k : Int) + 2) = (k : Int) + 2 := IntWalk.i64_in _ (by omega)
          have kI9 : (0 : Int) ≤ (k : Int) + 2 := by omega
          have kI10 : ((k : Int) + 2).toNat = k + 2 := by omega
          have kI11 : (k : Int) + 2 ≤ (p.size : Int) := by omega
          clear h92
          go_wp2_with fail
          go_region
          all_goals
            go_wp2_with fail
            go_region
            all_goals
              go_wp2_with (at_builtin; refine wpList_app_part rfl _ _ rfl w.heap.size _ acc rfl (HO.out.keep (below_sm (x := (wr.alloc _).alloc _) (((Below.refl _ _).alloc (Nat.le_refl _) _).alloc (by simp) _) ⟨rfl, rfl, rfl, rfl⟩)) (wr.heap.size + 1) 1 (.byte p[k + 1], bs (p.extract k (k + 2))) #[.int .i64 0, .int .u8 p[k + 1].toNat, .string ⟨#[]⟩, .bool false, .string (p.extract k (k + 2))] rfl (pheap_two _ _ _) (by rw [partC_str]; rfl) (by omega) (by simp; omega) ?_)
              intro v' w2 h1 h2 hgrow
              have k8 : w2.cell? ⟨wr.heap.size, 4, none⟩ = some (.string (p.extract k (k + 2))) := (hgrow.cell_far ⟨wr.heap.size, 4, none⟩ (by simp; omega) (pown_new HO.out)).trans (ptwo_cell (v := .string (p.extract k (k + 2))) _ _ _ _ _ 4 rfl)
              have HO2 := Lib.hid h1
              have HB2 : Hid (Below w.heap.size w w2) := Lib.hid (below_via h2 (x := (wr.alloc _).alloc _) ((HB.out.alloc hwb _).alloc (by simp; omega) _) ⟨rfl, rfl, rfl, rfl⟩)
              have HG2 := Lib.hid (pts_step HG.out hlt HH.out (k2 := k + 2) rfl (T := p.extract k (k + 2)) rfl)
              have hts := ex_size p k (k + 2) (by omega) (by omega)
              have hts2 : ((p.extract k (k + 2)).size : Int) = ((k + 2 : Nat) : Int) - (k : Int) := by omega
              clear h1 h2 hgrow HO HB HG HH hts
              go_wp2_with fail
              go_roundw
              case rel => exact ⟨_, k + 2, _, rfl, by omega, by simp; omega, by go_num, HO2, HB2, HG2⟩
              case measure => simp [intOf]; omega
        · have HH : Hid (Pat.headPart ((bs p).drop k) = (.byte c, 1)) := Lib.hid (by rw [HD.out, drop_all p (k + 1) (by omega), Pat.headPart_cons, if_neg (by rw [h92]; decide), if_pos h92, h92])
          have e42 : ((c.toNat : Int) == 42) = false := by rw [h92]; decide
          have e63 : ((c.toNat : Int) == 63) = false := by rw [h92]; decide
          have e91 : ((c.toNat : Int) == 91) = false := by rw [h92]; decide
          have kI7 : (p.size : Int) ≤ (k : Int) + 1 := by omega
          have kI8 : decide ((k : Int) + 1 < (p.size : Int)) = false := decide_eq_false (by omega)
          clear h92
          go_wp2_with fail
          go_region
          all_goals
            go_wp2_with (at_builtin; refine wpList_app_part rfl _ _ rfl w.heap.size _ acc rfl (HO.out.keep (below_sm (x := (wr.alloc _).alloc _) (((Below.refl _ _).alloc (Nat.le_refl _) _).alloc (by simp) _) ⟨rfl, rfl, rfl, rfl⟩)) (wr.heap.size + 1) 1 (.byte c, bs (p.extract k (k + 1))) #[.int .i64 0, .int .u8 c.toNat, .string ⟨#[]⟩, .bool false, .string (p.extract k (k + 1))] rfl (pheap_two _ _ _) (by rw [partC_str]; rfl) (by omega) (by simp; omega) ?_)
            intro v' w2 h1 h2 hgrow
            have k8 : w2.cell? ⟨wr.heap.size, 4, none⟩ = some (.string (p.extract k (k + 1))) := (hgrow.cell_far ⟨wr.heap.size, 4, none⟩ (by simp; omega) (pown_new HO.out)).trans (ptwo_cell (v := .string (p.extract k (k + 1))) _ _ _ _ _ 4 rfl)
            have HO2 := Lib.hid h1
            have HB2 : Hid (Below w.heap.size w w2) := Lib.hid (below_via h2 (x := (wr.alloc _).alloc _) ((HB.out.alloc hwb _).alloc (by simp; omega) _) ⟨rfl, rfl, rfl, rfl⟩)
            have HG2 := Lib.hid (pts_step HG.out hlt HH.out (k2 := k + 1) rfl (T := p.extract k (k + 1)) rfl)
            have hts := ex_size p k (k + 1) (by omega) (by omega)
            have hts2 : ((p.extract k (k + 1)).size : Int) = ((k + 1 : Nat) : Int) - (k : Int) := by omega
            clear h1 h2 hgrow HO HB HG HH hts
            go_wp2_with fail
            go_roundw
            case rel => exact ⟨_, k + 1, _, rfl, by omega, by simp; omega, by go_num, HO2, HB2, HG2⟩
            case measure => simp [intOf]; omega
      · have e92 : ((c.toNat : Int) == 92) = false := u8_ne (b := 92) h92
        by_cases h42 : c = 42
        · have HH : Hid (Pat.headPart ((bs p).drop k) = (.star, 1)) := Lib.hid (Pat.hp_star hlt (by rw [hidx]; exact h42))
          have e42 : ((c.toNat : Int) == 42) = true := u8_is (b := 42) h42
          have hcv : (c.toNat : Int) = 42 := by rw [h42]; rfl
          have HCV := Lib.hid hcv
          clear h92 h42 hcv
          go_wp2_with fail
          go_region
          all_goals
            go_wp2_with (at_builtin; refine wpList_app_part rfl _ _ rfl w.heap.size _ acc rfl (HO.out.keep (below_sm (x := (wr.alloc _).alloc _) (((Below.refl _ _).alloc (Nat.le_refl _) _).alloc (by simp) _) ⟨rfl, rfl, rfl, rfl⟩)) (wr.heap.size + 1) 1 (.star, bs (p.extract k (k + 1))) #[.int .i64 1, .int .u8 c.toNat, .string ⟨#[]⟩, .bool false, .string (p.extract k (k + 1))] rfl (pheap_two _ _ _) (by rw [partC_str, HCV.out]; rfl) (by omega) (by simp; omega) ?_)
            intro v' w2 h1 h2 hgrow
            have k8 : w2.cell? ⟨wr.heap.size, 4, none⟩ = some (.string (p.extract k (k + 1))) := (hgrow.cell_far ⟨wr.heap.size, 4, none⟩ (by simp; omega) (pown_new HO.out)).trans (ptwo_cell (v := .string (p.extract k (k + 1))) _ _ _ _ _ 4 rfl)
            have HO2 := Lib.hid h1
            have HB2 : Hid (Below w.heap.size w w2) := Lib.hid (below_via h2 (x := (wr.alloc _).alloc _) ((HB.out.alloc hwb _).alloc (by simp; omega) _) ⟨rfl, rfl, rfl, rfl⟩)
            have HG2 := Lib.hid (pts_step HG.out hlt HH.out (k2 := k + 1) rfl (T := p.extract k (k + 1)) rfl)
            have hts := ex_size p k (k + 1) (by omega) (by omega)
            have hts2 : ((p.extract k (k + 1)).size : Int) = ((k + 1 : Nat) : Int) - (k : Int) := by omega
            clear h1 h2 hgrow HO HB HG HH hts
            go_wp2_with fail
            go_roundw
            case rel => exact ⟨_, k + 1, _, rfl, by omega, by simp; omega, by go_num, HO2, HB2, HG2⟩
            case measure => simp [intOf]; omega
        · have e42 : ((c.toNat : Int) == 42) = false := u8_ne (b := 42) h42
          by_cases h63 : c = 63
          · have HH : Hid (Pat.headPart ((bs p).drop k) = (.any, 1)) := Lib.hid (Pat.hp_any hlt (by rw [hidx]; exact h63))
            have e63 : ((c.toNat : Int) == 63) = true := u8_is (b := 63) h63
            have hcv : (c.toNat : Int) = 63 := by rw [h63]; rfl
            have HCV := Lib.hid hcv
            clear h92 h42 h63 hcv
            go_wp2_with fail
            go_region
            all_goals
              go_wp2_with (at_builtin; refine wpList_app_part rfl _ _ rfl w.heap.size _ acc rfl (HO.out.keep (below_sm (x := (wr.alloc _).alloc _) (((Below.refl _ _).alloc (Nat.le_refl _) _).alloc (by simp) _) ⟨rfl, rfl, rfl, rfl⟩)) (wr.heap.size + 1) 1 (.any, bs (p.extract k (k + 1))) #[.int .i64 2, .int .u8 c.toNat, .string ⟨#[]⟩, .bool false, .string (p.extract k (k + 1))] rfl (pheap_two _ _ _) (by rw [partC_str, HCV.out]; rfl) (by omega) (by simp; omega) ?_)
              intro v' w2 h1 h2 hgrow
              have k8 : w2.cell? ⟨wr.heap.size, 4, none⟩ = some (.string (p.extract k (k + 1))) := (hgrow.cell_far ⟨wr.heap.size, 4, none⟩ (by simp; omega) (pown_new HO.out)).trans (ptwo_cell (v := .string (p.extract k (k + 1))) _ _ _ _ _ 4 rfl)
              have HO2 := Lib.hid h1
              have HB2 : Hid (Below w.heap.size w w2) := Lib.hid (below_via h2 (x := (wr.alloc _).alloc _) ((HB.out.alloc hwb _).alloc (by simp; omega) _) ⟨rfl, rfl, rfl, rfl⟩)
              have HG2 := Lib.hid (pts_step HG.out hlt HH.out (k2 := k + 1) rfl (T := p.extract k (k + 1)) rfl)
              have hts := ex_size p k (k + 1) (by omega) (by omega)
              have hts2 : ((p.extract k (k + 1)).size : Int) = ((k + 1 : Nat) : Int) - (k : Int) := by omega
              clear h1 h2 hgrow HO HB HG HH hts
              go_wp2_with fail
              go_roundw
              case rel => exact ⟨_, k + 1, _, rfl, by omega, by simp; omega, by go_num, HO2, HB2, HG2⟩
              case measure => simp [intOf]; omega
          · have e63 : ((c.toNat : Int) == 63) = false := u8_ne (b := 63) h63
            by_cases h91 : c = 91
            · have e91 : ((c.toNat : Int) == 91) = true := u8_is (b := 91) h91
              have hpc := fun {x} h => Pat.hp_cls (x := x) hlt (by rw [hidx]; exact h91) h
              have hpn := fun h => Pat.hp_none hlt (by rw [hidx]; exact h91) h
              rw [hidx] at hpn
              have kJ1 : IntKind.i64.wrap ((k : Int) + 2) = (k : Int) + 2 := IntWalk.i64_in _ (by omega)
              have kJ2 : (0 : Int) ≤ (k : Int) + 2 := by omega
              have kJ3 : ((k : Int) + 2).toNat = k + 2 := by omega
              clear h92 h42 h63 h91 HD
              by_cases hneg : ∃ h1 : k + 1 < p.size, p[k + 1] = 33
              · obtain ⟨hk1, h33⟩ := hneg
                have kI7 : (k : Int) + 1 < (p.size : Int) := by omega
                have e33 : ((p[k + 1].toNat : Int) == 33) = true := u8_is (b := 33) h33
                cases hj : Pat.closing ((bs p).drop (k + 2)) with
                | some j =>
                  have hcs := closing_some hj
                  have hjl := Pat.closing_lt hj
                  have HH0 := hpc (cls_neg hk1 h33 hj)
                  obtain ⟨E, hE⟩ : ∃ E, E = k + 2 + j := ⟨_, rfl⟩
                  rw [← hE] at hcs
                  have hset : ((bs p).drop (k + 2)).take j = bs (p.extract (k + 2) E) := by rw [bs_extract, hE]; congr 1; omega
                  have HH : Hid (Pat.headPart ((bs p).drop k) = (.cls true (bs (p.extract (k + 2) E)), j + 3)) := Lib.hid (by rw [HH0, hset])
                  have HCL := Lib.hid hcs.1
                  have hEl := hcs.2
                  have hE3 : k + 3 ≤ E := by omega
                  have HE : Hid (E + 1 = k + (j + 3)) := Lib.hid (by omega)
                  clear hpc hpn hcs HH0 hset hE hj h33 hjl
                  have kE0 : (0 : Int) ≤ (E : Int) := by omega
                  have kE1 : (E : Int) < (p.size : Int) := by omega
                  have kE2 : (E : Int).toNat = E := by omega
                  have kE3 : IntKind.i64.wrap ((E : Int) + 1) = (E : Int) + 1 := IntWalk.i64_in _ (by omega)
                  have kE4 : (0 : Int) ≤ (E : Int) + 1 := by omega
                  have kE5 : ((E : Int) + 1).toNat = E + 1 := by omega
                  have kE6 : (E : Int) + 1 ≤ (p.size : Int) := by omega
                  have kE8 : (k : Int) ≤ (E : Int) + 1 := by omega
                  have kE9 : (E : Int) ≤ (p.size : Int) := by omega
                  have kE7 : (k : Int) + 2 ≤ (E : Int) := by omega
                  go_wp2_with fail
                  go_region
                  all_goals
                    go_wp2_with fail
                    go_at_call 88; refine (rclosing_k p (k + 2) _ E (by omega) HCL.out _ (by omega) (by omega)).mono ?_; rintro e wc ⟨rfl, rfl⟩
                    go_wp2_with fail
                    go_region
                    all_goals
                      go_wp2_with (at_builtin; refine wpList_app_part rfl _ _ rfl w.heap.size _ acc rfl (HO.out.keep (below_sm (x := (wr.alloc _).alloc _) (((Below.refl _ _).alloc (Nat.le_refl _) _).alloc (by simp) _) ⟨rfl, rfl, rfl, rfl⟩)) (wr.heap.size + 1) 1 (.cls true (bs (p.extract (k + 2) E)), bs (p.extract k (E + 1))) #[.int .i64 3, .int .u8 0, .string (p.extract (k + 2) E), .bool true, .string (p.extract k (E + 1))] rfl (pheap_two _ _ _) (by rw [partC_cls]) (by omega) (by simp; omega) ?_)
                      intro v' w2 h1 h2 hgrow
                      have k8 : w2.cell? ⟨wr.heap.size, 4, none⟩ = some (.string (p.extract k (E + 1))) := (hgrow.cell_far ⟨wr.heap.size, 4, none⟩ (by simp; omega) (pown_new HO.out)).trans (ptwo_cell (v := .string (p.extract k (E + 1))) _ _ _ _ _ 4 rfl)
                      have HO2 := Lib.hid h1
                      have HB2 : Hid (Below w.heap.size w w2) := Lib.hid (below_via h2 (x := (wr.alloc _).alloc _) ((HB.out.alloc hwb _).alloc (by simp; omega) _) ⟨rfl, rfl, rfl, rfl⟩)
                      have HG2 := Lib.hid (pts_step HG.out hlt HH.out (k2 := E + 1) HE.out (T := p.extract k (E + 1)) rfl)
                      have hts := ex_size p k (E + 1) (by omega) (by omega)
                      have hts2 : ((p.extract k (E + 1)).size : Int) = ((E + 1 : Nat) : Int) - (k : Int) := by omega
                      clear h1 h2 hgrow HO HB HG HH hts
                      go_wp2_with fail
                      go_roundw
                      case rel => exact ⟨_, E + 1, _, rfl, by omega, by simp; omega, by go_num, HO2, HB2, HG2⟩
                      case measure => simp [intOf]; omega
                | none =>
                  have HCN := Lib.hid (closing_none hj)
                  have hcl := cls_neg_none hk1 h33 hj
                  clear hj h33
                  cases hj : Pat.closing ((bs p).drop (k + 1)) with
                  | some j =>
                    have hcs := closing_some hj
                    have hjl := Pat.closing_lt hj
                    have HH0 := hpc (hcl.trans (plain_some hj))
                    obtain ⟨E, hE⟩ : ∃ E, E = k + 1 + j := ⟨_, rfl⟩
                    rw [← hE] at hcs
                    have hset : ((bs p).drop (k + 1)).take j = bs (p.extract (k + 1) E) := by rw [bs_extract, hE]; congr 1; omega
                    have HH : Hid (Pat.headPart ((bs p).drop k) = (.cls false (bs (p.extract (k + 1) E)), j + 2)) := Lib.hid (by rw [HH0, hset])
                    have HCL := Lib.hid hcs.1
                    have hEl := hcs.2
                    have hE3 : k + 2 ≤ E := by omega
                    have HE : Hid (E + 1 = k + (j + 2)) := Lib.hid (by omega)
                    clear hpc hpn hcs HH0 hset hE hj hjl
                    clear hcl
                    have kE0 : (0 : Int) ≤ (E : Int) := by omega
                    have kE1 : (E : Int) < (p.size : Int) := by omega
                    have kE2 : (E : Int).toNat = E := by omega
                    have kE3 : IntKind.i64.wrap ((E : Int) + 1) = (E : Int) + 1 := IntWalk.i64_in _ (by omega)
                    have kE4 : (0 : Int) ≤ (E : Int) + 1 := by omega
                    have kE5 : ((E : Int) + 1).toNat = E + 1 := by omega
                    have kE6 : (E : Int) + 1 ≤ (p.size : Int) := by omega
                    have kE8 : (k : Int) ≤ (E : Int) + 1 := by omega
                    have kE9 : (E : Int) ≤ (p.size : Int) := by omega
                    have kE7 : (k : Int) + 1 ≤ (E : Int) := by omega
                    go_wp2_with fail
                    go_region
                    all_goals
                      go_wp2_with fail
                      go_at_call 88; refine (rclosing_k p (k + 2) _ (-1) (by omega) HCN.out _ (by omega) (by omega)).mono ?_; rintro e wc ⟨rfl, rfl⟩
                      go_wp2_with fail
                      go_at_call 88; refine (rclosing_k p (k + 1) _ E (by omega) HCL.out _ (by omega) (by omega)).mono ?_; rintro e wc ⟨rfl, rfl⟩
                      go_wp2_with fail
                      go_region
                      all_goals
                        go_wp2_with (at_builtin; refine wpList_app_part rfl _ _ rfl w.heap.size _ acc rfl (HO.out.keep (below_sm (x := (wr.alloc _).alloc _) (((Below.refl _ _).alloc (Nat.le_refl _) _).alloc (by simp) _) ⟨rfl, rfl, rfl, rfl⟩)) (wr.heap.size + 1) 1 (.cls false (bs (p.extract (k + 1) E)), bs (p.extract k (E + 1))) #[.int .i64 3, .int .u8 0, .string (p.extract (k + 1) E), .bool false, .string (p.extract k (E + 1))] rfl (pheap_two _ _ _) (by rw [partC_cls]) (by omega) (by simp; omega) ?_)
                        intro v' w2 h1 h2 hgrow
                        have k8 : w2.cell? ⟨wr.heap.size, 4, none⟩ = some (.string (p.extract k (E + 1))) := (hgrow.cell_far ⟨wr.heap.size, 4, none⟩ (by simp; omega) (pown_new HO.out)).trans (ptwo_cell (v := .string (p.extract k (E + 1))) _ _ _ _ _ 4 rfl)
                        have HO2 := Lib.hid h1
                        have HB2 : Hid (Below w.heap.size w w2) := Lib.hid (below_via h2 (x := (wr.alloc _).alloc _) ((HB.out.alloc hwb _).alloc (by simp; omega) _) ⟨rfl, rfl, rfl, rfl⟩)
                        have HG2 := Lib.hid (pts_step HG.out hlt HH.out (k2 := E + 1) HE.out (T := p.extract k (E + 1)) rfl)
                        have hts := ex_size p k (E + 1) (by omega) (by omega)
                        have hts2 : ((p.extract k (E + 1)).size : Int) = ((E + 1 : Nat) : Int) - (k : Int) := by omega
                        clear h1 h2 hgrow HO HB HG HH hts
                        go_wp2_with fail
                        go_roundw
                        case rel => exact ⟨_, E + 1, _, rfl, by omega, by simp; omega, by go_num, HO2, HB2, HG2⟩
                        case measure => simp [intOf]; omega
                  | none =>
                    have HCL := Lib.hid (closing_none hj)
                    have HH : Hid (Pat.headPart ((bs p).drop k) = (.byte c, 1)) := Lib.hid (hpn (hcl.trans (plain_none hj)))
                    clear hj hcl hpc hpn
                    go_wp2_with fail
                    go_region
                    all_goals
                      go_wp2_with fail
                      go_at_call 88; refine (rclosing_k p (k + 2) _ (-1) (by omega) HCN.out _ (by omega) (by omega)).mono ?_; rintro e wc ⟨rfl, rfl⟩
                      go_wp2_with fail
                      go_at_call 88; refine (rclosing_k p (k + 1) _ (-1) (by omega) HCL.out _ (by omega) (by omega)).mono ?_; rintro e wc ⟨rfl, rfl⟩
                      go_wp2_with (at_builtin; refine wpList_app_part rfl _ _ rfl w.heap.size _ acc rfl (HO.out.keep (below_sm (x := (wr.alloc _).alloc _) (((Below.refl _ _).alloc (Nat.le_refl _) _).alloc (by simp) _) ⟨rfl, rfl, rfl, rfl⟩)) (wr.heap.size + 1) 1 (.byte c, bs (p.extract k (k + 1))) #[.int .i64 0, .int .u8 c.toNat, .string ⟨#[]⟩, .bool false, .string (p.extract k (k + 1))] rfl (pheap_two _ _ _) (by rw [partC_str]; rfl) (by omega) (by simp; omega) ?_)
                      intro v' w2 h1 h2 hgrow
                      have k8 : w2.cell? ⟨wr.heap.size, 4, none⟩ = some (.string (p.extract k (k + 1))) := (hgrow.cell_far ⟨wr.heap.size, 4, none⟩ (by simp; omega) (pown_new HO.out)).trans (ptwo_cell (v := .string (p.extract k (k + 1))) _ _ _ _ _ 4 rfl)
                      have HO2 := Lib.hid h1
                      have HB2 : Hid (Below w.heap.size w w2) := Lib.hid (below_via h2 (x := (wr.alloc _).alloc _) ((HB.out.alloc hwb _).alloc (by simp; omega) _) ⟨rfl, rfl, rfl, rfl⟩)
                      have HG2 := Lib.hid (pts_step HG.out hlt HH.out (k2 := k + 1) rfl (T := p.extract k (k + 1)) rfl)
                      have hts := ex_size p k (k + 1) (by omega) (by omega)
                      have hts2 : ((p.extract k (k + 1)).size : Int) = ((k + 1 : Nat) : Int) - (k : Int) := by omega
                      clear h1 h2 hgrow HO HB HG HH hts
                      go_wp2_with fail
                      go_roundw
                      case rel => exact ⟨_, k + 1, _, rfl, by omega, by simp; omega, by go_num, HO2, HB2, HG2⟩
                      case measure => simp [intOf]; omega
              · have hcl := cls_other (p := p) (k := k) (fun h1 h => hneg ⟨h1, h⟩)
                by_cases hk1 : k + 1 < p.size
                · have kI7 : (k : Int) + 1 < (p.size : Int) := by omega
                  have e33 : ((p[k + 1].toNat : Int) == 33) = false := u8_ne (b := 33) (fun h => hneg ⟨hk1, h⟩)
                  clear hneg
                  cases hj : Pat.closing ((bs p).drop (k + 1)) with
                  | some j =>
                    have hcs := closing_some hj
                    have hjl := Pat.closing_lt hj
                    have HH0 := hpc (hcl.trans (plain_some hj))
                    obtain ⟨E, hE⟩ : ∃ E, E = k + 1 + j := ⟨_, rfl⟩
                    rw [← hE] at hcs
                    have hset : ((bs p).drop (k + 1)).take j = bs (p.extract (k + 1) E) := by rw [bs_extract, hE]; congr 1; omega
                    have HH : Hid (Pat.headPart ((bs p).drop k) = (.cls false (bs (p.extract (k + 1) E)), j + 2)) := Lib.hid (by rw [HH0, hset])
                    have HCL := Lib.hid hcs.1
                    have hEl := hcs.2
                    have hE3 : k + 2 ≤ E := by omega
                    have HE : Hid (E + 1 = k + (j + 2)) := Lib.hid (by omega)
                    clear hpc hpn hcs HH0 hset hE hj hjl
                    clear hcl
                    have kE0 : (0 : Int) ≤ (E : Int) := by omega
                    have kE1 : (E : Int) < (p.size : Int) := by omega
                    have kE2 : (E : Int).toNat = E := by omega
                    have kE3 : IntKind.i64.wrap ((E : Int) + 1) = (E : Int) + 1 := IntWalk.i64_in _ (by omega)
                    have kE4 : (0 : Int) ≤ (E : Int) + 1 := by omega
                    have kE5 : ((E : Int) + 1).toNat = E + 1 := by omega
                    have kE6 : (E : Int) + 1 ≤ (p.size : Int) := by omega
                    have kE8 : (k : Int) ≤ (E : Int) + 1 := by omega
                    have kE9 : (E : Int) ≤ (p.size : Int) := by omega
                    have kE7 : (k : Int) + 1 ≤ (E : Int) := by omega
                    go_wp2_with fail
                    go_region
                    all_goals
                      go_wp2_with fail
                      go_at_call 88; refine (rclosing_k p (k + 1) _ E (by omega) HCL.out _ (by omega) (by omega)).mono ?_; rintro e wc ⟨rfl, rfl⟩
                      go_wp2_with fail
                      go_region
                      all_goals
                        go_wp2_with (at_builtin; refine wpList_app_part rfl _ _ rfl w.heap.size _ acc rfl (HO.out.keep (below_sm (x := (wr.alloc _).alloc _) (((Below.refl _ _).alloc (Nat.le_refl _) _).alloc (by simp) _) ⟨rfl, rfl, rfl, rfl⟩)) (wr.heap.size + 1) 1 (.cls false (bs (p.extract (k + 1) E)), bs (p.extract k (E + 1))) #[.int .i64 3, .int .u8 0, .string (p.extract (k + 1) E), .bool false, .string (p.extract k (E + 1))] rfl (pheap_two _ _ _) (by rw [partC_cls]) (by omega) (by simp; omega) ?_)
                        intro v' w2 h1 h2 hgrow
                        have k8 : w2.cell? ⟨wr.heap.size, 4, none⟩ = some (.string (p.extract k (E + 1))) := (hgrow.cell_far ⟨wr.heap.size, 4, none⟩ (by simp; omega) (pown_new HO.out)).trans (ptwo_cell (v := .string (p.extract k (E + 1))) _ _ _ _ _ 4 rfl)
                        have HO2 := Lib.hid h1
                        have HB2 : Hid (Below w.heap.size w w2) := Lib.hid (below_via h2 (x := (wr.alloc _).alloc _) ((HB.out.alloc hwb _).alloc (by simp; omega) _) ⟨rfl, rfl, rfl, rfl⟩)
                        have HG2 := Lib.hid (pts_step HG.out hlt HH.out (k2 := E + 1) HE.out (T := p.extract k (E + 1)) rfl)
                        have hts := ex_size p k (E + 1) (by omega) (by omega)
                        have hts2 : ((p.extract k (E + 1)).size : Int) = ((E + 1 : Nat) : Int) - (k : Int) := by omega
                        clear h1 h2 hgrow HO HB HG HH hts
                        go_wp2_with fail
                        go_roundw
                        case rel => exact ⟨_, E + 1, _, rfl, by omega, by simp; omega, by go_num, HO2, HB2, HG2⟩
                        case measure => simp [intOf]; omega
                  | none =>
                    have HCL := Lib.hid (closing_none hj)
                    have HH : Hid (Pat.headPart ((bs p).drop k) = (.byte c, 1)) := Lib.hid (hpn (hcl.trans (plain_none hj)))
                    clear hj hcl hpc hpn
                    go_wp2_with fail
                    go_region
                    all_goals
                      go_wp2_with fail
                      go_at_call 88; refine (rclosing_k p (k + 1) _ (-1) (by omega) HCL.out _ (by omega) (by omega)).mono ?_; rintro e wc ⟨rfl, rfl⟩
                      go_wp2_with (at_builtin; refine wpList_app_part rfl _ _ rfl w.heap.size _ acc rfl (HO.out.keep (below_sm (x := (wr.alloc _).alloc _) (((Below.refl _ _).alloc (Nat.le_refl _) _).alloc (by simp) _) ⟨rfl, rfl, rfl, rfl⟩)) (wr.heap.size + 1) 1 (.byte c, bs (p.extract k (k + 1))) #[.int .i64 0, .int .u8 c.toNat, .string ⟨#[]⟩, .bool false, .string (p.extract k (k + 1))] rfl (pheap_two _ _ _) (by rw [partC_str]; rfl) (by omega) (by simp; omega) ?_)
                      intro v' w2 h1 h2 hgrow
                      have k8 : w2.cell? ⟨wr.heap.size, 4, none⟩ = some (.string (p.extract k (k + 1))) := (hgrow.cell_far ⟨wr.heap.size, 4, none⟩ (by simp; omega) (pown_new HO.out)).trans (ptwo_cell (v := .string (p.extract k (k + 1))) _ _ _ _ _ 4 rfl)
                      have HO2 := Lib.hid h1
                      have HB2 : Hid (Below w.heap.size w w2) := Lib.hid (below_via h2 (x := (wr.alloc _).alloc _) ((HB.out.alloc hwb _).alloc (by simp; omega) _) ⟨rfl, rfl, rfl, rfl⟩)
                      have HG2 := Lib.hid (pts_step HG.out hlt HH.out (k2 := k + 1) rfl (T := p.extract k (k + 1)) rfl)
                      have hts := ex_size p k (k + 1) (by omega) (by omega)
                      have hts2 : ((p.extract k (k + 1)).size : Int) = ((k + 1 : Nat) : Int) - (k : Int) := by omega
                      clear h1 h2 hgrow HO HB HG HH hts
                      go_wp2_with fail
                      go_roundw
                      case rel => exact ⟨_, k + 1, _, rfl, by omega, by simp; omega, by go_num, HO2, HB2, HG2⟩
                      case measure => simp [intOf]; omega
                · have kI7 : (p.size : Int) ≤ (k : Int) + 1 := by omega
                  have kI8 : decide ((k : Int) + 1 < (p.size : Int)) = false := decide_eq_false (by omega)
                  clear hneg
                  have hj : Pat.closing ((bs p).drop (k + 1)) = none := by rw [drop_all p (k + 1) (by omega)]; rfl
                  have HCL := Lib.hid (closing_none hj)
                  have HH : Hid (Pat.headPart ((bs p).drop k) = (.byte c, 1)) := Lib.hid (hpn (hcl.trans (plain_none hj)))
                  clear hj hcl hpc hpn
                  go_wp2_with fail
                  go_region
                  all_goals
                    go_wp2_with fail
                    go_at_call 88; refine (rclosing_k p (k + 1) _ (-1) (by omega) HCL.out _ (by omega) (by omega)).mono ?_; rintro e wc ⟨rfl, rfl⟩
                    go_wp2_with (at_builtin; refine wpList_app_part rfl _ _ rfl w.heap.size _ acc rfl (HO.out.keep (below_sm (x := (wr.alloc _).alloc _) (((Below.refl _ _).alloc (Nat.le_refl _) _).alloc (by simp) _) ⟨rfl, rfl, rfl, rfl⟩)) (wr.heap.size + 1) 1 (.byte c, bs (p.extract k (k + 1))) #[.int .i64 0, .int .u8 c.toNat, .string ⟨#[]⟩, .bool false, .string (p.extract k (k + 1))] rfl (pheap_two _ _ _) (by rw [partC_str]; rfl) (by omega) (by simp; omega) ?_)
                    intro v' w2 h1 h2 hgrow
                    have k8 : w2.cell? ⟨wr.heap.size, 4, none⟩ = some (.string (p.extract k (k + 1))) := (hgrow.cell_far ⟨wr.heap.size, 4, none⟩ (by simp; omega) (pown_new HO.out)).trans (ptwo_cell (v := .string (p.extract k (k + 1))) _ _ _ _ _ 4 rfl)
                    have HO2 := Lib.hid h1
                    have HB2 : Hid (Below w.heap.size w w2) := Lib.hid (below_via h2 (x := (wr.alloc _).alloc _) ((HB.out.alloc hwb _).alloc (by simp; omega) _) ⟨rfl, rfl, rfl, rfl⟩)
                    have HG2 := Lib.hid (pts_step HG.out hlt HH.out (k2 := k + 1) rfl (T := p.extract k (k + 1)) rfl)
                    have hts := ex_size p k (k + 1) (by omega) (by omega)
                    have hts2 : ((p.extract k (k + 1)).size : Int) = ((k + 1 : Nat) : Int) - (k : Int) := by omega
                    clear h1 h2 hgrow HO HB HG HH hts
                    go_wp2_with fail
                    go_roundw
                    case rel => exact ⟨_, k + 1, _, rfl, by omega, by simp; omega, by go_num, HO2, HB2, HG2⟩
                    case measure => simp [intOf]; omega
            · have e91 : ((c.toNat : Int) == 91) = false := u8_ne (b := 91) h91
              have HH : Hid (Pat.headPart ((bs p).drop k) = (.byte c, 1)) := Lib.hid (by rw [Pat.hp_byte hlt (by rw [hidx]; exact h42) (by rw [hidx]; exact h92) (by rw [hidx]; exact h63) (by rw [hidx]; exact h91), hidx])
              clear h92 h42 h63 h91
              go_wp2_with fail
              go_region
              all_goals
                go_wp2_with (at_builtin; refine wpList_app_part rfl _ _ rfl w.heap.size _ acc rfl (HO.out.keep (below_sm (x := (wr.alloc _).alloc _) (((Below.refl _ _).alloc (Nat.le_refl _) _).alloc (by simp) _) ⟨rfl, rfl, rfl, rfl⟩)) (wr.heap.size + 1) 1 (.byte c, bs (p.extract k (k + 1))) #[.int .i64 0, .int .u8 c.toNat, .string ⟨#[]⟩, .bool false, .string (p.extract k (k + 1))] rfl (pheap_two _ _ _) (by rw [partC_str]; rfl) (by omega) (by simp; omega) ?_)
                intro v' w2 h1 h2 hgrow
                have k8 : w2.cell? ⟨wr.heap.size, 4, none⟩ = some (.string (p.extract k (k + 1))) := (hgrow.cell_far ⟨wr.heap.size, 4, none⟩ (by simp; omega) (pown_new HO.out)).trans (ptwo_cell (v := .string (p.extract k (k + 1))) _ _ _ _ _ 4 rfl)
                have HO2 := Lib.hid h1
                have HB2 : Hid (Below w.heap.size w w2) := Lib.hid (below_via h2 (x := (wr.alloc _).alloc _) ((HB.out.alloc hwb _).alloc (by simp; omega) _) ⟨rfl, rfl, rfl, rfl⟩)
                have HG2 := Lib.hid (pts_step HG.out hlt HH.out (k2 := k + 1) rfl (T := p.extract k (k + 1)) rfl)
                have hts := ex_size p k (k + 1) (by omega) (by omega)
                have hts2 : ((p.extract k (k + 1)).size : Int) = ((k + 1 : Nat) : Int) - (k : Int) := by omega
                clear h1 h2 hgrow HO HB HG HH hts
                go_wp2_with fail
                go_roundw
                case rel => exact ⟨_, k + 1, _, rfl, by omega, by simp; omega, by go_num, HO2, HB2, HG2⟩
                case measure => simp [intOf]; omega
    · obtain rfl : k = p.size := by omega
      have HG2 : Hid (G = acc) := Lib.hid (by rw [HG.out, drop_all p p.size (Nat.le_refl _), Pat.pts_nil, List.append_nil])
      clear HG
      go_wp2_with fail
      go_ret
      exact ⟨_, rfl, by rw [HG2.out]; exact HO.out, HB.out⟩
end Go.Proofs.YtdjiimblfhbcjaaDoor
