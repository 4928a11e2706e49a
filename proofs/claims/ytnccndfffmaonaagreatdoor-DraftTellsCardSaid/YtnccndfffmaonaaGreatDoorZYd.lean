/- Parts He, DtL of this claim, laid one behind the other: walks and the plain laws behind them; each contract states its own conditions. -/
import Derived.Deep.RegionHeld
import Derived.Test.YtnccndfffmaonaaGreatDoorZY
import Derived.Test.YtnccndfffmaonaaGreatDoorZYb
import Derived.Test.YtnccndfffmaonaaGreatDoorZYc
import Derived.Test.YtnccndfffmaonaaGreatDoorZO
import Derived.Test.YtnccndfffmaonaaGreatDoorZG
/- A region that draws its order, whose last operation may write what the others read: loads may be taken first all the same. -/
namespace Go.Proofs.YtnccndfffmaonaaGreatDoor
open Go

section
variable {P : Program} {ops : Array Oper} {Q : Exit → Act → World → Prop} {md : Region.Mode} {S : World → Prop} {L : Nat}

/-- Whatever order is picked; S holds behind each operation but number L. -/
def wpAnyX (P : Program) (md : Region.Mode) (ops : Array Oper) (Q : Exit → Act → World → Prop) (S : World → Prop) (L : Nat) : Nat → Array Bool → Act → World → Prop
  | 0, listed, a, w => Region.ready md ops listed = [] ∧ Q .normal a w
  | fuel + 1, listed, a, w => (Region.ready md ops listed = [] → Q .normal a w) ∧
    ∀ i ∈ Region.ready md ops listed, wpOp P ops Q i (fun a' w' => (i ≠ L → S w') ∧ wpAnyX P md ops Q S L fuel (listed.setIfInBounds i true) a' w') a w
theorem wpAny_of_x : ∀ (fuel : Nat) (listed : Array Bool) (a : Act) (w : World), wpAnyX P md ops Q S L fuel listed a w → wpAny P md ops Q fuel listed a w
  | 0, _, _, _, h => h
  | fuel + 1, _, _, _, h => ⟨h.1, fun i hi => wpOp_mono (fun a' w' h' => wpAny_of_x fuel _ a' w' h'.2) (h.2 i hi)⟩
/-- Operation x waits for operation y. -/
def waits (md : Region.Mode) (ops : Array Oper) (x y : Nat) : Bool := ((ops[x]?).map fun o => o.after.any fun e => Region.binds md e && e.on == y).getD false
/-- From i on each waits for the one before; none of them has come up; L is the last. -/
def chainB (md : Region.Mode) (ops : Array Oper) (L : Nat) (listed : Array Bool) : Nat → List Nat → Bool
  | i, [] => i == L
  | i, x :: r => waits md ops x i && (!listed.getD x true && chainB md ops L listed x r)
theorem not_ready {x y : Nat} {listed : Array Bool} (h : waits md ops x y = true) (hy : listed.getD y true = false) : x ∉ Region.ready md ops listed := by
  intro hx
  obtain ⟨-, o, ho, hall⟩ := mem_ready.1 hx
  unfold waits at h
  rw [ho] at h
  simp only [Option.map_some, Option.getD_some, Array.any_eq_true'] at h
  obtain ⟨e, he, hb⟩ := h
  simp only [Bool.and_eq_true, beq_iff_eq] at hb
  have h1 := hall e he hb.1
  rw [hb.2] at h1
  rcases Nat.lt_or_ge y listed.size with h' | h'
  · simp [h'] at hy h1; rw [hy] at h1; cases h1
  · simp [Array.getElem?_eq_none h'] at h1
theorem chain_keep {listed : Array Bool} {j : Nat} (hj : j ∈ Region.ready md ops listed) : ∀ (c : List Nat) (i : Nat), listed.getD i true = false → chainB md ops L listed i c = true →
    chainB md ops L (listed.setIfInBounds j true) i c = true ∧ (c ≠ [] → j ≠ L)
  | [], i, _, h => ⟨h, fun h => absurd rfl h⟩
  | x :: r, i, hi, h => by
    simp only [chainB, Bool.and_eq_true, Bool.not_eq_true'] at h
    obtain ⟨h1, h2, h3⟩ := h
    have hjx : j ≠ x := fun e => not_ready h1 hi (e ▸ hj)
    obtain ⟨h4, h5⟩ := chain_keep hj r x h2 h3
    refine ⟨?_, fun _ => ?_⟩
    · simp only [chainB, Bool.and_eq_true, Bool.not_eq_true']
      exact ⟨h1, by rw [getD_set_ne true hjx]; exact h2, h4⟩
    · cases r with
      | nil =>
        simp only [chainB, beq_iff_eq] at h3
        rw [← h3]; exact hjx
      | cons y r => exact h5 (by simp)
theorem wpAnyX_first {i : Nat} {oi : Oper} {v : Value} {c : List Nat} (hc : c ≠ []) (hi : ops[i]? = some oi) (hsel : ∀ (j : Nat) (o : Oper) cs b, ops[j]? = some o → o.op ≠ .select cs b)
    (hQ : ∀ c a w, Q (.panic c) (a.put oi.dst v) w → Q (.panic c) a w) :
    ∀ (fuel : Nat) (listed : Array Bool) (a : Act) (w : World), chainB md ops L listed i c = true →
      (∀ j oj, ops[j]? = some oj → j ≠ i → listed.getD j true = false → (∀ e ∈ oj.after, Region.binds md e = true → e.on ≠ i) → oi.apart ops oj = true) →
      i ∈ Region.ready md ops listed → YieldsIf P ops S oi v a → S w →
      wpAnyX P md ops Q S L fuel (listed.setIfInBounds i true) (a.put oi.dst v) w → wpAnyX P md ops Q S L (fuel + 1) listed a w := by
  intro fuel
  induction fuel with
  | zero =>
    intro listed a w _ _ hr hy hS H
    refine ⟨fun h => (by rw [h] at hr; cases hr), fun j hj => ?_⟩
    by_cases hji : j = i
    · subst hji; exact hy.wpOp hi hS ⟨fun _ => hS, H⟩
    · have := ready_mono hj hji
      rw [H.1] at this
      cases this
  | succ fuel ih =>
    intro listed a w hch hfree hr hy hS H
    have hun := (mem_ready.1 hr).1
    refine ⟨fun h => (by rw [h] at hr; cases hr), fun j hj => ?_⟩
    by_cases hji : j = i
    · subst hji; exact hy.wpOp hi hS ⟨fun _ => hS, H⟩
    · obtain ⟨hjun, oj, hoj, hall⟩ := mem_ready.1 hj
      obtain ⟨hk1, hk2⟩ := chain_keep hj c i hun hch
      have hjL := hk2 hc
      have hnot : ∀ e ∈ oj.after, Region.binds md e = true → e.on ≠ i := fun e he hb heq => by
        have h1 := hall e he hb
        rw [heq] at h1
        rcases Nat.lt_or_ge i listed.size with h' | h'
        · simp [h'] at hun h1; rw [hun] at h1; cases h1
        · simp [Array.getElem?_eq_none h'] at h1
      have h2 := wpOp_putIf hoj (hfree j oj hoj hji hjun hnot) (fun cs b => hsel i oi cs b hi) (fun cs b => hsel j oj cs b hoj) hQ hy (H.2 j (ready_mono hj hji))
      refine wpOp_mono (fun a' w' h3 => ⟨fun _ => h3.2.1 hjL, ih (listed.setIfInBounds j true) a' w' hk1 ?_ (ready_mono hr (Ne.symm hji)) h3.1 (h3.2.1 hjL) ?_⟩) h2
      · intro k ok hk hki hku hno
        refine hfree k ok hk hki ?_ hno
        by_cases hjk : j = k
        · subst hjk; exact hjun
        · rw [getD_set_ne true hjk] at hku; exact hku
      · rw [Array.setIfInBounds_comm _ _ hji]
        exact h3.2.2
/-- Take number i first; c leads from it to L. -/
theorem wpAnyX_take {i : Nat} {oi : Oper} {v : Value} {fuel : Nat} {listed : Array Bool} {a : Act} {w : World} (c : List Nat) (hc : (!c.isEmpty && chainB md ops L listed i c) = true) (hi : ops[i]? = some oi)
    (hs : Region.noSelect ops = true) (hf : Region.free md ops listed i = true) (hr : (Region.ready md ops listed).contains i = true)
    (hQ : ∀ c a w, Q (.panic c) (a.put oi.dst v) w → Q (.panic c) a w) (hy : YieldsIf P ops S oi v a) (hS : S w)
    (h : wpAnyX P md ops Q S L fuel (listed.setIfInBounds i true) (a.put oi.dst v) w) : wpAnyX P md ops Q S L (fuel + 1) listed a w := by
  simp only [Bool.and_eq_true, Bool.not_eq_true'] at hc
  exact wpAnyX_first (c := c) (by intro e; rw [e] at hc; simp at hc) hi (Region.noSelect_spec hs) hQ fuel listed a w hc.2 (Region.free_spec hi hf) (by simpa using hr) hy hS h
/-- Each of the operations rs may come up next. -/
def AllX (P : Program) (md : Region.Mode) (ops : Array Oper) (Q : Exit → Act → World → Prop) (S : World → Prop) (L : Nat) (fuel : Nat) (listed : Array Bool) (a : Act) (w : World) (rs : List Nat) : Prop :=
  ∀ i ∈ rs, wpOp P ops Q i (fun a' w' => (i ≠ L → S w') ∧ wpAnyX P md ops Q S L fuel (listed.setIfInBounds i true) a' w') a w
theorem AllX.nil {fuel : Nat} {listed : Array Bool} {a : Act} {w : World} : AllX P md ops Q S L fuel listed a w [] := fun _ h => by cases h
theorem AllX.cons {fuel : Nat} {listed : Array Bool} {a : Act} {w : World} {i : Nat} {o : Oper} {rs : List Nat} (ho : ops[i]? = some o)
    (h : ∀ K' : Act → World → Prop, Shut (∀ a w, (i ≠ L → S w) → ((i ≠ L → S w) → wpAnyX P md ops Q S L fuel (listed.setIfInBounds i true) a w) → K' a w) → if Region.wanted o (yielded ops a.tmps) = true then Oper.wp P o a w K' Q else K' (a.put o.dst undef) w)
    (hs : AllX P md ops Q S L fuel listed a w rs) : AllX P md ops Q S L fuel listed a w (i :: rs) := fun j hj => by
  rcases List.mem_cons.1 hj with rfl | hj
  · exact wpOp_step ho (fun K' hK => h K' (fun a w hS hW => hK a w ⟨hS, hW hS⟩))
  · exact hs j hj
theorem wpAnyX_ready {rs : List Nat} {fuel : Nat} {listed : Array Bool} {a : Act} {w : World} (hr : Region.ready md ops listed = rs) (hne : rs ≠ [])
    (h : AllX P md ops Q S L fuel listed a w rs) : wpAnyX P md ops Q S L (fuel + 1) listed a w :=
  ⟨fun h0 => absurd (hr ▸ h0) hne, hr ▸ h⟩
theorem wpAnyX_done {listed : Array Bool} {a : Act} {w : World} (hr : Region.ready md ops listed = []) (h : Q .normal a w) : ∀ fuel, wpAnyX P md ops Q S L fuel listed a w
  | 0 => ⟨hr, h⟩
  | _ + 1 => ⟨fun _ => h, by rw [hr]; simp⟩
theorem wp_region_x {id : Nat} {a : Act} {w : World} (S : World → Prop) (L : Nat) (hm : P.follows .mixedOrders = true) (hS : S w.drew)
    (h : S w.drew → wpAnyX P .any ops Q S L ops.size (Array.replicate ops.size false) a w.drew) : (Code.region id ops true).wp P Q a w :=
  wp_region_any hm (wpAny_of_x _ _ _ _ (h hS))
end
end Go.Proofs.YtnccndfffmaonaaGreatDoor
/- The reference of layer 10: what a line's stores leave. -/
namespace Go.Proofs.YtnccndfffmaonaaGreatDoor
set_option linter.unusedSimpArgs false
set_option linter.unusedVariables false
open Go.RowKit

/-- What is left behind a store into the draft's block. -/
def Aft (rb db : Nat) (toks : List Lx.Tok) (w2 wz : World) (tb : Nat) (t : Lx.Tok) (d : Dr.Draft) (p : Nat) (bad : Bool) : Prop :=
  wz.heap[tb]? = some (tokO t) ∧ Below db w2 wz ∧ RD rb wz toks p bad ∧ DBk rb db wz d
/-- As RA, whether something did not fit or not. -/
structure RB (rb db : Nat) (toks : List Lx.Tok) (w2 wr : World) (tb : Nat) (t : Lx.Tok) (d : Dr.Draft) (p : Nat) (bad : Bool) : Prop where
  rd : RD rb wr toks p bad
  dd : DBk rb db wr d
  ht : wr.heap[tb]? = some (tokO t)
  bel : Below db w2 wr
  hb : rb < tb
theorem RA.rb {rb db p : Nat} {toks : List Lx.Tok} {w2 wr : World} {tb : Nat} {t : Lx.Tok} {d : Dr.Draft} (h : RA rb db toks w2 wr tb t d p) : RB rb db toks w2 wr tb t d p false := ⟨h.rd, h.dd, h.ht, h.bel, h.hb⟩
theorem RB.next {rb db p q : Nat} {toks : List Lx.Tok} {w2 wr w' : World} {tb : Nat} {t : Lx.Tok} {d : Dr.Draft} {bad bad' : Bool} (h : RB rb db toks w2 wr tb t d p bad) (hdb : db < rb) (hn : NB rb wr w') (hr : RD rb w' toks q bad') : RB rb db toks w2 w' tb t d q bad' := by
  have hb := h.hb
  exact ⟨hr, h.dd.nb hn (by omega), hn.heap h.ht (by omega), h.bel.trans (hn.below (by omega) (Nat.le_of_lt h.dd.lt)), hb⟩
theorem RB.alloc {rb db p : Nat} {toks : List Lx.Tok} {w2 wr : World} {tb : Nat} {t : Lx.Tok} {d : Dr.Draft} {bad : Bool} (h : RB rb db toks w2 wr tb t d p bad) (hdb : db < rb) (o : Obj) : RB rb db toks w2 (wr.alloc o) tb t d p bad :=
  h.next hdb ((NB.refl _ _).alloc o) (h.rd.alloc o)
/-- A deck more. -/
theorem RB.deck {rb db p tb c : Nat} {toks : List Lx.Tok} {w2 W w' : World} {t : Lx.Tok} {d : Dr.Draft} {bad : Bool} {iv v' : Value} {da : Option Addr} {dn dc : Nat} {dvs : List Value} (h : RB rb db toks w2 W tb t d p bad) (hdb : db < rb) (hp : 0 < toks.length)
    (h0 : W.heap[db]? = some (.cells #[.slice da dn dc, iv] 25 (0, 0))) (hI : IT rb W iv d.items)
    (hdv : W.ownsRow (rb + 1) 45 1 (.slice da dn dc) d.decks.length dvs) (hdl : dvs.length = d.decks.length) (hbc : rb < c) (hcw : c ≤ W.heap.size)
    (hdk : ∀ i, (h : i < d.decks.length) → (h' : i < dvs.length) → (i + 1 < d.decks.length → OSt (rb + 1) W dvs[i] d.decks[i] ∧ ∀ g, dvs[i].ownBlock = some g → g < c) ∧ (i + 1 = d.decks.length → OSt c W dvs[i] d.decks[i]))
    (h1 : w'.ownsRow (rb + 1) 45 1 v' (d.decks.length + 1) (dvs ++ [.slice none 0 0])) (hg : W.grownBy w' (Value.slice da dn dc).ownBlock) :
    w'.heap[db]? = some (.cells #[.slice da dn dc, iv] 25 (0, 0)) ∧ Aft rb db toks w2 (w'.setCell ⟨db, 0, none⟩ v') tb t { d with decks := d.decks ++ [[]] } p bad := by
  have hlt := h.dd.lt
  have hrl := h.rd.lt
  have hb := h.hb
  have G2 : GT 45 W w' := GT.of_own hdv hg
  have H2 := G2.heap h0 (by decide)
  have T2 := G2.heap h.ht (by decide)
  have B2 : Below (rb + 1) W w' := (Below.refl _ _).grown hg (by omega) (fun k hk => (World.ownsRow.lt hdv k hk).1)
  have G3 : GT 25 w' (w'.setCell ⟨db, 0, none⟩ v') := GT.of_set H2 0 v'
  have hD := DK.deck hdv hdl hbc hcw hdk h1 hg
  refine ⟨H2, G3.heap T2 (by decide), (h.bel.trans (B2.mono (by omega))).trans (((NB.refl db w').set 0 v').below (Nat.le_refl _) (by have := B2.size; omega)), (h.rd.up B2).setD H2 rfl (by omega) hp 0 v', v', iv, by rw [set_heap H2]; rfl, hD.gt G3 (by decide) (by decide), (hI.gt G2 (by decide) (by decide)).gt G3 (by decide) (by decide)⟩
/-- An item more. -/
theorem RB.item {rb db p tb base : Nat} {toks : List Lx.Tok} {w2 W w' : World} {t : Lx.Tok} {d : Dr.Draft} {bad : Bool} {dv nv v' : Value} {ia : Option Addr} {im ic : Nat} {x : Dr.Item} {l : List (Dr.Item × Value)} (h : RB rb db toks w2 W tb t d p bad) (hdb : db < rb) (hp : 0 < toks.length)
    (h0 : W.heap[db]? = some (.cells #[dv, .slice ia im ic] 25 (0, 0))) (hv : ∃ a n c, dv = .slice a n c) (hD : DK rb W dv d.decks)
    (hl : l.map (·.1) = d.items) (how : W.ownsRow (rb + 1) 34 5 (.slice ia im ic) l.length (itemsC l))
    (hns : ∀ x ∈ l, W.ownsRow (rb + 1) 3 1 x.2 x.1.n.length (ints x.1.n)) (hnx : W.ownsRow base 3 1 nv x.n.length (ints x.n)) (hbs : rb < base)
    (h1 : w'.ownsRow (rb + 1) 34 5 v' (l.length + 1) (itemsC l ++ itemC x nv)) (hg : W.grownBy w' (Value.slice ia im ic).ownBlock) :
    w'.heap[db]? = some (.cells #[dv, .slice ia im ic] 25 (0, 0)) ∧ Aft rb db toks w2 (w'.setCell ⟨db, 1, none⟩ v') tb t { d with items := d.items ++ [x] } p bad := by
  have hlt := h.dd.lt
  have hrl := h.rd.lt
  have hb := h.hb
  obtain ⟨va, vn, vc, rfl⟩ := hv
  have G2 : GT 34 W w' := GT.of_own how hg
  have H2 := G2.heap h0 (by decide)
  have T2 := G2.heap h.ht (by decide)
  have B2 : Below (rb + 1) W w' := (Below.refl _ _).grown hg (by omega) (fun k hk => (World.ownsRow.lt how k hk).1)
  have G3 : GT 25 w' (w'.setCell ⟨db, 1, none⟩ v') := GT.of_set H2 1 v'
  have hI := IT.item hl how hns hnx hbs h1 hg
  refine ⟨H2, G3.heap T2 (by decide), (h.bel.trans (B2.mono (by omega))).trans (((NB.refl db w').set 1 v').below (Nat.le_refl _) (by have := B2.size; omega)), (h.rd.up B2).setD H2 rfl (by omega) hp 1 v', _, v', by rw [set_heap H2]; rfl, (hD.gt G2 (by decide) (by decide)).gt G3 (by decide) (by decide), hI.gt G3 (by decide) (by decide)⟩
/-- A row more. -/
theorem RB.row {rb db p tb gd cd m n : Nat} {toks : List Lx.Tok} {w2 W w' : World} {t : Lx.Tok} {d : Dr.Draft} {bad : Bool} {iv v' : Value} {dvs : List Value} {c : Nat} {T : ByteArray} {last : List (List UInt8)} (h : RB rb db toks w2 W tb t d p bad) (hdb : db < rb) (hp : 0 < toks.length)
    (h0 : W.heap[db]? = some (.cells #[.slice (some ⟨gd, 0, none⟩) n cd, iv] 25 (0, 0))) (hI : IT rb W iv d.items)
    (hn : n = d.decks.length) (hm : m + 1 = n) (hdv : W.ownsRow (rb + 1) 45 1 (.slice (some ⟨gd, 0, none⟩) n cd) n dvs) (hdl : dvs.length = d.decks.length) (hbc : rb < c) (hcw : c ≤ W.heap.size)
    (hdk : ∀ i, (h : i < d.decks.length) → (h' : i < dvs.length) → (i + 1 < d.decks.length → OSt (rb + 1) W dvs[i] d.decks[i] ∧ ∀ g, dvs[i].ownBlock = some g → g < c) ∧ (i + 1 = d.decks.length → OSt c W dvs[i] d.decks[i]))
    (h1 : w'.ownsRow W.heap.size 9 1 v' (last.length + 1) (strs last ++ [.string T])) (hB : Below W.heap.size W w') :
    w'.heap[db]? = some (.cells #[.slice (some ⟨gd, 0, none⟩) n cd, iv] 25 (0, 0)) ∧ Aft rb db toks w2 (w'.setCell ⟨gd, m, none⟩ v') tb t { d with decks := d.decks.dropLast ++ [last ++ [bs T]] } p bad := by
  have hlt := h.dd.lt
  have hrl := h.rd.lt
  have hb := h.hb
  have htl : tb < W.heap.size := (Array.getElem?_eq_some_iff.1 h.ht).1
  have hD := DK.row (u0 := .slice none 0 0) hn hm hdv hdl hbc hcw hdk h1 hB
  obtain ⟨k1, k2, k3, k4, cs, fr, k5⟩ := hD
  have H2 := (hB.block db hlt).trans h0
  have T2 := (hB.block tb htl).trans h.ht
  have fr0 : fr = (0, 0) := by
    have hdv2 : w'.ownsRow (rb + 1) 45 1 (.slice (some ⟨gd, 0, none⟩) n cd) n dvs := World.ownsRow.kept hdv ⟨hB.os, hB.tape, hB.output, hB.size, fun k hk _ => hB.block k hk⟩ (.inr (by simp [Value.ownBlock]) : _ ∨ _ ≠ (none : Option Nat))
    rcases hdv2.2 with ⟨h, -⟩ | ⟨g, cap, cur, h, hb2, hh, -⟩
    · cases h
    · cases h
      rw [k5] at hh
      injection hh with hh; injection hh
  subst fr0
  have G3 : GT 45 w' (w'.setCell ⟨gd, m, none⟩ v') := GT.of_set k5 m v'
  have hN : NB gd w' (w'.setCell ⟨gd, m, none⟩ v') := (NB.refl gd w').set m v'
  have hRD := h.rd.below hB
  refine ⟨H2, G3.heap T2 (by decide), (h.bel.trans (hB.mono (by omega))).trans (hN.below (by omega) (by have := hB.size; omega)), hRD.other hN (by omega) (by have := hB.size; omega), _, iv, G3.heap H2 (by decide), k1, ?_⟩
  refine IT.gt ?_ G3 (by decide) (by decide)
  obtain ⟨l, i1, i2, i3⟩ := hI
  exact ⟨l, i1, World.ownsRow.kept i2 (row := none) ⟨hB.os, hB.tape, hB.output, hB.size, fun k hk _ => hB.block k hk⟩ (by cases h : iv.ownBlock <;> simp), fun x hx => World.ownsRow.kept (i3 x hx) (row := none) ⟨hB.os, hB.tape, hB.output, hB.size, fun k hk _ => hB.block k hk⟩ (by cases h : x.2.ownBlock <;> simp)⟩
theorem wpList_app_item {w : World} {ops : Array Oper} {rest : List Oper} {o : Oper} {a : Act} {Q : Exit → Act → World → Prop} (hgd : o.guard = none) (s y : Operand)
    (ho : o.op = .call { callee := .builtin .append, args := #[s, y], argTypes := #[23, 23] })
    (base : Nat) (v : Value) (l : List (Dr.Item × Value)) (hs : a.eval s = v) (hown : w.ownsRow base 34 5 v l.length (itemsC l))
    (g c : Nat) (x : Dr.Item) (nv : Value) (hnv : nv.oneCell' = true) (hx : a.eval y = .slice (some ⟨g, 0, none⟩) 1 c) (hg : w.heap[g]? = some (.cells (itemC x nv).toArray 34 (0, 0)))
    (hsz : l.length + 1 ≤ 1000000) (hbase : base ≤ w.heap.size)
    (h : ∀ v' w', w'.ownsRow base 34 5 v' (l.length + 1) (itemsC l ++ itemC x nv) → w.grownBy w' v.ownBlock → wpList Tryz.prog ops Q rest (a.put o.dst v') w') : wpList Tryz.prog ops Q (o :: rest) a w := by
  obtain ⟨i, hi, hz, hsize, hby⟩ := info_parts Tryz.itemInfo
  refine wpList_append_own w hgd s y _ ho base 34 i _ 5 72 Tryz.underlying23 hi hz hsize hby rfl (by decide) v l.length (itemsC l) hs hown ⟨g, 0, none⟩ 1 c (itemC x nv) hx rfl (World.news_of_block hg) ?_ (by unfold maxLen; omega) (by omega) hbase ?_
  · intro u hu
    simp only [itemC, List.mem_cons, List.not_mem_nil, or_false] at hu
    rcases hu with rfl | rfl | rfl | rfl | rfl
    · rfl
    · rfl
    · rfl
    · rfl
    · exact hnv
  · intro v' w' h2 h3 _
    exact h v' w' h2 h3
theorem step_append_sl {P : Program} {w : World} {ops : Array Oper} {o : Oper} {a : Act} {K : Act → World → Prop} {Q : Exit → Act → World → Prop} {E : Prop} (hgd : o.guard = none) (s x : Operand) (t : TypeId)
    (ho : o.op = .call { callee := .builtin .append, args := #[s, x], argTypes := #[t, t] })
    (base : Nat) (e : TypeId) (z : Value) (bytes : Nat) (ht : P.underlying t = some (.slice e)) (hinfo : (P.info? e).map (fun i => (i.zero, i.size, i.bytes)) = some (some z, 1, bytes)) (hzs : z.cells.size = 1)
    (v : Value) (n : Nat) (xs : List Value) (hs : a.eval s = v) (hown : w.ownsRow base e 1 v n xs)
    (u : Value) (news : List Value) (hx : a.eval x = u) (hr : Sl w u news) (h1 : ∀ u ∈ news, u.oneCell' = true) (N : Nat) (XS : List Value) (hN : n + news.length = N) (hXS : xs ++ news = XS)
    (h63 : N ≤ maxLen) (hbytes : N * bytes ≤ 140737488355328) (hbase : base ≤ w.heap.size)
    (h : ∀ a' cap' w', w'.ownsRow base e 1 (.slice a' N cap') N XS → w.grownBy w' v.ownBlock → K (a.put o.dst (.slice a' N cap')) w') :
    if Region.wanted o (yielded ops a.tmps) = true then Oper.wp P o a w K Q else E := by
  have hw : Region.wanted o (yielded ops a.tmps) = true := by simp [Region.wanted, hgd]
  rw [if_pos hw]
  subst hN hXS
  obtain ⟨i, hi, hz, hsize, hby⟩ := info_parts hinfo
  have hrun : ∃ v' w', (Builtin.append_ #[t, t] o.type #[v, u]).run P w = .ok v' w' ∧ w'.ownsRow base e 1 v' (n + news.length) (xs ++ news) ∧ w.grownBy w' v.ownBlock := by
    obtain ⟨ad, cap, rfl, hm, hn, hc⟩ := hr
    cases ad with
    | none =>
      obtain rfl := hn rfl
      have h0 : news = [] := by
        cases news with
        | nil => rfl
        | cons u t => obtain ⟨_, _, h', _⟩ := hc 0 (by simp); cases h'
      subst h0
      exact ⟨v, w, run_append_owned_none (P := P) (w := w) base t o.type e i 1 ht hi v n xs hown, by simpa using hown, World.grownBy.refl w _⟩
    | some ad =>
      obtain ⟨v', w', hr, h2, h3, -⟩ := run_append_own (P := P) w base t o.type e i _ 1 bytes ht hi hz hsize hby hzs (by omega) v n xs hown ad news.length cap news (by omega) (fun j y hj => by
        have hjl := (List.getElem?_eq_some_iff.1 hj).1
        obtain ⟨b, off, e1, hcell⟩ := hc j hjl
        cases e1
        have e2 : ((⟨b, off, none⟩ : Addr).add j) = ⟨b, off + j, none⟩ := by unfold Addr.add; split <;> simp_all
        rw [e2, hcell]
        rw [← hj, List.getElem?_eq_getElem hjl]) h1 h63 hbytes hbase
      exact ⟨v', w', hr, h2, h3⟩
  obtain ⟨v', w', hr, h2, h3⟩ := hrun
  obtain ⟨a', cap', rfl, -⟩ := own_slice h2
  unfold Oper.wp execOp
  simp only [ho, resolve, invoke, builtin, Sem.run_bind, Sem.run_pure, Result.andThen_ok, List.map_toArray, List.map_cons, List.map_nil, hs, hx, hr]
  exact h a' cap' w' h2 h3
/-- The last row of the last deck in memory. -/
theorem DBk.lastRow {rb db : Nat} {W : World} {d : Dr.Draft} (h : DBk rb db W d) (hne : d.decks ≠ []) :
    ∃ (gd cd m : Nat) (a2 : Option Addr) (ca2 : Nat) (iv : Value) (dvs : List Value) (c : Nat), W.heap[db]? = some (.cells #[.slice (some ⟨gd, 0, none⟩) (m + 1) cd, iv] 25 (0, 0)) ∧ d.decks.length = m + 1 ∧ IT rb W iv d.items ∧
      W.ownsRow (rb + 1) 45 1 (.slice (some ⟨gd, 0, none⟩) (m + 1) cd) (m + 1) dvs ∧ dvs.length = d.decks.length ∧ rb < c ∧ c ≤ W.heap.size ∧
      (∀ i, (h : i < d.decks.length) → (h' : i < dvs.length) → (i + 1 < d.decks.length → OSt (rb + 1) W dvs[i] d.decks[i] ∧ ∀ g, dvs[i].ownBlock = some g → g < c) ∧ (i + 1 = d.decks.length → OSt c W dvs[i] d.decks[i])) ∧
      W.cell? ⟨gd, m, none⟩ = some (.slice a2 (d.decks.getLastD []).length ca2) ∧ OSt c W (.slice a2 (d.decks.getLastD []).length ca2) (d.decks.getLastD []) ∧ rb < gd ∧ gd < W.heap.size ∧ W.frozen? ⟨gd, m, none⟩ = false ∧ m + 1 ≤ 9223372036854775807 := by
  obtain ⟨dv, iv, h0, hD, hI⟩ := h
  obtain ⟨dvs, c, hdv, hdl, hbc, hcw, hdk⟩ := hD
  obtain ⟨m, u0, hm, hu, hou⟩ := DK.last hdl hdk hne
  obtain ⟨gd, cd, hdvE⟩ : ∃ g cd, dv = .slice (some ⟨g, 0, none⟩) d.decks.length cd := by
    rcases hdv.2 with ⟨-, h⟩ | ⟨g, cap, cur, h, -⟩
    · omega
    · exact ⟨g, cap, h⟩
  obtain ⟨a2, ca2, hue, hl2⟩ := own_slice hou
  subst hdvE
  subst hue
  have x1 : W.cell? ⟨gd, m, none⟩ = some (.slice a2 (d.decks.getLastD []).length ca2) := by
    have := hdv.cells (g := gd) rfl m _ hu
    have e2 : ((⟨gd, 0, none⟩ : Addr).add m) = ⟨gd, m, none⟩ := by unfold Addr.add; split <;> simp_all
    rw [e2] at this; exact this
  have hgl := World.ownsRow.lt hdv gd rfl
  have hn9 : m + 1 ≤ 9223372036854775807 := by obtain ⟨_, _, _, h⟩ := own_slice hdv; omega
  have hfz := World.ownsRow.frozenAt hdv m
  rw [← hm] at hdv h0
  exact ⟨gd, cd, m, a2, ca2, iv, dvs, c, h0, hm.symm, hI, hdv, hdl, hbc, hcw, hdk, x1, hou, by omega, hgl.2, hfz, hn9⟩
theorem strs_each (a : List (List UInt8)) : ∀ u ∈ strs a, u.oneCell' = true := by
  intro u hu
  unfold strs at hu
  obtain ⟨x, -, rfl⟩ := List.mem_map.1 hu
  rfl
theorem sl_one {w : World} {b : Nat} {t : ByteArray} {e : TypeId} (h : w.heap[b]? = some (.cells #[.string t] e (0, 0))) : Sl w (.slice (some ⟨b, 0, none⟩) 1 1) [.string t] := by
  refine ⟨some ⟨b, 0, none⟩, 1, rfl, by unfold maxLen; simp, (fun h => (by cases h)), fun i hi => ?_⟩
  have h0 : i = 0 := by simpa using hi
  subst h0
  exact ⟨b, 0, rfl, cell_of_heap h 0 rfl⟩
theorem one_str {t : ByteArray} : ∀ u ∈ [Value.string t], u.oneCell' = true := by
  intro u hu
  obtain rfl := List.mem_singleton.1 hu
  rfl
theorem st_lt {toks : List Lx.Tok} {ps : List UInt8} {j0 j p q : Nat} {x0 x : Dr.Item} {bad : Bool} (h : Dr.St toks (Dr.fields ps j0 x0 (toks.drop (p + 1))) [] j x q bad) : bad = false → p < q := by
  intro hb
  have h1 := h.1
  rcases h.2 with ⟨-, h⟩ | ⟨h, -⟩
  · obtain ⟨f, hf⟩ := Dr.fields_suffix _ _ _ _ _ _ (h.trans (by rw [Dr.fields]))
    have := congrArg List.length hf
    rw [List.length_append, List.length_drop, List.length_drop] at this
    omega
  · rw [hb] at h; cases h
theorem map_lt {l : List (Dr.Item × Value)} {items : List Dr.Item} (h : l.map (·.1) = items) {n : Nat} (hn : items.length < n) : l.length < n := by
  rw [← h, List.length_map] at hn; exact hn
/-- The reader's item, whatever kind. -/
theorem ritem_any (k rb p : Nat) (hk : k < 6) (toks : List Lx.Tok) (w : World) (h : RD rb w toks p false) (hp : p < toks.length) (hE : ∃ front e, toks = front ++ [e] ∧ e.kind = 4) (hL : Dr.LN toks) (kd : Int) (hkd : kd = (k : Int)) :
    Calls Tryz.prog 26 #[.pointer (some ⟨rb, 0, none⟩), .int .i64 kd] w (ItR rb k p toks w) := by
  subst hkd
  match k, hk with
  | 0, _ => exact ritem_0 rb p toks w h hp hE hL
  | 1, _ => exact ritem_1 rb p toks w h hp hE hL
  | 2, _ => exact ritem_2 rb p toks w h hp hE hL
  | 3, _ => exact ritem_3 rb p toks w h hp hE hL
  | 4, _ => exact ritem_4 rb p toks w h hp hE hL
  | 5, _ => exact ritem_5 rb p toks w h hp hE hL
end Go.Proofs.YtnccndfffmaonaaGreatDoor
