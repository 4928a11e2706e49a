/- Parts AcO, He, BmL of this claim, laid one behind the other: walks and the plain laws behind them; each contract states its own conditions. -/
import Derived.Deep.RegionHeld
import Derived.Test.YtfcbcpfnaadpeaaGreatDoorMQ
import Derived.Test.YtfcbcpfnaadpeaaGreatDoorTY
import Derived.Test.YtfcbcpfnaadpeaaGreatDoorAF
import Derived.Test.YtfcbcpfnaadpeaaGreatDoorBA
import Derived.Test.YtfcbcpfnaadpeaaGreatDoorBB
import Derived.Test.YtfcbcpfnaadpeaaGreatDoorBC
namespace Go.Proofs.YtfcbcpfnaadpeaaGreatDoor
set_option maxRecDepth 100000
set_option maxHeartbeats 64000000
set_option linter.unusedSimpArgs false
set_option linter.unusedVariables false
open Go.RowKit
theorem Do_any (s : Si.Site) (kv ov zv av sv rv : Value) (st : Bd.State) (shv rov pev dev skv : Value) (x : Nat) (A : Int) (w : World) (h : SiV w kv ov zv av sv rv s) (ht : StV w shv rov pev dev skv st) (ho : ActOk s st) (hx : x < st.robots.length) (hA : 0 ≤ A ∧ A < 10) :
 Calls Tryz.prog 40 #[siV s kv ov zv av sv rv, stV st shv rov pev dev skv, .int .i64 (x : Int), .int .i64 A] w (DoPost s st w) := by
 have hcs : A = 0 ∨ (∃ d : Nat, d < 6 ∧ A = (d : Int) + 1) ∨ A = 7 ∨ A = 8 ∨ A = 9 := by
  by_cases h1 : A = 0
  · exact .inl h1
  · by_cases h2 : A ≤ 6
    · exact .inr (.inl ⟨(A - 1).toNat, by omega, by omega⟩)
    · omega
 rcases hcs with rfl | ⟨d, hd, rfl⟩ | rfl | rfl | rfl
 · exact do_st s kv ov zv av sv rv st shv rov pev dev skv x w h ht ho hx
 · exact do_mv s kv ov zv av sv rv st shv rov pev dev skv x d w h ht ho hx hd
 · exact do_lf s kv ov zv av sv rv st shv rov pev dev skv x w h ht ho hx
 · exact do_dr s kv ov zv av sv rv st shv rov pev dev skv x w h ht ho hx
 · exact do_ch s kv ov zv av sv rv st shv rov pev dev skv x w h ht ho hx
open Go
section
variable {P : Program} {ops : Array Oper} {Q : Exit → Act → World → Prop} {md : Region.Mode} {S : World → Prop} {L : Nat}
def wpAnyX (P : Program) (md : Region.Mode) (ops : Array Oper) (Q : Exit → Act → World → Prop) (S : World → Prop) (L : Nat) : Nat → Array Bool → Act → World → Prop
 | 0, listed, a, w => Region.ready md ops listed = [] ∧ Q .normal a w
 | fuel + 1, listed, a, w => (Region.ready md ops listed = [] → Q .normal a w) ∧
  ∀ i ∈ Region.ready md ops listed, wpOp P ops Q i (fun a' w' => (i ≠ L → S w') ∧ wpAnyX P md ops Q S L fuel (listed.setIfInBounds i true) a' w') a w
theorem wpAny_of_x : ∀ (fuel : Nat) (listed : Array Bool) (a : Act) (w : World), wpAnyX P md ops Q S L fuel listed a w → wpAny P md ops Q fuel listed a w
 | 0, _, _, _, h => h
 | fuel + 1, _, _, _, h => ⟨h.1, fun i hi => wpOp_mono (fun a' w' h' => wpAny_of_x fuel _ a' w' h'.2) (h.2 i hi)⟩
def waits (md : Region.Mode) (ops : Array Oper) (x y : Nat) : Bool := ((ops[x]?).map fun o => o.after.any fun e => Region.binds md e && e.on == y).getD false
def chainB (md : Region.Mode) (ops : Array Oper) (L : Nat) (listed : Array Bool) : Nat → List Nat → Bool
 | i, [] => i == L
 | i, x :: r => waits md ops x i && (!listed.getD x true && chainB md ops L listed x r)
theorem not_ready {x y : Nat} {listed : Array Bool} (h : waits md ops x y = true) (hy : listed.getD y true = false) : x ∉ Region.ready md ops listed := by
 intro hx
 obtain ⟨-, o, ho, hall⟩ := mem_ready.1 hx
 unfold waits at h
 rw [ho] at h
 simp only [Option.map_some, Option.getD_some, Array.any_eq_true'] at h
 obtain ⟨e, he, hb⟩ := h
 simp only [Bool.and_eq_true, beq_iff_eq] at hb
 have h1 := hall e he hb.1
 rw [hb.2] at h1
 rcases Nat.lt_or_ge y listed.size with h' | h'
 · simp [h'] at hy h1; rw [hy] at h1; cases h1
 · simp [Array.getElem?_eq_none h'] at h1
theorem chain_keep {listed : Array Bool} {j : Nat} (hj : j ∈ Region.ready md ops listed) : ∀ (c : List Nat) (i : Nat), listed.getD i true = false → chainB md ops L listed i c = true →
 chainB md ops L (listed.setIfInBounds j true) i c = true ∧ (c ≠ [] → j ≠ L)
 | [], i, _, h => ⟨h, fun h => absurd rfl h⟩
 | x :: r, i, hi, h => by
  simp only [chainB, Bool.and_eq_true, Bool.not_eq_true'] at h
  obtain ⟨h1, h2, h3⟩ := h
  have hjx : j ≠ x := fun e => not_ready h1 hi (e ▸ hj)
  obtain ⟨h4, h5⟩ := chain_keep hj r x h2 h3
  refine ⟨?_, fun _ => ?_⟩
  · simp only [chainB, Bool.and_eq_true, Bool.not_eq_true']
    exact ⟨h1, by rw [getD_set_ne true hjx]; exact h2, h4⟩
  · cases r with
    | nil =>
     simp only [chainB, beq_iff_eq] at h3
     rw [← h3]; exact hjx
    | cons y r => exact h5 (by simp)
theorem wpAnyX_first {i : Nat} {oi : Oper} {v : Value} {c : List Nat} (hc : c ≠ []) (hi : ops[i]? = some oi) (hsel : ∀ (j : Nat) (o : Oper) cs b, ops[j]? = some o → o.op ≠ .select cs b)
 (hQ : ∀ c a w, Q (.panic c) (a.put oi.dst v) w → Q (.panic c) a w) :
 ∀ (fuel : Nat) (listed : Array Bool) (a : Act) (w : World), chainB md ops L listed i c = true →
  (∀ j oj, ops[j]? = some oj → j ≠ i → listed.getD j true = false → (∀ e ∈ oj.after, Region.binds md e = true → e.on ≠ i) → oi.apart ops oj = true) →
  i ∈ Region.ready md ops listed → YieldsIf P ops S oi v a → S w →
  wpAnyX P md ops Q S L fuel (listed.setIfInBounds i true) (a.put oi.dst v) w → wpAnyX P md ops Q S L (fuel + 1) listed a w := by
 intro fuel
 induction fuel with
 | zero =>
  intro listed a w _ _ hr hy hS H
  refine ⟨fun h => (by rw [h] at hr; cases hr), fun j hj => ?_⟩
  by_cases hji : j = i
  · subst hji; exact hy.wpOp hi hS ⟨fun _ => hS, H⟩
  · have := ready_mono hj hji
    rw [H.1] at this
    cases this
 | succ fuel ih =>
  intro listed a w hch hfree hr hy hS H
  have hun := (mem_ready.1 hr).1
  refine ⟨fun h => (by rw [h] at hr; cases hr), fun j hj => ?_⟩
  by_cases hji : j = i
  · subst hji; exact hy.wpOp hi hS ⟨fun _ => hS, H⟩
  · obtain ⟨hjun, oj, hoj, hall⟩ := mem_ready.1 hj
    obtain ⟨hk1, hk2⟩ := chain_keep hj c i hun hch
    have hjL := hk2 hc
    have hnot : ∀ e ∈ oj.after, Region.binds md e = true → e.on ≠ i := fun e he hb heq => by
     have h1 := hall e he hb
     rw [heq] at h1
     rcases Nat.lt_or_ge i listed.size with h' | h'
     · simp [h'] at hun h1; rw [hun] at h1; cases h1
     · simp [Array.getElem?_eq_none h'] at h1
    have h2 := wpOp_putIf hoj (hfree j oj hoj hji hjun hnot) (fun cs b => hsel i oi cs b hi) (fun cs b => hsel j oj cs b hoj) hQ hy (H.2 j (ready_mono hj hji))
    refine wpOp_mono (fun a' w' h3 => ⟨fun _ => h3.2.1 hjL, ih (listed.setIfInBounds j true) a' w' hk1 ?_ (ready_mono hr (Ne.symm hji)) h3.1 (h3.2.1 hjL) ?_⟩) h2
    · intro k ok hk hki hku hno
      refine hfree k ok hk hki ?_ hno
      by_cases hjk : j = k
      · subst hjk; exact hjun
      · rw [getD_set_ne true hjk] at hku; exact hku
    · rw [Array.setIfInBounds_comm _ _ hji]
      exact h3.2.2
theorem wpAnyX_take {i : Nat} {oi : Oper} {v : Value} {fuel : Nat} {listed : Array Bool} {a : Act} {w : World} (c : List Nat) (hc : (!c.isEmpty && chainB md ops L listed i c) = true) (hi : ops[i]? = some oi)
 (hs : Region.noSelect ops = true) (hf : Region.free md ops listed i = true) (hr : (Region.ready md ops listed).contains i = true)
 (hQ : ∀ c a w, Q (.panic c) (a.put oi.dst v) w → Q (.panic c) a w) (hy : YieldsIf P ops S oi v a) (hS : S w)
 (h : wpAnyX P md ops Q S L fuel (listed.setIfInBounds i true) (a.put oi.dst v) w) : wpAnyX P md ops Q S L (fuel + 1) listed a w := by
 simp only [Bool.and_eq_true, Bool.not_eq_true'] at hc
 exact wpAnyX_first (c := c) (by intro e; rw [e] at hc; simp at hc) hi (Region.noSelect_spec hs) hQ fuel listed a w hc.2 (Region.free_spec hi hf) (by simpa using hr) hy hS h
def AllX (P : Program) (md : Region.Mode) (ops : Array Oper) (Q : Exit → Act → World → Prop) (S : World → Prop) (L : Nat) (fuel : Nat) (listed : Array Bool) (a : Act) (w : World) (rs : List Nat) : Prop :=
 ∀ i ∈ rs, wpOp P ops Q i (fun a' w' => (i ≠ L → S w') ∧ wpAnyX P md ops Q S L fuel (listed.setIfInBounds i true) a' w') a w
theorem AllX.nil {fuel : Nat} {listed : Array Bool} {a : Act} {w : World} : AllX P md ops Q S L fuel listed a w [] := fun _ h => by cases h
theorem AllX.cons {fuel : Nat} {listed : Array Bool} {a : Act} {w : World} {i : Nat} {o : Oper} {rs : List Nat} (ho : ops[i]? = some o)
 (h : ∀ K' : Act → World → Prop, Shut (∀ a w, (i ≠ L → S w) → ((i ≠ L → S w) → wpAnyX P md ops Q S L fuel (listed.setIfInBounds i true) a w) → K' a w) → if Region.wanted o (yielded ops a.tmps) = true then Oper.wp P o a w K' Q else K' (a.put o.dst undef) w)
 (hs : AllX P md ops Q S L fuel listed a w rs) : AllX P md ops Q S L fuel listed a w (i :: rs) := fun j hj => by
 rcases List.mem_cons.1 hj with rfl | hj
 · exact wpOp_step ho (fun K' hK => h K' (fun a w hS hW => hK a w ⟨hS, hW hS⟩))
 · exact hs j hj
theorem wpAnyX_ready {rs : List Nat} {fuel : Nat} {listed : Array Bool} {a : Act} {w : World} (hr : Region.ready md ops listed = rs) (hne : rs ≠ [])
 (h : AllX P md ops Q S L fuel listed a w rs) : wpAnyX P md ops Q S L (fuel + 1) listed a w :=
 ⟨fun h0 => absurd (hr ▸ h0) hne, hr ▸ h⟩
theorem wpAnyX_done {listed : Array Bool} {a : Act} {w : World} (hr : Region.ready md ops listed = []) (h : Q .normal a w) : ∀ fuel, wpAnyX P md ops Q S L fuel listed a w
 | 0 => ⟨hr, h⟩
 | _ + 1 => ⟨fun _ => h, by rw [hr]; simp⟩
theorem wp_region_x {id : Nat} {a : Act} {w : World} (S : World → Prop) (L : Nat) (hm : P.follows .mixedOrders = true) (hS : S w.drew)
 (h : S w.drew → wpAnyX P .any ops Q S L ops.size (Array.replicate ops.size false) a w.drew) : (Code.region id ops true).wp P Q a w :=
 wp_region_any hm (wpAny_of_x _ _ _ _ (h hS))
end
theorem FairP.capB {s : Si.Site} (h : FairP s 80 30) : ∀ z, z < s.zones.length → Si.capOf s z ≤ 1000000 := by
 intro z hz
 rw [Si.capOf_eq hz]
 have h1 := (h.few.zn _ (List.getElem_mem hz)).1
 have h2 := (h.right.zc _ (List.getElem_mem hz)).2.2.1
 omega
theorem sips_rng {s : Si.Site} {sl : List Nat} (h : Pt.Sips (Si.linked s) s.zones.length sl) : ∀ l ∈ (Ve.right s sl).sips, ∀ z ∈ l, 0 ≤ z ∧ z < (s.zones.length : Int) := by
 intro l hl z hz
 obtain ⟨x, hx, rfl⟩ := List.mem_map.1 hl
 obtain ⟨y, hy, rfl⟩ := List.mem_map.1 hz
 have := listW_lt ((h.mem x).1 hx).1 hy
 exact ⟨by show (0 : Int) ≤ (y : Int); omega, by show (y : Int) < _; omega⟩
theorem sips_zero {s : Si.Site} {sl : List Nat} (h : Pt.Sips (Si.linked s) s.zones.length sl) (h0 : s.zones.length = 0) : (Ve.right s sl).sips = [] := by
 have : sl = [] := by
  cases sl with
  | nil => rfl
  | cons x t =>
   exfalso
   obtain ⟨h1, h2⟩ := (h.mem x).1 (List.mem_cons_self ..)
   rw [h0] at h1
   have hx : x = 0 := by omega
   subst hx
   have h3 := h2.1
   simp [Pt.closedW] at h3
 subst this; rfl
theorem actok_of {s : Si.Site} {st : Bd.State} (h : FairP s 80 30) (h4 : Few4 st) (hr : ∀ r ∈ st.robots, RIn s.floor.kind.length st.shelves.length r) (tk : I64 st.tick) (rc : ∀ r ∈ st.robots, I64 r.charge) : ActOk s st := by
 refine ⟨fun q hq => ?_, by have := h.few.na; omega, fun q hq => ?_, h.right.fl, FB.of h.right.fl, by have := h.few.kl; omega, h.ok.zs, h4.sts, tk, hr, rc, by have := h4.de; omega, by have := h4.sk; omega⟩
 · have := h.few.ap q hq; omega
 · have := h.few.sf q hq; omega
theorem BlocksMarked_any (s : Si.Site) (kv ov zv av hv bv : Value) (st : Bd.State) (shv rov pev dev skv pkv : Value) (picks : List Int) (w : World) (h : SiV w kv ov zv av hv bv s) (hcp : SiCap zv av hv bv) (ht : StV w shv rov pev dev skv st) (htk : I64 st.tick) (hch : ∀ r ∈ st.robots, I64 r.charge) (hpk : Is w pkv picks) (hpn : ∀ n ∈ picks, I64 n) (hE : Env w) :
 Calls Tryz.prog 8 #[siV s kv ov zv av hv bv, stV st shv rov pev dev skv, pkv] w fun e w' => e = .returned (.bool true) ∧ Below w.heap.size w w' := by
 obtain ⟨za, zc, rfl, hzm⟩ := h.zn.form
 obtain ⟨pa, pc, rfl, hpm⟩ := hpk.form
 obtain ⟨b1, d1, b2, d2, b3, d3, b4, d4, b5, d5, rfl, rfl, rfl, rfl, rfl, -⟩ := ht.open
 have HSM := hid (fun W (hb : Below w.heap.size w W) => small19_any W (hE.below hb))
 have HFA := hid (fun W (hb : Below w.heap.size w W) => fair_any s _ _ _ _ _ _ W (h.keep hb) hcp)
 have HF4 := hid (fun W (hb : Below w.heap.size w W) => rFew4_any st _ _ _ _ _ W (ht.keep hb))
 have HR4 := hid (fun (hf : Few4 st) W (hb : Below w.heap.size w W) => r14rightM_any s _ _ _ _ _ _ st _ _ _ _ _ W (h.keep hb) (ht.keep hb) hf)
 have HBU := hid (fun (hf : FairP s 80 30) (hz : s.zones.length ≤ 10) W (hb : Below w.heap.size w W) => Build_any s _ _ _ _ _ _ W (h.keep hb) hf.ok (by omega) (hE.below hb))
 have HFE := hid (fun (hf : FairP s 80 30) (sl : List Nat) tv cv ke se (u : Bd.State) y1 y2 y3 y4 y5 W (hb : Below w.heap.size w W) (hcv : CertV W tv cv ke se (Ve.right s sl)) (hsl : Pt.Sips (Si.linked s) s.zones.length sl) (hm : sl.length ≤ 1000000) (hu : StV W y1 y2 y3 y4 y5 u) (ha : ActOk s u) => Free_any s _ _ _ _ _ _ (Ve.right s sl).places (Ve.right s sl).robots tv cv ke se (Ve.right s sl).sips u y1 y2 y3 y4 y5 W (h.keep hb) hf.right hf.ok.zs hf.capB hcv.ca hcv.si (sips_rng hsl) (sips_zero hsl) (by show (sl.map _).length ≤ _; rw [List.length_map]; exact hm) hu (fun r hr => (ha.ro r hr).1) ha.ss.nr)
 have HIS := hid (fun tv sv sl x W hz htr hsl hx hs => endSip_any s tv sv sl x W hz htr hsl hx hs)
 have HAC := hid (fun (u : Bd.State) y1 y2 y3 y4 y5 (x : Nat) W (hb : Below w.heap.size w W) (hu : StV W y1 y2 y3 y4 y5 u) (ha : ActOk s u) (hx : x < u.robots.length) => Acts_any s _ _ _ _ _ _ u y1 y2 y3 y4 y5 x W (h.keep hb) hu ha hx)
 have HDO := hid (fun (u : Bd.State) y1 y2 y3 y4 y5 (x : Nat) (A : Int) W (hb : Below w.heap.size w W) (hu : StV W y1 y2 y3 y4 y5 u) (ha : ActOk s u) (hx : x < u.robots.length) (hA : 0 ≤ A ∧ A < 10) => Do_any s _ _ _ _ _ _ u y1 y2 y3 y4 y5 x A W (h.keep hb) hu ha hx hA)
 have HAOK := hid (fun (hf : FairP s 80 30) (h4 : Few4 st) hr => actok_of hf h4 hr htk hch)
 have HPK := hid (fun W (hb : Below w.heap.size w W) => hpk.keep hb)
 have HST := hid (fun W (hb : Below w.heap.size w W) => ht.keep hb)
 have HPN := hid hpn
 obtain ⟨ba, bc, rfl, -⟩ := two_form h.rb
 obtain ⟨nz, hnz⟩ : ∃ n, s.zones.length = n := ⟨_, rfl⟩
 obtain ⟨nr, hnr⟩ : ∃ n, s.robots.length = n := ⟨_, rfl⟩
 obtain ⟨bv, hbv⟩ : ∃ v, Value.slice ba nr bc = v := ⟨_, rfl⟩
 obtain ⟨np, hnp⟩ : ∃ n, picks.length = n := ⟨_, rfl⟩
 obtain ⟨m1, g1⟩ : ∃ n, st.shelves.length = n := ⟨_, rfl⟩
 obtain ⟨m2, g2⟩ : ∃ n, st.robots.length = n := ⟨_, rfl⟩
 obtain ⟨m3, g3⟩ : ∃ n, st.people.length = n := ⟨_, rfl⟩
 obtain ⟨m4, g4⟩ : ∃ n, st.dead.length = n := ⟨_, rfl⟩
 obtain ⟨m5, g5⟩ : ∃ n, st.stuck.length = n := ⟨_, rfl⟩
 have HG2 := hid g2
 unfold R14PostM at HR4
 try simp only [g1, g2, g3, g4, g5] at HF4 HR4 HST HAOK
 rw [g1, g2, g3, g4, g5]
 have HNZ := hid hnz
 have HNR := hid hnr
 have HNP := hid hnp
 unfold siV at HFA HR4 HBU HFE HAC HDO ⊢
 unfold stV at HF4 HR4 HFE HAC HDO ⊢
 rw [hnr, hbv] at HFA HR4 HBU HFE HAC HDO ⊢
 rw [hnz] at HFA HR4 HBU HFE HIS HAC HDO hzm ⊢
 rw [hnp] at hpm HPK ⊢
 obtain ⟨w2, hw2⟩ : ∃ W, W = (w.alloc (.cells #[.int .i64 s.floor.w, .int .i64 s.floor.h, .int .i64 s.floor.d, kv, ov, .slice za nz zc, av, hv, bv] 30)).alloc (.cells #[.int .i64 st.tick, .slice b1 m1 d1, .slice b2 m2 d2, .slice b3 m3 d3, .slice b4 m4 d4, .slice b5 m5 d5] 58) := ⟨_, rfl⟩
 have HA := al2 w (.cells #[.int .i64 s.floor.w, .int .i64 s.floor.h, .int .i64 s.floor.d, kv, ov, .slice za nz zc, av, hv, bv] 30) (.cells #[.int .i64 st.tick, .slice b1 m1 d1, .slice b2 m2 d2, .slice b3 m3 d3, .slice b4 m4 d4, .slice b5 m5 d5] 58)
 rw [← hw2] at HA
 have IS := hid HA.1
 have IT := hid HA.2.1
 have B2 := hid HA.2.2.1
 have HW2 := hid hw2
 have CS : Hid (∀ W, Below w2.heap.size w2 W → W.heap[w.heap.size]? = some (.cells #[.int .i64 s.floor.w, .int .i64 s.floor.h, .int .i64 s.floor.d, kv, ov, .slice za nz zc, av, hv, bv] 30 (0, 0))) := hid (fun W hW => keep_heap IS.out hW)
 have CU : Hid (∀ W, Below w2.heap.size w2 W → W.heap[w.heap.size + 1]? = some (.cells #[.int .i64 st.tick, .slice b1 m1 d1, .slice b2 m2 d2, .slice b3 m3 d3, .slice b4 m4 d4, .slice b5 m5 d5] 58 (0, 0))) := hid (fun W hW => keep_heap IT.out hW)
 have BB : Hid (∀ W, Below w2.heap.size w2 W → Below w.heap.size w W) := hid (fun W hW => B2.out.trans (hW.mono B2.out.size))
 clear h hcp ht htk hch hpk hpn hE hbv hnz hnr hnp hw2 HA g1 g2 g3 g4 g5
 go_enter Tryz.func8, Tryz.ntmps8
 go_upto_region 1 with fail
 rw [← HW2.out]
 go_wp2_with fail
 go_at_call 31; refine (HSM.out _ B2.out).mono ?_; rintro e w3 ⟨rfl, b3⟩
 have U3 := hid b3
 clear b3
 obtain ⟨x0, x1, x2, x3, x4, x5, x6, x7, x8⟩ := cells9 (CS.out _ U3.out)
 go_wp2_with fail
 go_at_call 37; refine (HFA.out _ (BB.out _ U3.out)).mono ?_; rintro e w4 ⟨⟨rb, rfl, hrb⟩, b4⟩
 have U4 := hid (U3.out.trans (b4.mono U3.out.size))
 have HRB := hid hrb
 clear b4 hrb
 clear x0 x1 x2 x3 x4 x5 x6 x7 x8
 cases rb with
 | false =>
  go_wp2_with fail
  go_ret
  exact ⟨rfl, BB.out _ U4.out⟩
 | true =>
  have HF := hid (HRB.out rfl)
  clear HRB
  have x5 : w4.cell? ⟨w.heap.size, 5, none⟩ = some (.slice za nz zc) := cell_of_heap (CS.out _ U4.out) 5 rfl
  obtain ⟨bz, hz10⟩ : ∃ b, decide ((nz : Int) > 10) = b := ⟨_, rfl⟩
  cases bz with
  | true =>
   go_wp2_with fail
   go_ret
   exact ⟨rfl, BB.out _ U4.out⟩
  | false =>
  have HZ10 : Hid (nz ≤ 10) := hid (by have := of_decide_eq_false hz10; omega)
  obtain ⟨t0, t1, t2, t3, t4, t5⟩ := cells6 (CU.out _ U4.out)
  go_wp2_with fail
  go_at_call 23; refine (HF4.out _ (BB.out _ U4.out)).mono ?_; rintro e w4b ⟨⟨rb, rfl, hrb⟩, b4⟩
  have U4b := hid (U4.out.trans (b4.mono U4.out.size))
  have HRB := hid hrb
  clear b4 hrb x5 hz10
  clear t0 t1 t2 t3 t4 t5
  cases rb with
  | false =>
   go_wp2_with fail
   go_ret
   exact ⟨rfl, BB.out _ U4b.out⟩
  | true =>
   have H4 := hid (HRB.out rfl)
   clear HRB
   obtain ⟨bz, hp40⟩ : ∃ b, decide ((np : Int) > 40) = b := ⟨_, rfl⟩
   cases bz with
   | true =>
    go_wp2_with fail
    go_ret
    exact ⟨rfl, BB.out _ U4b.out⟩
   | false =>
   have HP40 : Hid (np ≤ 40) := hid (by have := of_decide_eq_false hp40; omega)
   obtain ⟨x0, x1, x2, x3, x4, x5, x6, x7, x8⟩ := cells9 (CS.out _ U4b.out)
   obtain ⟨t0, t1, t2, t3, t4, t5⟩ := cells6 (CU.out _ U4b.out)
   go_wp2_with fail
   go_at_call 27; with_reducible refine (HR4.out H4.out _ (BB.out _ U4b.out)).mono ?_; rintro e w4c ⟨⟨rb, rfl, hrb⟩, b4⟩
   have U4c := hid (U4b.out.trans (b4.mono U4b.out.size))
   have HRB := hid hrb
   clear b4 hrb hp40 HR4
   clear t0 t1 t2 t3 t4 t5 x0 x1 x2 x3 x4 x5 x6 x7 x8
   cases rb with
   | false =>
    go_wp2_with fail
    go_ret
    exact ⟨rfl, BB.out _ U4c.out⟩
   | true =>
    have HRI := hid (HRB.out rfl).1
    have HNS : Hid (st.robots.length = nr) := hid (HG2.out.trans (HRB.out rfl).2)
    have AOK := hid (HAOK.out HF.out H4.out HRI.out)
    clear HRB HAOK
    obtain ⟨x0, x1, x2, x3, x4, x5, x6, x7, x8⟩ := cells9 (CS.out _ U4c.out)
    go_wp2_with fail
    go_at_call 12; refine (HBU.out HF.out HZ10.out _ (BB.out _ U4c.out)).mono ?_; intro e w5 hbp
    obtain ⟨b5, sl, hsl, hcase⟩ := build_cert (by have := HZ10.out; have := HNZ.out; omega) hbp
    have HSL := hid hsl
    have U5 := hid (U4c.out.trans (b5.mono U4c.out.size))
    clear b5 hbp hsl
    clear x0 x1 x2 x3 x4 x5 x6 x7 x8
    rcases hcase with ⟨-, rfl⟩ | ⟨hsafe, tv, cv, ke, se, rfl, hcv, -⟩
    · unfold certZero
      go_wp2_with fail
      go_ret
      exact ⟨rfl, (BB.out _ U5.out).alloc (BB.out _ U5.out).size _⟩
    obtain ⟨ta, tc, rfl, htm⟩ := hcv.tr.form
    obtain ⟨ca, cc, rfl, hcm⟩ := hcv.ca.form
    obtain ⟨ka, kc, rfl, hkm⟩ := hcv.ke.form
    obtain ⟨sa, sc, rfl, hsm⟩ := hcv.si.form
    have HSAF := hid hsafe
    have HCV := hid hcv
    unfold certA
    obtain ⟨TL, g3⟩ : ∃ n, (Ve.right s sl).trans.length = n := ⟨_, rfl⟩
    obtain ⟨CL, g5⟩ : ∃ n, (Ve.right s sl).caps.length = n := ⟨_, rfl⟩
    obtain ⟨KL, g6⟩ : ∃ n, (Ve.right s sl).keeps.length = n := ⟨_, rfl⟩
    obtain ⟨M, g4⟩ : ∃ n, (Ve.right s sl).sips.length = n := ⟨_, rfl⟩
    have hpl : (Ve.right s sl).places = (nz : Int) := by rw [← HNZ.out]; rfl
    have HM : Hid (sl.length = M) := hid (by rw [← g4]; show _ = (sl.map _).length; rw [List.length_map])
    rw [g3, g5, g6, g4] at HCV
    rw [g3, g5, g6, g4, hpl]
    have HPL := hid hpl
    clear hsafe hcv htm hcm hkm hsm g3 g4 g5 g6 hpl
    obtain ⟨w6, hw6⟩ : ∃ W, W = w5.alloc (.cells #[.int .i64 (nz : Int), .slice ta TL tc, .slice ca CL cc, .slice ka KL kc, .int .i64 (Ve.right s sl).robots, .slice sa M sc] 38) := ⟨_, rfl⟩
    have H6 := al1 w5 (.cells #[.int .i64 (nz : Int), .slice ta TL tc, .slice ca CL cc, .slice ka KL kc, .int .i64 (Ve.right s sl).robots, .slice sa M sc] 38)
    rw [← hw6] at H6
    have IC := hid H6.1
    have U6 := hid (U5.out.trans (H6.2.1.mono U5.out.size))
    have HCV6 := hid (HCV.out.keep H6.2.1)
    have HW6 := hid hw6
    have CC : Hid (∀ W, Below w6.heap.size w6 W → W.heap[w5.heap.size]? = some (.cells #[.int .i64 (nz : Int), .slice ta TL tc, .slice ca CL cc, .slice ka KL kc, .int .i64 (Ve.right s sl).robots, .slice sa M sc] 38 (0, 0))) := hid (fun W hW => keep_heap IC.out hW)
    have B26 : Hid (∀ W, Below w6.heap.size w6 W → Below w2.heap.size w2 W) := hid (fun W hW => U6.out.trans (hW.mono U6.out.size))
    have hsz : sl.length ≤ 1000000 := by
     have hsl2 : Pt.Sips (Si.linked s) nz sl := by have h1 := HSL.out; rwa [HNZ.out] at h1
     have h1 := hsl2.nd.length_le_of_subset (l₂ := List.range (2 ^ nz)) (fun x hx => List.mem_range.2 ((hsl2.mem x).1 hx).1)
     rw [List.length_range] at h1
     have h3 : 2 ^ nz ≤ 2 ^ 10 := Nat.pow_le_pow_right (by omega) HZ10.out
     omega
    have HSZ := hid hsz
    clear hw6 H6 hsz
    go_upto_region 7 with fail
    rw [← HW6.out]
    obtain ⟨t0, t1, t2, t3, t4, t5⟩ := cells6 (CU.out _ U6.out)
    obtain ⟨w7, hw7⟩ : ∃ W, W = w6.alloc (.cells #[.int .i64 st.tick, .slice b1 m1 d1, .slice b2 m2 d2, .slice b3 m3 d3, .slice b4 m4 d4, .slice b5 m5 d5] 58) := ⟨_, rfl⟩
    have H7 := al1 w6 (.cells #[.int .i64 st.tick, .slice b1 m1 d1, .slice b2 m2 d2, .slice b3 m3 d3, .slice b4 m4 d4, .slice b5 m5 d5] 58)
    rw [← hw7] at H7
    have I7 := hid H7.1
    have B7 := hid H7.2.1
    have HW7 := hid hw7
    have V7 := hid (HST.out w7 (BB.out _ (B26.out _ B7.out)))
    have HFE2 := hid (fun u y1 y2 y3 y4 y5 W hb (hcv : CertV W (.slice ta TL tc) (.slice ca CL cc) (.slice ka KL kc) (.slice sa M sc) (Ve.right s sl)) hu ha => HFE.out HF.out sl _ _ _ _ u y1 y2 y3 y4 y5 W hb hcv (by have h1 := HSL.out; rwa [HNZ.out] at h1) HSZ.out hu ha)
    rw [HPL.out] at HFE2
    clear hw7 H7 HFE
    go_upto_region 10 with fail
    rw [← HW7.out]
    clear t0 t1 t2 t3 t4 t5
    have HIS2 := hid (fun sv x W hW hx hs => HIS.out (.slice ta TL tc) sv sl x W (by have := HZ10.out; omega) hW (by have h1 := HSL.out; rwa [HNZ.out] at h1) hx hs)
    have HLTW : Hid (∀ x ∈ sl, ∀ z ∈ Pt.listW x, z < nz) := hid (fun x hx z hz => by have h5 := listW_lt ((HSL.out.mem x).1 hx).1 hz; rwa [HNZ.out] at h5)
    have HSF : Hid (∀ (k : Nat) (h : k < sl.length), (Ve.right s sl).sips[k]? = some (Si.nn (Pt.listW sl[k]))) := hid (fun k h => by
     show (sl.map fun x => Si.nn (Pt.listW x))[k]? = _
     simp [h])
    have HCAP : Hid (∀ z, z < s.zones.length → Si.capOf s z ≤ 1000000) := hid HF.out.capB
    have HRBS : Hid (∀ x ∈ sl, ¬ Si.sumCaps s x ≤ (nr : Int)) := hid (fun x hx => by
     have h2 := HSAF.out
     unfold Ve.safeB at h2
     rw [List.all_eq_true] at h2
     have h3 := of_decide_eq_true (h2 x hx)
     have h4 := HNR.out
     omega)
    go_wp2_with fail
    go_loopw [11] (fun iv wr => ∃ (i : Nat) (u : Bd.State) (y1 y2 y3 y4 y5 : Value), i ≤ np + 1 ∧ iv = .int .i64 i ∧ Hid (wr.heap[w6.heap.size]? = some (.cells #[.int .i64 u.tick, y1, y2, y3, y4, y5] 58 (0, 0))) ∧ Hid (StV wr y1 y2 y3 y4 y5 u) ∧ Hid (ActOk s u) ∧ Hid (u.robots.length = nr) ∧ Hid (Below w6.heap.size w6 wr)) (fun iv _ => np + 1 - (intOf iv).toNat)
    case atStart => exact ⟨0, st, _, _, _, _, _, by omega, rfl, I7, V7, AOK, HNS, B7⟩
    case round =>
     clear I7 V7 AOK HNS B7 HW7 HW6
     obtain ⟨i, u, y1, y2, y3, y4, y5, hi, rfl, HU, HV, HA, HN, HB⟩ := hrel
     obtain ⟨wA, hwA⟩ : ∃ W, W = wr := ⟨_, rfl⟩
     subst hwA
     by_cases hin : i ≤ np
     case neg =>
      go_wp2_with fail
      go_ret
      exact ⟨rfl, BB.out _ (B26.out _ HB.out)⟩
     case pos =>
     obtain ⟨ua, uc, rfl, hum⟩ := HV.out.ro.form
     rw [HN.out] at HU HV hum
     have i1 : (i : Int) ≤ (np : Int) := by omega
     have i9 : i ≤ 1000000 := by have := HP40.out; omega
     have hUlt : w6.heap.size < wA.heap.size := heap_lt HU.out
     obtain ⟨x0, x1, x2, x3, x4, x5, x6, x7, x8⟩ := cells9 (CS.out _ (B26.out _ HB.out))
     have c0 : wA.cell? ⟨w5.heap.size, 0, none⟩ = some (.int .i64 (nz : Int)) := cell_of_heap (CC.out _ HB.out) 0 rfl
     have c1 : wA.cell? ⟨w5.heap.size, 1, none⟩ = some (.slice ta TL tc) := cell_of_heap (CC.out _ HB.out) 1 rfl
     have c2 : wA.cell? ⟨w5.heap.size, 2, none⟩ = some (.slice ca CL cc) := cell_of_heap (CC.out _ HB.out) 2 rfl
     have c3 : wA.cell? ⟨w5.heap.size, 3, none⟩ = some (.slice ka KL kc) := cell_of_heap (CC.out _ HB.out) 3 rfl
     have c4 : wA.cell? ⟨w5.heap.size, 4, none⟩ = some (.int .i64 (Ve.right s sl).robots) := cell_of_heap (CC.out _ HB.out) 4 rfl
     have c5 : wA.cell? ⟨w5.heap.size, 5, none⟩ = some (.slice sa M sc) := cell_of_heap (CC.out _ HB.out) 5 rfl
     have u0 : wA.cell? ⟨w6.heap.size, 0, none⟩ = some (.int .i64 u.tick) := cell_of_heap HU.out 0 rfl
     have u1 : wA.cell? ⟨w6.heap.size, 1, none⟩ = some (y1) := cell_of_heap HU.out 1 rfl
     have u2 : wA.cell? ⟨w6.heap.size, 2, none⟩ = some (.slice ua nr uc) := cell_of_heap HU.out 2 rfl
     have u3 : wA.cell? ⟨w6.heap.size, 3, none⟩ = some (y3) := cell_of_heap HU.out 3 rfl
     have u4 : wA.cell? ⟨w6.heap.size, 4, none⟩ = some (y4) := cell_of_heap HU.out 4 rfl
     have u5 : wA.cell? ⟨w6.heap.size, 5, none⟩ = some (y5) := cell_of_heap HU.out 5 rfl
     have C1 := hid (HFE2.out u y1 (.slice ua nr uc) y3 y4 y5 wA (BB.out _ (B26.out _ HB.out)) (HCV6.out.keep HB.out) HV.out HA.out)
     go_wp2_with fail
     go_at_call 38; with_reducible refine C1.out.mono ?_; rintro e wa ⟨⟨qv, rfl, hqv⟩, ba⟩
     have Va := hid (HB.out.trans (ba.mono HB.out.size))
     obtain ⟨qa, qc, rfl, -⟩ := hqv.form
     obtain ⟨cs, hcs⟩ : ∃ l, u.robots.map (·.cell) = l := ⟨_, rfl⟩
     have HCSL : Hid (cs.length = nr) := hid (by rw [← hcs, List.length_map]; exact HN.out)
     have hql : u.robots.length = cs.length := by rw [HCSL.out]; exact HN.out
     rw [hcs, hql] at hqv
     rw [hcs, hql]
     have hL2 : (Si.freeL s cs cs.length).length = nz := by rw [Si.freeL_len]; exact HNZ.out
     rw [hL2] at hqv ⊢
     have HQV := hid hqv
     have HUa := hid (keep_heap HU.out ba)
     have HVa := hid (HV.out.keep ba)
     have HCVa := hid (HCV6.out.keep Va.out)
     have HSI := hid HCVa.out.si
     have hMs : M ≤ 1000000 := by have := HSZ.out; have := HM.out; omega
     clear ba hqv hcs hql hL2 C1 HU HV
     clear x0 x1 x2 x3 x4 x5 x6 x7 x8 c0 c1 c2 c3 c4 c5 u0 u1 u2 u3 u4 u5
     have x5 : wa.cell? ⟨w.heap.size, 5, none⟩ = some (.slice za nz zc) := cell_of_heap (CS.out _ (B26.out _ Va.out)) 5 rfl
     have Wa0 := hid (Below.refl wa.heap.size wa)
     go_wp2_with fail
     clear x5
     go_loopw [13] (fun kv wr => ∃ k : Nat, k ≤ M ∧ kv = .int .i64 k ∧ Hid (Below wa.heap.size wa wr)) (fun kv _ => M - (intOf kv).toNat)
     case atStart => exact ⟨0, by omega, rfl, Wa0⟩
     case round =>
      clear Wa0
      obtain ⟨k, hk, rfl, HR⟩ := hrel
      have UR := hid (Va.out.trans (HR.out.mono Va.out.size))
      have c5 : wr.cell? ⟨w5.heap.size, 5, none⟩ = some (.slice sa M sc) := cell_of_heap (CC.out _ UR.out) 5 rfl
      by_cases hkn : k < M
      · have hkl : k < sl.length := by rw [HM.out]; exact hkn
        have hxm := List.getElem_mem hkl
        have hlw := HLTW.out _ hxm
        have hns : ¬ Si.sumCaps s sl[k] ≤ (cs.length : Int) := by have h9 := HRBS.out _ hxm; have h8 := HCSL.out; omega
        have hsum := Si.fzSum_pos (cs := cs) hns
        obtain ⟨hsl3, hse⟩ := List.getElem?_eq_some_iff.1 (HSF.out k hkl)
        obtain ⟨sb, so, uu, rfl, r2, huu⟩ := (HSI.out.keep HR.out).cell k hsl3
        rw [hse] at huu
        have HC1 := hid (fun W (hW : Below wr.heap.size wr W) => HIS2.out uu sl[k] W (HCV6.out.keep (UR.out.trans (hW.mono UR.out.size))).tr hxm (huu.keep hW))
        have hl64 := listW_len sl[k]
        obtain ⟨LW, hLW⟩ : ∃ l, Pt.listW sl[k] = l := ⟨_, rfl⟩
        rw [hLW] at huu hlw hsum hl64
        have hUw : (Si.nn LW).length = LW.length := by simp [Si.nn]
        obtain ⟨UL, hUL⟩ : ∃ n, LW.length = n := ⟨_, rfl⟩
        have HUI := hid huu
        have HLW := hid hlw
        have HULw := hid hUL
        obtain ⟨ra, rc2, rfl, hrm⟩ := huu.form
        rw [hUw, hUL] at hrm r2 HC1 HUI
        rw [hUL] at hsum hl64
        have HSUM := hid hsum
        have k0 : (0 : Int) ≤ (k : Int) := by omega
        have k1 : (k : Int) < (M : Int) := by omega
        have hFZ : Hid (∀ y, y < nz → 0 ≤ Si.fz s cs y ∧ Si.fz s cs y ≤ 1000000) := hid (fun y hy => Si.fz_bd cs HCAP.out (by rw [HNZ.out]; exact hy))
        have hFS : Hid (∀ j, j ≤ LW.length → 0 ≤ Si.fzSum s cs LW j ∧ Si.fzSum s cs LW j ≤ 1000000 * (j : Int)) := hid (fun j hj => Si.fzSum_bd cs HCAP.out (fun z hz => by rw [HNZ.out]; exact HLW.out z hz) j hj)
        clear hns huu hlw hsum hsl3 hse hxm hkl hLW hUL hUw
        go_wp2_with fail
        go_loop [14, 15] (fun sv jv => ∃ j : Nat, j ≤ UL ∧ jv = .int .i64 j ∧ sv = .int .i64 (Si.fzSum s cs LW j)) (fun _ jv => UL - (intOf jv).toNat)
        case atStart => exact ⟨0, by omega, rfl, by rw [Si.fzSum_zero]⟩
        case round =>
         obtain ⟨j, hj, rfl, rfl⟩ := hrel
         by_cases hjn : j < UL
         · have hjw : j < LW.length := by rw [HULw.out]; exact hjn
           obtain ⟨ub, uo, rfl, u0⟩ := HUI.out.cell j (by simpa [Si.nn] using hjw)
           have hjy : (Si.nn LW)[j]'(by simpa [Si.nn] using hjw) = ((LW[j] : Nat) : Int) := by simp [Si.nn]
           have hyn := HLW.out _ (List.getElem_mem hjw)
           have hS1 := Si.fzSum_succ s cs LW j hjw
           have hSb := hFS.out j (by omega)
           rw [hjy] at u0
           obtain ⟨y, hy⟩ : ∃ y, LW[j] = y := ⟨_, rfl⟩
           rw [hy] at u0 hyn hS1
           have hqk := Si.freeL_fz s cs y (by rw [HNZ.out]; exact hyn)
           obtain ⟨hql, hqe⟩ := List.getElem?_eq_some_iff.1 hqk
           obtain ⟨qb, qo, rfl, q0⟩ := (HQV.out.keep HR.out).cell y hql
           rw [hqe] at q0
           have hFb := hFZ.out y hyn
           obtain ⟨S, hS⟩ : ∃ z, Si.fzSum s cs LW j = z := ⟨_, rfl⟩
           obtain ⟨F, hF⟩ : ∃ z, Si.fz s cs y = z := ⟨_, rfl⟩
           rw [hS] at hSb hS1 ⊢
           rw [hF] at hFb hS1 q0
           have HS1 := hid hS1
           obtain ⟨hSb1, hSb2⟩ := hSb
           obtain ⟨hFb1, hFb2⟩ := hFb
           have y0 : (0 : Int) ≤ (y : Int) := by omega
           have y1' : (y : Int) < (nz : Int) := by omega
           have y2' : ¬ (y : Int) < 0 := by omega
           have j0 : (0 : Int) ≤ (j : Int) := by omega
           have j1 : (j : Int) < (UL : Int) := by omega
           have hS9 : S ≤ 100000000 := by omega
           clear hjw hjy hy hS hF hS1 hql hqe hqk
           go_wp2_with fail
           go_round
           case rel => exact ⟨j + 1, by omega, by go_num, by rw [HS1.out]⟩
           case measure => simp [intOf]; omega
         · obtain rfl : j = UL := by omega
           have hs1 := HSUM.out
           obtain ⟨S, hS⟩ : ∃ z, Si.fzSum s cs LW j = z := ⟨_, rfl⟩
           rw [hS] at hs1 ⊢
           have f1 : ¬ S < 1 := by omega
           have d1 : decide (S < 1) = false := decide_eq_false f1
           have BX0 : Below wr.heap.size wr wr.drew := below_drewN _ _ 1
           have c0 : wr.cell? ⟨w5.heap.size, 0, none⟩ = some (.int .i64 (nz : Int)) := cell_of_heap (CC.out _ UR.out) 0 rfl
           have c1 : wr.cell? ⟨w5.heap.size, 1, none⟩ = some (.slice ta TL tc) := cell_of_heap (CC.out _ UR.out) 1 rfl
           clear hS hs1 HSUM hFS hFZ HLW HUI hrm
           go_upto_region 27 with fail
           go_cut [122] (fun v wx => v = .bool false ∧ Hid (Below wr.heap.size wr wx))
           case first =>
            go_region_held3 (fun w' => w'.cell? ⟨w5.heap.size, 0, none⟩ = some (.int .i64 (nz : Int)) ∧ w'.cell? ⟨w5.heap.size, 1, none⟩ = some (.slice ta TL tc) ∧ w'.cell? ⟨w5.heap.size, 5, none⟩ = some (.slice (some ⟨sb, so, none⟩) M sc) ∧ w'.cell? ⟨sb, so + k, none⟩ = some (.slice ra j rc2)) (go_keep)
             (first | (go_at_call 18; with_reducible refine (HC1.out _ BX0).mono ?_; rintro e w8 ⟨rfl, b8⟩; have BX : Below wr.heap.size wr w8 := BX0.trans (b8.mono BX0.size); have s0 := (BX.cell (p := ⟨w5.heap.size, 0, none⟩) (cell_block_lt c0)).trans c0; have s1 := (BX.cell (p := ⟨w5.heap.size, 1, none⟩) (cell_block_lt c1)).trans c1; have s5 := (BX.cell (p := ⟨w5.heap.size, 5, none⟩) (cell_block_lt c5)).trans c5; have s2 := (BX.cell (p := ⟨sb, so + k, none⟩) (cell_block_lt r2)).trans r2; clear b8))
            all_goals go_wp2_with fail
            all_goals
             go_meet
             exact ⟨rfl, hid BX⟩
           case rest =>
            obtain ⟨rfl, HBX⟩ := hcut
            obtain ⟨wy, hwy⟩ : ∃ W, W = wc := ⟨_, rfl⟩
            subst hwy
            have UY := hid (HR.out.trans (HBX.out.mono HR.out.size))
            clear c0 c1 c5 r2 f1 d1 BX0
            go_wp2_with fail
            go_roundw
            case rel => exact ⟨k + 1, by omega, by go_num, UY⟩
            case measure => simp [intOf]; omega
      · obtain ⟨wB, hwB⟩ : ∃ W, W = wr := ⟨_, rfl⟩
        subst hwB
        have HUB := hid (keep_heap HUa.out HR.out)
        have HVB := hid (HVa.out.keep HR.out)
        have u2 : wB.cell? ⟨w6.heap.size, 2, none⟩ = some (.slice ua nr uc) := cell_of_heap HUB.out 2 rfl
        by_cases hip : (i : Int) < (np : Int)
        case neg =>
         go_wp2_with fail
         go_roundw
         case rel => exact ⟨i + 1, u, y1, _, y3, y4, y5, by omega, by go_num, HUB, HVB, HA, HN, UR⟩
         case measure => simp [intOf]; omega
        case pos =>
        by_cases hnr0 : (nr : Int) > 0
        case neg =>
         go_wp2_with fail
         go_roundw
         case rel => exact ⟨i + 1, u, y1, _, y3, y4, y5, by omega, by go_num, HUB, HVB, HA, HN, UR⟩
         case measure => simp [intOf]; omega
        case pos =>
        obtain ⟨pb, po, rfl, p0⟩ := (HPK.out wB (BB.out _ (B26.out _ UR.out))).cell i (by rw [HNP.out]; omega)
        obtain ⟨P, hP⟩ : ∃ z, picks[i]'(by rw [HNP.out]; omega) = z := ⟨_, rfl⟩
        rw [hP] at p0
        have hPb : P ≤ 9223372036854775807 := by rw [← hP]; exact (HPN.out _ (List.getElem_mem _)).2
        obtain ⟨N, hN⟩ : ∃ N : Nat, max P 0 = (N : Int) := ⟨(max P 0).toNat, by omega⟩
        have hNb : (N : Int) ≤ 9223372036854775807 := by omega
        have i0 : (0 : Int) ≤ (i : Int) := by omega
        clear hP
        obtain ⟨xr, hxr, hxl⟩ : ∃ xr : Nat, (N : Int) % (nr : Int) = (xr : Int) ∧ xr < nr := ⟨N % nr, by simp, Nat.mod_lt _ (by omega)⟩
        have n1 : (nr : Int) ≠ 0 := by omega
        have n2' : ¬ nr = 0 := by omega
        have C2 := hid (HAC.out u y1 (.slice ua nr uc) y3 y4 y5 xr wB (BB.out _ (B26.out _ UR.out)) HVB.out HA.out (by rw [HN.out]; exact hxl))
        clear u2
        obtain ⟨x0, x1, x2, x3, x4, x5, x6, x7, x8⟩ := cells9 (CS.out _ (B26.out _ UR.out))
        have u0 : wB.cell? ⟨w6.heap.size, 0, none⟩ = some (.int .i64 u.tick) := cell_of_heap HUB.out 0 rfl
        have u1 : wB.cell? ⟨w6.heap.size, 1, none⟩ = some (y1) := cell_of_heap HUB.out 1 rfl
        have u2 : wB.cell? ⟨w6.heap.size, 2, none⟩ = some (.slice ua nr uc) := cell_of_heap HUB.out 2 rfl
        have u3 : wB.cell? ⟨w6.heap.size, 3, none⟩ = some (y3) := cell_of_heap HUB.out 3 rfl
        have u4 : wB.cell? ⟨w6.heap.size, 4, none⟩ = some (y4) := cell_of_heap HUB.out 4 rfl
        have u5 : wB.cell? ⟨w6.heap.size, 5, none⟩ = some (y5) := cell_of_heap HUB.out 5 rfl
        go_wp2_with fail
        go_at_call 39; with_reducible refine C2.out.mono ?_; rintro e wC ⟨⟨lv, l, rfl, hl, hl0, hl1, hla⟩, bC⟩
        have UC := hid (UR.out.trans (bC.mono UR.out.size))
        have HUC := hid (keep_heap HUB.out bC)
        have HVC := hid (HVB.out.keep bC)
        obtain ⟨la, lc, rfl, hlm⟩ := hl.form
        obtain ⟨L, hL⟩ : ∃ n, l.length = n := ⟨_, rfl⟩
        have HLE := hid hl
        have HLA := hid hla
        have HLL := hid hL
        rw [hL] at hl0 hl1 ⊢
        obtain ⟨qn, hq, hqb⟩ : ∃ qn : Nat, (N : Int) / (nr : Int) = (qn : Int) ∧ qn ≤ N := ⟨N / nr, by simp, Nat.div_le_self _ _⟩
        have hqc : (qn : Int) ≤ 9223372036854775807 := by omega
        have hqd : (0 : Int) ≤ (qn : Int) := by omega
        obtain ⟨mi, hmi, hml⟩ : ∃ mi : Nat, (qn : Int) % (L : Int) = (mi : Int) ∧ mi < L := ⟨qn % L, by simp, Nat.mod_lt _ hl0⟩
        have hqw : IntKind.i64.wrap (qn : Int) = (qn : Int) := IntWalk.i64_in _ (by omega)
        have hmt : (qn : Int).tmod (L : Int) = (mi : Int) := by rw [Int.tmod_eq_emod_of_nonneg (by omega)]; exact hmi
        have m0 : (0 : Int) ≤ (mi : Int) := by omega
        have m1' : (mi : Int) < (L : Int) := by omega
        have l1' : (L : Int) ≠ 0 := by omega
        have l2' : ¬ L = 0 := by omega
        have l0 : ((L : Int) == 0) = false := by rw [beq_eq_false_iff_ne]; omega
        clear bC hl hla hL C2 hlm
        clear x0 x1 x2 x3 x4 x5 x6 x7 x8 u0 u1 u2 u3 u4 u5
        obtain ⟨lb, lo, rfl, e0⟩ := HLE.out.cell mi (by rw [HLL.out]; exact hml)
        have hAr := HLA.out _ (List.getElem_mem (show mi < l.length by rw [HLL.out]; exact hml))
        obtain ⟨Ac, hAc⟩ : ∃ z, l[mi]'(by rw [HLL.out]; exact hml) = z := ⟨_, rfl⟩
        rw [hAc] at e0 hAr
        have C3 := hid (fun W (hW : Below wC.heap.size wC W) => HDO.out u y1 (.slice ua nr uc) y3 y4 y5 xr Ac W (BB.out _ (B26.out _ (UC.out.trans (hW.mono UC.out.size)))) (HVC.out.keep hW) HA.out (by rw [HN.out]; exact hxl) hAr)
        unfold DoPost at C3
        clear hAc HLA HLE
        obtain ⟨x0, x1, x2, x3, x4, x5, x6, x7, x8⟩ := cells9 (CS.out _ (B26.out _ UC.out))
        have u0 : wC.cell? ⟨w6.heap.size, 0, none⟩ = some (.int .i64 u.tick) := cell_of_heap HUC.out 0 rfl
        have u1 : wC.cell? ⟨w6.heap.size, 1, none⟩ = some (y1) := cell_of_heap HUC.out 1 rfl
        have u2 : wC.cell? ⟨w6.heap.size, 2, none⟩ = some (.slice ua nr uc) := cell_of_heap HUC.out 2 rfl
        have u3 : wC.cell? ⟨w6.heap.size, 3, none⟩ = some (y3) := cell_of_heap HUC.out 3 rfl
        have u4 : wC.cell? ⟨w6.heap.size, 4, none⟩ = some (y4) := cell_of_heap HUC.out 4 rfl
        have u5 : wC.cell? ⟨w6.heap.size, 5, none⟩ = some (y5) := cell_of_heap HUC.out 5 rfl
        go_upto_region 35 with fail
        have bX : Below wC.heap.size wC wC.drew := ⟨rfl, rfl, rfl, Nat.le_refl _, fun _ _ => rfl⟩
        refine wp_region_x (S := fun W' => W'.cell? ⟨w.heap.size, 0, none⟩ = some (.int .i64 s.floor.w) ∧ W'.cell? ⟨w.heap.size, 1, none⟩ = some (.int .i64 s.floor.h) ∧ W'.cell? ⟨w.heap.size, 2, none⟩ = some (.int .i64 s.floor.d) ∧ W'.cell? ⟨w.heap.size, 3, none⟩ = some (kv) ∧ W'.cell? ⟨w.heap.size, 4, none⟩ = some (ov) ∧ W'.cell? ⟨w.heap.size, 5, none⟩ = some (.slice za nz zc) ∧ W'.cell? ⟨w.heap.size, 6, none⟩ = some (av) ∧ W'.cell? ⟨w.heap.size, 7, none⟩ = some (hv) ∧ W'.cell? ⟨w.heap.size, 8, none⟩ = some (bv) ∧ W'.cell? ⟨w6.heap.size, 0, none⟩ = some (.int .i64 u.tick) ∧ W'.cell? ⟨w6.heap.size, 1, none⟩ = some (y1) ∧ W'.cell? ⟨w6.heap.size, 2, none⟩ = some (.slice ua nr uc) ∧ W'.cell? ⟨w6.heap.size, 3, none⟩ = some (y3) ∧ W'.cell? ⟨w6.heap.size, 4, none⟩ = some (y4) ∧ W'.cell? ⟨w6.heap.size, 5, none⟩ = some (y5) ∧ W'.cell? ⟨lb, lo + mi, none⟩ = some (.int .i64 Ac)) (L := 15) (by kernel_rfl) ⟨(bX.cell (cell_block_lt x0)).trans x0, (bX.cell (cell_block_lt x1)).trans x1, (bX.cell (cell_block_lt x2)).trans x2, (bX.cell (cell_block_lt x3)).trans x3, (bX.cell (cell_block_lt x4)).trans x4, (bX.cell (cell_block_lt x5)).trans x5, (bX.cell (cell_block_lt x6)).trans x6, (bX.cell (cell_block_lt x7)).trans x7, (bX.cell (cell_block_lt x8)).trans x8, (bX.cell (cell_block_lt u0)).trans u0, (bX.cell (cell_block_lt u1)).trans u1, (bX.cell (cell_block_lt u2)).trans u2, (bX.cell (cell_block_lt u3)).trans u3, (bX.cell (cell_block_lt u4)).trans u4, (bX.cell (cell_block_lt u5)).trans u5, (bX.cell (cell_block_lt e0)).trans e0⟩ (fun hHeld => ?_)
        obtain ⟨wX, hwX⟩ : ∃ W, W = wC.drew := ⟨_, rfl⟩
        rw [← hwX] at hHeld bX ⊢
        have HUX := hid (keep_heap HUC.out bX)
        have UX := hid (UC.out.trans (bX.mono UC.out.size))
        have C4 := hid (C3.out wX bX)
        clear bX hwX C3 HUC HVC
        clear x0 x1 x2 x3 x4 x5 x6 x7 x8 u0 u1 u2 u3 u4 u5 e0
        refine wpAnyX_take (i := 0) (v := ?v0) [14, 15] (by kernel_rfl) rfl (by kernel_rfl) (by kernel_rfl) (by kernel_rfl) (fun _ _ _ h => h) (Or.inl ⟨by rfl, ?y0⟩) (by assumption) ?_
        case y0 => (intro w' hSw; obtain ⟨k0, k1, k2, k3, k4, k5, k6, k7, k8, k9, k10, k11, k12, k13, k14, k15⟩ := hSw; go_simp; all_goals (with_reducible rfl))
        try simp only [Act.put, zA, zB, zC, zD, zE, zF]
        refine wpAnyX_take (i := 1) (v := ?v1) [14, 15] (by kernel_rfl) rfl (by kernel_rfl) (by kernel_rfl) (by kernel_rfl) (fun _ _ _ h => h) (Or.inl ⟨by rfl, ?y1⟩) (by assumption) ?_
        case y1 => (intro w' hSw; obtain ⟨k0, k1, k2, k3, k4, k5, k6, k7, k8, k9, k10, k11, k12, k13, k14, k15⟩ := hSw; go_simp; all_goals (with_reducible rfl))
        try simp only [Act.put, zA, zB, zC, zD, zE, zF]
        refine wpAnyX_take (i := 2) (v := ?v2) [14, 15] (by kernel_rfl) rfl (by kernel_rfl) (by kernel_rfl) (by kernel_rfl) (fun _ _ _ h => h) (Or.inl ⟨by rfl, ?y2⟩) (by assumption) ?_
        case y2 => (intro w' hSw; obtain ⟨k0, k1, k2, k3, k4, k5, k6, k7, k8, k9, k10, k11, k12, k13, k14, k15⟩ := hSw; go_simp; all_goals (with_reducible rfl))
        try simp only [Act.put, zA, zB, zC, zD, zE, zF]
        refine wpAnyX_take (i := 3) (v := ?v3) [12, 13, 14, 15] (by kernel_rfl) rfl (by kernel_rfl) (by kernel_rfl) (by kernel_rfl) (fun _ _ _ h => h) (Or.inl ⟨by rfl, ?y3⟩) (by assumption) ?_
        case y3 => (intro w' hSw; obtain ⟨k0, k1, k2, k3, k4, k5, k6, k7, k8, k9, k10, k11, k12, k13, k14, k15⟩ := hSw; go_simp; all_goals (with_reducible rfl))
        try simp only [Act.put, zA, zB, zC, zD, zE, zF]
        refine wpAnyX_take (i := 4) (v := ?v4) [8, 11, 12, 13, 14, 15] (by kernel_rfl) rfl (by kernel_rfl) (by kernel_rfl) (by kernel_rfl) (fun _ _ _ h => h) (Or.inl ⟨by rfl, ?y4⟩) (by assumption) ?_
        case y4 => (intro w' hSw; obtain ⟨k0, k1, k2, k3, k4, k5, k6, k7, k8, k9, k10, k11, k12, k13, k14, k15⟩ := hSw; go_simp; all_goals (with_reducible rfl))
        try simp only [Act.put, zA, zB, zC, zD, zE, zF]
        refine wpAnyX_take (i := 5) (v := ?v5) [6, 7, 8, 11, 12, 13, 14, 15] (by kernel_rfl) rfl (by kernel_rfl) (by kernel_rfl) (by kernel_rfl) (fun _ _ _ h => h) (Or.inl ⟨by rfl, ?y5⟩) (by assumption) ?_
        case y5 => (intro w' hSw; obtain ⟨k0, k1, k2, k3, k4, k5, k6, k7, k8, k9, k10, k11, k12, k13, k14, k15⟩ := hSw; go_simp; all_goals (with_reducible rfl))
        try simp only [Act.put, zA, zB, zC, zD, zE, zF]
        refine wpAnyX_take (i := 6) (v := ?v6) [7, 8, 11, 12, 13, 14, 15] (by kernel_rfl) rfl (by kernel_rfl) (by kernel_rfl) (by kernel_rfl) (fun _ _ _ h => h) (Or.inl ⟨by rfl, ?y6⟩) (by assumption) ?_
        case y6 => (intro w' hSw; obtain ⟨k0, k1, k2, k3, k4, k5, k6, k7, k8, k9, k10, k11, k12, k13, k14, k15⟩ := hSw; go_simp; all_goals (with_reducible rfl))
        try simp only [Act.put, zA, zB, zC, zD, zE, zF]
        refine wpAnyX_take (i := 7) (v := ?v7) [8, 11, 12, 13, 14, 15] (by kernel_rfl) rfl (by kernel_rfl) (by kernel_rfl) (by kernel_rfl) (fun _ _ _ h => h) (Or.inl ⟨by rfl, ?y7⟩) (by assumption) ?_
        case y7 => (intro w' hSw; obtain ⟨k0, k1, k2, k3, k4, k5, k6, k7, k8, k9, k10, k11, k12, k13, k14, k15⟩ := hSw; go_simp; all_goals (with_reducible rfl))
        try simp only [Act.put, zA, zB, zC, zD, zE, zF]
        refine wpAnyX_take (i := 8) (v := ?v8) [11, 12, 13, 14, 15] (by kernel_rfl) rfl (by kernel_rfl) (by kernel_rfl) (by kernel_rfl) (fun _ _ _ h => h) (Or.inl ⟨by rfl, ?y8⟩) (by assumption) ?_
        case y8 => (intro w' hSw; obtain ⟨k0, k1, k2, k3, k4, k5, k6, k7, k8, k9, k10, k11, k12, k13, k14, k15⟩ := hSw; go_simp; all_goals (with_reducible rfl))
        try simp only [Act.put, zA, zB, zC, zD, zE, zF]
        refine wpAnyX_take (i := 9) (v := ?v9) [10, 11, 12, 13, 14, 15] (by kernel_rfl) rfl (by kernel_rfl) (by kernel_rfl) (by kernel_rfl) (fun _ _ _ h => h) (Or.inl ⟨by rfl, ?y9⟩) (by assumption) ?_
        case y9 => (intro w' hSw; obtain ⟨k0, k1, k2, k3, k4, k5, k6, k7, k8, k9, k10, k11, k12, k13, k14, k15⟩ := hSw; go_simp; all_goals (with_reducible rfl))
        try simp only [Act.put, zA, zB, zC, zD, zE, zF]
        refine wpAnyX_take (i := 10) (v := ?v10) [11, 12, 13, 14, 15] (by kernel_rfl) rfl (by kernel_rfl) (by kernel_rfl) (by kernel_rfl) (fun _ _ _ h => h) (Or.inl ⟨by rfl, ?y10⟩) (by assumption) ?_
        case y10 => (intro w' hSw; obtain ⟨k0, k1, k2, k3, k4, k5, k6, k7, k8, k9, k10, k11, k12, k13, k14, k15⟩ := hSw; go_simp; all_goals (with_reducible rfl))
        try simp only [Act.put, zA, zB, zC, zD, zE, zF]
        refine wpAnyX_take (i := 11) (v := ?v11) [12, 13, 14, 15] (by kernel_rfl) rfl (by kernel_rfl) (by kernel_rfl) (by kernel_rfl) (fun _ _ _ h => h) (Or.inl ⟨by rfl, ?y11⟩) (by assumption) ?_
        case y11 => (intro w' hSw; obtain ⟨k0, k1, k2, k3, k4, k5, k6, k7, k8, k9, k10, k11, k12, k13, k14, k15⟩ := hSw; go_simp; all_goals (with_reducible rfl))
        try simp only [Act.put, zA, zB, zC, zD, zE, zF]
        refine wpAnyX_take (i := 12) (v := ?v12) [13, 14, 15] (by kernel_rfl) rfl (by kernel_rfl) (by kernel_rfl) (by kernel_rfl) (fun _ _ _ h => h) (Or.inl ⟨by rfl, ?y12⟩) (by assumption) ?_
        case y12 => (intro w' hSw; obtain ⟨k0, k1, k2, k3, k4, k5, k6, k7, k8, k9, k10, k11, k12, k13, k14, k15⟩ := hSw; go_simp; all_goals (with_reducible rfl))
        try simp only [Act.put, zA, zB, zC, zD, zE, zF]
        refine wpAnyX_take (i := 13) (v := ?v13) [14, 15] (by kernel_rfl) rfl (by kernel_rfl) (by kernel_rfl) (by kernel_rfl) (fun _ _ _ h => h) (Or.inl ⟨by rfl, ?y13⟩) (by assumption) ?_
        case y13 => (intro w' hSw; obtain ⟨k0, k1, k2, k3, k4, k5, k6, k7, k8, k9, k10, k11, k12, k13, k14, k15⟩ := hSw; go_simp; all_goals (with_reducible rfl))
        try simp only [Act.put, zA, zB, zC, zD, zE, zF]
        refine wpAnyX_ready (rs := [14]) (by kernel_rfl) (by simp) ?_
        refine AllX.cons rfl (fun K9 hK => ?_) AllX.nil
        go_simp
        go_at_call 40; with_reducible refine C4.out.mono ?_; rintro e wD ⟨⟨st', v1, v2, v3, v4, v5, rfl, hso, hao, hnr⟩, bD⟩
        have HUD := hid (keep_heap HUX.out bD)
        have UD := hid (UX.out.trans (bD.mono UX.out.size))
        have HUlt : w6.heap.size < wX.heap.size := heap_lt HUX.out
        have HSO := hid hso
        have HAO := hid hao
        have HNO : Hid (st'.robots.length = nr) := hid (hnr.trans HN.out)
        have SD : wD.cell? ⟨w.heap.size, 0, none⟩ = some (.int .i64 s.floor.w) ∧ wD.cell? ⟨w.heap.size, 1, none⟩ = some (.int .i64 s.floor.h) ∧ wD.cell? ⟨w.heap.size, 2, none⟩ = some (.int .i64 s.floor.d) ∧ wD.cell? ⟨w.heap.size, 3, none⟩ = some (kv) ∧ wD.cell? ⟨w.heap.size, 4, none⟩ = some (ov) ∧ wD.cell? ⟨w.heap.size, 5, none⟩ = some (.slice za nz zc) ∧ wD.cell? ⟨w.heap.size, 6, none⟩ = some (av) ∧ wD.cell? ⟨w.heap.size, 7, none⟩ = some (hv) ∧ wD.cell? ⟨w.heap.size, 8, none⟩ = some (bv) ∧ wD.cell? ⟨w6.heap.size, 0, none⟩ = some (.int .i64 u.tick) ∧ wD.cell? ⟨w6.heap.size, 1, none⟩ = some (y1) ∧ wD.cell? ⟨w6.heap.size, 2, none⟩ = some (.slice ua nr uc) ∧ wD.cell? ⟨w6.heap.size, 3, none⟩ = some (y3) ∧ wD.cell? ⟨w6.heap.size, 4, none⟩ = some (y4) ∧ wD.cell? ⟨w6.heap.size, 5, none⟩ = some (y5) ∧ wD.cell? ⟨lb, lo + mi, none⟩ = some (.int .i64 Ac) := by
         obtain ⟨k0, k1, k2, k3, k4, k5, k6, k7, k8, k9, k10, k11, k12, k13, k14, k15⟩ := hHeld
         exact ⟨(bD.cell (cell_block_lt k0)).trans k0, (bD.cell (cell_block_lt k1)).trans k1, (bD.cell (cell_block_lt k2)).trans k2, (bD.cell (cell_block_lt k3)).trans k3, (bD.cell (cell_block_lt k4)).trans k4, (bD.cell (cell_block_lt k5)).trans k5, (bD.cell (cell_block_lt k6)).trans k6, (bD.cell (cell_block_lt k7)).trans k7, (bD.cell (cell_block_lt k8)).trans k8, (bD.cell (cell_block_lt k9)).trans k9, (bD.cell (cell_block_lt k10)).trans k10, (bD.cell (cell_block_lt k11)).trans k11, (bD.cell (cell_block_lt k12)).trans k12, (bD.cell (cell_block_lt k13)).trans k13, (bD.cell (cell_block_lt k14)).trans k14, (bD.cell (cell_block_lt k15)).trans k15⟩
        clear hHeld bD hso hao hnr C4
        unfold stV
        go_simp
        refine hK.out _ _ (fun _ => SD) (fun _ => ?_)
        clear hK K9
        try simp only [Act.put, zA, zB, zC, zD, zE, zF]
        refine wpAnyX_ready (rs := [15]) (by kernel_rfl) (by simp) ?_
        refine AllX.cons rfl (fun K9 hK => ?_) AllX.nil
        rw [if_pos (by rfl)]
        have one9 : (#[.int .i64 st'.tick, v1, v2, v3, v4, v5] : Array Value).all (·.oneCell') = true := by
         obtain ⟨g1, c1, h1⟩ := own_form HSO.out.o1
         obtain ⟨g2, c2, h2⟩ := own_form HSO.out.o2
         obtain ⟨g3, c3, h3⟩ := own_form HSO.out.o3
         obtain ⟨g4, c4, h4⟩ := own_form HSO.out.o4
         obtain ⟨g5, c5, h5⟩ := own_form HSO.out.o5
         rw [h1, h2, h3, h4, h5]
         simp [Value.oneCell']
        refine wp_store_row 58 (.tmp 10) (.tmp 164) rfl (w6.heap.size) #[.int .i64 st'.tick, v1, v2, v3, v4, v5] rfl rfl 58 _ HUD.out (by kernel_rfl) rfl one9 ?_
        refine hK.out _ _ (fun h => absurd rfl h) (fun _ => ?_)
        clear hK K9 SD one9
        try simp only [Act.put, zA, zB, zC, zD, zE, zF]
        refine wpAnyX_done (by kernel_rfl) ?_ _
        obtain ⟨wE, hwE⟩ : ∃ W, W = wD.setRow (w6.heap.size) #[.int .i64 st'.tick, v1, v2, v3, v4, v5] := ⟨_, rfl⟩
        have HUE : Hid (wE.heap[w6.heap.size]? = some (.cells #[.int .i64 st'.tick, v1, v2, v3, v4, v5] 58 (0, 0))) := hid (by rw [hwE]; exact setRow_heap _ _ _ _ _ _ HUD.out)
        have HVE : Hid (StV wE v1 v2 v3 v4 v5 st') := hid (by rw [hwE]; exact (StO.setRow _ HSO.out HUlt).stv)
        have UE : Hid (Below w6.heap.size w6 wE) := hid (by rw [hwE]; exact below_setRow _ UD.out (Nat.le_refl _))
        rw [← hwE]
        clear hwE HUD UD HSO
        go_wp2_with fail
        go_roundw
        case rel => exact ⟨i + 1, st', v1, v2, v3, v4, v5, by omega, by go_num, HUE, HVE, HAO, HNO, UE⟩
        case measure => simp [intOf]; omega
end Go.Proofs.YtfcbcpfnaadpeaaGreatDoor
