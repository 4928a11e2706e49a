/- Parts OpCe, FrB of this claim, laid one behind the other: walks and the plain laws behind them; each contract states its own conditions. -/
import Derived.Test.YtfcbcpfnaadpeaaGreatDoorZR
import Derived.Test.YtfcbcpfnaadpeaaGreatDoorPS
import Derived.Test.YtfcbcpfnaadpeaaGreatDoorRows
import Derived.Test.YtfcbcpfnaadpeaaGreatDoorZK
import Derived.Test.YtfcbcpfnaadpeaaGreatDoorPQ
import Derived.ProofKit
import Derived.LaidMore
import Derived.Lay
import Derived.OpenShut
import Derived.Stop.Joined
import Derived.Stop.LaidErr
import Derived.Handed
import Derived.Shelf.Vars
import Derived.Lib.LaidTab
/- A certificate among the arguments. -/
namespace Go.Proofs.YtfcbcpfnaadpeaaGreatDoor
set_option linter.unusedVariables false
open Go.ChangeShapes Go.WideShapes Go.ChangeAt Go.RowKit

theorem sl_of_rw1 {w : World} {v : Value} {xs : List Value} (h : Rw w v 1 (xs.map fun x => [x])) : Sl w v xs := by
  obtain ⟨a, cap, rfl, hm, hn, hc⟩ := h
  rw [List.length_map] at hm
  refine ⟨a, cap, by rw [List.length_map], hm, hn, fun i hi => ?_⟩
  obtain ⟨b, off, h1, -, h3⟩ := hc i (by rw [List.length_map]; exact hi)
  have h4 := h3 0 (by omega)
  rw [Nat.mul_one, Nat.add_zero, List.getElem_map] at h4
  exact ⟨b, off, h1, h4⟩
section
variable {H : Type} {enc : TypeId × Value → H} {w : World} {base : Nat} {spare : Nat → Bool} {held : Bool}
def In64 (l : List Int) : Prop := ∀ x ∈ l, -9223372036854775808 ≤ x ∧ x ≤ 9223372036854775807
theorem read_ll {cs : List Value} (h : Reads enc Tryz.prog w base spare held 36 cs) : ∃ u ll, cs = [u] ∧ Ll w u ll ∧ capV u ∧ ∀ l ∈ ll, In64 l := by
  obtain ⟨u, l, rfl, h1, hcv, h2⟩ := read_rows (fun x : List Int × Value => [x.2]) (fun x => Is w x.2 x.1 ∧ In64 x.1) h Tryz.underlying36 (show Tryz.prog.cellsOf 22 = 1 by kernel_rfl) (by omega) (fun cs' h => by
    obtain ⟨u, ns, rfl, h3, h4⟩ := read_ints h
    exact ⟨(ns, u), rfl, h3, h4⟩)
  refine ⟨u, l.map (·.1), rfl, ⟨l, rfl, sl_of_rw1 (by rw [List.map_map]; exact h1), fun x hx => (h2 x hx).1⟩, hcv, fun z hz => ?_⟩
  obtain ⟨x, hx, rfl⟩ := List.mem_map.1 hz
  exact (h2 x hx).2
set_option maxRecDepth 100000 in
theorem read_tran {cs : List Value} (h : Reads enc Tryz.prog w base spare held 43 cs) : ∃ x : (List Int × List Int) × Value × Value, cs = [x.2.1, x.2.2] ∧ (Is w x.2.1 x.1.1 ∧ Is w x.2.2 x.1.2) ∧ In64 x.1.1 ∧ In64 x.1.2 := by
  obtain ⟨hl, hf⟩ := h.struct Tryz.underlying43
  have h5 : cs.length = 2 := hl.trans (by kernel_rfl)
  clear hl
  obtain ⟨c0, c1, rfl⟩ := len2 cs h5
  have g0 : Reads enc Tryz.prog w base spare held 22 [c0] := hf _ (List.mem_cons_self ..)
  have g1 : Reads enc Tryz.prog w base spare held 22 [c1] := hf _ (List.mem_cons_of_mem _ (List.mem_cons_self ..))
  obtain ⟨u0, l0, e0, h0, k0⟩ := read_ints g0
  obtain ⟨u1, l1, e1, h1, k1⟩ := read_ints g1
  cases e0; cases e1
  exact ⟨((l0, l1), c0, c1), rfl, ⟨h0, h1⟩, k0, k1⟩
theorem read_trans {cs : List Value} (h : Reads enc Tryz.prog w base spare held 33 cs) : ∃ u l, cs = [u] ∧ Tr w u l ∧ capV u ∧ ∀ t ∈ l, In64 t.1 ∧ In64 t.2 := by
  obtain ⟨u, l, rfl, h1, hcv, h2⟩ := read_rows (fun x : (List Int × List Int) × Value × Value => [x.2.1, x.2.2]) (fun x => (Is w x.2.1 x.1.1 ∧ Is w x.2.2 x.1.2) ∧ In64 x.1.1 ∧ In64 x.1.2) h Tryz.underlying33 (show Tryz.prog.cellsOf 43 = 2 by kernel_rfl) (by omega) (fun _ h => read_tran h)
  refine ⟨u, l.map (·.1), rfl, ⟨l, rfl, h1, fun x hx => (h2 x hx).1⟩, hcv, fun z hz => ?_⟩
  obtain ⟨x, hx, rfl⟩ := List.mem_map.1 hz
  exact (h2 x hx).2
/-- What is known of a certificate that came in. -/
structure CArg (w : World) (v : Value) (c : Ve.Cert) : Prop where
  form : ∃ tv cv ke se, v = .agg #[.int .i64 c.places, tv, cv, ke, .int .i64 c.robots, se] ∧ CertV w tv cv ke se c
  num : Ve.Num c
theorem len6 {α : Type} : ∀ l : List α, l.length = 6 → ∃ c0 c1 c2 c3 c4 c5, l = [c0, c1, c2, c3, c4, c5]
  | [c0, c1, c2, c3, c4, c5], _ => ⟨c0, c1, c2, c3, c4, c5, rfl⟩
set_option maxRecDepth 100000 in
theorem read_cert {cs : List Value} (h : Reads enc Tryz.prog w base spare held 38 cs) : ∃ c : Ve.Cert, (∃ tv cv ke se, cs = [.int .i64 c.places, tv, cv, ke, .int .i64 c.robots, se] ∧ CertV w tv cv ke se c) ∧ Ve.Num c := by
  obtain ⟨hl, hf⟩ := h.struct Tryz.underlying38
  have h6 : cs.length = 6 := hl.trans (by kernel_rfl)
  clear hl
  obtain ⟨c0, c1, c2, c3, c4, c5, rfl⟩ := len6 cs h6
  have g0 : Reads enc Tryz.prog w base spare held 35 [c0, c1] := hf _ (List.mem_cons_self ..)
  have g1 : Reads enc Tryz.prog w base spare held 22 [c2] := hf _ (List.mem_cons_of_mem _ (List.mem_cons_self ..))
  have g2 : Reads enc Tryz.prog w base spare held 22 [c3] := hf _ (List.mem_cons_of_mem _ (List.mem_cons_of_mem _ (List.mem_cons_self ..)))
  have g3 : Reads enc Tryz.prog w base spare held 3 [c4] := hf _ (List.mem_cons_of_mem _ (List.mem_cons_of_mem _ (List.mem_cons_of_mem _ (List.mem_cons_self ..))))
  have g4 : Reads enc Tryz.prog w base spare held 36 [c5] := hf _ (List.mem_cons_of_mem _ (List.mem_cons_of_mem _ (List.mem_cons_of_mem _ (List.mem_cons_of_mem _ (List.mem_cons_self ..)))))
  obtain ⟨-, hff⟩ := g0.struct Tryz.underlying35
  have f0 : Reads enc Tryz.prog w base spare held 3 [c0] := hff _ (List.mem_cons_self ..)
  have f1 : Reads enc Tryz.prog w base spare held 33 [c1] := hff _ (List.mem_cons_of_mem _ (List.mem_cons_self ..))
  obtain ⟨pl, e0, h0⟩ := read_int f0
  obtain ⟨u1, tl, e1, h1, -, k1⟩ := read_trans f1
  obtain ⟨u2, cl, e2, h2, k2⟩ := read_ints g1
  obtain ⟨u3, kl, e3, h3, k3⟩ := read_ints g2
  obtain ⟨rb, e4, h4⟩ := read_int g3
  obtain ⟨u5, ll, e5, h5, -, k5⟩ := read_ll g4
  cases e0; cases e1; cases e2; cases e3; cases e4; cases e5
  exact ⟨⟨pl, tl, cl, kl, rb, ll⟩, ⟨c1, c2, c3, c5, rfl, ⟨h1, h2, h3, h5⟩⟩, ⟨h0, h4, k2, k3, k1, k5⟩⟩
set_option maxRecDepth 100000 in
theorem open_cert {W : World} {base' : Nat} {v : Value} {x : DataW H × List MemPlace} (hok : Value.okWide Tryz.prog W .any base' 38 v)
    (h : ∃ fuel, DataW.trod enc Tryz.prog w base spare held fuel 38 v.cells.toList = some x) : ∃ s, CArg w v s := by
  obtain ⟨cs, rfl, hsz⟩ := okWide_struct Tryz.underlying38 hok
  have hR : Reads enc Tryz.prog w base spare held 38 cs.toList := by
    obtain ⟨fuel, hf⟩ := h
    exact ⟨fuel, x, hf⟩
  obtain ⟨s, ⟨tv, cv, ke, se, e, hs⟩, hn⟩ := read_cert hR
  have hcs2 : cs = #[.int .i64 s.places, tv, cv, ke, .int .i64 s.robots, se] := by
    have := congrArg List.toArray e
    simpa using this
  exact ⟨s, ⟨tv, cv, ke, se, by rw [hcs2], hs⟩, hn⟩
end
end Go.Proofs.YtfcbcpfnaadpeaaGreatDoor
/- What the listed variables give at the door, and the row's builder with the world's shape and the listed variables at hand. -/
namespace Go.Proofs.YtfcbcpfnaadpeaaGreatDoor
open Go.ChangeShapes Go.WideShapes Go.ChangeAt Go.RowKit

theorem returnsInHanded_of_change_laid {H : Type} {enc : TypeId × Value → H} {a : Assume} {C : Checked} {os : Os} {f : FuncId} {fn : Func} {s : ChangeSpec} {conds : List PathCond} {apart fresh handsOn again : Bool} {X : World → Array Value → Prop}
    (hX : ∀ (w w' : World) (args : Array Value), w.heap = w'.heap → X w args → X w' args)
    (own : ownKnob C.prog.godebug = none) (started : os.Started) (noInit : C.prog.inits.idxOf? f = none) (hfn : C.prog.funcs[f]? = some fn)
    (witness : ∃ (w : World) (tape : Tape) (i : Input), w.os = os ∧ (w.forCall tape i).Shaped C.prog ∧ i.vars = [] ∧ Input.okWide C.prog (w.forCall tape i) .any w.heap.size f i ∧
      ((s.pre enc C.prog fn conds apart (w.forCall tape i).memory i.args ∧ X (w.forCall tape i).memory i.args) ∧ sizedMet enc C.prog fn (OpenSpec.ofChange s) apart (w.forCall tape i).memory i.args) ∧ a.holds C.prog (lone (Frame.enter C.prog f i.args .normal) [] (w.forCall tape i)))
    (contract : ∀ (W : World) (base : Nat) (args : Array Value) (ds gs : List (DataW H)) (before : List MemPlace),
      (∀ (j : Nat) t v, fn.params[j]? = some t → args[j]? = some v → Value.okWide C.prog W .any base t v) →
      DataW.Whole enc C.prog fn.params.toList s.vars apart W args.toList ds gs before → X W args → W.ShapedOpen C.prog →
      Calls C.prog f args W fun e W' => ∃ v, e = .returned v ∧ s.post enc C.prog fn apart fresh handsOn again W args v W') :
    ReturnsInHanded a C os f .any (fun w args => (s.pre enc C.prog fn conds apart w args ∧ X w args) ∧ sizedMet enc C.prog fn (OpenSpec.ofChange s) apart w args) (s.post enc C.prog fn apart fresh handsOn again) := by
  refine returnsInHanded_of_calls own started noInit witness ?_
  intro w tape i _ hsh _ hok hpre _
  obtain ⟨_, _, _, fn', hfn', _, _, _, _, hval⟩ := hok
  obtain rfl : fn' = fn := Option.some.inj (hfn'.symm.trans hfn)
  obtain ⟨⟨⟨ds, gs, before, hw, _⟩, hx⟩, _⟩ := hpre
  have hw' := DataW.Whole.of_heap (w' := w.forCall tape i) (by rfl) hw
  refine (contract (w.forCall tape i) w.heap.size i.args ds gs before hval hw' (hX _ _ _ (by rfl) hx) hsh).mono fun e W' ⟨v, he, hp⟩ => ?_
  subst he
  exact ChangeSpec.post_blind hp

/-- The row's list. -/
def Tryz.laidL : List (String × DataW Unit) := Rows.verifyBuildsRow.laid
theorem Tryz.bits_tab : (Rows.laid_math_bits_deBruijn64tab : DataW Unit) = Lib.tabData .u8 (Lib.deBruijn64tab.map Int.ofNat) := by rfl
theorem Tryz.gBits : Tryz.prog.globalNamed "math/bits.deBruijn64tab" = some 0 := by kernel_rfl
theorem Tryz.pow_tab : (Rows.laid_internal_strconv_uint64pow10 : DataW Unit) = Lib.tabData .u64 Lib.pow10Tab := by rfl
/-- What the walk asks of the world: two tables. -/
structure EnvB (w : World) : Prop where
  e : Env w
  p : PowT w
theorem EnvB.of_laid {W : World} (h : laidMetH Tryz.prog Tryz.laidL W) (_hsh : W.ShapedOpen Tryz.prog) : EnvB W := by
  rw [MakeChecks.laidMetH_plain _ _ _ (by kernel_rfl)] at h
  have h1 := h.tail
  have ht := Lib.tabIs_of_head (g := 0) (t := 245) (e := 5) (n := 64) Tryz.gBits (by kernel_rfl) Tryz.underlying245 Tryz.underlying5 (by kernel_rfl) (by kernel_rfl) (Tryz.bits_tab ▸ h1)
  have hc : ∀ j, j < Lib.deBruijn64tab.length → W.cell? ⟨0, j, none⟩ = some (.int .u8 (Lib.deBruijn64tab.getD j 0)) := fun j hj => by
    have h9 := ht.cell Tryz.gBits j (by rw [List.length_map]; exact hj)
    rw [h9]
    simp [List.getD, hj]
  exact ⟨⟨hc, cell_block_lt (hc 0 (by decide))⟩, Lib.tabIs_of_head (g := 4) (t := 329) (e := 90) (n := 20) Tryz.gPow (by kernel_rfl) Tryz.underlying329 Tryz.underlying90 (by kernel_rfl) (by kernel_rfl) (Tryz.pow_tab ▸ h1.tail)⟩
theorem laid_shaped (os : Os) (args : Array Value) : ((World.laidAll Tryz.prog os Tryz.laidL).forCall (fun _ _ => 0) ⟨#[], args, []⟩).Shaped Tryz.prog :=
  World.shaped_of_ZipB (by kernel_rfl) (by kernel_rfl)
theorem laid_met (os : Os) (args : Array Value) : laidMetH Tryz.prog Tryz.laidL ((World.laidAll Tryz.prog os Tryz.laidL).forCall (fun _ _ => 0) ⟨#[], args, []⟩).memory := by
  rw [MakeChecks.laidMetH_plain _ _ _ (by kernel_rfl)]; exact laidMet_laidAll _ (by kernel_rfl) (by kernel_rfl)
end Go.Proofs.YtfcbcpfnaadpeaaGreatDoor
