/- Parts Fr of this claim, laid one behind the other: walks and the plain laws behind them; each contract states its own conditions. -/
import Derived.Test.YtnccndfffmaonaaGreatDoorRows
import Derived.Test.YtnccndfffmaonaaGreatDoorZB
import Derived.ProofKit
import Derived.LaidMore
import Derived.Lay
import Derived.OpenShut
import Derived.Stop.Joined
import Derived.Stop.LaidErr
import Derived.Handed
import Derived.Shelf.Vars
import Derived.Lib.LaidTab
/- What the listed variables give at the door, and the row's builder with the world's shape and the listed variables at hand. -/
namespace Go.Proofs.YtnccndfffmaonaaGreatDoor
open Go.ChangeShapes Go.WideShapes Go.ChangeAt Go.RowKit

theorem returnsInHanded_of_change_laid {H : Type} {enc : TypeId × Value → H} {a : Assume} {C : Checked} {os : Os} {f : FuncId} {fn : Func} {s : ChangeSpec} {conds : List PathCond} {apart fresh handsOn again : Bool} {X : World → Array Value → Prop}
    (hX : ∀ (w w' : World) (args : Array Value), w.heap = w'.heap → X w args → X w' args)
    (own : ownKnob C.prog.godebug = none) (started : os.Started) (noInit : C.prog.inits.idxOf? f = none) (hfn : C.prog.funcs[f]? = some fn)
    (witness : ∃ (w : World) (tape : Tape) (i : Input), w.os = os ∧ (w.forCall tape i).Shaped C.prog ∧ i.vars = [] ∧ Input.okWide C.prog (w.forCall tape i) .any w.heap.size f i ∧
      ((s.pre enc C.prog fn conds apart (w.forCall tape i).memory i.args ∧ X (w.forCall tape i).memory i.args) ∧ sizedMet enc C.prog fn (OpenSpec.ofChange s) apart (w.forCall tape i).memory i.args) ∧ a.holds C.prog (lone (Frame.enter C.prog f i.args .normal) [] (w.forCall tape i)))
    (contract : ∀ (W : World) (base : Nat) (args : Array Value) (ds gs : List (DataW H)) (before : List MemPlace),
      (∀ (j : Nat) t v, fn.params[j]? = some t → args[j]? = some v → Value.okWide C.prog W .any base t v) →
      DataW.Whole enc C.prog fn.params.toList s.vars apart W args.toList ds gs before → X W args → W.ShapedOpen C.prog →
      Calls C.prog f args W fun e W' => ∃ v, e = .returned v ∧ s.post enc C.prog fn apart fresh handsOn again W args v W') :
    ReturnsInHanded a C os f .any (fun w args => (s.pre enc C.prog fn conds apart w args ∧ X w args) ∧ sizedMet enc C.prog fn (OpenSpec.ofChange s) apart w args) (s.post enc C.prog fn apart fresh handsOn again) := by
  refine returnsInHanded_of_calls own started noInit witness ?_
  intro w tape i _ hsh _ hok hpre _
  obtain ⟨_, _, _, fn', hfn', _, _, _, _, hval⟩ := hok
  obtain rfl : fn' = fn := Option.some.inj (hfn'.symm.trans hfn)
  obtain ⟨⟨⟨ds, gs, before, hw, _⟩, hx⟩, _⟩ := hpre
  have hw' := DataW.Whole.of_heap (w' := w.forCall tape i) (by rfl) hw
  refine (contract (w.forCall tape i) w.heap.size i.args ds gs before hval hw' (hX _ _ _ (by rfl) hx) hsh).mono fun e W' ⟨v, he, hp⟩ => ?_
  subst he
  exact ChangeSpec.post_blind hp

/-- The rows' common list. -/
def Tryz.laidL : List (String × DataW Unit) := Rows.draftBlanksRow.laid
theorem Tryz.pow_tab : (Rows.laid_internal_strconv_uint64pow10 : DataW Unit) = Lib.tabData .u64 Lib.pow10Tab := by rfl
theorem Tryz.star_es : "*" ++ "errors.errorString" = "*errors.errorString" := by decide
theorem Tryz.row_es (u : TypeId) (h : Tryz.prog.typeName? 3 u = some "*errors.errorString") : u = 167 :=
  typeName_ptr_named (nm := "errors.errorString") (by rw [Tryz.star_es]; kernel_rfl) (by kernel_rfl) (by decide) u (by rw [Tryz.star_es]; exact h)
theorem Env.of_laid {W : World} (h : laidMetH Tryz.prog Tryz.laidL W) (hsh : W.ShapedOpen Tryz.prog) : Env W := by
  rw [MakeChecks.laidMetH_plain _ _ _ (by kernel_rfl)] at h
  have h2 := h.tail.tail
  have h4 := h2.tail.tail
  refine ⟨?_, ?_, ?_, ?_⟩
  · exact cell_of_shapedOpen_int (zero := #[.int .i64 0]) (t := 3) hsh (of_decide_eq_true (by kernel_rfl)) (by kernel_rfl) rfl (by kernel_rfl) (by kernel_rfl) Tryz.underlying3
  · obtain ⟨a, s, hv, -, -, -⟩ := laid_sentinel h4.tail Tryz.gSyn (ti := 69) (by kernel_rfl) Tryz.underlying69 Tryz.row_es Tryz.underlying167 Tryz.underlying169 rfl rfl Tryz.underlying9 (by kernel_rfl) (by kernel_rfl)
    refine ⟨.iface 167 (.pointer (some a)), ?_, .inr ⟨_, _, rfl⟩⟩
    rw [World.var?_cell Tryz.gSyn hv 0]; rfl
  · obtain ⟨a, s, hv, -, -, -⟩ := laid_sentinel h4 Tryz.gRan (ti := 69) (by kernel_rfl) Tryz.underlying69 Tryz.row_es Tryz.underlying167 Tryz.underlying169 rfl rfl Tryz.underlying9 (by kernel_rfl) (by kernel_rfl)
    refine ⟨.iface 167 (.pointer (some a)), ?_, .inr ⟨_, _, rfl⟩⟩
    rw [World.var?_cell Tryz.gRan hv 0]; rfl
  · exact Lib.tabIs_of_head (g := 1) (t := 155) (e := 142) (n := 20) Tryz.gPow (by kernel_rfl) Tryz.underlying155 Tryz.underlying142 (by kernel_rfl) (by kernel_rfl) (Tryz.pow_tab ▸ h2)
theorem laid_shaped (os : Os) (args : Array Value) : ((World.laidAll Tryz.prog os Tryz.laidL).forCall (fun _ _ => 0) ⟨#[], args, []⟩).Shaped Tryz.prog :=
  World.shaped_of_ZipB (by kernel_rfl) (by kernel_rfl)
theorem laid_met (os : Os) (args : Array Value) : laidMetH Tryz.prog Tryz.laidL ((World.laidAll Tryz.prog os Tryz.laidL).forCall (fun _ _ => 0) ⟨#[], args, []⟩).memory := by
  rw [MakeChecks.laidMetH_plain _ _ _ (by kernel_rfl)]; exact laidMet_laidAll _ (by kernel_rfl) (by kernel_rfl)
end Go.Proofs.YtnccndfffmaonaaGreatDoor
