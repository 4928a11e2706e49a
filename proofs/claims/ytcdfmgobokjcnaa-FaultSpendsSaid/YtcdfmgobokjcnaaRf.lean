/- A range over a function in the wide fence: the statement and one round, with the loop's record in hand. -/
import Derived.RangeFuncNested
import Derived.RangeFuncCalls
import Derived.WalkKit
namespace Go.Proofs.Ytcdfmgobokjcnaa
open Go.RowKit
variable {P : Program}

/-- The record of an outermost loop. -/
def rfRec (fn : FuncId) (tmps : Array Value) (ps : Array Tmp) (assign body : Code) (d : Nat) (st : LoopState) (j : Option Code) : Obj :=
  .loop { state := st, pending := j, fn, tmps, params := ps, assign, body, defers := d }

theorem range_wide {n : Nat} {g : Operand} {ps : Array Tmp} {assign body : Code} {Q : Exit → Act → World → Prop} {a : Act} {w : World} {gf : Nat} {lb : Array Value}
    (hg : a.eval g = .func (.func gf) #[] lb) (eg : ∀ args w, (callFunc gf args).run P w = .ok (.enter gf args) w) (N : Nat) (hN : w.heap.size = N)
    (h : ∀ fn (R : LoopState → Option Code → Obj), Hid (R = rfRec fn a.tmps ps assign body N) →
      CallsIn Fence.wide (n - 1) P gf (#[.func (.yield (N + 1)) #[] #[]] ++ lb) ((w.alloc (.deferred (some []))).alloc (R .ready none))
      (rangePost Fence.wide n P (N + 1) Q { a with defers := { target := .collected N, args := #[] } :: a.defers })) :
    (Code.rangeFunc g ps assign body).wpIn Fence.wide n P Q a w := by
  subst hN
  refine wpIn_rangeFunc fun fn _ => ?_
  obtain ⟨W1, hW1⟩ : ∃ W1, W1 = (w.alloc (.deferred (some []))).alloc (rfRec fn a.tmps ps assign body w.heap.size .ready none) := ⟨_, rfl⟩
  have h := h fn _ rfl
  rw [← hW1] at h
  refine ⟨w.heap.size + 1, [{ target := .collected w.heap.size, args := #[] }], W1, { target := .fn (.func gf) lb, args := #[.func (.yield (w.heap.size + 1)) #[] #[]] }, W1, gf, _, W1, (run_enterLoop_outer _ _ _ _ _).trans (by rw [hW1]; rfl), ?_, ?_, ?_, (fun e => (by cases e)), h⟩
  · simp only [resolve, hg]; simp [go_sem]
  · intro f' _; trivial
  · simp [invoke, go_sem, eg]

/-- One round: the assignment, beginRound, the body, endRound. -/
def rfPost (l : Nat) (rec : LoopState → Option Code → Obj) (R : Option Code → World → Prop) : Exit → Act → World → Prop
  | .normal, _, W => W.heap[l]? = some (rec .busy none) ∧ R none (W.putObj l (rec .ready none))
  | .ret, _, W => W.heap[l]? = some (rec .busy none) ∧ R (some .ret) (W.putObj l (rec .done (some .ret)))
  | .exit id, _, W => W.heap[l]? = some (rec .busy none) ∧ R (some (.exit id)) (W.putObj l (rec .done (some (.exit id))))
  | _, _, _ => False

theorem yield_wide {m l : Nat} {fn : FuncId} {tmps : Array Value} {ps : Array Tmp} {assign body : Code} {d : Nat} {rec : LoopState → Option Code → Obj} {W : World} {args : Array Value} {R : Option Code → World → Prop}
    (hrec : rec = rfRec fn tmps ps assign body d) (hl : W.heap[l]? = some (rec .ready none)) (hs : args.size = ps.size)
    (h : assign.wpIn (Fence.wide.inRound l) m P (Exit.then (fun a₁ w₁ => w₁.heap[l]? = some (rec .ready none) ∧
      body.wpIn (Fence.wide.inRound l) m P (rfPost l rec R) a₁ (w₁.putObj l (rec .busy none))) (fun _ _ _ => False))
      { tmps := (ps.zip args).foldl (fun tmps (t, a) => tmps.setIfInBounds t a) tmps, defers := [] } W) :
    YieldAt Fence.wide m P l args W fun e W' => (e = .returned (.bool true) ∧ R none W') ∨ (e = .returned (.bool false) ∧ ∃ c, R (some c) W') := by
  subst hrec
  refine ⟨fn, _, assign, body, run_yield hl hs, roundIn_of_wpIn trivial (wpIn_mono h ?_)⟩
  rintro e a w₁ hp
  cases e <;> first | exact hp.elim | skip
  obtain ⟨h1, h2⟩ := hp
  refine ⟨_, run_beginRound h1 rfl, wpIn_mono h2 ?_⟩
  rintro e a w₂ hq
  cases e with
  | normal => exact ⟨_, _, run_endRound none hq.1, .inl ⟨rfl, hq.2⟩⟩
  | ret => exact ⟨_, _, run_endRound (some .ret) hq.1, .inr ⟨rfl, _, hq.2⟩⟩
  | exit id => exact ⟨_, _, run_endRound (some (.exit id)) hq.1, .inr ⟨rfl, _, hq.2⟩⟩
  | goto t => exact hq.elim
  | panic c => exact hq.elim
  | outgrown => exact hq.elim

theorem yieldAt_mono {m l : Nat} {args : Array Value} {W : World} {R R' : Ending → World → Prop} (h : YieldAt Fence.wide m P l args W R) (hr : ∀ e w, R e w → R' e w) : YieldAt Fence.wide m P l args W R' := by
  obtain ⟨fn, tmps, assign, body, h1, h2⟩ := h
  exact ⟨fn, tmps, assign, body, h1, h2.mono hr⟩

/-- Behind the loop. -/
theorem rangePost_none {n l : Nat} {fn : FuncId} {tmps : Array Value} {ps : Array Tmp} {assign body : Code} {d : Nat} {rec : LoopState → Option Code → Obj} {st : LoopState} {Q : Exit → Act → World → Prop} {a : Act} {W : World} {v : Value}
    (hrec : rec = rfRec fn tmps ps assign body d) (hl : W.heap[l]? = some (rec st none)) (hs : st ≠ .busy)
    (h : Q .normal a (W.putObj l (rec .exhausted none))) : rangePost Fence.wide n P l Q a (.returned v) W := by
  subst hrec; exact ⟨none, _, run_endLoop hl hs, h⟩
theorem rangePost_some {n l : Nat} {fn : FuncId} {tmps : Array Value} {ps : Array Tmp} {assign body : Code} {d : Nat} {rec : LoopState → Option Code → Obj} {st : LoopState} {c : Code} {Q : Exit → Act → World → Prop} {a : Act} {W : World} {v : Value}
    (hrec : rec = rfRec fn tmps ps assign body d) (hl : W.heap[l]? = some (rec st (some c))) (hs : st ≠ .busy)
    (h : c.wpIn Fence.wide n P Q a (W.putObj l (rec .exhausted (some c)))) : rangePost Fence.wide n P l Q a (.returned v) W := by
  subst hrec; exact ⟨some c, _, run_endLoop hl hs, h⟩

/-! ### boxes -/
/-- Block B is one cell of type t that holds v. -/
def Box (W : World) (B : Nat) (t : TypeId) (v : Value) : Prop := W.heap[B]? = some (.cells #[v] t (0, 0))
theorem Box.lt {W : World} {B : Nat} {t : TypeId} {v : Value} (h : Box W B t v) : B < W.heap.size := (Array.getElem?_eq_some_iff.1 h).1
theorem Box.cell {W : World} {B : Nat} {t : TypeId} {v : Value} (h : Box W B t v) : W.cell? ⟨B, 0, none⟩ = some v := by simp [World.cell?, show W.heap[B]? = _ from h]
theorem Box.frozen {W : World} {B : Nat} {t : TypeId} {v : Value} (h : Box W B t v) : W.frozen? ⟨B, 0, none⟩ = false := by simp [World.frozen?, show W.heap[B]? = _ from h]
theorem Box.new (W : World) (t : TypeId) (v : Value) : Box (W.alloc (.cells #[v] t)) W.heap.size t v := World.alloc_heap_new W _
theorem Box.of_block {W W' : World} {B : Nat} {t : TypeId} {v : Value} (h : Box W B t v) (e : W'.heap[B]? = W.heap[B]?) : Box W' B t v := e.trans h
theorem Box.alloc {W : World} {B : Nat} {t : TypeId} {v : Value} (h : Box W B t v) (o : Obj) : Box (W.alloc o) B t v := h.of_block (Below.heap_alloc W o B h.lt)
theorem Box.putObj {W : World} {B l : Nat} {t : TypeId} {v : Value} (h : Box W B t v) (o : Obj) (hne : B ≠ l) : Box (W.putObj l o) B t v := h.of_block (World.putObj_heap_other hne)
theorem Box.drew {W : World} {B : Nat} {t : TypeId} {v : Value} (h : Box W B t v) : Box W.drew B t v := h
theorem Box.other {W : World} {B : Nat} {t : TypeId} {v : Value} (h : Box W B t v) (a : Addr) (u : Value) (hne : B ≠ a.block) : Box (W.setCell a u) B t v := h.of_block (Below.heap_setCell W a u B hne)
theorem Box.set {W : World} {B : Nat} {t : TypeId} {v : Value} (v' : Value) (h : Box W B t v) : Box (W.setCell ⟨B, 0, none⟩ v') B t v' := by
  obtain ⟨hlt, hk⟩ := Array.getElem?_eq_some_iff.1 h
  show (W.heap.modify B _)[B]? = _
  rw [Array.getElem?_eq_getElem (by rw [Array.size_modify]; exact hlt), Array.getElem_modify_self, hk]
  rfl
theorem Below.putObj {B : Nat} {a w : World} (h : Below B a w) {l : Nat} (hl : B ≤ l) (o : Obj) : Below B a (w.putObj l o) :=
  h.trans ⟨rfl, rfl, rfl, by simp, fun k hk => World.putObj_heap_other (by omega)⟩
theorem size_setCell (W : World) (a : Addr) (v : Value) : (W.setCell a v).heap.size = W.heap.size := by simp [World.setCell]
end Go.Proofs.Ytcdfmgobokjcnaa
