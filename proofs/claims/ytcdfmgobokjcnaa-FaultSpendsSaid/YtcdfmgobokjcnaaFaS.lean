/- Budgets of faults in plain words: what is left, and which lists can be spent. Nothing of the program is imported. -/
namespace Go.Proofs.Ytcdfmgobokjcnaa
namespace Fa

structure Bud where
  stops : Int
  cells : Int
  mutes : Int
  muteMost : Int
  lifts : Int
  liftMost : Int
  steps : Int
deriving DecidableEq
structure Flt where
  kind : Int
  a : Int
  n : Int
deriving DecidableEq
/-- A budget is right. -/
structure Right (b : Bud) : Prop where
  h1 : 0 ≤ b.stops ∧ b.stops ≤ 20
  h2 : 0 ≤ b.cells ∧ b.cells ≤ 20
  h3 : 0 ≤ b.mutes ∧ b.mutes ≤ 20
  h4 : 0 ≤ b.lifts ∧ b.lifts ≤ 20
  h5 : 0 ≤ b.steps ∧ b.steps ≤ 20
  h6 : 0 ≤ b.muteMost ∧ b.muteMost ≤ 100
  h7 : 0 ≤ b.liftMost ∧ b.liftMost ≤ 100
def within (n a b : Int) : Bool := decide (a ≤ n) && decide (n ≤ b)
def rightB (b : Bud) : Bool := within b.stops 0 20 && (within b.cells 0 20 && (within b.mutes 0 20 && (within b.lifts 0 20 && (within b.steps 0 20 && (within b.muteMost 0 100 && within b.liftMost 0 100)))))
theorem rightB_iff {b : Bud} : rightB b = true ↔ Right b := by
  unfold rightB within
  simp only [Bool.and_eq_true, decide_eq_true_eq]
  constructor
  · rintro ⟨h1, h2, h3, h4, h5, h6, h7⟩; exact ⟨h1, h2, h3, h4, h5, h6, h7⟩
  · rintro ⟨h1, h2, h3, h4, h5, h6, h7⟩; exact ⟨h1, h2, h3, h4, h5, h6, h7⟩
def num (b : Bud) (k : Int) : Int := if k = 1 then b.stops else if k = 2 then b.cells else if k = 3 then b.mutes else if k = 4 then b.lifts else b.steps
/-- A kind that exists, and a delay that is not too long. -/
def okF (b : Bud) (f : Flt) : Prop := 0 ≤ f.kind ∧ f.kind < 6 ∧ (f.kind = 3 → 1 ≤ f.n ∧ f.n ≤ b.muteMost) ∧ (f.kind = 4 → 1 ≤ f.n ∧ f.n ≤ b.liftMost)
instance (b : Bud) (f : Flt) : Decidable (okF b f) := by unfold okF; infer_instance
def dec (b : Bud) (k : Int) : Bud :=
  { stops := if k = 1 then b.stops - 1 else b.stops, cells := if k = 2 then b.cells - 1 else b.cells, mutes := if k = 3 then b.mutes - 1 else b.mutes, muteMost := b.muteMost,
    lifts := if k = 4 then b.lifts - 1 else b.lifts, liftMost := b.liftMost, steps := if k = 5 then b.steps - 1 else b.steps }
def spend (b : Bud) (f : Flt) : Option Bud := if f.kind = 0 then some b else if okF b f ∧ 1 ≤ num b f.kind then some (dec b f.kind) else none
def run (b : Bud) : List Flt → Bud × Nat
  | [] => (b, 0)
  | f :: l => match spend b f with
    | none => (b, 0)
    | some c => ((run c l).1, (run c l).2 + 1)
def left (b : Bud) : Int := b.stops + b.cells + b.mutes + b.lifts + b.steps
def cnt (l : List Flt) (k : Int) : Int := (l.countP fun f => decide (f.kind = k) : Nat)
/-- A list can be spent. -/
def Fits (b : Bud) (l : List Flt) : Prop := (∀ f ∈ l, okF b f) ∧ cnt l 1 ≤ b.stops ∧ cnt l 2 ≤ b.cells ∧ cnt l 3 ≤ b.mutes ∧ cnt l 4 ≤ b.lifts ∧ cnt l 5 ≤ b.steps
/-- What is left of a budget. -/
def rest (b : Bud) (l : List Flt) : Bud := ⟨b.stops - cnt l 1, b.cells - cnt l 2, b.mutes - cnt l 3, b.muteMost, b.lifts - cnt l 4, b.liftMost, b.steps - cnt l 5⟩
structure Nn (b : Bud) : Prop where
  h1 : 0 ≤ b.stops
  h2 : 0 ≤ b.cells
  h3 : 0 ≤ b.mutes
  h4 : 0 ≤ b.lifts
  h5 : 0 ≤ b.steps
theorem cnt_cons (f : Flt) (l : List Flt) (k : Int) : cnt (f :: l) k = cnt l k + if f.kind = k then 1 else 0 := by
  unfold cnt; rw [List.countP_cons]
  by_cases h : f.kind = k <;> simp [h]
theorem cnt_nonneg (l : List Flt) (k : Int) : 0 ≤ cnt l k := by unfold cnt; omega
theorem cnt_append (l m : List Flt) (k : Int) : cnt (l ++ m) k = cnt l k + cnt m k := by unfold cnt; rw [List.countP_append]; omega
theorem spend_some {b c : Bud} {f : Flt} (hb : Nn b) (h : spend b f = some c) : okF b f ∧ Nn c ∧ c = rest b [f] := by
  unfold spend at h
  obtain ⟨b1, b2, b3, b4, b5⟩ := hb
  by_cases h0 : f.kind = 0
  · rw [if_pos h0] at h; injection h with h; subst h
    refine ⟨⟨by omega, by omega, by omega, by omega⟩, ⟨b1, b2, b3, b4, b5⟩, ?_⟩
    unfold rest; simp [cnt_cons, h0, show cnt [] = fun _ => 0 from rfl]
  · rw [if_neg h0] at h
    by_cases h1 : okF b f ∧ 1 ≤ num b f.kind
    · rw [if_pos h1] at h; injection h with h; subst h
      obtain ⟨h1, h2⟩ := h1
      refine ⟨h1, ?_, ?_⟩
      · unfold num at h2
        constructor <;> (simp only [dec]; split <;> (try simp_all) <;> omega)
      · unfold rest dec
        simp only [cnt_cons, show cnt [] = fun _ => 0 from rfl]
        congr 1 <;> (split <;> omega)
    · rw [if_neg h1] at h; cases h
theorem spend_none {b : Bud} {f : Flt} (h : spend b f = none) : ¬ Fits b [f] := by
  unfold spend at h
  by_cases h0 : f.kind = 0
  · rw [if_pos h0] at h; cases h
  rw [if_neg h0] at h
  by_cases h1 : okF b f ∧ 1 ≤ num b f.kind
  · rw [if_pos h1] at h; cases h
  · rintro ⟨g0, g1, g2, g3, g4, g5⟩
    have g := g0 f (List.mem_singleton.2 rfl)
    apply h1
    refine ⟨g, ?_⟩
    obtain ⟨k0, k1, -, -⟩ := g
    simp only [cnt_cons, show cnt [] = fun _ => 0 from rfl] at g1 g2 g3 g4 g5
    unfold num
    split
    · rename_i e; simp [e] at g1; omega
    · split
      · rename_i e; simp [e] at g2; omega
      · split
        · rename_i e; simp [e] at g3; omega
        · split
          · rename_i e; simp [e] at g4; omega
          · have e : f.kind = 5 := by omega
            simp [e] at g5; omega
theorem okF_rest (b : Bud) (l : List Flt) (f : Flt) : okF (rest b l) f ↔ okF b f := Iff.rfl
theorem fits_cons {b : Bud} {f : Flt} {l : List Flt} : Fits b (f :: l) ↔ Fits b [f] ∧ Fits (rest b [f]) l := by
  unfold Fits
  simp only [List.mem_cons, List.not_mem_nil, or_false, forall_eq_or_imp, forall_eq, okF_rest]
  have n1 := cnt_nonneg l 1
  have n2 := cnt_nonneg l 2
  have n3 := cnt_nonneg l 3
  have n4 := cnt_nonneg l 4
  have n5 := cnt_nonneg l 5
  simp only [rest]
  rw [cnt_cons f l, cnt_cons f l, cnt_cons f l, cnt_cons f l, cnt_cons f l, cnt_cons f [], cnt_cons f [], cnt_cons f [], cnt_cons f [], cnt_cons f []]
  simp only [show cnt [] = fun _ => 0 from rfl]
  constructor
  · rintro ⟨⟨h1, h2⟩, h3, h4, h5, h6, h7⟩
    exact ⟨⟨h1, by omega, by omega, by omega, by omega, by omega⟩, h2, by omega, by omega, by omega, by omega, by omega⟩
  · rintro ⟨⟨h1, -, -, -, -, -⟩, h2, h3, h4, h5, h6, h7⟩
    exact ⟨⟨h1, h2⟩, by omega, by omega, by omega, by omega, by omega⟩
theorem rest_cons (b : Bud) (f : Flt) (l : List Flt) : rest b (f :: l) = rest (rest b [f]) l := by
  simp only [rest, cnt_cons, show cnt [] = fun _ => 0 from rfl]
  congr 1 <;> omega
theorem rest_nil (b : Bud) : rest b [] = b := by simp [rest, show cnt [] = fun _ => 0 from rfl]
/-- What running a list gives. -/
theorem run_spec : ∀ (l : List Flt) (b : Bud), Nn b → (run b l).2 ≤ l.length ∧ Nn (run b l).1 ∧ (run b l).1 = rest b (l.take (run b l).2) ∧ Fits b (l.take (run b l).2) ∧ ((run b l).2 < l.length → ∀ k, (run b l).2 < k → k ≤ l.length → ¬ Fits b (l.take k))
  | [], b, hb => by
    refine ⟨Nat.le_refl _, hb, (rest_nil b).symm, ⟨fun f h => (by cases h), hb.h1, hb.h2, hb.h3, hb.h4, hb.h5⟩, fun h => (by cases h)⟩
  | f :: l, b, hb => by
    rw [run]
    cases hs : spend b f with
    | none =>
      dsimp only
      refine ⟨Nat.zero_le _, hb, (rest_nil b).symm, ⟨fun f h => (by cases h), hb.h1, hb.h2, hb.h3, hb.h4, hb.h5⟩, fun _ k h1 h2 hf => ?_⟩
      cases k with
      | zero => omega
      | succ k =>
        rw [List.take_succ_cons, fits_cons] at hf
        exact spend_none hs hf.1
    | some c =>
      dsimp only
      obtain ⟨g1, g2, rfl⟩ := spend_some hb hs
      obtain ⟨i1, i2, i3, i4, i5⟩ := run_spec l (rest b [f]) g2
      have hf1 : Fits b [f] := by
        apply Classical.byContradiction
        intro hc
        obtain ⟨c1, c2, c3, c4, c5⟩ := g2
        apply hc
        simp only [rest] at c1 c2 c3 c4 c5
        exact ⟨fun x hx => by rw [List.mem_singleton.1 hx]; exact g1, by omega, by omega, by omega, by omega, by omega⟩
      refine ⟨by simpa using i1, i2, ?_, ?_, fun h k h1 h2 hf => ?_⟩
      · rw [List.take_succ_cons, rest_cons b f (l.take _)]; exact i3
      · rw [List.take_succ_cons, fits_cons]; exact ⟨hf1, i4⟩
      · cases k with
        | zero => omega
        | succ k =>
          rw [List.take_succ_cons, fits_cons] at hf
          simp only [List.length_cons] at h h2
          exact i5 (by omega) k (by omega) (by omega) hf.2
theorem fits_take {b : Bud} {l : List Flt} (h : Fits b l) (k : Nat) : Fits b (l.take k) := by
  obtain ⟨h0, h1, h2, h3, h4, h5⟩ := h
  have hc : ∀ j, cnt (l.take k) j ≤ cnt l j := fun j => by
    have := cnt_append (l.take k) (l.drop k) j
    rw [List.take_append_drop] at this
    have := cnt_nonneg (l.drop k) j
    omega
  have := hc 1; have := hc 2; have := hc 3; have := hc 4; have := hc 5
  exact ⟨fun f hf => h0 f (List.mem_of_mem_take hf), by omega, by omega, by omega, by omega, by omega⟩
/-- All of a list is spent exactly if it fits. -/
theorem run_all {b : Bud} (hb : Nn b) (l : List Flt) : (run b l).2 = l.length ↔ Fits b l := by
  obtain ⟨h1, h2, h3, h4, h5⟩ := run_spec l b hb
  constructor
  · intro h; rw [h, List.take_length] at h4; exact h4
  · intro h
    apply Decidable.byContradiction; intro hc
    exact h5 (by omega) l.length (by omega) (Nat.le_refl _) (by rw [List.take_length]; exact h)
theorem run_rest {b : Bud} (hb : Nn b) {l : List Flt} (h : Fits b l) : (run b l).1 = rest b l := by
  obtain ⟨-, -, h3, -, -⟩ := run_spec l b hb
  rw [(run_all hb l).2 h, List.take_length] at h3; exact h3
/-- A list turned round. -/
theorem fits_rot (b : Bud) (l : List Flt) (k : Nat) : Fits b (l.drop k ++ l.take k) ↔ Fits b l := by
  have hc : ∀ j, cnt (l.drop k ++ l.take k) j = cnt l j := fun j => by
    have := cnt_append (l.take k) (l.drop k) j
    rw [List.take_append_drop] at this
    rw [cnt_append]; omega
  unfold Fits
  rw [hc, hc, hc, hc, hc]
  refine and_congr_left fun _ => ⟨fun h f hf => h f ?_, fun h f hf => h f ?_⟩
  · rw [← List.take_append_drop k l] at hf
    rcases List.mem_append.1 hf with hf | hf
    · exact List.mem_append.2 (.inr hf)
    · exact List.mem_append.2 (.inl hf)
  · rcases List.mem_append.1 hf with hf | hf
    · exact List.mem_of_mem_drop hf
    · exact List.mem_of_mem_take hf
theorem rest_rot (b : Bud) (l : List Flt) (k : Nat) : rest b (l.drop k ++ l.take k) = rest b l := by
  have hc : ∀ j, cnt (l.drop k ++ l.take k) j = cnt l j := fun j => by
    have := cnt_append (l.take k) (l.drop k) j
    rw [List.take_append_drop] at this
    rw [cnt_append]; omega
  simp only [rest, hc]
/-- A budget is at most another one. -/
structure Within (a b : Bud) : Prop where
  h1 : a.stops ≤ b.stops
  h2 : a.cells ≤ b.cells
  h3 : a.mutes ≤ b.mutes
  h4 : a.lifts ≤ b.lifts
  h5 : a.steps ≤ b.steps
  h6 : a.muteMost ≤ b.muteMost
  h7 : a.liftMost ≤ b.liftMost
theorem fits_within {a b : Bud} (h : Within a b) {l : List Flt} (hf : Fits a l) : Fits b l := by
  obtain ⟨h0, h1, h2, h3, h4, h5⟩ := hf
  obtain ⟨g1, g2, g3, g4, g5, g6, g7⟩ := h
  refine ⟨fun f hf => ?_, by omega, by omega, by omega, by omega, by omega⟩
  obtain ⟨k1, k2, k3, k4⟩ := h0 f hf
  exact ⟨k1, k2, fun e => by have := k3 e; omega, fun e => by have := k4 e; omega⟩
theorem within_rest (b : Bud) (l : List Flt) : Within (rest b l) b := by
  have := cnt_nonneg l 1; have := cnt_nonneg l 2; have := cnt_nonneg l 3; have := cnt_nonneg l 4; have := cnt_nonneg l 5
  constructor <;> simp only [rest] <;> omega
theorem rest_within {a b : Bud} (h : Within a b) (l : List Flt) : Within (rest a l) (rest b l) := by
  obtain ⟨g1, g2, g3, g4, g5, g6, g7⟩ := h
  constructor <;> simp only [rest] <;> omega
/-- How many faults there are. -/
theorem len_cnt {b : Bud} {l : List Flt} (h : ∀ f ∈ l, okF b f) : (l.length : Int) - cnt l 0 = cnt l 1 + cnt l 2 + cnt l 3 + cnt l 4 + cnt l 5 := by
  induction l with
  | nil => rfl
  | cons f l ih =>
    have := ih (fun x hx => h x (List.mem_cons_of_mem _ hx))
    obtain ⟨h0, h1, -, -⟩ := h f (List.mem_cons_self ..)
    rw [cnt_cons, cnt_cons, cnt_cons, cnt_cons, cnt_cons, cnt_cons]
    simp only [List.length_cons]
    have hk : f.kind = 0 ∨ f.kind = 1 ∨ f.kind = 2 ∨ f.kind = 3 ∨ f.kind = 4 ∨ f.kind = 5 := by omega
    rcases hk with e | e | e | e | e | e <;> (rw [e]; simp; omega)
theorem left_rest {b : Bud} {l : List Flt} (h : ∀ f ∈ l, okF b f) : (l.length : Int) - cnt l 0 = left b - left (rest b l) := by
  rw [len_cnt h]; simp only [left, rest]; omega
/-- What the lesser budget allows, the greater one does. -/
theorem less_run {a b : Bud} (ha : Nn a) (hb : Nn b) (h : Within a b) (l : List Flt) : (run a l).2 ≤ (run b l).2 ∧ (run b (l.take (run a l).2)).2 = (run a l).2 ∧ Within (run a l).1 (run b (l.take (run a l).2)).1 := by
  obtain ⟨h1, h2, h3, h4, -⟩ := run_spec l a ha
  obtain ⟨k1, k2, k3, k4, k5⟩ := run_spec l b hb
  have hf := fits_within h h4
  have hl : (l.take (run a l).2).length = (run a l).2 := by rw [List.length_take]; omega
  refine ⟨?_, ?_, ?_⟩
  · apply Decidable.byContradiction; intro hc
    exact k5 (by omega) (run a l).2 (by omega) h1 hf
  · rw [(run_all hb _).2 hf, hl]
  · rw [run_rest hb hf, h3]
    exact rest_within h _
end Fa
end Go.Proofs.Ytcdfmgobokjcnaa
