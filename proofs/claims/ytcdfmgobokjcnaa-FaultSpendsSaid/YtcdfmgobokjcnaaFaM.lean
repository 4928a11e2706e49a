/- What FaultLists and FaultNone say of the lists, in plain words. Nothing of the program is imported. -/
import Derived.Test.YtcdfmgobokjcnaaFaL
namespace Go.Proofs.Ytcdfmgobokjcnaa
namespace Fa
def none3 : Flt := ⟨0, 0, 0⟩
theorem none_ok (f : Fl.Floor) (st : Bd.State) (b : Bud) (cells : List Int) : okB f st b cells none3 = true := by
  unfold okB allowsB concB possB spend none3; simp
theorem Listed.none_mem {f : Fl.Floor} {st : Bd.State} {b : Bud} {cells : List Int} {l : List Flt} (h : Listed f st b cells l) : none3 ∈ l :=
  (h.mem _).2 ⟨.inl rfl, none_ok ..⟩
theorem Cand.kind {b : Bud} {nr np : Nat} {cells : List Int} {x : Flt} (h : Cand b nr np cells x) : 0 ≤ x.kind ∧ x.kind < 6 ∧ (x.kind = 0 → x = none3) := by
  rcases h with h | h | h | h | h | h
  · subst h; exact ⟨by decide, by decide, fun _ => rfl⟩
  all_goals exact ⟨by omega, by omega, fun h0 => by omega⟩
/-- The list begins with the fault that is none. -/
theorem Listed.head {f : Fl.Floor} {st : Bd.State} {b : Bud} {cells : List Int} {l : List Flt} (h : Listed f st b cells l) : ∃ r, l = none3 :: r := by
  cases l with
  | nil => have := h.none_mem; cases this
  | cons x r =>
    refine ⟨r, ?_⟩
    congr 1
    have hx := ((h.mem x).1 (List.mem_cons_self ..)).1.kind
    rcases List.mem_cons.1 h.none_mem with e | e
    · exact e.symm
    · have ha := h.asc
      rw [List.pairwise_cons] at ha
      have := ha.1 _ e
      unfold lt none3 at this
      dsimp only at this
      exact hx.2.2 (by omega)
theorem Listed.ok {f : Fl.Floor} {st : Bd.State} {b : Bud} {cells : List Int} {l : List Flt} (h : Listed f st b cells l) {x : Flt} (hx : x ∈ l) : possB f st x = true ∧ allowsB b x = true ∧ concB st x cells = true := by
  have := ((h.mem x).1 hx).2
  unfold okB at this
  simp only [Bool.and_eq_true] at this
  exact ⟨this.2.2, this.1, this.2.1⟩
/-- Whether an element of the list is as a fault, but for fields that its kind does not name. -/
def likeB (f x : Flt) : Bool := (decide (x.kind = f.kind) && (decide (x.kind = 0) || decide (x.a = f.a))) && (decide (x.kind = 0) || (decide (x.kind = 1) || (decide (x.kind = 2) || decide (x.n = f.n))))
theorem Listed.found {g : Fl.Floor} {st : Bd.State} {b : Bud} {cells : List Int} {l : List Flt} (h : Listed g st b cells l) {f : Flt} (hp : possB g st f = true) (ha : allowsB b f = true) (hc : concB st f cells = true) : l.any (likeB f) = true := by
  have key : ∀ x, Cand b st.robots.length st.people.length cells x → okB g st b cells x = true → likeB f x = true → l.any (likeB f) = true := fun x h1 h2 h3 =>
    List.any_eq_true.2 ⟨x, (h.mem x).2 ⟨h1, h2⟩, h3⟩
  obtain ⟨k, a, n⟩ := f
  have hk : k = 0 ∨ k = 1 ∨ k = 2 ∨ k = 3 ∨ k = 4 ∨ k = 5 := by
    unfold allowsB spend at ha
    dsimp only at ha
    by_cases h0 : k = 0
    · exact .inl h0
    · rw [if_neg h0] at ha
      by_cases h1 : okF b ⟨k, a, n⟩ ∧ 1 ≤ num b k
      · obtain ⟨⟨h2, h3, -⟩, -⟩ := h1
        dsimp only at h2 h3
        omega
      · rw [if_neg h1] at ha; cases ha
  have hokF : k ≠ 0 → okF b ⟨k, a, n⟩ := fun h0 => by
    unfold allowsB spend at ha
    dsimp only at ha
    rw [if_neg h0] at ha
    by_cases h1 : okF b ⟨k, a, n⟩ ∧ 1 ≤ num b k
    · exact h1.1
    · rw [if_neg h1] at ha; cases ha
  rcases hk with rfl | rfl | rfl | rfl | rfl | rfl
  · exact key none3 (.inl rfl) (none_ok ..) (by simp [likeB, none3])
  · refine key ⟨1, a, 0⟩ (.inr (.inl ⟨rfl, ?_, rfl⟩)) ?_ (by simp [likeB])
    · unfold concB at hc
      simp at hc
      exact ⟨hc.1, hc.2.1⟩
    · unfold okB
      rw [Bool.and_eq_true, Bool.and_eq_true]
      refine ⟨?_, hc, hp⟩
      unfold allowsB spend okF at ha ⊢
      simpa using ha
  · refine key ⟨2, a, 0⟩ (.inr (.inr (.inl ⟨rfl, ?_, rfl⟩))) ?_ (by simp [likeB])
    · unfold concB at hc
      simpa using hc
    · unfold okB
      rw [Bool.and_eq_true, Bool.and_eq_true]
      refine ⟨?_, hc, hp⟩
      unfold allowsB spend okF at ha ⊢
      simpa using ha
  · have h2 := (hokF (by omega)).2.2.1 rfl
    refine key ⟨3, a, n⟩ (.inr (.inr (.inr (.inl ⟨rfl, ?_, h2⟩)))) ?_ (by simp [likeB])
    · unfold concB at hc
      simp at hc
      exact ⟨hc.1, hc.2.1⟩
    · unfold okB; rw [Bool.and_eq_true, Bool.and_eq_true]; exact ⟨ha, hc, hp⟩
  · have h2 := (hokF (by omega)).2.2.2 rfl
    refine key ⟨4, a, n⟩ (.inr (.inr (.inr (.inr (.inl ⟨rfl, ?_, h2⟩))))) ?_ (by simp [likeB])
    · unfold concB at hc
      simpa using hc
    · unfold okB; rw [Bool.and_eq_true, Bool.and_eq_true]; exact ⟨ha, hc, hp⟩
  · refine key ⟨5, a, n⟩ (.inr (.inr (.inr (.inr (.inr ⟨rfl, ?_, ?_⟩))))) ?_ (by simp [likeB])
    · unfold possB stepB at hp
      simp at hp
      obtain ⟨-, -, hp⟩ := hp
      dsimp only
      split at hp
      · omega
      · omega
    · unfold concB at hc
      simpa using hc
    · unfold okB; rw [Bool.and_eq_true, Bool.and_eq_true]; exact ⟨ha, hc, hp⟩
/-- Nothing but the fault that is none. -/
theorem Listed.only {g : Fl.Floor} {st : Bd.State} {b : Bud} {cells : List Int} {l : List Flt} (h : Listed g st b cells l) (h0 : ∀ x, x.kind ≠ 0 → okB g st b cells x = false) : l = [none3] := by
  obtain ⟨r, rfl⟩ := h.head
  cases r with
  | nil => rfl
  | cons y r =>
    have hy := (h.mem y).1 (by simp)
    have ha := h.asc
    rw [List.pairwise_cons] at ha
    have hl := ha.1 y (List.mem_cons_self ..)
    by_cases hk : y.kind = 0
    · rw [hy.1.kind.2.2 hk] at hl; exact absurd hl (lt_irrefl _)
    · rw [h0 y hk] at hy; cases hy.2
theorem Listed.of_zero {g : Fl.Floor} {st : Bd.State} {b : Bud} {cells : List Int} {l : List Flt} (h : Listed g st b cells l) (h1 : b.stops = 0) (h2 : b.cells = 0) (h3 : b.mutes = 0) (h4 : b.lifts = 0) (h5 : b.steps = 0) : l = [none3] := by
  refine h.only fun x hx => ?_
  have : allowsB b x = false := by
    unfold allowsB spend
    rw [if_neg hx, if_neg]
    · rfl
    · rintro ⟨-, h⟩
      unfold num at h
      repeat' split at h
      all_goals omega
  unfold okB; rw [this]; rfl
theorem Listed.of_nil {g : Fl.Floor} {st : Bd.State} {b : Bud} {l : List Flt} (h : Listed g st b [] l) : l = [none3] := by
  refine h.only fun x hx => ?_
  have : concB st x [] = false := by
    unfold concB
    rw [if_neg hx]
    simp
  unfold okB; rw [this]; simp
/-! ### The documentation's example -/
def sampF : Fl.Floor := ⟨10, 1, 1, [3, 1, 1, 1, 1, 1, 1, 1, 1, 1], [5, 5, 5, 5, 5, 5, 5, 5, 5, 5]⟩
def sampS : Bd.State := ⟨0, [], [⟨3, -1, 9, 0, 0, false⟩, ⟨8, -1, 9, 0, 0, false⟩], [], [], []⟩
def sampB : Bud := ⟨1, 0, 1, 5, 0, 0, 0⟩
def sampL : List Flt := [⟨0, 0, 0⟩, ⟨1, 0, 0⟩, ⟨3, 0, 1⟩, ⟨3, 0, 2⟩, ⟨3, 0, 3⟩, ⟨3, 0, 4⟩, ⟨3, 0, 5⟩]
theorem samp_listed : Listed sampF sampS sampB [3] sampL := by
  refine listed_of (places := [3]) (by simp) (fun c => Iff.rfl) ?_ ?_
  · have e : (allC sampB sampS.robots.length sampS.people.length [3]).filter (okB sampF sampS sampB [3]) = sampL := by decide +kernel
    rw [e]
  · unfold sampL; simp [ltB]
theorem samp_is {l : List Flt} (h : Listed sampF sampS sampB [3] l) : l = sampL := h.ext samp_listed
end Fa
end Go.Proofs.Ytcdfmgobokjcnaa
