/- Which faults are listed, in plain words: bodies and their slots, what is possible, what concerns some cells, the list. Nothing of the program is imported. -/
import Derived.Test.YtcdfmgobokjcnaaFaS
import Derived.Test.YtcdfmgobokjcnaaFlS
namespace Go.Proofs.Ytcdfmgobokjcnaa
namespace Bd
structure Robot where
  cell : Int
  load : Int
  charge : Int
  rest : Int
  mute : Int
  dead : Bool
structure State where
  tick : Int
  shelves : List Int
  robots : List Robot
  people : List Int
  dead : List Int
  stuck : List (Int × Int)
/-- The slots that one who carries (or not) has at a cell. -/
def atL (l c : Int) : List Int := if 0 ≤ l then [2 * c, 2 * c + 1] else [2 * c]
def robotL (r : Robot) : List Int := atL r.load r.cell
def carried (st : State) (i : Nat) : Bool := st.robots.any fun r => r.load == (i : Int)
def shelfL (st : State) (i : Nat) : List Int := if carried st i = true then [] else [2 * st.shelves.getD i 0 + 1]
def personL (c : Int) : List Int := [2 * c, 2 * c + 1]
def robotsL (st : State) : List Int := st.robots.flatMap robotL
def shelvesL (st : State) : List Int := (List.range st.shelves.length).flatMap (shelfL st)
def peopleL (st : State) : List Int := st.people.flatMap personL
def allL (st : State) : List Int := robotsL st ++ (shelvesL st ++ peopleL st)
/-- Somebody has a slot of a cell. -/
def heldB (st : State) (c : Int) : Bool := (allL st).any fun x => x == 2 * c || x == 2 * c + 1
theorem atL_len (l c : Int) : (atL l c).length ≤ 2 := by unfold atL; split <;> simp
theorem flat_len {α : Type} (f : α → List Int) (n : Nat) (h : ∀ x, (f x).length ≤ n) : ∀ l : List α, (l.flatMap f).length ≤ l.length * n
  | [] => by simp
  | x :: l => by
    have := flat_len f n h l
    have := h x
    simp only [List.flatMap_cons, List.length_append, List.length_cons, Nat.add_mul]
    omega
theorem robotsL_len (st : State) : (robotsL st).length ≤ st.robots.length * 2 := flat_len _ 2 (fun _ => atL_len _ _) _
theorem shelfL_len (st : State) (i : Nat) : (shelfL st i).length ≤ 2 := by unfold shelfL; split <;> simp
theorem shelvesL_len (st : State) : (shelvesL st).length ≤ st.shelves.length * 2 := by
  have := flat_len (shelfL st) 2 (shelfL_len st) (List.range st.shelves.length)
  rwa [List.length_range] at this
theorem peopleL_len (st : State) : (peopleL st).length ≤ st.people.length * 2 := flat_len _ 2 (fun _ => by simp [personL]) _
theorem flat_take {α : Type} (f : α → List Int) (l : List α) (i : Nat) (h : i < l.length) : (l.take (i + 1)).flatMap f = (l.take i).flatMap f ++ f l[i] := by
  rw [List.take_succ_eq_append_getElem h, List.flatMap_append]; simp
theorem any_perm {l m : List Int} (h : l.Perm m) (p : Int → Bool) : l.any p = m.any p := by
  rw [Bool.eq_iff_iff, List.any_eq_true, List.any_eq_true]
  exact ⟨fun ⟨x, a, b⟩ => ⟨x, h.mem_iff.1 a, b⟩, fun ⟨x, a, b⟩ => ⟨x, h.mem_iff.2 a, b⟩⟩
end Bd
namespace Fa
def kindF (f : Fl.Floor) (c : Int) : Int := if 0 ≤ c ∧ c < (f.kind.length : Int) then f.kind.getD c.toNat 0 else 0
def deadAt (st : Bd.State) (i : Nat) : Bool := match st.robots[i]? with
  | some r => r.dead
  | none => true
def live (st : Bd.State) (i : Int) : Bool := decide (0 ≤ i) && (decide (i < (st.robots.length : Int)) && !deadAt st i.toNat)
def longB (n : Int) : Bool := decide (1 ≤ n) && decide (n ≤ 20000)
def nearB (f : Fl.Floor) (a b : Int) : Bool := Fl.isC f b && (Fl.beside f a 0 == b || (Fl.beside f a 1 == b || (Fl.beside f a 2 == b || Fl.beside f a 3 == b)))
def stepB (f : Fl.Floor) (st : Bd.State) (p c : Int) : Bool :=
  (decide (kindF f c = 4) || decide (kindF f c = 5)) && (!Bd.heldB st c && (if p = (st.people.length : Int) then decide (kindF f c = 5) && decide (p < 20) else decide (0 ≤ p) && (decide (p < (st.people.length : Int)) && nearB f (st.people.getD p.toNat 0) c)))
def possB (f : Fl.Floor) (st : Bd.State) (x : Flt) : Bool :=
  if x.kind = 0 then true else if x.kind = 1 then live st x.a else if x.kind = 2 then !decide (kindF f x.a = 0) && !st.dead.contains x.a
  else if x.kind = 3 then live st x.a && longB x.n else if x.kind = 4 then decide (kindF f x.a = 6) && longB x.n else if x.kind = 5 then stepB f st x.a x.n else false
def cellOf (st : Bd.State) (i : Nat) : Int := match st.robots[i]? with
  | some r => r.cell
  | none => 0
def concB (st : Bd.State) (x : Flt) (cells : List Int) : Bool :=
  if x.kind = 0 then true else if x.kind = 1 ∨ x.kind = 3 then decide (0 ≤ x.a) && (decide (x.a < (st.robots.length : Int)) && cells.contains (cellOf st x.a.toNat))
  else if x.kind = 2 ∨ x.kind = 4 then cells.contains x.a else if x.kind = 5 then cells.contains x.n else false
def allowsB (b : Bud) (x : Flt) : Bool := (spend b x).isSome
def okB (f : Fl.Floor) (st : Bd.State) (b : Bud) (cells : List Int) (x : Flt) : Bool := allowsB b x && (concB st x cells && possB f st x)
/-! ### The list -/
def delaysL (k a most : Int) : List Flt := (List.range most.toNat).map fun (n : Nat) => ⟨k, a, (n : Int) + 1⟩
def robotC (b : Bud) (i : Nat) : List Flt := ⟨1, (i : Int), 0⟩ :: delaysL 3 (i : Int) b.muteMost
def stepC (np : Nat) (c : Int) : List Flt := (List.range (np + 1)).map fun (p : Nat) => ⟨5, (p : Int), c⟩
def cellC (b : Bud) (np : Nat) (c : Int) : List Flt := ⟨2, c, 0⟩ :: (delaysL 4 c b.liftMost ++ stepC np c)
def robotsC (b : Bud) (n : Nat) : List Flt := (List.range n).flatMap (robotC b)
def allC (b : Bud) (nr np : Nat) (places : List Int) : List Flt := ⟨0, 0, 0⟩ :: (robotsC b nr ++ places.flatMap (cellC b np))
/-- One fault stands ahead of another one. -/
def lt (x y : Flt) : Prop := x.kind < y.kind ∨ (x.kind = y.kind ∧ (x.a < y.a ∨ (x.a = y.a ∧ x.n < y.n)))
def ltB (x y : Flt) : Bool := decide (x.kind < y.kind) || (decide (x.kind = y.kind) && (decide (x.a < y.a) || (decide (x.a = y.a) && decide (x.n < y.n))))
theorem ltB_iff {x y : Flt} : ltB x y = true ↔ lt x y := by unfold ltB lt; simp
theorem lt_irrefl (x : Flt) : ¬ lt x x := by unfold lt; omega
theorem lt_asymm {x y : Flt} (h : lt x y) : ¬ lt y x := by unfold lt at *; omega
theorem lt_trans {x y z : Flt} (h : lt x y) (h2 : lt y z) : lt x z := by unfold lt at *; omega
theorem lt_total {x y : Flt} (h : ¬ lt x y) (h2 : ¬ lt y x) : x = y := by
  obtain ⟨a, b, c⟩ := x
  obtain ⟨d, e, f⟩ := y
  unfold lt at *
  dsimp only at h h2
  congr 1 <;> omega
/-- A candidate of the list. -/
def Cand (b : Bud) (nr np : Nat) (cells : List Int) (x : Flt) : Prop :=
  x = ⟨0, 0, 0⟩ ∨ (x.kind = 1 ∧ (0 ≤ x.a ∧ x.a < (nr : Int)) ∧ x.n = 0) ∨ (x.kind = 2 ∧ x.a ∈ cells ∧ x.n = 0) ∨ (x.kind = 3 ∧ (0 ≤ x.a ∧ x.a < (nr : Int)) ∧ 1 ≤ x.n ∧ x.n ≤ b.muteMost) ∨
  (x.kind = 4 ∧ x.a ∈ cells ∧ 1 ≤ x.n ∧ x.n ≤ b.liftMost) ∨ (x.kind = 5 ∧ (0 ≤ x.a ∧ x.a ≤ (np : Int)) ∧ x.n ∈ cells)
theorem mem_delays {k a most : Int} {x : Flt} : x ∈ delaysL k a most ↔ x.kind = k ∧ x.a = a ∧ 1 ≤ x.n ∧ x.n ≤ most := by
  unfold delaysL
  rw [List.mem_map]
  obtain ⟨xk, xa, xn⟩ := x
  constructor
  · rintro ⟨n, hn, e⟩
    rw [List.mem_range] at hn
    injection e with e1 e2 e3
    subst e1 e2 e3
    exact ⟨rfl, rfl, by dsimp only; omega, by dsimp only; omega⟩
  · rintro ⟨e1, e2, h1, h2⟩
    dsimp only at e1 e2 h1 h2
    subst e1 e2
    exact ⟨(xn - 1).toNat, by rw [List.mem_range]; omega, by congr 1; omega⟩
theorem mem_robotC {b : Bud} {i : Nat} {x : Flt} : x ∈ robotC b i ↔ (x.kind = 1 ∧ x.a = (i : Int) ∧ x.n = 0) ∨ (x.kind = 3 ∧ x.a = (i : Int) ∧ 1 ≤ x.n ∧ x.n ≤ b.muteMost) := by
  unfold robotC
  rw [List.mem_cons, mem_delays]
  obtain ⟨xk, xa, xn⟩ := x
  simp only [Flt.mk.injEq]
theorem mem_stepC {np : Nat} {c : Int} {x : Flt} : x ∈ stepC np c ↔ x.kind = 5 ∧ (0 ≤ x.a ∧ x.a ≤ (np : Int)) ∧ x.n = c := by
  unfold stepC
  rw [List.mem_map]
  obtain ⟨xk, xa, xn⟩ := x
  constructor
  · rintro ⟨n, hn, e⟩
    rw [List.mem_range] at hn
    injection e with e1 e2 e3
    subst e1 e2 e3
    exact ⟨rfl, ⟨by dsimp only; omega, by dsimp only; omega⟩, rfl⟩
  · rintro ⟨e1, ⟨h1, h2⟩, e2⟩
    dsimp only at e1 e2 h1 h2
    subst e1 e2
    exact ⟨xa.toNat, by rw [List.mem_range]; omega, by congr 1; omega⟩
theorem mem_cellC {b : Bud} {np : Nat} {c : Int} {x : Flt} : x ∈ cellC b np c ↔ (x.kind = 2 ∧ x.a = c ∧ x.n = 0) ∨ (x.kind = 4 ∧ x.a = c ∧ 1 ≤ x.n ∧ x.n ≤ b.liftMost) ∨ (x.kind = 5 ∧ (0 ≤ x.a ∧ x.a ≤ (np : Int)) ∧ x.n = c) := by
  unfold cellC
  rw [List.mem_cons, List.mem_append, mem_delays, mem_stepC]
  obtain ⟨xk, xa, xn⟩ := x
  simp only [Flt.mk.injEq]
theorem mem_allC {b : Bud} {nr np : Nat} {places cells : List Int} (hp : ∀ c, c ∈ places ↔ c ∈ cells) {x : Flt} : x ∈ allC b nr np places ↔ Cand b nr np cells x := by
  unfold allC robotsC Cand
  rw [List.mem_cons, List.mem_append, List.mem_flatMap, List.mem_flatMap]
  simp only [List.mem_range, mem_robotC, mem_cellC, hp]
  constructor
  · rintro (h | ⟨i, hi, (⟨h1, h2, h3⟩ | ⟨h1, h2, h3⟩)⟩ | ⟨c, hc, (⟨h1, h2, h3⟩ | ⟨h1, h2, h3⟩ | ⟨h1, h2, h3⟩)⟩)
    · exact .inl h
    · exact .inr (.inl ⟨h1, by omega, h3⟩)
    · exact .inr (.inr (.inr (.inl ⟨h1, by omega, h3⟩)))
    · exact .inr (.inr (.inl ⟨h1, by rw [h2]; exact hc, h3⟩))
    · exact .inr (.inr (.inr (.inr (.inl ⟨h1, by rw [h2]; exact hc, h3⟩))))
    · exact .inr (.inr (.inr (.inr (.inr ⟨h1, h2, by rw [h3]; exact hc⟩))))
  · rintro (h | ⟨h1, h2, h3⟩ | ⟨h1, h2, h3⟩ | ⟨h1, h2, h3⟩ | ⟨h1, h2, h3⟩ | ⟨h1, h2, h3⟩)
    · exact .inl h
    · exact .inr (.inl ⟨x.a.toNat, by omega, .inl ⟨h1, by omega, h3⟩⟩)
    · exact .inr (.inr ⟨x.a, h2, .inl ⟨h1, rfl, h3⟩⟩)
    · exact .inr (.inl ⟨x.a.toNat, by omega, .inr ⟨h1, by omega, h3⟩⟩)
    · exact .inr (.inr ⟨x.a, h2, .inr (.inl ⟨h1, rfl, h3⟩)⟩)
    · exact .inr (.inr ⟨x.n, h3, .inr (.inr ⟨h1, h2, rfl⟩)⟩)
theorem nodup_flat {α : Type} (f : α → List Flt) : ∀ (l : List α), l.Nodup → (∀ x ∈ l, (f x).Nodup) → (∀ x ∈ l, ∀ y ∈ l, x ≠ y → ∀ z, z ∈ f x → z ∉ f y) → (l.flatMap f).Nodup
  | [], _, _, _ => by simp
  | x :: l, h, h1, h2 => by
    rw [List.nodup_cons] at h
    rw [List.flatMap_cons, List.nodup_append]
    refine ⟨h1 x (List.mem_cons_self ..), nodup_flat f l h.2 (fun y hy => h1 y (List.mem_cons_of_mem _ hy)) (fun y hy z hz => h2 y (List.mem_cons_of_mem _ hy) z (List.mem_cons_of_mem _ hz)), ?_⟩
    rintro u hu v hv rfl
    obtain ⟨y, hy, hv⟩ := List.mem_flatMap.1 hv
    exact h2 x (List.mem_cons_self ..) y (List.mem_cons_of_mem _ hy) (fun e => h.1 (e ▸ hy)) u hu hv
theorem nodup_delays (k a most : Int) : (delaysL k a most).Nodup := by
  unfold delaysL
  refine List.Pairwise.map _ ?_ (List.nodup_range (n := most.toNat))
  intro m n h e
  injection e with e1 e2 e3
  exact h (by omega)
theorem nodup_stepC (np : Nat) (c : Int) : (stepC np c).Nodup := by
  unfold stepC
  refine List.Pairwise.map _ ?_ (List.nodup_range (n := np + 1))
  intro m n h e
  injection e with e1 e2 e3
  exact h (by omega)
theorem nodup_robotC (b : Bud) (i : Nat) : (robotC b i).Nodup := by
  unfold robotC
  rw [List.nodup_cons]
  refine ⟨fun h => ?_, nodup_delays ..⟩
  have := (mem_delays.1 h).1
  dsimp only at this
  omega
theorem nodup_cellC (b : Bud) (np : Nat) (c : Int) : (cellC b np c).Nodup := by
  unfold cellC
  rw [List.nodup_cons, List.nodup_append]
  refine ⟨fun h => ?_, nodup_delays .., nodup_stepC .., ?_⟩
  · rcases List.mem_append.1 h with h | h
    · have := (mem_delays.1 h).1
      dsimp only at this
      omega
    · have := (mem_stepC.1 h).1
      dsimp only at this
      omega
  · rintro u hu v hv rfl
    have h1 := (mem_delays.1 hu).1
    have h2 := (mem_stepC.1 hv).1
    omega
theorem nodup_allC {b : Bud} {nr np : Nat} {places : List Int} (h : places.Nodup) : (allC b nr np places).Nodup := by
  unfold allC robotsC
  rw [List.nodup_cons, List.nodup_append]
  refine ⟨fun hm => ?_, nodup_flat _ _ List.nodup_range (fun x _ => nodup_robotC ..) ?_, nodup_flat _ _ h (fun x _ => nodup_cellC ..) ?_, ?_⟩
  · rcases List.mem_append.1 hm with hm | hm
    · obtain ⟨i, _, hi⟩ := List.mem_flatMap.1 hm
      rcases mem_robotC.1 hi with ⟨h1, -⟩ | ⟨h1, -⟩ <;> (dsimp only at h1; omega)
    · obtain ⟨i, _, hi⟩ := List.mem_flatMap.1 hm
      rcases mem_cellC.1 hi with ⟨h1, -⟩ | ⟨h1, -⟩ | ⟨h1, -⟩ <;> (dsimp only at h1; omega)
  · intro i _ j _ hij z hz hz2
    rcases mem_robotC.1 hz with ⟨h1, h2, -⟩ | ⟨h1, h2, -⟩ <;> rcases mem_robotC.1 hz2 with ⟨g1, g2, -⟩ | ⟨g1, g2, -⟩ <;> omega
  · intro i _ j _ hij z hz hz2
    rcases mem_cellC.1 hz with ⟨h1, h2, -⟩ | ⟨h1, h2, -⟩ | ⟨h1, -, h2⟩ <;> rcases mem_cellC.1 hz2 with ⟨g1, g2, -⟩ | ⟨g1, g2, -⟩ | ⟨g1, -, g2⟩ <;> omega
  · rintro u hu v hv rfl
    obtain ⟨i, _, hu⟩ := List.mem_flatMap.1 hu
    obtain ⟨j, _, hv⟩ := List.mem_flatMap.1 hv
    rcases mem_robotC.1 hu with ⟨h1, -⟩ | ⟨h1, -⟩ <;> rcases mem_cellC.1 hv with ⟨g1, -⟩ | ⟨g1, -⟩ | ⟨g1, -⟩ <;> omega
/-- What a list of faults is: it ascends, and has the candidates that may be. -/
structure Listed (f : Fl.Floor) (st : Bd.State) (b : Bud) (cells : List Int) (l : List Flt) : Prop where
  asc : l.Pairwise lt
  mem : ∀ x, x ∈ l ↔ Cand b st.robots.length st.people.length cells x ∧ okB f st b cells x = true
theorem listed_of {f : Fl.Floor} {st : Bd.State} {b : Bud} {cells places : List Int} {l : List Flt} (hn : places.Nodup) (hp : ∀ c, c ∈ places ↔ c ∈ cells)
    (hl : l.Perm ((allC b st.robots.length st.people.length places).filter (okB f st b cells))) (hs : l.Pairwise fun x y => ltB y x = false) : Listed f st b cells l := by
  have hd : l.Nodup := hl.nodup_iff.2 ((nodup_allC hn).sublist List.filter_sublist)
  refine ⟨?_, fun x => ?_⟩
  · have h2 := List.Pairwise.and hs hd
    refine h2.imp ?_
    rintro x y ⟨h1, h2⟩
    apply Classical.byContradiction; intro h3
    exact h2 (lt_total h3 (fun h4 => by rw [ltB_iff.2 h4] at h1; cases h1))
  · rw [hl.mem_iff, List.mem_filter, mem_allC hp]
/-- Two ascending lists with the same members are one list. -/
theorem asc_ext : ∀ {l m : List Flt}, l.Pairwise lt → m.Pairwise lt → (∀ x, x ∈ l ↔ x ∈ m) → l = m
  | [], [], _, _, _ => rfl
  | [], y :: m, _, _, h => by have := (h y).2 (List.mem_cons_self ..); cases this
  | x :: l, [], _, _, h => by have := (h x).1 (List.mem_cons_self ..); cases this
  | x :: l, y :: m, hl, hm, h => by
    rw [List.pairwise_cons] at hl hm
    have e : x = y := by
      rcases List.mem_cons.1 ((h x).1 (List.mem_cons_self ..)) with e | hx
      · exact e
      · rcases List.mem_cons.1 ((h y).2 (List.mem_cons_self ..)) with e | hy
        · exact e.symm
        · exact absurd (hl.1 y hy) (lt_asymm (hm.1 x hx))
    subst e
    congr 1
    refine asc_ext hl.2 hm.2 fun z => ?_
    constructor
    · intro hz
      rcases List.mem_cons.1 ((h z).1 (List.mem_cons_of_mem _ hz)) with e | h2
      · subst e; exact absurd (hl.1 z hz) (lt_irrefl z)
      · exact h2
    · intro hz
      rcases List.mem_cons.1 ((h z).2 (List.mem_cons_of_mem _ hz)) with e | h2
      · subst e; exact absurd (hm.1 z hz) (lt_irrefl z)
      · exact h2
theorem Listed.ext {f : Fl.Floor} {st : Bd.State} {b : Bud} {cells : List Int} {l m : List Flt} (h : Listed f st b cells l) (h2 : Listed f st b cells m) : l = m :=
  asc_ext h.asc h2.asc fun x => by rw [h.mem, h2.mem]
end Fa
end Go.Proofs.Ytcdfmgobokjcnaa
