/- Parts FaS, FaL, BdR, SpP of this claim, laid one behind the other: walks and the plain laws behind them; each contract states its own conditions. -/
import Derived.Test.YtfcbcpfnaadpeaaGreatDoorZA
/- Budgets of faults in plain words: what is left, and which lists can be spent. Nothing of the program is imported. -/
namespace Go.Proofs.YtfcbcpfnaadpeaaGreatDoor
namespace Fa

structure Bud where
  stops : Int
  cells : Int
  mutes : Int
  muteMost : Int
  lifts : Int
  liftMost : Int
  steps : Int
deriving DecidableEq
structure Flt where
  kind : Int
  a : Int
  n : Int
deriving DecidableEq
/-- A budget is right. -/
structure Right (b : Bud) : Prop where
  h1 : 0 ≤ b.stops ∧ b.stops ≤ 20
  h2 : 0 ≤ b.cells ∧ b.cells ≤ 20
  h3 : 0 ≤ b.mutes ∧ b.mutes ≤ 20
  h4 : 0 ≤ b.lifts ∧ b.lifts ≤ 20
  h5 : 0 ≤ b.steps ∧ b.steps ≤ 20
  h6 : 0 ≤ b.muteMost ∧ b.muteMost ≤ 100
  h7 : 0 ≤ b.liftMost ∧ b.liftMost ≤ 100
def within (n a b : Int) : Bool := decide (a ≤ n) && decide (n ≤ b)
def rightB (b : Bud) : Bool := within b.stops 0 20 && (within b.cells 0 20 && (within b.mutes 0 20 && (within b.lifts 0 20 && (within b.steps 0 20 && (within b.muteMost 0 100 && within b.liftMost 0 100)))))
def num (b : Bud) (k : Int) : Int := if k = 1 then b.stops else if k = 2 then b.cells else if k = 3 then b.mutes else if k = 4 then b.lifts else b.steps
/-- A kind that exists, and a delay that is not too long. -/
def okF (b : Bud) (f : Flt) : Prop := 0 ≤ f.kind ∧ f.kind < 6 ∧ (f.kind = 3 → 1 ≤ f.n ∧ f.n ≤ b.muteMost) ∧ (f.kind = 4 → 1 ≤ f.n ∧ f.n ≤ b.liftMost)
instance (b : Bud) (f : Flt) : Decidable (okF b f) := by unfold okF; infer_instance
def dec (b : Bud) (k : Int) : Bud :=
  { stops := if k = 1 then b.stops - 1 else b.stops, cells := if k = 2 then b.cells - 1 else b.cells, mutes := if k = 3 then b.mutes - 1 else b.mutes, muteMost := b.muteMost,
    lifts := if k = 4 then b.lifts - 1 else b.lifts, liftMost := b.liftMost, steps := if k = 5 then b.steps - 1 else b.steps }
def spend (b : Bud) (f : Flt) : Option Bud := if f.kind = 0 then some b else if okF b f ∧ 1 ≤ num b f.kind then some (dec b f.kind) else none
def run (b : Bud) : List Flt → Bud × Nat
  | [] => (b, 0)
  | f :: l => match spend b f with
    | none => (b, 0)
    | some c => ((run c l).1, (run c l).2 + 1)
def left (b : Bud) : Int := b.stops + b.cells + b.mutes + b.lifts + b.steps
def cnt (l : List Flt) (k : Int) : Int := (l.countP fun f => decide (f.kind = k) : Nat)
/-- What is left of a budget. -/
def rest (b : Bud) (l : List Flt) : Bud := ⟨b.stops - cnt l 1, b.cells - cnt l 2, b.mutes - cnt l 3, b.muteMost, b.lifts - cnt l 4, b.liftMost, b.steps - cnt l 5⟩
end Fa
end Go.Proofs.YtfcbcpfnaadpeaaGreatDoor
/- Which faults are listed, in plain words: bodies and their slots, what is possible, what concerns some cells, the list. Nothing of the program is imported. -/
namespace Go.Proofs.YtfcbcpfnaadpeaaGreatDoor
namespace Bd
structure Robot where
  cell : Int
  load : Int
  charge : Int
  rest : Int
  mute : Int
  dead : Bool
structure State where
  tick : Int
  shelves : List Int
  robots : List Robot
  people : List Int
  dead : List Int
  stuck : List (Int × Int)
/-- The slots that one who carries (or not) has at a cell. -/
def atL (l c : Int) : List Int := if 0 ≤ l then [2 * c, 2 * c + 1] else [2 * c]
def robotL (r : Robot) : List Int := atL r.load r.cell
def carried (st : State) (i : Nat) : Bool := st.robots.any fun r => r.load == (i : Int)
def shelfL (st : State) (i : Nat) : List Int := if carried st i = true then [] else [2 * st.shelves.getD i 0 + 1]
def personL (c : Int) : List Int := [2 * c, 2 * c + 1]
def robotsL (st : State) : List Int := st.robots.flatMap robotL
def shelvesL (st : State) : List Int := (List.range st.shelves.length).flatMap (shelfL st)
def peopleL (st : State) : List Int := st.people.flatMap personL
def allL (st : State) : List Int := robotsL st ++ (shelvesL st ++ peopleL st)
/-- Somebody has a slot of a cell. -/
def heldB (st : State) (c : Int) : Bool := (allL st).any fun x => x == 2 * c || x == 2 * c + 1
theorem atL_len (l c : Int) : (atL l c).length ≤ 2 := by unfold atL; split <;> simp
theorem flat_len {α : Type} (f : α → List Int) (n : Nat) (h : ∀ x, (f x).length ≤ n) : ∀ l : List α, (l.flatMap f).length ≤ l.length * n
  | [] => by simp
  | x :: l => by
    have := flat_len f n h l
    have := h x
    simp only [List.flatMap_cons, List.length_append, List.length_cons, Nat.add_mul]
    omega
theorem robotsL_len (st : State) : (robotsL st).length ≤ st.robots.length * 2 := flat_len _ 2 (fun _ => atL_len _ _) _
theorem shelfL_len (st : State) (i : Nat) : (shelfL st i).length ≤ 2 := by unfold shelfL; split <;> simp
theorem shelvesL_len (st : State) : (shelvesL st).length ≤ st.shelves.length * 2 := by
  have := flat_len (shelfL st) 2 (shelfL_len st) (List.range st.shelves.length)
  rwa [List.length_range] at this
theorem peopleL_len (st : State) : (peopleL st).length ≤ st.people.length * 2 := flat_len _ 2 (fun _ => by simp [personL]) _
theorem flat_take {α : Type} (f : α → List Int) (l : List α) (i : Nat) (h : i < l.length) : (l.take (i + 1)).flatMap f = (l.take i).flatMap f ++ f l[i] := by
  rw [List.take_succ_eq_append_getElem h, List.flatMap_append]; simp
end Bd
namespace Fa
def kindF (f : Fl.Floor) (c : Int) : Int := if 0 ≤ c ∧ c < (f.kind.length : Int) then f.kind.getD c.toNat 0 else 0
def deadAt (st : Bd.State) (i : Nat) : Bool := match st.robots[i]? with
  | some r => r.dead
  | none => true
def live (st : Bd.State) (i : Int) : Bool := decide (0 ≤ i) && (decide (i < (st.robots.length : Int)) && !deadAt st i.toNat)
def longB (n : Int) : Bool := decide (1 ≤ n) && decide (n ≤ 20000)
def nearB (f : Fl.Floor) (a b : Int) : Bool := Fl.isC f b && (Fl.beside f a 0 == b || (Fl.beside f a 1 == b || (Fl.beside f a 2 == b || Fl.beside f a 3 == b)))
def stepB (f : Fl.Floor) (st : Bd.State) (p c : Int) : Bool :=
  (decide (kindF f c = 4) || decide (kindF f c = 5)) && (!Bd.heldB st c && (if p = (st.people.length : Int) then decide (kindF f c = 5) && decide (p < 20) else decide (0 ≤ p) && (decide (p < (st.people.length : Int)) && nearB f (st.people.getD p.toNat 0) c)))
def possB (f : Fl.Floor) (st : Bd.State) (x : Flt) : Bool :=
  if x.kind = 0 then true else if x.kind = 1 then live st x.a else if x.kind = 2 then !decide (kindF f x.a = 0) && !st.dead.contains x.a
  else if x.kind = 3 then live st x.a && longB x.n else if x.kind = 4 then decide (kindF f x.a = 6) && longB x.n else if x.kind = 5 then stepB f st x.a x.n else false
def cellOf (st : Bd.State) (i : Nat) : Int := match st.robots[i]? with
  | some r => r.cell
  | none => 0
def concB (st : Bd.State) (x : Flt) (cells : List Int) : Bool :=
  if x.kind = 0 then true else if x.kind = 1 ∨ x.kind = 3 then decide (0 ≤ x.a) && (decide (x.a < (st.robots.length : Int)) && cells.contains (cellOf st x.a.toNat))
  else if x.kind = 2 ∨ x.kind = 4 then cells.contains x.a else if x.kind = 5 then cells.contains x.n else false
def allowsB (b : Bud) (x : Flt) : Bool := (spend b x).isSome
def okB (f : Fl.Floor) (st : Bd.State) (b : Bud) (cells : List Int) (x : Flt) : Bool := allowsB b x && (concB st x cells && possB f st x)
/-! ### The list -/
/-- One fault stands ahead of another one. -/
def lt (x y : Flt) : Prop := x.kind < y.kind ∨ (x.kind = y.kind ∧ (x.a < y.a ∨ (x.a = y.a ∧ x.n < y.n)))
theorem lt_irrefl (x : Flt) : ¬ lt x x := by unfold lt; omega
theorem lt_asymm {x y : Flt} (h : lt x y) : ¬ lt y x := by unfold lt at *; omega
theorem lt_trans {x y z : Flt} (h : lt x y) (h2 : lt y z) : lt x z := by unfold lt at *; omega
/-- A candidate of the list. -/
def Cand (b : Bud) (nr np : Nat) (cells : List Int) (x : Flt) : Prop :=
  x = ⟨0, 0, 0⟩ ∨ (x.kind = 1 ∧ (0 ≤ x.a ∧ x.a < (nr : Int)) ∧ x.n = 0) ∨ (x.kind = 2 ∧ x.a ∈ cells ∧ x.n = 0) ∨ (x.kind = 3 ∧ (0 ≤ x.a ∧ x.a < (nr : Int)) ∧ 1 ≤ x.n ∧ x.n ≤ b.muteMost) ∨
  (x.kind = 4 ∧ x.a ∈ cells ∧ 1 ≤ x.n ∧ x.n ≤ b.liftMost) ∨ (x.kind = 5 ∧ (0 ≤ x.a ∧ x.a ≤ (np : Int)) ∧ x.n ∈ cells)
/-- What a list of faults is: it ascends, and has the candidates that may be. -/
structure Listed (f : Fl.Floor) (st : Bd.State) (b : Bud) (cells : List Int) (l : List Flt) : Prop where
  asc : l.Pairwise lt
  mem : ∀ x, x ∈ l ↔ Cand b st.robots.length st.people.length cells x ∧ okB f st b cells x = true
/-- Two ascending lists with the same members are one list. -/
theorem asc_ext : ∀ {l m : List Flt}, l.Pairwise lt → m.Pairwise lt → (∀ x, x ∈ l ↔ x ∈ m) → l = m
  | [], [], _, _, _ => rfl
  | [], y :: m, _, _, h => by have := (h y).2 (List.mem_cons_self ..); cases this
  | x :: l, [], _, _, h => by have := (h x).1 (List.mem_cons_self ..); cases this
  | x :: l, y :: m, hl, hm, h => by
    rw [List.pairwise_cons] at hl hm
    have e : x = y := by
      rcases List.mem_cons.1 ((h x).1 (List.mem_cons_self ..)) with e | hx
      · exact e
      · rcases List.mem_cons.1 ((h y).2 (List.mem_cons_self ..)) with e | hy
        · exact e.symm
        · exact absurd (hl.1 y hy) (lt_asymm (hm.1 x hx))
    subst e
    congr 1
    refine asc_ext hl.2 hm.2 fun z => ?_
    constructor
    · intro hz
      rcases List.mem_cons.1 ((h z).1 (List.mem_cons_of_mem _ hz)) with e | h2
      · subst e; exact absurd (hl.1 z hz) (lt_irrefl z)
      · exact h2
    · intro hz
      rcases List.mem_cons.1 ((h z).2 (List.mem_cons_of_mem _ hz)) with e | h2
      · subst e; exact absurd (hm.1 z hz) (lt_irrefl z)
      · exact h2
theorem Listed.ext {f : Fl.Floor} {st : Bd.State} {b : Bud} {cells : List Int} {l m : List Flt} (h : Listed f st b cells l) (h2 : Listed f st b cells m) : l = m :=
  asc_ext h.asc h2.asc fun x => by rw [h.mem, h2.mem]
end Fa
end Go.Proofs.YtfcbcpfnaadpeaaGreatDoor
/- Right states in plain words: what body.Right answers. Nothing of the program is imported. -/
namespace Go.Proofs.YtfcbcpfnaadpeaaGreatDoor
namespace Bd
def inB (n a b : Int) : Bool := decide (a ≤ n) && decide (n ≤ b)
/-- A cell is one of a floor, of one of two kinds. -/
def onB (f : Fl.Floor) (c a b : Int) : Bool := decide (0 ≤ c) && (decide (c < (f.kind.length : Int)) && (decide (f.kind.getD c.toNat 0 = a) || decide (f.kind.getD c.toNat 0 = b)))
def robOk (f : Fl.Floor) (sh : List Int) (r : Robot) : Bool :=
  (decide (0 ≤ r.cell) && (decide (r.cell < (f.kind.length : Int)) && (!decide (f.kind.getD r.cell.toNat 0 = 0) && inB r.load (-1) ((sh.length : Int) - 1)))) &&
  ((inB r.charge 0 1000000 && (inB r.rest 0 20000 && inB r.mute 0 20000)))
/-- A robot carries what no earlier one carries, at its own cell. -/
def loadOk (sh : List Int) (seen : List Int) (r : Robot) : Bool := !(decide (0 ≤ r.load) && (decide (r.load ∈ seen) || !decide (sh.getD r.load.toNat 0 = r.cell)))
def robGo (f : Fl.Floor) (sh : List Int) : List Int → List Robot → Bool
  | _, [] => true
  | seen, r :: l => (robOk f sh r && loadOk sh seen r) && robGo f sh (seen ++ [r.load]) l
def deadGo (n : Int) : Option Int → List Int → Bool
  | _, [] => true
  | p, c :: l => (decide (0 ≤ c) && (decide (c < n) && (match p with | none => true | some q => decide (q < c)))) && deadGo n (some c) l
def stuckGo (f : Fl.Floor) : Option Int → List (Int × Int) → Bool
  | _, [] => true
  | p, x :: l => (onB f x.1 6 6 && (inB x.2 1 20000 && (match p with | none => true | some q => decide (q < x.1)))) && stuckGo f (some x.1) l
def robsB (f : Fl.Floor) (st : State) : Bool := robGo f st.shelves [] st.robots
def restB (f : Fl.Floor) (st : State) : Bool := deadGo (f.kind.length : Int) none st.dead && stuckGo f none st.stuck
def shelfOk (f : Fl.Floor) (st : State) (i : Nat) : Bool := carried st i || onB f (st.shelves.getD i 0) 1 2
def shelvesB (f : Fl.Floor) (st : State) : Bool := (List.range st.shelves.length).all (shelfOk f st)
def peopleB (f : Fl.Floor) (st : State) : Bool := st.people.all fun c => onB f c 4 5
/-- The first line of tests. -/
def headB (f : Fl.Floor) (ns nr : Int) (st : State) : Bool :=
  inB st.tick 0 20000 && (decide ((st.shelves.length : Int) = ns) && (decide ((st.robots.length : Int) = nr) && (decide ((st.people.length : Int) ≤ 20) && (robsB f st && restB f st))))
def rightB (f : Fl.Floor) (ns nr : Int) (st : State) : Bool :=
  headB f ns nr st && (shelvesB f st && (peopleB f st && decide (allL st).Nodup))
theorem robGo_take (f : Fl.Floor) (sh : List Int) : ∀ (l : List Robot) (seen : List Int) (k : Nat) (h : k < l.length), robGo f sh seen (l.drop k) = ((robOk f sh l[k] && loadOk sh seen l[k]) && robGo f sh (seen ++ [l[k].load]) (l.drop (k + 1))) := by
  intro l seen k h
  rw [List.drop_eq_getElem_cons h]; rfl
theorem deadGo_take (n : Int) (l : List Int) (p : Option Int) (k : Nat) (h : k < l.length) : deadGo n p (l.drop k) = ((decide (0 ≤ l[k]) && (decide (l[k] < n) && (match p with | none => true | some q => decide (q < l[k])))) && deadGo n (some l[k]) (l.drop (k + 1))) := by
  rw [List.drop_eq_getElem_cons h]; rfl
theorem stuckGo_take (f : Fl.Floor) (l : List (Int × Int)) (p : Option Int) (k : Nat) (h : k < l.length) : stuckGo f p (l.drop k) = ((onB f l[k].1 6 6 && (inB l[k].2 1 20000 && (match p with | none => true | some q => decide (q < l[k].1)))) && stuckGo f (some l[k].1) (l.drop (k + 1))) := by
  rw [List.drop_eq_getElem_cons h]; rfl
/-- What a right state says of its robots' cells. -/
theorem robGo_cell {f : Fl.Floor} {sh : List Int} : ∀ {l : List Robot} {seen : List Int}, robGo f sh seen l = true → ∀ r ∈ l, (0 ≤ r.cell ∧ r.cell < (f.kind.length : Int)) ∧ f.kind.getD r.cell.toNat 0 ≠ 0
  | [], _, _ => by simp
  | x :: l, seen, h => by
    unfold robGo at h
    rw [Bool.and_eq_true, Bool.and_eq_true] at h
    intro r hr
    rcases List.mem_cons.1 hr with rfl | hr
    · have h1 := h.1.1
      unfold robOk at h1
      simp only [Bool.and_eq_true, decide_eq_true_eq, Bool.not_eq_true', decide_eq_false_iff_not] at h1
      exact ⟨⟨h1.1.1, h1.1.2.1⟩, h1.1.2.2.1⟩
    · exact robGo_cell h.2 r hr
theorem right_robots {f : Fl.Floor} {ns nr : Int} {st : State} (h : rightB f ns nr st = true) : (st.robots.length : Int) = nr ∧ ∀ r ∈ st.robots, (0 ≤ r.cell ∧ r.cell < (f.kind.length : Int)) ∧ f.kind.getD r.cell.toNat 0 ≠ 0 := by
  unfold rightB headB at h
  simp only [Bool.and_eq_true, decide_eq_true_eq] at h
  exact ⟨h.1.2.2.1, robGo_cell h.1.2.2.2.2.1⟩
end Bd
end Go.Proofs.YtfcbcpfnaadpeaaGreatDoor
/- Room for robots in plain words: what Spare and Free say. Nothing of the program is imported. -/
namespace Go.Proofs.YtfcbcpfnaadpeaaGreatDoor
namespace Si
/-- How many of the first cells are in a zone. -/
def robZ (s : Site) (cs : List Int) (k z : Nat) : Nat := (cs.take k).countP fun c => decide (zoneOf s.zones c = (z : Int))
theorem robZ_succ (s : Site) (cs : List Int) (k z : Nat) (h : k < cs.length) : robZ s cs (k + 1) z = robZ s cs k z + if zoneOf s.zones cs[k] = (z : Int) then 1 else 0 := by
  unfold robZ
  rw [List.take_succ_eq_append_getElem h, List.countP_append]
  simp [List.countP_cons]
def leftL (s : Site) (cs : List Int) (k : Nat) : List Int := (List.range s.zones.length).map fun z => capOf s z - (robZ s cs k z : Int)
def freeL (s : Site) (cs : List Int) (k : Nat) : List Int := (List.range s.zones.length).map fun z => max (capOf s z - (robZ s cs k z : Int)) 0
theorem leftL_len (s : Site) (cs : List Int) (k : Nat) : (leftL s cs k).length = s.zones.length := by simp [leftL]
theorem freeL_len (s : Site) (cs : List Int) (k : Nat) : (freeL s cs k).length = s.zones.length := by simp [freeL]
theorem leftL_get (s : Site) (cs : List Int) (k z : Nat) (h : z < s.zones.length) : (leftL s cs k)[z]? = some (capOf s z - (robZ s cs k z : Int)) := by simp [leftL, h]
theorem freeL_get (s : Site) (cs : List Int) (k z : Nat) (h : z < s.zones.length) : (freeL s cs k)[z]? = some (max (capOf s z - (robZ s cs k z : Int)) 0) := by simp [freeL, h]
theorem robZ_zero (s : Site) (cs : List Int) (z : Nat) : robZ s cs 0 z = 0 := by simp [robZ]
theorem leftL_zero (s : Site) (cs : List Int) : leftL s cs 0 = capsL s := by
  unfold leftL capsL
  apply List.map_congr_left
  intro a _
  rw [robZ_zero]; simp
theorem freeL_zero (s : Site) (cs : List Int) : freeL s cs 0 = capsL s := by
  unfold freeL capsL
  apply List.map_congr_left
  intro a _
  rw [robZ_zero]
  have := capOf_nonneg s a
  omega
theorem leftL_none (s : Site) (cs : List Int) (k : Nat) (hk : k < cs.length) (h : zoneOf s.zones cs[k] < 0) : leftL s cs (k + 1) = leftL s cs k := by
  unfold leftL
  apply List.map_congr_left
  intro a _
  rw [robZ_succ s cs k a hk, if_neg (by omega)]; rfl
theorem freeL_none (s : Site) (cs : List Int) (k : Nat) (hk : k < cs.length) (h : zoneOf s.zones cs[k] < 0) : freeL s cs (k + 1) = freeL s cs k := by
  unfold freeL
  apply List.map_congr_left
  intro a _
  rw [robZ_succ s cs k a hk, if_neg (by omega)]; rfl
theorem leftL_some (s : Site) (cs : List Int) (k z : Nat) (hk : k < cs.length) (h : zoneOf s.zones cs[k] = (z : Int)) : leftL s cs (k + 1) = (leftL s cs k).set z (capOf s z - (robZ s cs k z : Int) - 1) := by
  apply List.ext_getElem?
  intro i
  rw [List.getElem?_set]
  by_cases hi : i < s.zones.length
  · rw [leftL_get s cs _ i hi, robZ_succ s cs k i hk, h, leftL_len]
    by_cases e : z = i
    · subst e
      rw [if_pos rfl, if_pos rfl, if_pos hi]; congr 1; omega
    · rw [if_neg (by omega), if_neg e, leftL_get s cs _ i hi]; simp
  · have h1 : (leftL s cs (k + 1))[i]? = none := List.getElem?_eq_none (by rw [leftL_len]; omega)
    have h2 : (leftL s cs k)[i]? = none := List.getElem?_eq_none (by rw [leftL_len]; omega)
    rw [h1, h2, leftL_len]
    split <;> simp
    omega
theorem freeL_some (s : Site) (cs : List Int) (k z : Nat) (hk : k < cs.length) (h : zoneOf s.zones cs[k] = (z : Int)) (hp : 0 < max (capOf s z - (robZ s cs k z : Int)) 0) : freeL s cs (k + 1) = (freeL s cs k).set z (max (capOf s z - (robZ s cs k z : Int)) 0 - 1) := by
  apply List.ext_getElem?
  intro i
  rw [List.getElem?_set]
  by_cases hi : i < s.zones.length
  · rw [freeL_get s cs _ i hi, robZ_succ s cs k i hk, h, freeL_len]
    by_cases e : z = i
    · subst e
      rw [if_pos rfl, if_pos rfl, if_pos hi]; congr 1; omega
    · rw [if_neg (by omega), if_neg e, freeL_get s cs _ i hi]; simp
  · have h1 : (freeL s cs (k + 1))[i]? = none := List.getElem?_eq_none (by rw [freeL_len]; omega)
    have h2 : (freeL s cs k)[i]? = none := List.getElem?_eq_none (by rw [freeL_len]; omega)
    rw [h1, h2, freeL_len]
    split <;> simp
    omega
theorem freeL_stay (s : Site) (cs : List Int) (k z : Nat) (hk : k < cs.length) (h : zoneOf s.zones cs[k] = (z : Int)) (hp : ¬ 0 < max (capOf s z - (robZ s cs k z : Int)) 0) : freeL s cs (k + 1) = freeL s cs k := by
  unfold freeL
  apply List.map_congr_left
  intro a _
  rw [robZ_succ s cs k a hk, h]
  by_cases e : z = a
  · subst e; rw [if_pos rfl]; omega
  · rw [if_neg (by omega)]; rfl
/-- The first zone of a list with room. -/
def spareOf (L : List Int) (l : List Int) : Int := match l.find? (fun z => decide (0 < L.getD z.toNat 0)) with
  | some z => z
  | none => -1
theorem sum_le {l : List Nat} {f g : Nat → Int} (h : ∀ z ∈ l, f z ≤ g z) : (l.map f).sum ≤ (l.map g).sum := by
  induction l with
  | nil => simp
  | cons a l ih =>
    have h1 := h a (List.mem_cons_self ..)
    have h2 := ih fun z hz => h z (List.mem_cons_of_mem _ hz)
    simp only [List.map_cons, List.sum_cons]
    omega
theorem sum_ind {l : List Nat} (hn : l.Nodup) (Z : Int) : (l.map fun (z : Nat) => (if Z = (z : Int) then 1 else 0 : Int)).sum ≤ 1 := by
  induction l with
  | nil => simp
  | cons a l ih =>
    rw [List.nodup_cons] at hn
    simp only [List.map_cons, List.sum_cons]
    by_cases e : Z = (a : Int)
    · have h0 : (l.map fun (z : Nat) => (if Z = (z : Int) then 1 else 0 : Int)).sum = 0 := by
        have : ∀ m : List Nat, (∀ z ∈ m, Z ≠ (z : Int)) → (m.map fun (z : Nat) => (if Z = (z : Int) then 1 else 0 : Int)).sum = 0 := by
          intro m hm
          induction m with
          | nil => simp
          | cons b m ih2 =>
            simp only [List.map_cons, List.sum_cons]
            rw [if_neg (hm b (List.mem_cons_self ..)), ih2 fun z hz => hm z (List.mem_cons_of_mem _ hz)]; rfl
        exact this l fun z hz he => hn.1 (by have : z = a := by omega
                                             subst this; exact hz)
      rw [h0, if_pos e]; omega
    · rw [if_neg e]; have := ih hn.2; omega
theorem sum_robZ (s : Site) (cs : List Int) {l : List Nat} (hn : l.Nodup) : ∀ k, k ≤ cs.length → (l.map fun z => (robZ s cs k z : Int)).sum ≤ k
  | 0, _ => by
    have : ∀ m : List Nat, (m.map fun z => (robZ s cs 0 z : Int)).sum = 0 := by
      intro m
      induction m with
      | nil => simp
      | cons a m ih => simp only [List.map_cons, List.sum_cons]; rw [ih, robZ_zero]; rfl
    rw [this]; simp
  | k + 1, hk => by
    have ih := sum_robZ s cs hn k (by omega)
    have h1 := sum_ind hn (zoneOf s.zones (cs[k]'(by omega)))
    have h2 : (l.map fun z => (robZ s cs (k + 1) z : Int)).sum = (l.map fun z => (robZ s cs k z : Int)).sum + (l.map fun (z : Nat) => (if zoneOf s.zones (cs[k]'(by omega)) = (z : Int) then 1 else 0 : Int)).sum := by
      clear ih h1 hn
      induction l with
      | nil => simp
      | cons a l ih =>
        simp only [List.map_cons, List.sum_cons]
        rw [ih, robZ_succ s cs k a (by omega)]
        split <;> simp <;> omega
    rw [h2]
    push_cast
    omega
theorem listW_sorted (w : Nat) : (Pt.listW w).Pairwise (· < ·) := List.Pairwise.filter _ List.pairwise_lt_range
theorem listW_nodup (w : Nat) : (Pt.listW w).Nodup := (listW_sorted w).imp (fun h => by omega)
/-- A safe set of zones has one with room. -/
theorem room {s : Site} {w : Nat} {cs : List Int} (h : ¬ sumCaps s w ≤ cs.length) : ∃ z ∈ Pt.listW w, 0 < capOf s z - (robZ s cs cs.length z : Int) := by
  apply Classical.byContradiction
  intro hc
  apply h
  have h1 : sumCaps s w ≤ ((Pt.listW w).map fun z => (robZ s cs cs.length z : Int)).sum := by
    unfold sumCaps
    refine sum_le fun z hz => ?_
    by_cases hp : 0 < capOf s z - (robZ s cs cs.length z : Int)
    · exact absurd ⟨z, hz, hp⟩ hc
    · omega
  have h2 := sum_robZ s cs (listW_nodup w) cs.length (Nat.le_refl _)
  omega
/-- What the law asks of the spare zone of a siphon. -/
theorem spare_ok {s : Site} {w : Nat} {cs : List Int} (h : ¬ sumCaps s w ≤ cs.length) (hw : ∀ z ∈ Pt.listW w, z < s.zones.length) :
    ∃ z : Nat, spareOf (leftL s cs cs.length) (nn (Pt.listW w)) = (z : Int) ∧ z < s.zones.length ∧ 1 ≤ max (capOf s z - (robZ s cs cs.length z : Int)) 0 ∧ (z : Int) ∈ nn (Pt.listW w) ∧
      ∀ y ∈ Pt.listW w, y < z → ¬ 0 < max (capOf s y - (robZ s cs cs.length y : Int)) 0 := by
  have key : ∀ l : List Nat, l.Pairwise (· < ·) → (∀ z ∈ l, z < s.zones.length) → (∃ z ∈ l, 0 < capOf s z - (robZ s cs cs.length z : Int)) →
      ∃ z : Nat, spareOf (leftL s cs cs.length) (nn l) = (z : Int) ∧ z ∈ l ∧ 0 < capOf s z - (robZ s cs cs.length z : Int) ∧ ∀ y ∈ l, y < z → ¬ 0 < capOf s y - (robZ s cs cs.length y : Int) := by
    intro l
    induction l with
    | nil => rintro _ _ ⟨z, hz, -⟩; cases hz
    | cons a l ih =>
      intro hs hl hex
      rw [List.pairwise_cons] at hs
      have ha := hl a (List.mem_cons_self ..)
      have hg : (leftL s cs cs.length).getD ((a : Int)).toNat 0 = capOf s a - (robZ s cs cs.length a : Int) := by
        rw [List.getD_eq_getElem?_getD, Int.toNat_natCast, leftL_get s cs _ a ha]; rfl
      by_cases hp : 0 < capOf s a - (robZ s cs cs.length a : Int)
      · refine ⟨a, ?_, List.mem_cons_self .., hp, fun y hy hlt => ?_⟩
        · show (match ((a : Int) :: nn l).find? (fun z => decide (0 < (leftL s cs cs.length).getD z.toNat 0)) with | some z => z | none => -1) = _
          rw [List.find?_cons_of_pos (by rw [hg]; exact decide_eq_true hp)]
        · rcases List.mem_cons.1 hy with rfl | hy
          · omega
          · have := hs.1 y hy; omega
      · have hex2 : ∃ z ∈ l, 0 < capOf s z - (robZ s cs cs.length z : Int) := by
          obtain ⟨z, hz, h1⟩ := hex
          rcases List.mem_cons.1 hz with rfl | hz
          · exact absurd h1 hp
          · exact ⟨z, hz, h1⟩
        obtain ⟨z, h1, h2, h3, h4⟩ := ih hs.2 (fun z hz => hl z (List.mem_cons_of_mem _ hz)) hex2
        refine ⟨z, ?_, List.mem_cons_of_mem _ h2, h3, fun y hy hlt => ?_⟩
        · rw [← h1]
          show (match ((a : Int) :: nn l).find? (fun z => decide (0 < (leftL s cs cs.length).getD z.toNat 0)) with | some z => z | none => -1) = _
          rw [List.find?_cons_of_neg (by rw [hg]; simpa using hp)]; rfl
        · rcases List.mem_cons.1 hy with rfl | hy
          · exact hp
          · exact h4 y hy hlt
  obtain ⟨z, h1, h2, h3, h4⟩ := key _ (listW_sorted w) hw (room h)
  refine ⟨z, h1, hw z h2, by omega, ?_, fun y hy hlt => ?_⟩
  · unfold nn; exact List.mem_map.2 ⟨z, h2, rfl⟩
  · have := h4 y hy hlt; omega
end Si
end Go.Proofs.YtfcbcpfnaadpeaaGreatDoor
