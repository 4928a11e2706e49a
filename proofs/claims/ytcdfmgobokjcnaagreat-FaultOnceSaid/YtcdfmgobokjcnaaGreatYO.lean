/- Parts Hp, Hs, Hh, Hq, Hr of this claim, laid one behind the other: walks and the plain laws behind them; each contract states its own conditions. -/
import Derived.Test.YtcdfmgobokjcnaaGreatZA
import Derived.Test.YtcdfmgobokjcnaaGreatYN
import Derived.Test.YtcdfmgobokjcnaaGreatYH
import Derived.Test.YtcdfmgobokjcnaaGreatZC
import Derived.Test.YtcdfmgobokjcnaaGreatZI
/- The state after a fault, in plain words: it is right. Nothing of the program is imported. -/
namespace Go.Proofs.YtcdfmgobokjcnaaGreat
set_option linter.unusedSimpArgs false
set_option linter.unusedVariables false
namespace Bd
/-- The element at a place, turned. -/
def upd {α : Type} (g : α → α) : List α → Nat → List α
  | [], _ => []
  | x :: l, 0 => g x :: l
  | x :: l, i + 1 => x :: upd g l i
theorem upd_len {α : Type} (g : α → α) : ∀ (l : List α) (i : Nat), (upd g l i).length = l.length
  | [], _ => rfl
  | _ :: _, 0 => rfl
  | _ :: l, i + 1 => by rw [upd, List.length_cons, upd_len g l i, List.length_cons]
theorem upd_map {α β : Type} (g : α → α) (h : α → β) (e : ∀ x, h (g x) = h x) : ∀ (l : List α) (i : Nat), (upd g l i).map h = l.map h
  | [], _ => rfl
  | x :: l, 0 => by rw [upd, List.map_cons, List.map_cons, e]
  | x :: l, i + 1 => by rw [upd, List.map_cons, List.map_cons, upd_map g h e l i]
/-- A cell among dead ones, at its place. -/
def insC (c : Int) : List Int → List Int
  | [] => [c]
  | d :: l => if c < d then c :: d :: l else d :: insC c l
/-- A stuck lift among stuck lifts. -/
def stickL (c n : Int) : List (Int × Int) → List (Int × Int)
  | [] => [(c, n)]
  | x :: l => if x.1 < c then x :: stickL c n l else if x.1 = c then (x.1, max x.2 n) :: l else (c, n) :: x :: l
theorem robGo_upd {f : Fl.Floor} {sh : List Int} {g : Robot → Robot} (hl : ∀ r, (g r).load = r.load) (hc : ∀ r, (g r).cell = r.cell) (hk : ∀ r, robOk f sh r = true → robOk f sh (g r) = true) :
    ∀ (l : List Robot) (i : Nat) (seen : List Int), robGo f sh seen l = true → robGo f sh seen (upd g l i) = true
  | [], _, _, h => h
  | r :: l, 0, seen, h => by
    unfold robGo at h
    unfold upd robGo
    simp only [Bool.and_eq_true] at h ⊢
    refine ⟨⟨hk r h.1.1, ?_⟩, ?_⟩
    · have := h.1.2
      unfold loadOk at this ⊢
      rw [hl, hc]; exact this
    · rw [hl]; exact h.2
  | r :: l, i + 1, seen, h => by
    unfold robGo at h
    unfold upd robGo
    simp only [Bool.and_eq_true] at h ⊢
    exact ⟨h.1, robGo_upd hl hc hk l i _ h.2⟩
/-- What lies under the next one. -/
def ltO : Option Int → Int → Bool
  | none, _ => true
  | some q, c => decide (q < c)
theorem deadGo_ins {n c : Int} (h0 : 0 ≤ c) (hn : c < n) : ∀ (l : List Int) (p : Option Int), deadGo n p l = true → ltO p c = true → c ∉ l → deadGo n p (insC c l) = true
  | [], p, _, hp, _ => by
    unfold insC deadGo deadGo
    cases p with
    | none => simp [h0, hn]
    | some q => simp [ltO] at hp; simp [h0, hn, hp]
  | d :: l, p, h, hp, hm => by
    have h1 := h
    unfold deadGo at h1
    simp only [Bool.and_eq_true, decide_eq_true_eq] at h1
    obtain ⟨⟨g0, g1, g2⟩, g3⟩ := h1
    rw [List.mem_cons, not_or] at hm
    unfold insC
    split
    · rename_i hlt
      unfold deadGo deadGo
      simp only [Bool.and_eq_true, decide_eq_true_eq]
      exact ⟨⟨h0, hn, (by cases p with | none => rfl | some q => exact hp)⟩, ⟨g0, g1, hlt⟩, g3⟩
    · rename_i hlt
      unfold deadGo
      simp only [Bool.and_eq_true, decide_eq_true_eq]
      exact ⟨⟨g0, g1, g2⟩, deadGo_ins h0 hn l (some d) g3 (by simp [ltO]; have := hm.1; omega) hm.2⟩
theorem stuckGo_ins {f : Fl.Floor} {c n : Int} (hc : onB f c 6 6 = true) (hn : 1 ≤ n ∧ n ≤ 20000) : ∀ (l : List (Int × Int)) (p : Option Int), stuckGo f p l = true → ltO p c = true → stuckGo f p (stickL c n l) = true
  | [], p, _, hp => by
    unfold stickL stuckGo stuckGo
    simp only [Bool.and_eq_true, hc, inB, decide_eq_true_eq]
    exact ⟨⟨trivial, hn, (by cases p with | none => rfl | some q => exact hp)⟩, trivial⟩
  | x :: l, p, h, hp => by
    have h1 := h
    unfold stuckGo at h1
    simp only [Bool.and_eq_true, decide_eq_true_eq] at h1
    obtain ⟨⟨g0, g1, g2⟩, g3⟩ := h1
    unfold stickL
    split
    · rename_i hlt
      unfold stuckGo
      simp only [Bool.and_eq_true]
      exact ⟨⟨g0, g1, g2⟩, stuckGo_ins hc hn l (some x.1) g3 (by simp [ltO]; exact hlt)⟩
    · split
      · rename_i hlt he
        unfold stuckGo
        simp only [Bool.and_eq_true]
        refine ⟨⟨g0, ?_, g2⟩, g3⟩
        simp only [inB, Bool.and_eq_true, decide_eq_true_eq] at g1 ⊢
        omega
      · rename_i hlt he
        unfold stuckGo stuckGo
        simp only [Bool.and_eq_true, decide_eq_true_eq]
        refine ⟨⟨hc, ?_, (by cases p with | none => rfl | some q => exact hp)⟩, ⟨g0, g1, by omega⟩, g3⟩
        simp only [inB, Bool.and_eq_true, decide_eq_true_eq]
        exact hn
end Bd
namespace Fa
/-- The state after a fault that can happen. -/
def hap (st : Bd.State) (x : Flt) : Bd.State :=
  if x.kind = 1 then { st with robots := Bd.upd (fun r => { r with dead := true }) st.robots x.a.toNat }
  else if x.kind = 2 then { st with dead := Bd.insC x.a st.dead }
  else if x.kind = 3 then { st with robots := Bd.upd (fun r => { r with mute := x.n }) st.robots x.a.toNat }
  else if x.kind = 4 then { st with stuck := Bd.stickL x.a x.n st.stuck }
  else if x.kind = 5 then { st with people := if x.a = (st.people.length : Int) then st.people ++ [x.n] else st.people.set x.a.toNat x.n }
  else st
theorem upd_right {f : Fl.Floor} {ns nr : Int} {st : Bd.State} {g : Bd.Robot → Bd.Robot} (hl : ∀ r, (g r).load = r.load) (hc : ∀ r, (g r).cell = r.cell) (hk : ∀ r, Bd.robOk f st.shelves r = true → Bd.robOk f st.shelves (g r) = true) (i : Nat)
    (h : Bd.rightB f ns nr st = true) : Bd.rightB f ns nr { st with robots := Bd.upd g st.robots i } = true := by
  have hcar : ∀ j, Bd.carried { st with robots := Bd.upd g st.robots i } j = Bd.carried st j := fun j => by
    have e := Bd.upd_map g (fun r => r.load) hl st.robots i
    have e2 := congrArg (fun m => m.any (fun x => x == (j : Int))) e
    simpa [Bd.carried, List.any_map, Function.comp_def] using e2
  have hall : Bd.allL { st with robots := Bd.upd g st.robots i } = Bd.allL st := by
    have e := Bd.upd_map g Bd.robotL (fun r => by unfold Bd.robotL; rw [hl, hc]) st.robots i
    have e1 : Bd.robotsL { st with robots := Bd.upd g st.robots i } = Bd.robotsL st := by
      unfold Bd.robotsL
      rw [List.flatMap_def, List.flatMap_def, e]
    have e2 : Bd.shelvesL { st with robots := Bd.upd g st.robots i } = Bd.shelvesL st := by
      unfold Bd.shelvesL
      have : Bd.shelfL { st with robots := Bd.upd g st.robots i } = Bd.shelfL st := by
        funext j; unfold Bd.shelfL; rw [hcar]
      rw [this]
    unfold Bd.allL
    rw [e1, e2]; rfl
  have hsh : Bd.shelvesB f { st with robots := Bd.upd g st.robots i } = Bd.shelvesB f st := by
    unfold Bd.shelvesB
    have : Bd.shelfOk f { st with robots := Bd.upd g st.robots i } = Bd.shelfOk f st := by
      funext j; unfold Bd.shelfOk; rw [hcar]
    rw [this]
  unfold Bd.rightB Bd.headB at h ⊢
  rw [hall, hsh]
  simp only [Bool.and_eq_true, decide_eq_true_eq] at h ⊢
  obtain ⟨⟨a1, a2, a3, a4, a5, a6⟩, b1, b2, b3⟩ := h
  exact ⟨⟨a1, a2, by rw [Bd.upd_len]; exact a3, a4, Bd.robGo_upd hl hc hk _ _ _ a5, a6⟩, b1, b2, b3⟩
theorem kindF_on {f : Fl.Floor} {c a b : Int} (ha : a ≠ 0) (h : kindF f c = a ∨ kindF f c = b) (hb : b ≠ 0) : Bd.onB f c a b = true := by
  unfold kindF at h
  unfold Bd.onB
  split at h
  · rename_i hc
    simp only [Bool.and_eq_true, Bool.or_eq_true, decide_eq_true_eq]
    exact ⟨hc.1, hc.2, h⟩
  · rcases h with h | h
    · exact absurd h.symm ha
    · exact absurd h.symm hb
theorem people_right {f : Fl.Floor} {ns nr : Int} {st : Bd.State} {ps : List Int} (h : Bd.rightB f ns nr st = true) (hl : (ps.length : Int) ≤ 20) (hp : ∀ c ∈ ps, Bd.onB f c 4 5 = true) (hn : (Bd.allL { st with people := ps }).Nodup) :
    Bd.rightB f ns nr { st with people := ps } = true := by
  unfold Bd.rightB Bd.headB at h ⊢
  simp only [Bool.and_eq_true, decide_eq_true_eq] at h ⊢
  obtain ⟨⟨a1, a2, a3, a4, a5, a6⟩, b1, b2, b3⟩ := h
  refine ⟨⟨a1, a2, a3, hl, a5, a6⟩, b1, ?_, hn⟩
  unfold Bd.peopleB
  rw [List.all_eq_true]
  exact hp
theorem held_none {st : Bd.State} {c : Int} (h : Bd.heldB st c = false) : 2 * c ∉ Bd.allL st ∧ 2 * c + 1 ∉ Bd.allL st := by
  unfold Bd.heldB at h
  rw [List.any_eq_false] at h
  exact ⟨fun hm => by simpa using h _ hm, fun hm => by simpa using h _ hm⟩
theorem people_nodup {st : Bd.State} {ps : List Int} {c : Int} (h : (Bd.allL st).Nodup) (hc : Bd.heldB st c = false) (hp : ∃ m, (ps.flatMap Bd.personL).Perm (Bd.personL c ++ m) ∧ m.Sublist (Bd.peopleL st)) : (Bd.allL { st with people := ps }).Nodup := by
  obtain ⟨m, h1, h2⟩ := hp
  have e : Bd.allL { st with people := ps } = Bd.robotsL st ++ (Bd.shelvesL st ++ ps.flatMap Bd.personL) := rfl
  rw [e]
  have hs : (Bd.robotsL st ++ (Bd.shelvesL st ++ m)).Sublist (Bd.allL st) := List.Sublist.append (List.Sublist.refl _) (List.Sublist.append (List.Sublist.refl _) h2)
  have hn := hs.nodup h
  have hp2 : (Bd.robotsL st ++ (Bd.shelvesL st ++ ps.flatMap Bd.personL)).Perm (Bd.personL c ++ (Bd.robotsL st ++ (Bd.shelvesL st ++ m))) := by
    refine (List.Perm.append_left _ (List.Perm.append_left _ h1)).trans ?_
    have := List.perm_append_comm_assoc (Bd.robotsL st ++ Bd.shelvesL st) (Bd.personL c) m
    rw [List.append_assoc, List.append_assoc] at this
    exact this
  rw [hp2.nodup_iff]
  obtain ⟨g1, g2⟩ := held_none hc
  unfold Bd.personL
  rw [List.cons_append, List.cons_append, List.nil_append, List.nodup_cons, List.nodup_cons]
  refine ⟨?_, fun hm => g2 (hs.subset hm), hn⟩
  rw [List.mem_cons, not_or]
  exact ⟨by omega, fun hm => g1 (hs.subset hm)⟩
theorem flat_set : ∀ (l : List Int) (i : Nat) (c : Int), i < l.length → ∃ m, ((l.set i c).flatMap Bd.personL).Perm (Bd.personL c ++ m) ∧ m.Sublist (l.flatMap Bd.personL)
  | [], i, c, h => by simp at h
  | x :: l, 0, c, h => ⟨l.flatMap Bd.personL, by rw [List.set_cons_zero, List.flatMap_cons], by rw [List.flatMap_cons]; exact List.sublist_append_right _ _⟩
  | x :: l, i + 1, c, h => by
    obtain ⟨m, h1, h2⟩ := flat_set l i c (by simpa using h)
    refine ⟨Bd.personL x ++ m, ?_, ?_⟩
    · rw [List.set_cons_succ, List.flatMap_cons]
      refine (List.Perm.append_left _ h1).trans ?_
      rw [← List.append_assoc, ← List.append_assoc]
      exact List.Perm.append_right _ List.perm_append_comm
    · rw [List.flatMap_cons]
      exact List.Sublist.append (List.Sublist.refl _) h2
theorem live_lt {st : Bd.State} {i : Int} (h : live st i = true) : 0 ≤ i ∧ i < (st.robots.length : Int) := by
  unfold live at h
  simp only [Bool.and_eq_true, decide_eq_true_eq] at h
  exact ⟨h.1, h.2.1⟩
/-- The state after a fault that can happen is right. -/
theorem hap_right {f : Fl.Floor} {ns nr : Int} {st : Bd.State} {x : Flt} (h : Bd.rightB f ns nr st = true) (hp : possB f st x = true) : Bd.rightB f ns nr (hap st x) = true := by
  unfold possB at hp
  unfold hap
  split
  · exact upd_right (g := fun r => { r with dead := true }) (fun _ => rfl) (fun _ => rfl) (fun r hr => hr) _ h
  split
  · rename_i h1 h2
    rw [if_neg (by omega), if_neg h1, if_pos h2] at hp
    simp only [Bool.and_eq_true, Bool.not_eq_true', decide_eq_false_iff_not, List.contains_eq_mem, decide_eq_false_iff_not] at hp
    obtain ⟨p1, p2⟩ := hp
    have hk : 0 ≤ x.a ∧ x.a < (f.kind.length : Int) := by
      unfold kindF at p1
      split at p1
      · assumption
      · exact absurd rfl p1
    unfold Bd.rightB Bd.headB at h ⊢
    simp only [Bool.and_eq_true, decide_eq_true_eq] at h ⊢
    obtain ⟨⟨a1, a2, a3, a4, a5, a6⟩, b1, b2, b3⟩ := h
    refine ⟨⟨a1, a2, a3, a4, a5, ?_⟩, b1, b2, b3⟩
    unfold Bd.restB at a6 ⊢
    simp only [Bool.and_eq_true] at a6 ⊢
    exact ⟨Bd.deadGo_ins hk.1 hk.2 _ _ a6.1 rfl p2, a6.2⟩
  split
  · rename_i h1 h2 h3
    rw [if_neg (by omega), if_neg h1, if_neg h2, if_pos h3] at hp
    simp only [Bool.and_eq_true, longB, decide_eq_true_eq] at hp
    refine upd_right (g := fun r => { r with mute := x.n }) (fun _ => rfl) (fun _ => rfl) (fun r hr => ?_) _ h
    unfold Bd.robOk Bd.inB at hr ⊢
    simp only [Bool.and_eq_true, decide_eq_true_eq, Bool.not_eq_true', decide_eq_false_iff_not] at hr ⊢
    obtain ⟨q1, q2, q3, q4⟩ := hr
    exact ⟨q1, q2, q3, by omega, hp.2.2⟩
  split
  · rename_i h1 h2 h3 h4
    rw [if_neg (by omega), if_neg h1, if_neg h2, if_neg h3, if_pos h4] at hp
    simp only [Bool.and_eq_true, longB, decide_eq_true_eq] at hp
    unfold Bd.rightB Bd.headB at h ⊢
    simp only [Bool.and_eq_true, decide_eq_true_eq] at h ⊢
    obtain ⟨⟨a1, a2, a3, a4, a5, a6⟩, b1, b2, b3⟩ := h
    refine ⟨⟨a1, a2, a3, a4, a5, ?_⟩, b1, b2, b3⟩
    unfold Bd.restB at a6 ⊢
    simp only [Bool.and_eq_true] at a6 ⊢
    exact ⟨a6.1, Bd.stuckGo_ins (kindF_on (by omega) (.inl hp.1) (by omega)) hp.2 _ _ a6.2 rfl⟩
  split
  · rename_i h1 h2 h3 h4 h5
    rw [if_neg (by omega), if_neg h1, if_neg h2, if_neg h3, if_neg h4, if_pos h5] at hp
    unfold stepB at hp
    simp only [Bool.and_eq_true, Bool.or_eq_true, decide_eq_true_eq, Bool.not_eq_true'] at hp
    obtain ⟨k1, k2, k3⟩ := hp
    have hon : Bd.onB f x.n 4 5 = true := kindF_on (by omega) k1 (by omega)
    have h0 := h
    unfold Bd.rightB Bd.headB at h0
    simp only [Bool.and_eq_true, decide_eq_true_eq] at h0
    obtain ⟨⟨-, -, -, a4, -, -⟩, -, b2, b3⟩ := h0
    unfold Bd.peopleB at b2
    rw [List.all_eq_true] at b2
    split
    · rename_i he
      rw [if_pos he] at k3
      simp only [Bool.and_eq_true, decide_eq_true_eq] at k3
      refine people_right h (by simp only [List.length_append, List.length_singleton]; omega) (fun c hc => ?_) (people_nodup b3 k2 ⟨Bd.peopleL st, ?_, List.Sublist.refl _⟩)
      · rcases List.mem_append.1 hc with hc | hc
        · exact b2 c hc
        · rw [List.mem_singleton.1 hc]; exact hon
      · rw [List.flatMap_append, List.flatMap_cons, List.flatMap_nil, List.append_nil]
        exact List.perm_append_comm
    · rename_i he
      rw [if_neg he] at k3
      simp only [Bool.and_eq_true, decide_eq_true_eq] at k3
      refine people_right h (by rw [List.length_set]; exact a4) (fun c hc => ?_) (people_nodup b3 k2 (flat_set _ _ _ (by omega)))
      rcases List.mem_or_eq_of_mem_set hc with hc | hc
      · exact b2 c hc
      · rw [hc]; exact hon
  · exact h
end Fa
end Go.Proofs.YtcdfmgobokjcnaaGreat
/- Walks of package arena: stick's closure; slices.IndexFunc at stuck lifts. -/
namespace Go.Proofs.YtcdfmgobokjcnaaGreat
set_option linter.unusedSimpArgs false
set_option linter.unusedVariables false
open Go.RowKit

namespace Bd
/-- The place of a cell among stuck lifts: none before it, as slices.IndexFunc tells it. -/
def PlaceS (c : Int) (l : List (Int × Int)) (r : Int) : Prop := (r = -1 ∧ ∀ x ∈ l, x.1 < c) ∨ ∃ k : Nat, ∃ h : k < l.length, r = (k : Int) ∧ (∀ x ∈ l.take k, x.1 < c) ∧ c ≤ l[k].1
theorem stickL_end {c n : Int} : ∀ {l : List (Int × Int)}, (∀ x ∈ l, x.1 < c) → stickL c n l = l ++ [(c, n)]
  | [], _ => rfl
  | x :: l, h => by
    unfold stickL
    rw [if_pos (h x (List.mem_cons_self ..)), stickL_end (fun y hy => h y (List.mem_cons_of_mem _ hy))]; rfl
theorem stickL_at {c n : Int} : ∀ {l : List (Int × Int)} {k : Nat} (hk : k < l.length), (∀ x ∈ l.take k, x.1 < c) → c ≤ l[k].1 →
    stickL c n l = if l[k].1 = c then l.set k (c, max l[k].2 n) else l.take k ++ (c, n) :: l.drop k
  | [], k, hk, _, _ => by simp at hk
  | x :: l, 0, _, _, h2 => by
    simp only [List.getElem_cons_zero] at h2 ⊢
    unfold stickL
    rw [if_neg (by omega)]
    split
    · rename_i e; rw [e]; rfl
    · rfl
  | x :: l, k + 1, hk, h1, h2 => by
    have hk2 : k < l.length := by simpa using hk
    simp only [List.getElem_cons_succ] at h2 ⊢
    rw [List.take_succ_cons] at h1
    unfold stickL
    rw [if_pos (h1 x (List.mem_cons_self ..)), stickL_at hk2 (fun y hy => h1 y (List.mem_cons_of_mem _ hy)) h2]
    split <;> simp
end Bd
set_option maxRecDepth 100000 in
set_option maxHeartbeats 8000000 in
theorem stick1_any (x : Int × Int) (pb po : Nat) (c : Int) (w : World) (hp : w.cell? ⟨pb, po, none⟩ = some (.int .i64 c)) :
    Calls Tryz.prog 88 #[.agg #[.int .i64 x.1, .int .i64 x.2], .pointer (some ⟨pb, po, none⟩)] w fun e w' => e = .returned (.bool (decide (c ≤ x.1))) ∧ Below w.heap.size w w' := by
  have hlt := cell_block_lt hp
  dsimp only at hlt
  obtain ⟨X, hX⟩ : ∃ X, x.1 = X := ⟨_, rfl⟩
  rw [hX]
  have HB := Lib.hid (al1 w (.cells #[.int .i64 X, .int .i64 x.2] 134))
  clear hX
  go_enter Tryz.func88, Tryz.ntmps88
  go_wp2_with fail
  go_ret
  exact ⟨rfl, HB.out.2.1⟩
set_option maxRecDepth 100000 in
set_option maxHeartbeats 8000000 in
theorem indexS_any (v : Value) (l : List (Int × Int)) (pb po : Nat) (c : Int) (w : World) (h : Rw w v 2 (l.map spanC)) (hp : w.cell? ⟨pb, po, none⟩ = some (.int .i64 c)) :
    Calls Tryz.prog 87 #[v, .func (.func 88) #[] #[.pointer (some ⟨pb, po, none⟩)]] w fun e w' => (∃ r : Int, e = .returned (.int .i64 r) ∧ Bd.PlaceS c l r) ∧ Below w.heap.size w w' := by
  obtain ⟨a, cap, rfl, hm⟩ := Rw.form h
  rw [List.length_map] at hm h ⊢
  have hpb : pb < w.heap.size := cell_block_lt hp
  have H := Lib.hid h
  have HP := Lib.hid hp
  obtain ⟨n, hn⟩ : ∃ n, l.length = n := ⟨_, rfl⟩
  rw [hn] at hm H ⊢
  have HN := Lib.hid hn
  have HR : Hid (∀ x ∈ l.take 0, x.1 < c) := Lib.hid (by simp)
  clear h hp hn
  go_enter Tryz.func87, Tryz.ntmps87
  go_wp2_with fail
  go_loopw [8] (fun iv wr => ∃ (k : Nat), k ≤ n ∧ iv = .int .i64 k ∧ Hid (∀ x ∈ l.take k, x.1 < c) ∧ Hid (Below w.heap.size w wr)) (fun iv _ => n - (intOf iv).toNat)
  case atStart => exact ⟨0, by omega, rfl, HR, Lib.hid (Below.refl _ w)⟩
  case round =>
    obtain ⟨k, hk, rfl, HK, HU⟩ := hrel
    by_cases hkn : k < n
    · have hkl : k < l.length := by rw [HN.out]; exact hkn
      obtain ⟨b, off, e1, hbl, cc⟩ := Rw.cell H.out k (by simpa using hkl)
      rw [List.getElem_map] at cc
      have c0 := cc 0 (by omega)
      have c1 := cc 1 (by omega)
      subst e1
      have HT := Lib.hid (List.take_succ_eq_append_getElem hkl)
      have HPL : Hid (c ≤ l[k].1 → Bd.PlaceS c l (k : Int)) := Lib.hid (fun h => .inr ⟨k, hkl, rfl, HK.out, h⟩)
      obtain ⟨x, hx⟩ : ∃ x, l[k] = x := ⟨_, rfl⟩
      rw [hx] at c0 c1 HT HPL
      simp only [spanC, List.getElem?_cons_zero, List.getElem?_cons_succ, Nat.add_zero] at c0 c1
      have HU2 := HU.out
      rw [← HU2.cell (p := ⟨b, off + k * 2, none⟩) hbl] at c0
      rw [← HU2.cell (p := ⟨b, off + k * 2 + 1, none⟩) hbl] at c1
      have hpr : wr.cell? ⟨pb, po, none⟩ = some (.int .i64 c) := by rw [HU2.cell (p := ⟨pb, po, none⟩) hpb]; exact HP.out
      have HC := Lib.hid (stick1_any x pb po c wr hpr)
      have k1 : (k : Int) < (n : Int) := by omega
      have k0 : (0 : Int) ≤ (k : Int) := by omega
      clear hx hpr HU2 cc
      by_cases hz : c ≤ x.1
      · rw [decide_eq_true hz] at HC
        have HPX := Lib.hid (HPL.out hz)
        clear hz
        go_wp2_with fail
        go_at_call 88; refine HC.out.mono ?_; rintro e w3 ⟨rfl, hu3⟩
        have HU3 := Lib.hid (HU.out.trans (hu3.mono HU.out.size))
        clear hu3
        go_wp2_with fail
        go_ret
        exact ⟨⟨(k : Int), rfl, HPX.out⟩, HU3.out⟩
      · rw [decide_eq_false hz] at HC
        have HKN : Hid (∀ y ∈ l.take (k + 1), y.1 < c) := Lib.hid (fun y hy => by
          rw [HT.out, List.mem_append, List.mem_singleton] at hy
          rcases hy with hy | rfl
          · exact HK.out y hy
          · omega)
        clear hz
        go_wp2_with fail
        go_at_call 88; refine HC.out.mono ?_; rintro e w3 ⟨rfl, hu3⟩
        have HU3 := Lib.hid (HU.out.trans (hu3.mono HU.out.size))
        clear hu3
        go_wp2_with fail
        go_roundw
        case rel => exact ⟨k + 1, by omega, by go_num, HKN, HU3⟩
        case measure => simp [intOf]; omega
    · have HF : Hid (Bd.PlaceS c l (-1)) := Lib.hid (.inl ⟨rfl, by have := HK.out; rwa [List.take_of_length_le (by rw [HN.out]; omega)] at this⟩)
      go_wp2_with fail
      go_ret
      exact ⟨⟨-1, rfl, HF.out⟩, HU.out⟩
end Go.Proofs.YtcdfmgobokjcnaaGreat
/- Walks of package taquinlaw29: has. -/
namespace Go.Proofs.YtcdfmgobokjcnaaGreat
set_option linter.unusedSimpArgs false
set_option linter.unusedVariables false
open Go.RowKit

set_option maxRecDepth 100000 in
set_option maxHeartbeats 8000000 in
theorem has_any (l : List Fa.Flt) (f : Fa.Flt) (v : Value) (w : World) (h : FtV w v l) :
    Calls Tryz.prog 16 #[v, fltV f] w fun e w' => e = .returned (.bool (decide (f ∈ l))) ∧ Below w.heap.size w w' := by
  have HV0 := Lib.hid h
  obtain ⟨a, cap, rfl, hm⟩ := h.form
  obtain ⟨n, en⟩ : ∃ n, l.length = n := ⟨_, rfl⟩
  rw [en] at hm HV0
  rw [en]
  have HN := Lib.hid en
  unfold fltV
  obtain ⟨w2, hw2⟩ : ∃ W, W = w.alloc (.cells #[.int .i64 f.kind, .int .i64 f.a, .int .i64 f.n] 38) := ⟨_, rfl⟩
  have ga := al1 w (.cells #[.int .i64 f.kind, .int .i64 f.a, .int .i64 f.n] 38)
  rw [← hw2] at ga
  have IT := Lib.hid ga.1
  have B2 := Lib.hid ga.2.1
  have HV := Lib.hid (HV0.out.keep B2.out)
  have HW2 := Lib.hid hw2
  have lt : w.heap.size < w2.heap.size := heap_lt IT.out
  have CX : Hid (∀ W, Below w2.heap.size w2 W → W.heap[w.heap.size]? = some (.cells #[.int .i64 f.kind, .int .i64 f.a, .int .i64 f.n] 38 (0, 0))) := Lib.hid (fun W hW => keep_heap IT.out hW)
  have U0 := Lib.hid (Below.refl w2.heap.size w2)
  have HB0 : Hid (∀ W, Below w2.heap.size w2 W → Below w.heap.size w W) := Lib.hid (fun W hW => B2.out.trans (hW.mono B2.out.size))
  have HE : Hid (∀ x y : Fa.Flt, ∀ W, (binOp .eql 38 (.agg #[.int .i64 x.kind, .int .i64 x.a, .int .i64 x.n]) (.agg #[.int .i64 y.kind, .int .i64 y.a, .int .i64 y.n])).run Tryz.prog W = .ok (.bool (decide (x = y))) W) := Lib.hid flt_eql
  have HNO0 : Hid (f ∉ l.take 0) := Lib.hid (by simp)
  clear h en hw2 ga
  go_enter Tryz.func16, Tryz.ntmps16
  go_upto_region 1 with fail
  rw [← HW2.out]
  go_upto_region 2 with fail
  go_loopw [5] (fun iv wr => ∃ k : Nat, k ≤ n ∧ iv = .int .i64 k ∧ Hid (f ∉ l.take k) ∧ Hid (Below w2.heap.size w2 wr)) (fun iv _ => n - (intOf iv).toNat)
  case atStart => exact ⟨0, by omega, rfl, HNO0, U0⟩
  case round =>
    clear HNO0 U0
    obtain ⟨k, hk, rfl, HNO, HU⟩ := hrel
    by_cases hkn : k < n
    · have hkl : k < l.length := by rw [HN.out]; exact hkn
      obtain ⟨bb, o, e1, hbb, x0, x1, x2⟩ := (HV.out.keep HU.out).cell k hkl
      subst e1
      have HM := Lib.hid (List.getElem_mem hkl)
      have HT := Lib.hid (List.take_succ_eq_append_getElem hkl)
      obtain ⟨X, hX⟩ : ∃ X, l[k] = X := ⟨_, rfl⟩
      rw [hX] at x0 x1 x2 HM HT
      clear hX hkl
      have i0 : (0 : Int) ≤ (k : Int) := by omega
      have i1 : (k : Int) < (n : Int) := by omega
      have c0 := cell_of_heap (CX.out _ HU.out) 0 rfl
      have c1 := cell_of_heap (CX.out _ HU.out) 1 rfl
      have c2 := cell_of_heap (CX.out _ HU.out) 2 rfl
      have hq := HE.out X f
      have HUD : Hid (Below w2.heap.size w2 wr.drew) := Lib.hid (HU.out.trans ⟨rfl, rfl, rfl, Nat.le_refl _, fun _ _ => rfl⟩)
      by_cases hc : X = f
      · have hd : decide (X = f) = true := decide_eq_true hc
        have HF : Hid (decide (f ∈ l) = true) := Lib.hid (decide_eq_true (hc ▸ HM.out))
        rw [hd] at hq
        clear hc
        go_upto_region 4 with fail
        refine wp_region_held_drew (S := fun W' => W'.cell? ⟨bb, o + k * 3, none⟩ = some (.int .i64 X.kind) ∧ W'.cell? ⟨bb, o + k * 3 + 1, none⟩ = some (.int .i64 X.a) ∧ W'.cell? ⟨bb, o + k * 3 + 2, none⟩ = some (.int .i64 X.n) ∧ W'.cell? ⟨w.heap.size, 0, none⟩ = some (.int .i64 f.kind) ∧ W'.cell? ⟨w.heap.size, 1, none⟩ = some (.int .i64 f.a) ∧ W'.cell? ⟨w.heap.size, 2, none⟩ = some (.int .i64 f.n)) (by kernel_rfl) ⟨x0, x1, x2, c0, c1, c2⟩ (fun hHeld => ?_)
        refine wpAnyH_take (i := 0) (oi := _) (v := ?_) rfl (by kernel_rfl) (by kernel_rfl) (by kernel_rfl) (fun _ _ _ h => h) (Or.inl ⟨by rfl, ?_⟩) (by assumption) ?_
        rotate_left
        · intro w hSw; obtain ⟨k0, k1, k2, k3, k4, k5⟩ := hSw; go_simp; all_goals (with_reducible rfl)
        try simp only [Act.put, List.getElem_toArray, List.getElem_cons_zero, List.getElem_cons_succ, List.setIfInBounds_toArray, List.set_cons_zero, List.set_cons_succ]
        refine wpAnyH_take (i := 1) (oi := _) (v := ?_) rfl (by kernel_rfl) (by kernel_rfl) (by kernel_rfl) (fun _ _ _ h => h) (Or.inl ⟨by rfl, ?_⟩) (by assumption) ?_
        rotate_left
        · intro w hSw; obtain ⟨k0, k1, k2, k3, k4, k5⟩ := hSw; go_simp; all_goals (with_reducible rfl)
        try simp only [Act.put, List.getElem_toArray, List.getElem_cons_zero, List.getElem_cons_succ, List.setIfInBounds_toArray, List.set_cons_zero, List.set_cons_succ]
        refine wpAnyH_take (i := 2) (oi := _) (v := ?_) rfl (by kernel_rfl) (by kernel_rfl) (by kernel_rfl) (fun _ _ _ h => h) (Or.inl ⟨by rfl, ?_⟩) (by assumption) ?_
        rotate_left
        · intro w hSw; obtain ⟨k0, k1, k2, k3, k4, k5⟩ := hSw; go_simp; all_goals (with_reducible rfl)
        try simp only [Act.put, List.getElem_toArray, List.getElem_cons_zero, List.getElem_cons_succ, List.setIfInBounds_toArray, List.set_cons_zero, List.set_cons_succ]
        refine wpAnyH_take (i := 3) (oi := _) (v := ?_) rfl (by kernel_rfl) (by kernel_rfl) (by kernel_rfl) (fun _ _ _ h => h) (Or.inl ⟨by rfl, ?_⟩) (by assumption) ?_
        rotate_left
        · intro w hSw; obtain ⟨k0, k1, k2, k3, k4, k5⟩ := hSw; go_simp; all_goals (with_reducible rfl)
        try simp only [Act.put, List.getElem_toArray, List.getElem_cons_zero, List.getElem_cons_succ, List.setIfInBounds_toArray, List.set_cons_zero, List.set_cons_succ]
        refine wpAnyH_take (i := 4) (oi := _) (v := ?_) rfl (by kernel_rfl) (by kernel_rfl) (by kernel_rfl) (fun _ _ _ h => h) (Or.inl ⟨by rfl, ?_⟩) (by assumption) ?_
        rotate_left
        · intro w hSw; obtain ⟨k0, k1, k2, k3, k4, k5⟩ := hSw; go_simp; all_goals (with_reducible rfl)
        try simp only [Act.put, List.getElem_toArray, List.getElem_cons_zero, List.getElem_cons_succ, List.setIfInBounds_toArray, List.set_cons_zero, List.set_cons_succ]
        refine wpAnyH_take (i := 5) (oi := _) (v := ?_) rfl (by kernel_rfl) (by kernel_rfl) (by kernel_rfl) (fun _ _ _ h => h) (Or.inl ⟨by rfl, ?_⟩) (by assumption) ?_
        rotate_left
        · intro w hSw; obtain ⟨k0, k1, k2, k3, k4, k5⟩ := hSw; go_simp; all_goals (with_reducible rfl)
        try simp only [Act.put, List.getElem_toArray, List.getElem_cons_zero, List.getElem_cons_succ, List.setIfInBounds_toArray, List.set_cons_zero, List.set_cons_succ]
        refine wpAnyH_done (by kernel_rfl) ?_ _
        go_wp2_with fail
        go_ret
        exact ⟨by rw [HF.out]; rfl, HB0.out _ HUD.out⟩
      · have hd : decide (X = f) = false := decide_eq_false hc
        have HNX : Hid (f ∉ l.take (k + 1)) := Lib.hid (by rw [HT.out]; simp only [List.mem_append, List.mem_singleton, not_or]; exact ⟨HNO.out, fun h => hc h.symm⟩)
        rw [hd] at hq
        clear hc
        go_upto_region 4 with fail
        refine wp_region_held_drew (S := fun W' => W'.cell? ⟨bb, o + k * 3, none⟩ = some (.int .i64 X.kind) ∧ W'.cell? ⟨bb, o + k * 3 + 1, none⟩ = some (.int .i64 X.a) ∧ W'.cell? ⟨bb, o + k * 3 + 2, none⟩ = some (.int .i64 X.n) ∧ W'.cell? ⟨w.heap.size, 0, none⟩ = some (.int .i64 f.kind) ∧ W'.cell? ⟨w.heap.size, 1, none⟩ = some (.int .i64 f.a) ∧ W'.cell? ⟨w.heap.size, 2, none⟩ = some (.int .i64 f.n)) (by kernel_rfl) ⟨x0, x1, x2, c0, c1, c2⟩ (fun hHeld => ?_)
        refine wpAnyH_take (i := 0) (oi := _) (v := ?_) rfl (by kernel_rfl) (by kernel_rfl) (by kernel_rfl) (fun _ _ _ h => h) (Or.inl ⟨by rfl, ?_⟩) (by assumption) ?_
        rotate_left
        · intro w hSw; obtain ⟨k0, k1, k2, k3, k4, k5⟩ := hSw; go_simp; all_goals (with_reducible rfl)
        try simp only [Act.put, List.getElem_toArray, List.getElem_cons_zero, List.getElem_cons_succ, List.setIfInBounds_toArray, List.set_cons_zero, List.set_cons_succ]
        refine wpAnyH_take (i := 1) (oi := _) (v := ?_) rfl (by kernel_rfl) (by kernel_rfl) (by kernel_rfl) (fun _ _ _ h => h) (Or.inl ⟨by rfl, ?_⟩) (by assumption) ?_
        rotate_left
        · intro w hSw; obtain ⟨k0, k1, k2, k3, k4, k5⟩ := hSw; go_simp; all_goals (with_reducible rfl)
        try simp only [Act.put, List.getElem_toArray, List.getElem_cons_zero, List.getElem_cons_succ, List.setIfInBounds_toArray, List.set_cons_zero, List.set_cons_succ]
        refine wpAnyH_take (i := 2) (oi := _) (v := ?_) rfl (by kernel_rfl) (by kernel_rfl) (by kernel_rfl) (fun _ _ _ h => h) (Or.inl ⟨by rfl, ?_⟩) (by assumption) ?_
        rotate_left
        · intro w hSw; obtain ⟨k0, k1, k2, k3, k4, k5⟩ := hSw; go_simp; all_goals (with_reducible rfl)
        try simp only [Act.put, List.getElem_toArray, List.getElem_cons_zero, List.getElem_cons_succ, List.setIfInBounds_toArray, List.set_cons_zero, List.set_cons_succ]
        refine wpAnyH_take (i := 3) (oi := _) (v := ?_) rfl (by kernel_rfl) (by kernel_rfl) (by kernel_rfl) (fun _ _ _ h => h) (Or.inl ⟨by rfl, ?_⟩) (by assumption) ?_
        rotate_left
        · intro w hSw; obtain ⟨k0, k1, k2, k3, k4, k5⟩ := hSw; go_simp; all_goals (with_reducible rfl)
        try simp only [Act.put, List.getElem_toArray, List.getElem_cons_zero, List.getElem_cons_succ, List.setIfInBounds_toArray, List.set_cons_zero, List.set_cons_succ]
        refine wpAnyH_take (i := 4) (oi := _) (v := ?_) rfl (by kernel_rfl) (by kernel_rfl) (by kernel_rfl) (fun _ _ _ h => h) (Or.inl ⟨by rfl, ?_⟩) (by assumption) ?_
        rotate_left
        · intro w hSw; obtain ⟨k0, k1, k2, k3, k4, k5⟩ := hSw; go_simp; all_goals (with_reducible rfl)
        try simp only [Act.put, List.getElem_toArray, List.getElem_cons_zero, List.getElem_cons_succ, List.setIfInBounds_toArray, List.set_cons_zero, List.set_cons_succ]
        refine wpAnyH_take (i := 5) (oi := _) (v := ?_) rfl (by kernel_rfl) (by kernel_rfl) (by kernel_rfl) (fun _ _ _ h => h) (Or.inl ⟨by rfl, ?_⟩) (by assumption) ?_
        rotate_left
        · intro w hSw; obtain ⟨k0, k1, k2, k3, k4, k5⟩ := hSw; go_simp; all_goals (with_reducible rfl)
        try simp only [Act.put, List.getElem_toArray, List.getElem_cons_zero, List.getElem_cons_succ, List.setIfInBounds_toArray, List.set_cons_zero, List.set_cons_succ]
        refine wpAnyH_done (by kernel_rfl) ?_ _
        go_wp2_with fail
        go_roundw
        case rel => exact ⟨k + 1, by omega, by go_num, HNX, HUD⟩
        case measure => simp [intOf]; omega
    · have he : k = n := by omega
      have HF : Hid (decide (f ∈ l) = false) := Lib.hid (decide_eq_false (by have := HNO.out; rwa [List.take_of_length_le (by rw [HN.out]; omega)] at this))
      have i1 : ¬ ((k : Int) < (n : Int)) := by omega
      go_wp2_with fail
      go_ret
      exact ⟨by rw [HF.out]; rfl, HB0.out _ HU.out⟩
end Go.Proofs.YtcdfmgobokjcnaaGreat
/- What FaultOnce says of the lists, in plain words. Nothing of the program is imported. -/
namespace Go.Proofs.YtcdfmgobokjcnaaGreat
set_option linter.unusedSimpArgs false
set_option linter.unusedVariables false
namespace Bd
theorem upd_get {α : Type} (g : α → α) : ∀ (l : List α) (i : Nat) (h : i < l.length), (upd g l i)[i]? = some (g l[i])
  | [], _, h => by simp at h
  | _ :: _, 0, _ => rfl
  | _ :: l, i + 1, h => by
    have := upd_get g l i (by simpa using h)
    simpa [upd] using this
theorem mem_insC (c : Int) : ∀ l : List Int, c ∈ insC c l
  | [] => by simp [insC]
  | d :: l => by
    unfold insC
    split
    · simp
    · exact List.mem_cons_of_mem _ (mem_insC c l)
end Bd
namespace Fa
/-- Every cell of the floor. -/
def AllIn (f : Fl.Floor) (cells : List Int) : Prop := ∀ c : Int, 0 ≤ c → c < (f.kind.length : Int) → c ∈ cells
theorem kindF_in {f : Fl.Floor} {cells : List Int} (ha : AllIn f cells) {c : Int} (h : kindF f c ≠ 0) : c ∈ cells := by
  unfold kindF at h
  split at h
  · rename_i hc
    exact ha c hc.1 hc.2
  · exact absurd rfl h
theorem Listed.more {f : Fl.Floor} {ns nr : Int} {st : Bd.State} {b : Bud} {cells few : List Int} {l m : List Flt} (hr : Bd.rightB f ns nr st = true) (ha : AllIn f cells)
    (h : Listed f st b cells l) (h2 : Listed f st b few m) (x : Flt) (hx : x ∈ m) : x ∈ l := by
  obtain ⟨hp, hal, hc⟩ := h2.ok hx
  have hcand := ((h2.mem x).1 hx).1
  have hrob := (Bd.right_robots hr).2
  have k2 : x.kind = 2 → x.a ∈ cells := fun e => by
    unfold possB at hp
    rw [if_neg (by omega), if_neg (by omega), if_pos e] at hp
    simp only [Bool.and_eq_true, Bool.not_eq_true', decide_eq_false_iff_not] at hp
    exact kindF_in ha hp.1
  have k4 : x.kind = 4 → x.a ∈ cells := fun e => by
    unfold possB at hp
    rw [if_neg (by omega), if_neg (by omega), if_neg (by omega), if_neg (by omega), if_pos e] at hp
    simp only [Bool.and_eq_true, decide_eq_true_eq] at hp
    exact kindF_in ha (by omega)
  have k5 : x.kind = 5 → x.n ∈ cells := fun e => by
    unfold possB at hp
    rw [if_neg (by omega), if_neg (by omega), if_neg (by omega), if_neg (by omega), if_neg (by omega), if_pos e] at hp
    unfold stepB at hp
    simp only [Bool.and_eq_true, Bool.or_eq_true, decide_eq_true_eq] at hp
    exact kindF_in ha (by omega)
  have kr : 0 ≤ x.a → x.a < (st.robots.length : Int) → cellOf st x.a.toNat ∈ cells := fun h1 h2 => by
    have hi : x.a.toNat < st.robots.length := by omega
    unfold cellOf
    rw [List.getElem?_eq_getElem hi]
    have := (hrob _ (List.getElem_mem hi)).1
    exact ha _ this.1 this.2
  refine (h.mem x).2 ⟨?_, ?_⟩
  · unfold Cand at hcand ⊢
    rcases hcand with e | ⟨e, h1, h2⟩ | ⟨e, h1, h2⟩ | ⟨e, h1, h2⟩ | ⟨e, h1, h2⟩ | ⟨e, h1, h2⟩
    · exact .inl e
    · exact .inr (.inl ⟨e, h1, h2⟩)
    · exact .inr (.inr (.inl ⟨e, k2 e, h2⟩))
    · exact .inr (.inr (.inr (.inl ⟨e, h1, h2⟩)))
    · exact .inr (.inr (.inr (.inr (.inl ⟨e, k4 e, h2⟩))))
    · exact .inr (.inr (.inr (.inr (.inr ⟨e, h1, k5 e⟩))))
  · unfold okB
    rw [hal, hp, Bool.true_and, Bool.and_true]
    unfold concB at hc ⊢
    split
    · rfl
    split
    · rename_i h0 h1
      rw [if_neg h0, if_pos h1] at hc
      simp only [Bool.and_eq_true, decide_eq_true_eq, List.contains_eq_mem] at hc ⊢
      exact ⟨hc.1, hc.2.1, kr hc.1 hc.2.1⟩
    split
    · rename_i h0 h1 h2
      simp only [List.contains_eq_mem, decide_eq_true_eq]
      rcases h2 with e | e
      · exact k2 e
      · exact k4 e
    split
    · rename_i h0 h1 h2 h3
      simp only [List.contains_eq_mem, decide_eq_true_eq]
      exact k5 h3
    · rename_i h0 h1 h2 h3
      rw [if_neg h0, if_neg h1, if_neg h2, if_neg h3] at hc
      exact hc
theorem num_rest (b : Bud) (f : Flt) (k : Int) : num (rest b [f]) k ≤ num b k := by
  have := cnt_nonneg [f]
  have := this 1; have := cnt_nonneg [f] 2; have := cnt_nonneg [f] 3; have := cnt_nonneg [f] 4; have := cnt_nonneg [f] 5
  unfold num rest
  dsimp only
  split
  · omega
  split
  · omega
  split
  · omega
  split <;> omega
theorem Listed.less {f : Fl.Floor} {st : Bd.State} {b c : Bud} {cells : List Int} {l m : List Flt} {x : Flt} (hb : Nn b) (hs : spend b x = some c)
    (h : Listed f st b cells l) (h2 : Listed f st c cells m) (y : Flt) (hy : y ∈ m) : y ∈ l := by
  obtain ⟨-, -, rfl⟩ := spend_some hb hs
  obtain ⟨hcand, hok⟩ := (h2.mem y).1 hy
  refine (h.mem y).2 ⟨hcand, ?_⟩
  unfold okB at hok ⊢
  simp only [Bool.and_eq_true] at hok ⊢
  refine ⟨?_, hok.2⟩
  have := hok.1
  unfold allowsB spend at this ⊢
  split
  · rfl
  · rename_i h0
    rw [if_neg h0] at this
    by_cases hc : okF (rest b [x]) y ∧ 1 ≤ num (rest b [x]) y.kind
    · rw [if_pos ⟨hc.1, Int.le_trans hc.2 (num_rest ..)⟩]; rfl
    · rw [if_neg hc] at this; cases this
theorem left_spend {b c : Bud} {x : Flt} (hb : Nn b) (hs : spend b x = some c) : left c + (if x.kind = 0 then 0 else 1) = left b := by
  obtain ⟨⟨h0, h6, -⟩, -, rfl⟩ := spend_some hb hs
  unfold left rest
  simp only [cnt_cons, show cnt [] = fun _ => 0 from rfl]
  have : x.kind = 0 ∨ x.kind = 1 ∨ x.kind = 2 ∨ x.kind = 3 ∨ x.kind = 4 ∨ x.kind = 5 := by omega
  rcases this with e | e | e | e | e | e <;> simp [e] <;> omega
theorem allows_spend {b : Bud} {x : Flt} (h : allowsB b x = true) : ∃ c, spend b x = some c := Option.isSome_iff_exists.1 h
/-- A robot that was stopped, a cell that is dead, is listed no more. -/
theorem hap_gone {f : Fl.Floor} {st : Bd.State} {b : Bud} {cells : List Int} {l : List Flt} {x : Flt} (hk : x.kind = 1 ∨ x.kind = 2) (hp : possB f st x = true) (h : Listed f (hap st x) b cells l) : x ∉ l := by
  intro hx
  have h1 := (h.ok hx).1
  unfold possB at hp h1
  rcases hk with e | e
  · rw [if_neg (by omega), if_pos e] at hp h1
    have hl := live_lt hp
    have hi : x.a.toNat < st.robots.length := by omega
    unfold hap at h1
    rw [if_pos e] at h1
    unfold live deadAt at h1
    dsimp only at h1
    rw [Bd.upd_get _ _ _ hi] at h1
    simp at h1
  · rw [if_neg (by omega), if_neg (by omega), if_pos e] at h1
    unfold hap at h1
    rw [if_neg (by omega), if_pos e] at h1
    have := Bd.mem_insC x.a st.dead
    simp [this] at h1
theorem Listed.left_zero {g : Fl.Floor} {st : Bd.State} {b : Bud} {cells : List Int} {l : List Flt} (hb : Nn b) (h : Listed g st b cells l) (h0 : left b ≤ 0) : l = [none3] := by
  obtain ⟨b1, b2, b3, b4, b5⟩ := hb
  unfold left at h0
  exact h.of_zero (by omega) (by omega) (by omega) (by omega) (by omega)
end Fa
end Go.Proofs.YtcdfmgobokjcnaaGreat
/- What a right state says of its numbers. -/
namespace Go.Proofs.YtcdfmgobokjcnaaGreat
set_option linter.unusedSimpArgs false
set_option linter.unusedVariables false
namespace Bd
theorem robGo_rob {f : Fl.Floor} {sh : List Int} : ∀ {l : List Robot} {seen : List Int}, robGo f sh seen l = true → ∀ r ∈ l, robOk f sh r = true ∧ (0 ≤ r.load → sh.getD r.load.toNat 0 = r.cell)
  | [], _, _ => by simp
  | x :: l, seen, h => by
    unfold robGo at h
    simp only [Bool.and_eq_true] at h
    intro r hr
    rcases List.mem_cons.1 hr with rfl | hr
    · refine ⟨h.1.1, fun h0 => ?_⟩
      have := h.1.2
      unfold loadOk at this
      simp only [h0, decide_true, Bool.true_and, Bool.not_eq_true', Bool.or_eq_false_iff, Bool.not_eq_false', decide_eq_true_eq] at this
      exact this.2
    · exact robGo_rob h.2 r hr
theorem deadGo_len {n : Int} : ∀ {l : List Int} {p : Option Int}, deadGo n p l = true → ∀ q : Int, (match p with | none => -1 | some x => x) = q → q < n ∨ l = [] → (l.length : Int) ≤ n - 1 - q ∨ l = []
  | [], _, _, _, _, _ => .inr rfl
  | c :: l, p, h, q, hq, _ => by
    unfold deadGo at h
    simp only [Bool.and_eq_true, decide_eq_true_eq] at h
    obtain ⟨⟨h0, h1, h2⟩, h3⟩ := h
    have hqc : q < c := by
      cases p with
      | none => simp at hq; omega
      | some x => simp at h2 hq; omega
    have := deadGo_len h3 c rfl (.inl h1)
    left
    rw [List.length_cons]
    rcases this with h4 | h4
    · omega
    · rw [h4, List.length_nil]; omega
theorem stuckGo_dead {f : Fl.Floor} : ∀ {l : List (Int × Int)} {p : Option Int}, stuckGo f p l = true → deadGo (f.kind.length : Int) p (l.map (·.1)) = true
  | [], _, _ => rfl
  | x :: l, p, h => by
    unfold stuckGo onB at h
    rw [List.map_cons]
    unfold deadGo
    simp only [Bool.and_eq_true, decide_eq_true_eq] at h ⊢
    obtain ⟨⟨⟨h0, h1, -⟩, -, h2⟩, h3⟩ := h
    exact ⟨⟨h0, h1, h2⟩, stuckGo_dead h3⟩
theorem on_in {f : Fl.Floor} {c a b : Int} (h : onB f c a b = true) : 0 ≤ c ∧ c < (f.kind.length : Int) := by
  unfold onB at h
  simp only [Bool.and_eq_true, decide_eq_true_eq] at h
  exact ⟨h.1, h.2.1⟩
/-- The bounds of a right state. -/
structure Nums (f : Fl.Floor) (n1 n2 : Int) (st : State) : Prop where
  tick : 0 ≤ st.tick ∧ st.tick ≤ 20000
  ns : (st.shelves.length : Int) = n1
  nr : (st.robots.length : Int) = n2
  np : (st.people.length : Int) ≤ 20
  nd : (st.dead.length : Int) ≤ f.kind.length
  nk : (st.stuck.length : Int) ≤ f.kind.length
  ro : ∀ r ∈ st.robots, (0 ≤ r.cell ∧ r.cell < (f.kind.length : Int)) ∧ (-1 ≤ r.load ∧ r.load < n1) ∧ (0 ≤ r.charge ∧ r.charge ≤ 1000000) ∧ (0 ≤ r.rest ∧ r.rest ≤ 20000) ∧ (0 ≤ r.mute ∧ r.mute ≤ 20000)
  sh : ∀ c ∈ st.shelves, 0 ≤ c ∧ c < (f.kind.length : Int)
  pe : ∀ c ∈ st.people, 0 ≤ c ∧ c < (f.kind.length : Int)
theorem right_nums {f : Fl.Floor} {ns nr : Int} {st : State} (h : rightB f ns nr st = true) : Nums f ns nr st := by
  unfold rightB headB at h
  simp only [Bool.and_eq_true, decide_eq_true_eq, inB] at h
  obtain ⟨⟨a1, a2, a3, a4, a5, a6⟩, b1, b2, b3⟩ := h
  unfold restB at a6
  rw [Bool.and_eq_true] at a6
  have hro : ∀ r ∈ st.robots, (0 ≤ r.cell ∧ r.cell < (f.kind.length : Int)) ∧ (-1 ≤ r.load ∧ r.load < ns) ∧ (0 ≤ r.charge ∧ r.charge ≤ 1000000) ∧ (0 ≤ r.rest ∧ r.rest ≤ 20000) ∧ (0 ≤ r.mute ∧ r.mute ≤ 20000) := fun r hr => by
    have := (robGo_rob a5 r hr).1
    unfold robOk inB at this
    simp only [Bool.and_eq_true, decide_eq_true_eq, Bool.not_eq_true', decide_eq_false_iff_not] at this
    obtain ⟨⟨q1, q2, q3, q4⟩, q5, q6, q7⟩ := this
    exact ⟨⟨q1, q2⟩, ⟨q4.1, by omega⟩, q5, q6, q7⟩
  refine ⟨a1, a2, a3, a4, ?_, ?_, hro, ?_, ?_⟩
  · by_cases h0 : st.dead = []
    · rw [h0]; simp
    · rcases deadGo_len a6.1 (-1) rfl (by
        cases hd : st.dead with
        | nil => exact absurd hd h0
        | cons c l =>
          have := a6.1
          rw [hd] at this
          unfold deadGo at this
          simp only [Bool.and_eq_true, decide_eq_true_eq] at this
          left; omega) with h | h
      · omega
      · exact absurd h h0
  · have hs := stuckGo_dead a6.2
    by_cases h0 : st.stuck.map (·.1) = []
    · have := congrArg List.length h0
      rw [List.length_map, List.length_nil] at this
      omega
    · rcases deadGo_len hs (-1) rfl (by
        cases hd : st.stuck.map (·.1) with
        | nil => exact absurd hd h0
        | cons c l =>
          have := hs
          rw [hd] at this
          unfold deadGo at this
          simp only [Bool.and_eq_true, decide_eq_true_eq] at this
          left; omega) with h | h
      · rw [List.length_map] at h; omega
      · exact absurd h h0
  · intro c hc
    obtain ⟨i, hi, rfl⟩ := List.mem_iff_getElem.1 hc
    unfold shelvesB at b1
    have := (List.all_eq_true.1 b1) i (List.mem_range.2 hi)
    unfold shelfOk at this
    rw [Bool.or_eq_true] at this
    rcases this with h | h
    · unfold carried at h
      obtain ⟨r, hr, he⟩ := List.any_eq_true.1 h
      have he : r.load = (i : Int) := by simpa using he
      have := (robGo_rob a5 r hr).2 (by omega)
      rw [he, Int.toNat_natCast, List.getD_eq_getElem?_getD, List.getElem?_eq_getElem hi] at this
      rw [show st.shelves[i] = r.cell from this]
      exact (hro r hr).1
    · rw [List.getD_eq_getElem?_getD, List.getElem?_eq_getElem hi] at h
      exact on_in h
  · unfold peopleB at b2
    rw [List.all_eq_true] at b2
    exact fun c hc => on_in (b2 c hc)
end Bd
theorem right_sts {f : Fl.Floor} {ns nr : Int} {st : Bd.State} (h : Bd.rightB f ns nr st = true) (h1 : ns ≤ 10000) (h2 : nr ≤ 1000) (h3 : f.kind.length ≤ 1000000) : StS st ∧ ∀ r ∈ st.robots, RobN r := by
  obtain ⟨-, a2, a3, a4, -, -, a5, a6, a7⟩ := Bd.right_nums h
  refine ⟨⟨fun r hr => ?_, fun c hc => ?_, fun c hc => ?_, by omega, by omega, by omega⟩, fun r hr => ?_⟩
  · have := (a5 r hr).1; unfold SmC; omega
  · have := a6 c hc; unfold SmC; omega
  · have := a7 c hc; unfold SmC; omega
  · obtain ⟨g1, g2, -⟩ := a5 r hr
    exact ⟨by omega, by omega⟩
end Go.Proofs.YtcdfmgobokjcnaaGreat
