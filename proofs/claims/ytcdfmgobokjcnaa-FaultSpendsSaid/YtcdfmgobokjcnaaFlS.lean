/- The floor in plain words: neighbours, and which cells can be reached. Nothing of the program is imported. -/
namespace Go.Proofs.Ytcdfmgobokjcnaa
namespace Fl

structure Floor where
  w : Int
  h : Int
  d : Int
  kind : List Int
  out : List Int
def Floor.size (f : Floor) : Int := f.w * f.h * f.d
def isC (f : Floor) (c : Int) : Bool := decide (0 ≤ c) && decide (c < f.size)
def cell (f : Floor) (x y z : Int) : Int := if x < 0 ∨ y < 0 ∨ z < 0 ∨ f.w ≤ x ∨ f.h ≤ y ∨ f.d ≤ z then -1 else (z * f.h + y) * f.w + x
def atX (f : Floor) (c : Int) : Int := if isC f c = true then c % f.w else 0
def atY (f : Floor) (c : Int) : Int := if isC f c = true then c / f.w % f.h else 0
def atZ (f : Floor) (c : Int) : Int := if isC f c = true then c / (f.w * f.h) else 0
def stX : Nat → Int
  | 0 => 1
  | 2 => -1
  | _ => 0
def stY : Nat → Int
  | 1 => 1
  | 3 => -1
  | _ => 0
def stZ : Nat → Int
  | 4 => 1
  | 5 => -1
  | _ => 0
/-- The neighbour of a cell in a direction, or -1. -/
def beside (f : Floor) (c : Int) (d : Nat) : Int := if isC f c = true then cell f (atX f c + stX d) (atY f c + stY d) (atZ f c + stZ d) else -1
/-- Whether a way leads from a cell to its neighbour. -/
def open2 (f : Floor) (c n : Nat) (d : Nat) : Bool :=
  !(decide (f.kind.getD c 0 = 0) || (decide (f.kind.getD n 0 = 0) || decide ((f.out.getD c 0) / 2 ^ d % 2 = 0))) && !(decide (4 ≤ d) && (!decide (f.kind.getD c 0 = 6) || !decide (f.kind.getD n 0 = 6)))
/-- The cell to which one gets in a direction. -/
def next (f : Floor) (c d : Nat) : Option Nat := if beside f c d < 0 then none else if open2 f c (beside f c d).toNat d = true then some (beside f c d).toNat else none

/-- A floor is right. -/
structure Right (f : Floor) : Prop where
  w1 : 1 ≤ f.w
  h1 : 1 ≤ f.h
  d1 : 1 ≤ f.d
  w2 : f.w ≤ 4096
  h2 : f.h ≤ 4096
  d2 : f.d ≤ 4
  kl : (f.kind.length : Int) = f.size
  ol : f.out.length = f.kind.length
  sz : f.size ≤ 4096
  ks : ∀ k ∈ f.kind, 0 ≤ k ∧ k < 7
  os : ∀ o ∈ f.out, 0 ≤ o ∧ o ≤ 63

theorem cell_lt {f : Floor} (h : Right f) (x y z : Int) : cell f x y z = -1 ∨ (0 ≤ cell f x y z ∧ cell f x y z < f.size) := by
  unfold cell
  split
  · exact .inl rfl
  · rename_i hc
    simp only [not_or] at hc
    right
    have h1 := h.w1
    have h2 := h.h1
    have h3 := h.d1
    have hz : z ≤ f.d - 1 := by omega
    have hy : y ≤ f.h - 1 := by omega
    have ha : 0 ≤ z * f.h := Int.mul_nonneg (by omega) (by omega)
    have hb : 0 ≤ (z * f.h + y) * f.w := Int.mul_nonneg (by omega) (by omega)
    refine ⟨by omega, ?_⟩
    have k1 : z * f.h ≤ (f.d - 1) * f.h := Int.mul_le_mul_of_nonneg_right hz (by omega)
    have k2 : z * f.h + y ≤ f.d * f.h - 1 := by
      have : (f.d - 1) * f.h = f.d * f.h - f.h := by rw [Int.sub_mul, Int.one_mul]
      omega
    have k3 : (z * f.h + y) * f.w ≤ (f.d * f.h - 1) * f.w := Int.mul_le_mul_of_nonneg_right k2 (by omega)
    have k4 : (f.d * f.h - 1) * f.w = f.d * f.h * f.w - f.w := by rw [Int.sub_mul, Int.one_mul]
    have k5 : f.d * f.h * f.w = f.size := by
      unfold Floor.size
      rw [Int.mul_comm (f.d * f.h) f.w, Int.mul_comm f.d f.h, ← Int.mul_assoc]
    omega
theorem beside_lt {f : Floor} (h : Right f) (c : Int) (d : Nat) : beside f c d = -1 ∨ (0 ≤ beside f c d ∧ beside f c d < f.size) := by
  unfold beside
  split
  · exact cell_lt h _ _ _
  · exact .inl rfl
theorem next_lt {f : Floor} (h : Right f) {c d n : Nat} (hn : next f c d = some n) : n < f.kind.length := by
  unfold next at hn
  split at hn
  · cases hn
  · split at hn
    · injection hn with hn
      have := h.kl
      rcases beside_lt h c d with e | e <;> omega
    · cases hn
theorem next_open {f : Floor} {c d n : Nat} (hn : next f c d = some n) : f.kind.getD c 0 ≠ 0 ∧ f.kind.getD n 0 ≠ 0 := by
  unfold next at hn
  split at hn
  · cases hn
  · split at hn
    · rename_i h1 h2
      injection hn with hn
      rw [hn] at h2
      unfold open2 at h2
      simp only [Bool.and_eq_true, Bool.not_eq_true', Bool.or_eq_false_iff, decide_eq_false_iff_not] at h2
      exact ⟨h2.1.1, h2.1.2.1⟩
    · cases hn

/-! ### Spreading from cells -/
structure Bs where
  op : List Bool
  out : List Int
  q : List Nat
def reach (s : Bs) (c : Nat) (n : Int) : Bs := if s.op.getD c false = true then ⟨s.op.set c false, s.out.set c n, s.q ++ [c]⟩ else s
def goDir (f : Floor) (c d : Nat) (s : Bs) : Bs := match next f c d with
  | some n => reach s n (s.out.getD c 0 + 1)
  | none => s
def goDirs (f : Floor) (c : Nat) : Nat → Bs → Bs
  | 0, s => s
  | k + 1, s => goDir f c k (goDirs f c k s)
def loop (f : Floor) : Nat → Bs → Bs
  | 0, s => s
  | k + 1, s => match s.q with
    | [] => s
    | c :: r => loop f k (goDirs f c 6 { s with q := r })
/-- How many rounds are left. -/
def rounds (s : Bs) : Nat := s.q.length + s.op.count true
def open0 (f : Floor) (avoid : List Int) : List Bool := avoid.foldl (fun l c => if isC f c = true then l.set c.toNat false else l) (f.kind.map fun k => decide (k ≠ 0))
def start (f : Floor) (frm avoid : List Int) : Bs := frm.foldl (fun s c => if isC f c = true then reach s c.toNat 0 else s) ⟨open0 f avoid, f.kind.map fun _ => -1, []⟩
def spread (f : Floor) (frm avoid : List Int) : Bs := loop f (rounds (start f frm avoid)) (start f frm avoid)
def dist (f : Floor) (frm avoid : List Int) : List Int := (spread f frm avoid).out

theorem count_set (l : List Bool) : ∀ c : Nat, l.getD c false = true → (l.set c false).count true + 1 = l.count true := by
  induction l with
  | nil => intro c h; simp at h
  | cons b l ih =>
    intro c h
    cases c with
    | zero => simp at h; subst h; simp
    | succ c =>
      simp only [List.getD_cons_succ] at h
      rw [List.set_cons_succ, List.count_cons, List.count_cons]
      have := ih c h
      omega
theorem rounds_reach (s : Bs) (c : Nat) (n : Int) : rounds (reach s c n) = rounds s := by
  unfold reach
  split
  · rename_i h
    have := count_set s.op c h
    simp only [rounds, List.length_append, List.length_singleton]; omega
  · rfl
theorem rounds_goDir (f : Floor) (c d : Nat) (s : Bs) : rounds (goDir f c d s) = rounds s := by
  unfold goDir; split
  · exact rounds_reach ..
  · rfl
theorem rounds_goDirs (f : Floor) (c : Nat) : ∀ (k : Nat) (s : Bs), rounds (goDirs f c k s) = rounds s
  | 0, s => rfl
  | k + 1, s => by rw [goDirs, rounds_goDir, rounds_goDirs f c k]
theorem rounds_pop {s : Bs} {c : Nat} {r : List Nat} (f : Floor) (h : s.q = c :: r) : rounds (goDirs f c 6 { s with q := r }) + 1 = rounds s := by
  rw [rounds_goDirs]; simp only [rounds, h, List.length_cons]; omega
/-- One round. -/
theorem loop_pop (f : Floor) {s : Bs} {c : Nat} {r : List Nat} (h : s.q = c :: r) : loop f (rounds s) s = loop f (rounds (goDirs f c 6 { s with q := r })) (goDirs f c 6 { s with q := r }) := by
  rw [← rounds_pop f h, loop, h]
theorem loop_nil (f : Floor) {s : Bs} (h : s.q = []) : ∀ k, loop f k s = s
  | 0 => rfl
  | k + 1 => by rw [loop, h]

/-- A cell can be reached. -/
inductive Reach (f : Floor) (op : List Bool) (src : Nat → Prop) : Nat → Prop where
  | base {c : Nat} (h : src c) (ho : op.getD c false = true) : Reach f op src c
  | step {c d n : Nat} (h : Reach f op src c) (hd : d < 6) (hn : next f c d = some n) (ho : op.getD n false = true) : Reach f op src n

/-- What holds while one spreads; the cell at hand has been left in the first k directions. -/
structure Inv (f : Floor) (op0 : List Bool) (src : Nat → Prop) (cur : Nat → Nat → Prop) (s : Bs) : Prop where
  ln : s.op.length = op0.length
  lo : s.out.length = op0.length
  hq : ∀ c ∈ s.q, 0 ≤ s.out.getD c (-1)
  ho : ∀ c, 0 ≤ s.out.getD c (-1) → Reach f op0 src c ∧ s.op.getD c false = false
  h1 : ∀ c, s.op.getD c false = true → op0.getD c false = true
  h2 : ∀ c, op0.getD c false = true → s.op.getD c false = false → 0 ≤ s.out.getD c (-1)
  hc : ∀ c, 0 ≤ s.out.getD c (-1) → c ∈ s.q ∨ ∀ d, d < 6 → cur c d → ∀ n, next f c d = some n → s.op.getD n false = false
theorem getD_set_same {α : Type} (l : List α) (c : Nat) (v x : α) (h : c < l.length) : (l.set c v).getD c x = v := by
  simp [List.getD, h]
theorem getD_set_other {α : Type} (l : List α) (c k : Nat) (v x : α) (h : k ≠ c) : (l.set c v).getD k x = l.getD k x := by
  simp [List.getD, List.getElem?_set_ne (Ne.symm h)]
theorem lt_of_getD {l : List Bool} {c : Nat} (h : l.getD c false = true) : c < l.length := by
  apply Decidable.byContradiction; intro hc
  rw [List.getD_eq_getElem?_getD, List.getElem?_eq_none (by omega)] at h
  cases h
theorem Inv.reach {f : Floor} {op0 : List Bool} {src : Nat → Prop} {cur : Nat → Nat → Prop} {s : Bs} (h : Inv f op0 src cur s) {c : Nat} {n : Int} (hn : 0 ≤ n) (hr : op0.getD c false = true → Reach f op0 src c) : Inv f op0 src cur (reach s c n) ∧ (reach s c n).op.getD c false = false ∧ ∀ k, s.op.getD k false = false → (Fl.reach s c n).op.getD k false = false := by
  unfold Fl.reach
  split
  · rename_i ho
    have hlt := lt_of_getD ho
    have hop0 := h.h1 c ho
    have hlo : c < s.out.length := by rw [h.lo, ← h.ln]; exact hlt
    have hset : ∀ k, k ≠ c → (s.out.set c n).getD k (-1) = s.out.getD k (-1) := fun k hk => getD_set_other _ _ _ _ _ hk
    have hsame : (s.out.set c n).getD c (-1) = n := getD_set_same _ _ _ _ hlo
    have oset : ∀ k, k ≠ c → (s.op.set c false).getD k false = s.op.getD k false := fun k hk => getD_set_other _ _ _ _ _ hk
    have osame : (s.op.set c false).getD c false = false := getD_set_same _ _ _ _ hlt
    have okeep : ∀ k, s.op.getD k false = false → (s.op.set c false).getD k false = false := by
      intro k hk
      by_cases e : k = c
      · rw [e]; exact osame
      · rw [oset k e]; exact hk
    refine ⟨⟨by simp [h.ln], by simp [h.lo], ?_, ?_, ?_, ?_, ?_⟩, osame, okeep⟩
    · intro k hk
      dsimp only at hk ⊢
      by_cases e : k = c
      · rw [e, hsame]; exact hn
      · rw [hset k e]
        rcases List.mem_append.1 hk with hk | hk
        · exact h.hq k hk
        · exact absurd (List.mem_singleton.1 hk) e
    · intro k hk
      dsimp only at hk ⊢
      by_cases e : k = c
      · rw [e]; exact ⟨hr hop0, osame⟩
      · rw [hset k e] at hk; rw [oset k e]; exact h.ho k hk
    · intro k hk
      dsimp only at hk
      by_cases e : k = c
      · rw [e]; exact hop0
      · rw [oset k e] at hk; exact h.h1 k hk
    · intro k h3 h4
      dsimp only at h4 ⊢
      by_cases e : k = c
      · rw [e, hsame]; exact hn
      · rw [oset k e] at h4; rw [hset k e]; exact h.h2 k h3 h4
    · intro k hk
      dsimp only at hk ⊢
      by_cases e : k = c
      · left; rw [e]; simp
      · rw [hset k e] at hk
        rcases h.hc k hk with h5 | h5
        · left; simp [h5]
        · right; intro d hd hcur m hm; exact okeep m (h5 d hd hcur m hm)
  · rename_i ho
    exact ⟨h, by simpa using ho, fun k hk => hk⟩
theorem Inv.goDirs {f : Floor} {op0 : List Bool} {src : Nat → Prop} {s : Bs} {c : Nat} {r : List Nat} (h : Inv f op0 src (fun _ _ => True) s) (hq : s.q = c :: r) : ∀ k, k ≤ 6 →
    Inv f op0 src (fun x d => x = c → d < k) (goDirs f c k { s with q := r }) ∧ 0 ≤ (Fl.goDirs f c k { s with q := r }).out.getD c (-1)
  | 0, _ => by
    have h0 := h.hq c (by rw [hq]; simp)
    show Inv f op0 src (fun x d => x = c → d < 0) { s with q := r } ∧ 0 ≤ s.out.getD c (-1)
    refine ⟨⟨h.ln, h.lo, fun x hx => h.hq x (by rw [hq]; exact List.mem_cons_of_mem _ hx), h.ho, h.h1, h.h2, fun x hx => ?_⟩, h0⟩
    by_cases e : x = c
    · right; intro d _ hc; have := hc e; omega
    · rcases h.hc x hx with h5 | h5
      · left
        rw [hq] at h5
        rcases List.mem_cons.1 h5 with h5 | h5
        · exact absurd h5 e
        · exact h5
      · right; intro d hd _; exact h5 d hd trivial
  | k + 1, hk => by
    obtain ⟨ih, hc0⟩ := Inv.goDirs h hq k (by omega)
    rw [Fl.goDirs]
    unfold goDir
    cases hn : next f c k with
    | none =>
      dsimp only
      refine ⟨⟨ih.ln, ih.lo, ih.hq, ih.ho, ih.h1, ih.h2, fun x hx => ?_⟩, hc0⟩
      rcases ih.hc x hx with h5 | h5
      · exact .inl h5
      · right; intro d hd hcur n hm
        by_cases e : x = c
        · by_cases ed : d = k
          · rw [e, ed, hn] at hm; cases hm
          · exact h5 d hd (fun _ => by have := hcur e; omega) n hm
        · exact h5 d hd (fun e2 => absurd e2 e) n hm
    | some n =>
      dsimp only
      generalize hs1 : Fl.goDirs f c k { s with q := r } = s1 at ih hc0
      have hlt : c < s1.out.length := by
        apply Decidable.byContradiction; intro hx
        rw [List.getD_eq_getElem?_getD, List.getElem?_eq_none (by omega)] at hc0
        simp at hc0
      have hge : 0 ≤ s1.out.getD c 0 := by
        rw [List.getD_eq_getElem?_getD, List.getElem?_eq_getElem hlt] at hc0 ⊢; exact hc0
      obtain ⟨g1, g2, g3⟩ := ih.reach (c := n) (n := s1.out.getD c 0 + 1) (by omega) (fun ho => .step (ih.ho c hc0).1 (by omega) hn ho)
      refine ⟨⟨g1.ln, g1.lo, g1.hq, g1.ho, g1.h1, g1.h2, fun x hx => ?_⟩, ?_⟩
      · rcases g1.hc x hx with h5 | h5
        · exact .inl h5
        · right; intro d hd hcur m hm
          by_cases e : x = c
          · by_cases ed : d = k
            · rw [e, ed, hn] at hm; injection hm with hm; rw [← hm]; exact g2
            · exact h5 d hd (fun _ => by have := hcur e; omega) m hm
          · exact h5 d hd (fun e2 => absurd e2 e) m hm
      · unfold Fl.reach
        split
        · dsimp only
          by_cases e : c = n
          · rw [← e, getD_set_same _ _ _ _ hlt]; omega
          · rw [getD_set_other _ _ _ _ _ e]; exact hc0
        · exact hc0
theorem Inv.round {f : Floor} {op0 : List Bool} {src : Nat → Prop} {s : Bs} {c : Nat} {r : List Nat} (h : Inv f op0 src (fun _ _ => True) s) (hq : s.q = c :: r) : Inv f op0 src (fun _ _ => True) (Fl.goDirs f c 6 { s with q := r }) := by
  obtain ⟨g, -⟩ := Inv.goDirs h hq 6 (Nat.le_refl _)
  refine ⟨g.ln, g.lo, g.hq, g.ho, g.h1, g.h2, fun x hx => ?_⟩
  rcases g.hc x hx with h5 | h5
  · exact .inl h5
  · right; intro d hd _ n hm; exact h5 d hd (fun _ => hd) n hm
theorem Inv.loop {f : Floor} {op0 : List Bool} {src : Nat → Prop} : ∀ (k : Nat) (s : Bs), rounds s = k → Inv f op0 src (fun _ _ => True) s → Inv f op0 src (fun _ _ => True) (Fl.loop f k s) ∧ (Fl.loop f k s).q = []
  | 0, s, hk, h => by
    refine ⟨h, ?_⟩
    unfold rounds at hk
    exact List.eq_nil_of_length_eq_zero (by show s.q.length = 0; omega)
  | k + 1, s, hk, h => by
    rw [Fl.loop]
    cases hq : s.q with
    | nil => exact ⟨h, hq⟩
    | cons c r =>
      dsimp only
      exact Inv.loop k _ (by have := rounds_pop f hq; omega) (h.round hq)
theorem open0_len (f : Floor) (avoid : List Int) : (open0 f avoid).length = f.kind.length := by
  unfold open0
  have : ∀ (l : List Int) (a : List Bool), (l.foldl (fun l c => if isC f c = true then l.set c.toNat false else l) a).length = a.length := by
    intro l
    induction l with
    | nil => intro a; rfl
    | cons c l ih => intro a; rw [List.foldl_cons, ih]; split <;> simp
  rw [this]; simp
/-- Which cells are open at first. -/
theorem open0_iff (f : Floor) (avoid : List Int) (c : Nat) : (open0 f avoid).getD c false = true ↔ c < f.kind.length ∧ f.kind.getD c 0 ≠ 0 ∧ ¬ (isC f (c : Int) = true ∧ (c : Int) ∈ avoid) := by
  unfold open0
  have : ∀ (l : List Int) (a : List Bool), ((l.foldl (fun l c => if isC f c = true then l.set c.toNat false else l) a).getD c false = true ↔ a.getD c false = true ∧ ¬ (isC f (c : Int) = true ∧ (c : Int) ∈ l)) := by
    intro l
    induction l with
    | nil => intro a; simp
    | cons x l ih =>
      intro a
      rw [List.foldl_cons, ih]
      by_cases hx : isC f x = true
      · rw [if_pos hx]
        by_cases e : (c : Int) = x
        · subst e
          constructor
          · rintro ⟨h1, -⟩
            exfalso
            have hlt := lt_of_getD h1
            rw [List.length_set] at hlt
            rw [Int.toNat_natCast, getD_set_same _ _ _ _ hlt] at h1
            cases h1
          · rintro ⟨-, h2⟩
            exact absurd ⟨hx, List.mem_cons_self ..⟩ h2
        · have hne : c ≠ x.toNat := by
            unfold isC at hx
            simp at hx
            omega
          rw [getD_set_other _ _ _ _ _ hne]
          simp [e]
      · rw [if_neg hx]
        by_cases e : (c : Int) = x
        · subst e; simp [hx]
        · simp [e]
  rw [this]
  constructor
  · rintro ⟨h1, h2⟩
    have hlt := lt_of_getD h1
    rw [List.length_map] at hlt
    refine ⟨hlt, ?_, h2⟩
    simpa [List.getD, hlt] using h1
  · rintro ⟨h1, h2, h3⟩
    refine ⟨?_, h3⟩
    simpa [List.getD, h1] using h2
theorem Inv.start (f : Floor) (frm avoid : List Int) : Inv f (open0 f avoid) (fun c => (c : Int) ∈ frm ∧ isC f (c : Int) = true) (fun _ _ => True) (start f frm avoid) ∧
    ∀ c : Nat, (c : Int) ∈ frm → isC f (c : Int) = true → (Fl.start f frm avoid).op.getD c false = false := by
  unfold Fl.start
  have key : ∀ (l m : List Int) (s : Bs), m ++ l = frm → Inv f (open0 f avoid) (fun c => (c : Int) ∈ frm ∧ isC f (c : Int) = true) (fun _ _ => True) s →
      (∀ c : Nat, (c : Int) ∈ m → isC f (c : Int) = true → s.op.getD c false = false) →
      Inv f (open0 f avoid) (fun c => (c : Int) ∈ frm ∧ isC f (c : Int) = true) (fun _ _ => True) (l.foldl (fun s c => if isC f c = true then Fl.reach s c.toNat 0 else s) s) ∧
      ∀ c : Nat, (c : Int) ∈ frm → isC f (c : Int) = true → (l.foldl (fun s c => if isC f c = true then Fl.reach s c.toNat 0 else s) s).op.getD c false = false := by
    intro l
    induction l with
    | nil => intro m s hm h1 h2; rw [List.append_nil] at hm; subst hm; exact ⟨h1, h2⟩
    | cons x l ih =>
      intro m s hm h1 h2
      rw [List.foldl_cons]
      refine ih (m ++ [x]) _ (by rw [← hm]; simp) ?_ ?_
      · split
        · rename_i hx
          have hx0 : 0 ≤ x := by unfold isC at hx; simp at hx; omega
          have hxn : ((x.toNat : Nat) : Int) = x := by omega
          refine (h1.reach (Int.le_refl 0) fun ho => .base ⟨?_, ?_⟩ ho).1
          · rw [hxn, ← hm]; simp
          · rw [hxn]; exact hx
        · exact h1
      · intro c hc hi
        rcases List.mem_append.1 hc with hc | hc
        · split
          · rename_i hx
            have hx0 : 0 ≤ x := by unfold isC at hx; simp at hx; omega
            have hxn : ((x.toNat : Nat) : Int) = x := by omega
            exact (h1.reach (c := x.toNat) (Int.le_refl 0) fun ho => .base ⟨by rw [hxn, ← hm]; simp, by rw [hxn]; exact hx⟩ ho).2.2 c (h2 c hc hi)
          · exact h2 c hc hi
        · have e := List.mem_singleton.1 hc
          rw [if_pos (by rw [← e]; exact hi)]
          have hxn : x.toNat = c := by omega
          rw [hxn]
          exact (h1.reach (c := c) (Int.le_refl 0) fun ho => .base ⟨by rw [e, ← hm]; simp, hi⟩ ho).2.1
  refine key frm [] _ rfl ⟨rfl, by simp [open0_len], (fun c hc => by cases hc), ?_, fun c h => h, ?_, ?_⟩ (fun c hc => by cases hc)
  · intro c hc
    exfalso
    by_cases hlt : c < f.kind.length
    · simp [List.getD, hlt] at hc
    · simp [List.getD, Nat.not_lt.1 hlt] at hc
  · intro c h3 h4; rw [h3] at h4; cases h4
  · intro c hc
    exfalso
    by_cases hlt : c < f.kind.length
    · simp [List.getD, hlt] at hc
    · simp [List.getD, Nat.not_lt.1 hlt] at hc
theorem dist_len (f : Floor) (frm avoid : List Int) : (dist f frm avoid).length = f.kind.length := by
  have h := (Inv.loop _ _ rfl (Inv.start f frm avoid).1).1.lo
  rw [open0_len] at h
  exact h
/-- A cell has a distance exactly if it can be reached. -/
theorem dist_iff (f : Floor) (frm avoid : List Int) (c : Nat) : 0 ≤ (dist f frm avoid).getD c (-1) ↔ Reach f (open0 f avoid) (fun c => (c : Int) ∈ frm ∧ isC f (c : Int) = true) c := by
  obtain ⟨hs, hs2⟩ := Inv.start f frm avoid
  obtain ⟨h, hq⟩ := Inv.loop _ _ rfl hs
  have hmono : ∀ (k : Nat) (s : Bs) (c : Nat), s.op.getD c false = false → (Fl.loop f k s).op.getD c false = false := by
    have hr : ∀ (s : Bs) (x c : Nat) (n : Int), s.op.getD c false = false → (Fl.reach s x n).op.getD c false = false := by
      intro s x c n h
      unfold Fl.reach
      split
      · dsimp only
        rename_i ho
        by_cases e : c = x
        · rw [e, getD_set_same _ _ _ _ (lt_of_getD ho)]
        · rw [getD_set_other _ _ _ _ _ e]; exact h
      · exact h
    have hd : ∀ (x k : Nat) (s : Bs) (c : Nat), s.op.getD c false = false → (Fl.goDirs f x k s).op.getD c false = false := by
      intro x k
      induction k with
      | zero => intro s c h; exact h
      | succ k ih =>
        intro s c h
        rw [Fl.goDirs]; unfold goDir
        split
        · exact hr _ _ _ _ (ih s c h)
        · exact ih s c h
    intro k
    induction k with
    | zero => intro s c h; exact h
    | succ k ih =>
      intro s c h
      rw [Fl.loop]
      split
      · exact h
      · exact ih _ _ (hd _ _ _ _ h)
  constructor
  · exact fun hc => (h.ho c hc).1
  · intro hr
    induction hr with
    | base hsrc ho => exact h.h2 _ ho (hmono _ _ _ (hs2 _ hsrc.1 hsrc.2))
    | step _ hd hn ho ih =>
      rcases h.hc _ ih with h5 | h5
      · rw [show (Fl.loop f (rounds (Fl.start f frm avoid)) (Fl.start f frm avoid)).q = [] from hq] at h5; cases h5
      · exact h.h2 _ ho (h5 _ hd trivial _ hn)
end Fl
end Go.Proofs.Ytcdfmgobokjcnaa
