/- Parts FlS, SiS, FaS, FaL, BdR, FaM of this claim, laid one behind the other: walks and the plain laws behind them; each contract states its own conditions. -/
/- The floor in plain words: neighbours, and which cells can be reached. Nothing of the program is imported. -/
namespace Go.Proofs.YtcdfmgobokjcnaaGreat
namespace Fl

structure Floor where
  w : Int
  h : Int
  d : Int
  kind : List Int
  out : List Int
def Floor.size (f : Floor) : Int := f.w * f.h * f.d
def isC (f : Floor) (c : Int) : Bool := decide (0 ≤ c) && decide (c < f.size)
def cell (f : Floor) (x y z : Int) : Int := if x < 0 ∨ y < 0 ∨ z < 0 ∨ f.w ≤ x ∨ f.h ≤ y ∨ f.d ≤ z then -1 else (z * f.h + y) * f.w + x
def atX (f : Floor) (c : Int) : Int := if isC f c = true then c % f.w else 0
def atY (f : Floor) (c : Int) : Int := if isC f c = true then c / f.w % f.h else 0
def atZ (f : Floor) (c : Int) : Int := if isC f c = true then c / (f.w * f.h) else 0
def stX : Nat → Int
  | 0 => 1
  | 2 => -1
  | _ => 0
def stY : Nat → Int
  | 1 => 1
  | 3 => -1
  | _ => 0
def stZ : Nat → Int
  | 4 => 1
  | 5 => -1
  | _ => 0
/-- The neighbour of a cell in a direction, or -1. -/
def beside (f : Floor) (c : Int) (d : Nat) : Int := if isC f c = true then cell f (atX f c + stX d) (atY f c + stY d) (atZ f c + stZ d) else -1
/-- Whether a way leads from a cell to its neighbour. -/
def open2 (f : Floor) (c n : Nat) (d : Nat) : Bool :=
  !(decide (f.kind.getD c 0 = 0) || (decide (f.kind.getD n 0 = 0) || decide ((f.out.getD c 0) / 2 ^ d % 2 = 0))) && !(decide (4 ≤ d) && (!decide (f.kind.getD c 0 = 6) || !decide (f.kind.getD n 0 = 6)))
/-- The cell to which one gets in a direction. -/
def next (f : Floor) (c d : Nat) : Option Nat := if beside f c d < 0 then none else if open2 f c (beside f c d).toNat d = true then some (beside f c d).toNat else none

/-- A floor is right. -/
structure Right (f : Floor) : Prop where
  w1 : 1 ≤ f.w
  h1 : 1 ≤ f.h
  d1 : 1 ≤ f.d
  w2 : f.w ≤ 4096
  h2 : f.h ≤ 4096
  d2 : f.d ≤ 4
  kl : (f.kind.length : Int) = f.size
  ol : f.out.length = f.kind.length
  sz : f.size ≤ 4096
  ks : ∀ k ∈ f.kind, 0 ≤ k ∧ k < 7
  os : ∀ o ∈ f.out, 0 ≤ o ∧ o ≤ 63

theorem cell_lt {f : Floor} (h : Right f) (x y z : Int) : cell f x y z = -1 ∨ (0 ≤ cell f x y z ∧ cell f x y z < f.size) := by
  unfold cell
  split
  · exact .inl rfl
  · rename_i hc
    simp only [not_or] at hc
    right
    have h1 := h.w1
    have h2 := h.h1
    have h3 := h.d1
    have hz : z ≤ f.d - 1 := by omega
    have hy : y ≤ f.h - 1 := by omega
    have ha : 0 ≤ z * f.h := Int.mul_nonneg (by omega) (by omega)
    have hb : 0 ≤ (z * f.h + y) * f.w := Int.mul_nonneg (by omega) (by omega)
    refine ⟨by omega, ?_⟩
    have k1 : z * f.h ≤ (f.d - 1) * f.h := Int.mul_le_mul_of_nonneg_right hz (by omega)
    have k2 : z * f.h + y ≤ f.d * f.h - 1 := by
      have : (f.d - 1) * f.h = f.d * f.h - f.h := by rw [Int.sub_mul, Int.one_mul]
      omega
    have k3 : (z * f.h + y) * f.w ≤ (f.d * f.h - 1) * f.w := Int.mul_le_mul_of_nonneg_right k2 (by omega)
    have k4 : (f.d * f.h - 1) * f.w = f.d * f.h * f.w - f.w := by rw [Int.sub_mul, Int.one_mul]
    have k5 : f.d * f.h * f.w = f.size := by
      unfold Floor.size
      rw [Int.mul_comm (f.d * f.h) f.w, Int.mul_comm f.d f.h, ← Int.mul_assoc]
    omega
theorem beside_lt {f : Floor} (h : Right f) (c : Int) (d : Nat) : beside f c d = -1 ∨ (0 ≤ beside f c d ∧ beside f c d < f.size) := by
  unfold beside
  split
  · exact cell_lt h _ _ _
  · exact .inl rfl
theorem next_lt {f : Floor} (h : Right f) {c d n : Nat} (hn : next f c d = some n) : n < f.kind.length := by
  unfold next at hn
  split at hn
  · cases hn
  · split at hn
    · injection hn with hn
      have := h.kl
      rcases beside_lt h c d with e | e <;> omega
    · cases hn
theorem next_open {f : Floor} {c d n : Nat} (hn : next f c d = some n) : f.kind.getD c 0 ≠ 0 ∧ f.kind.getD n 0 ≠ 0 := by
  unfold next at hn
  split at hn
  · cases hn
  · split at hn
    · rename_i h1 h2
      injection hn with hn
      rw [hn] at h2
      unfold open2 at h2
      simp only [Bool.and_eq_true, Bool.not_eq_true', Bool.or_eq_false_iff, decide_eq_false_iff_not] at h2
      exact ⟨h2.1.1, h2.1.2.1⟩
    · cases hn

/-! ### Spreading from cells -/
structure Bs where
  op : List Bool
  out : List Int
  q : List Nat
def reach (s : Bs) (c : Nat) (n : Int) : Bs := if s.op.getD c false = true then ⟨s.op.set c false, s.out.set c n, s.q ++ [c]⟩ else s
def goDir (f : Floor) (c d : Nat) (s : Bs) : Bs := match next f c d with
  | some n => reach s n (s.out.getD c 0 + 1)
  | none => s
def goDirs (f : Floor) (c : Nat) : Nat → Bs → Bs
  | 0, s => s
  | k + 1, s => goDir f c k (goDirs f c k s)
def loop (f : Floor) : Nat → Bs → Bs
  | 0, s => s
  | k + 1, s => match s.q with
    | [] => s
    | c :: r => loop f k (goDirs f c 6 { s with q := r })
/-- How many rounds are left. -/
def rounds (s : Bs) : Nat := s.q.length + s.op.count true
def open0 (f : Floor) (avoid : List Int) : List Bool := avoid.foldl (fun l c => if isC f c = true then l.set c.toNat false else l) (f.kind.map fun k => decide (k ≠ 0))
def start (f : Floor) (frm avoid : List Int) : Bs := frm.foldl (fun s c => if isC f c = true then reach s c.toNat 0 else s) ⟨open0 f avoid, f.kind.map fun _ => -1, []⟩
def spread (f : Floor) (frm avoid : List Int) : Bs := loop f (rounds (start f frm avoid)) (start f frm avoid)
def dist (f : Floor) (frm avoid : List Int) : List Int := (spread f frm avoid).out

theorem count_set (l : List Bool) : ∀ c : Nat, l.getD c false = true → (l.set c false).count true + 1 = l.count true := by
  induction l with
  | nil => intro c h; simp at h
  | cons b l ih =>
    intro c h
    cases c with
    | zero => simp at h; subst h; simp
    | succ c =>
      simp only [List.getD_cons_succ] at h
      rw [List.set_cons_succ, List.count_cons, List.count_cons]
      have := ih c h
      omega
theorem rounds_reach (s : Bs) (c : Nat) (n : Int) : rounds (reach s c n) = rounds s := by
  unfold reach
  split
  · rename_i h
    have := count_set s.op c h
    simp only [rounds, List.length_append, List.length_singleton]; omega
  · rfl
theorem rounds_goDir (f : Floor) (c d : Nat) (s : Bs) : rounds (goDir f c d s) = rounds s := by
  unfold goDir; split
  · exact rounds_reach ..
  · rfl
theorem rounds_goDirs (f : Floor) (c : Nat) : ∀ (k : Nat) (s : Bs), rounds (goDirs f c k s) = rounds s
  | 0, s => rfl
  | k + 1, s => by rw [goDirs, rounds_goDir, rounds_goDirs f c k]
theorem rounds_pop {s : Bs} {c : Nat} {r : List Nat} (f : Floor) (h : s.q = c :: r) : rounds (goDirs f c 6 { s with q := r }) + 1 = rounds s := by
  rw [rounds_goDirs]; simp only [rounds, h, List.length_cons]; omega
/-- One round. -/
theorem loop_pop (f : Floor) {s : Bs} {c : Nat} {r : List Nat} (h : s.q = c :: r) : loop f (rounds s) s = loop f (rounds (goDirs f c 6 { s with q := r })) (goDirs f c 6 { s with q := r }) := by
  rw [← rounds_pop f h, loop, h]
theorem loop_nil (f : Floor) {s : Bs} (h : s.q = []) : ∀ k, loop f k s = s
  | 0 => rfl
  | k + 1 => by rw [loop, h]

/-- A cell can be reached. -/
inductive Reach (f : Floor) (op : List Bool) (src : Nat → Prop) : Nat → Prop where
  | base {c : Nat} (h : src c) (ho : op.getD c false = true) : Reach f op src c
  | step {c d n : Nat} (h : Reach f op src c) (hd : d < 6) (hn : next f c d = some n) (ho : op.getD n false = true) : Reach f op src n

/-- What holds while one spreads; the cell at hand has been left in the first k directions. -/
structure Inv (f : Floor) (op0 : List Bool) (src : Nat → Prop) (cur : Nat → Nat → Prop) (s : Bs) : Prop where
  ln : s.op.length = op0.length
  lo : s.out.length = op0.length
  hq : ∀ c ∈ s.q, 0 ≤ s.out.getD c (-1)
  ho : ∀ c, 0 ≤ s.out.getD c (-1) → Reach f op0 src c ∧ s.op.getD c false = false
  h1 : ∀ c, s.op.getD c false = true → op0.getD c false = true
  h2 : ∀ c, op0.getD c false = true → s.op.getD c false = false → 0 ≤ s.out.getD c (-1)
  hc : ∀ c, 0 ≤ s.out.getD c (-1) → c ∈ s.q ∨ ∀ d, d < 6 → cur c d → ∀ n, next f c d = some n → s.op.getD n false = false
theorem getD_set_same {α : Type} (l : List α) (c : Nat) (v x : α) (h : c < l.length) : (l.set c v).getD c x = v := by
  simp [List.getD, h]
theorem getD_set_other {α : Type} (l : List α) (c k : Nat) (v x : α) (h : k ≠ c) : (l.set c v).getD k x = l.getD k x := by
  simp [List.getD, List.getElem?_set_ne (Ne.symm h)]
theorem lt_of_getD {l : List Bool} {c : Nat} (h : l.getD c false = true) : c < l.length := by
  apply Decidable.byContradiction; intro hc
  rw [List.getD_eq_getElem?_getD, List.getElem?_eq_none (by omega)] at h
  cases h
theorem Inv.reach {f : Floor} {op0 : List Bool} {src : Nat → Prop} {cur : Nat → Nat → Prop} {s : Bs} (h : Inv f op0 src cur s) {c : Nat} {n : Int} (hn : 0 ≤ n) (hr : op0.getD c false = true → Reach f op0 src c) : Inv f op0 src cur (reach s c n) ∧ (reach s c n).op.getD c false = false ∧ ∀ k, s.op.getD k false = false → (Fl.reach s c n).op.getD k false = false := by
  unfold Fl.reach
  split
  · rename_i ho
    have hlt := lt_of_getD ho
    have hop0 := h.h1 c ho
    have hlo : c < s.out.length := by rw [h.lo, ← h.ln]; exact hlt
    have hset : ∀ k, k ≠ c → (s.out.set c n).getD k (-1) = s.out.getD k (-1) := fun k hk => getD_set_other _ _ _ _ _ hk
    have hsame : (s.out.set c n).getD c (-1) = n := getD_set_same _ _ _ _ hlo
    have oset : ∀ k, k ≠ c → (s.op.set c false).getD k false = s.op.getD k false := fun k hk => getD_set_other _ _ _ _ _ hk
    have osame : (s.op.set c false).getD c false = false := getD_set_same _ _ _ _ hlt
    have okeep : ∀ k, s.op.getD k false = false → (s.op.set c false).getD k false = false := by
      intro k hk
      by_cases e : k = c
      · rw [e]; exact osame
      · rw [oset k e]; exact hk
    refine ⟨⟨by simp [h.ln], by simp [h.lo], ?_, ?_, ?_, ?_, ?_⟩, osame, okeep⟩
    · intro k hk
      dsimp only at hk ⊢
      by_cases e : k = c
      · rw [e, hsame]; exact hn
      · rw [hset k e]
        rcases List.mem_append.1 hk with hk | hk
        · exact h.hq k hk
        · exact absurd (List.mem_singleton.1 hk) e
    · intro k hk
      dsimp only at hk ⊢
      by_cases e : k = c
      · rw [e]; exact ⟨hr hop0, osame⟩
      · rw [hset k e] at hk; rw [oset k e]; exact h.ho k hk
    · intro k hk
      dsimp only at hk
      by_cases e : k = c
      · rw [e]; exact hop0
      · rw [oset k e] at hk; exact h.h1 k hk
    · intro k h3 h4
      dsimp only at h4 ⊢
      by_cases e : k = c
      · rw [e, hsame]; exact hn
      · rw [oset k e] at h4; rw [hset k e]; exact h.h2 k h3 h4
    · intro k hk
      dsimp only at hk ⊢
      by_cases e : k = c
      · left; rw [e]; simp
      · rw [hset k e] at hk
        rcases h.hc k hk with h5 | h5
        · left; simp [h5]
        · right; intro d hd hcur m hm; exact okeep m (h5 d hd hcur m hm)
  · rename_i ho
    exact ⟨h, by simpa using ho, fun k hk => hk⟩
theorem Inv.goDirs {f : Floor} {op0 : List Bool} {src : Nat → Prop} {s : Bs} {c : Nat} {r : List Nat} (h : Inv f op0 src (fun _ _ => True) s) (hq : s.q = c :: r) : ∀ k, k ≤ 6 →
    Inv f op0 src (fun x d => x = c → d < k) (goDirs f c k { s with q := r }) ∧ 0 ≤ (Fl.goDirs f c k { s with q := r }).out.getD c (-1)
  | 0, _ => by
    have h0 := h.hq c (by rw [hq]; simp)
    show Inv f op0 src (fun x d => x = c → d < 0) { s with q := r } ∧ 0 ≤ s.out.getD c (-1)
    refine ⟨⟨h.ln, h.lo, fun x hx => h.hq x (by rw [hq]; exact List.mem_cons_of_mem _ hx), h.ho, h.h1, h.h2, fun x hx => ?_⟩, h0⟩
    by_cases e : x = c
    · right; intro d _ hc; have := hc e; omega
    · rcases h.hc x hx with h5 | h5
      · left
        rw [hq] at h5
        rcases List.mem_cons.1 h5 with h5 | h5
        · exact absurd h5 e
        · exact h5
      · right; intro d hd _; exact h5 d hd trivial
  | k + 1, hk => by
    obtain ⟨ih, hc0⟩ := Inv.goDirs h hq k (by omega)
    rw [Fl.goDirs]
    unfold goDir
    cases hn : next f c k with
    | none =>
      dsimp only
      refine ⟨⟨ih.ln, ih.lo, ih.hq, ih.ho, ih.h1, ih.h2, fun x hx => ?_⟩, hc0⟩
      rcases ih.hc x hx with h5 | h5
      · exact .inl h5
      · right; intro d hd hcur n hm
        by_cases e : x = c
        · by_cases ed : d = k
          · rw [e, ed, hn] at hm; cases hm
          · exact h5 d hd (fun _ => by have := hcur e; omega) n hm
        · exact h5 d hd (fun e2 => absurd e2 e) n hm
    | some n =>
      dsimp only
      generalize hs1 : Fl.goDirs f c k { s with q := r } = s1 at ih hc0
      have hlt : c < s1.out.length := by
        apply Decidable.byContradiction; intro hx
        rw [List.getD_eq_getElem?_getD, List.getElem?_eq_none (by omega)] at hc0
        simp at hc0
      have hge : 0 ≤ s1.out.getD c 0 := by
        rw [List.getD_eq_getElem?_getD, List.getElem?_eq_getElem hlt] at hc0 ⊢; exact hc0
      obtain ⟨g1, g2, g3⟩ := ih.reach (c := n) (n := s1.out.getD c 0 + 1) (by omega) (fun ho => .step (ih.ho c hc0).1 (by omega) hn ho)
      refine ⟨⟨g1.ln, g1.lo, g1.hq, g1.ho, g1.h1, g1.h2, fun x hx => ?_⟩, ?_⟩
      · rcases g1.hc x hx with h5 | h5
        · exact .inl h5
        · right; intro d hd hcur m hm
          by_cases e : x = c
          · by_cases ed : d = k
            · rw [e, ed, hn] at hm; injection hm with hm; rw [← hm]; exact g2
            · exact h5 d hd (fun _ => by have := hcur e; omega) m hm
          · exact h5 d hd (fun e2 => absurd e2 e) m hm
      · unfold Fl.reach
        split
        · dsimp only
          by_cases e : c = n
          · rw [← e, getD_set_same _ _ _ _ hlt]; omega
          · rw [getD_set_other _ _ _ _ _ e]; exact hc0
        · exact hc0
theorem Inv.round {f : Floor} {op0 : List Bool} {src : Nat → Prop} {s : Bs} {c : Nat} {r : List Nat} (h : Inv f op0 src (fun _ _ => True) s) (hq : s.q = c :: r) : Inv f op0 src (fun _ _ => True) (Fl.goDirs f c 6 { s with q := r }) := by
  obtain ⟨g, -⟩ := Inv.goDirs h hq 6 (Nat.le_refl _)
  refine ⟨g.ln, g.lo, g.hq, g.ho, g.h1, g.h2, fun x hx => ?_⟩
  rcases g.hc x hx with h5 | h5
  · exact .inl h5
  · right; intro d hd _ n hm; exact h5 d hd (fun _ => hd) n hm
theorem Inv.loop {f : Floor} {op0 : List Bool} {src : Nat → Prop} : ∀ (k : Nat) (s : Bs), rounds s = k → Inv f op0 src (fun _ _ => True) s → Inv f op0 src (fun _ _ => True) (Fl.loop f k s) ∧ (Fl.loop f k s).q = []
  | 0, s, hk, h => by
    refine ⟨h, ?_⟩
    unfold rounds at hk
    exact List.eq_nil_of_length_eq_zero (by show s.q.length = 0; omega)
  | k + 1, s, hk, h => by
    rw [Fl.loop]
    cases hq : s.q with
    | nil => exact ⟨h, hq⟩
    | cons c r =>
      dsimp only
      exact Inv.loop k _ (by have := rounds_pop f hq; omega) (h.round hq)
theorem open0_len (f : Floor) (avoid : List Int) : (open0 f avoid).length = f.kind.length := by
  unfold open0
  have : ∀ (l : List Int) (a : List Bool), (l.foldl (fun l c => if isC f c = true then l.set c.toNat false else l) a).length = a.length := by
    intro l
    induction l with
    | nil => intro a; rfl
    | cons c l ih => intro a; rw [List.foldl_cons, ih]; split <;> simp
  rw [this]; simp
/-- Which cells are open at first. -/
theorem open0_iff (f : Floor) (avoid : List Int) (c : Nat) : (open0 f avoid).getD c false = true ↔ c < f.kind.length ∧ f.kind.getD c 0 ≠ 0 ∧ ¬ (isC f (c : Int) = true ∧ (c : Int) ∈ avoid) := by
  unfold open0
  have : ∀ (l : List Int) (a : List Bool), ((l.foldl (fun l c => if isC f c = true then l.set c.toNat false else l) a).getD c false = true ↔ a.getD c false = true ∧ ¬ (isC f (c : Int) = true ∧ (c : Int) ∈ l)) := by
    intro l
    induction l with
    | nil => intro a; simp
    | cons x l ih =>
      intro a
      rw [List.foldl_cons, ih]
      by_cases hx : isC f x = true
      · rw [if_pos hx]
        by_cases e : (c : Int) = x
        · subst e
          constructor
          · rintro ⟨h1, -⟩
            exfalso
            have hlt := lt_of_getD h1
            rw [List.length_set] at hlt
            rw [Int.toNat_natCast, getD_set_same _ _ _ _ hlt] at h1
            cases h1
          · rintro ⟨-, h2⟩
            exact absurd ⟨hx, List.mem_cons_self ..⟩ h2
        · have hne : c ≠ x.toNat := by
            unfold isC at hx
            simp at hx
            omega
          rw [getD_set_other _ _ _ _ _ hne]
          simp [e]
      · rw [if_neg hx]
        by_cases e : (c : Int) = x
        · subst e; simp [hx]
        · simp [e]
  rw [this]
  constructor
  · rintro ⟨h1, h2⟩
    have hlt := lt_of_getD h1
    rw [List.length_map] at hlt
    refine ⟨hlt, ?_, h2⟩
    simpa [List.getD, hlt] using h1
  · rintro ⟨h1, h2, h3⟩
    refine ⟨?_, h3⟩
    simpa [List.getD, h1] using h2
theorem Inv.start (f : Floor) (frm avoid : List Int) : Inv f (open0 f avoid) (fun c => (c : Int) ∈ frm ∧ isC f (c : Int) = true) (fun _ _ => True) (start f frm avoid) ∧
    ∀ c : Nat, (c : Int) ∈ frm → isC f (c : Int) = true → (Fl.start f frm avoid).op.getD c false = false := by
  unfold Fl.start
  have key : ∀ (l m : List Int) (s : Bs), m ++ l = frm → Inv f (open0 f avoid) (fun c => (c : Int) ∈ frm ∧ isC f (c : Int) = true) (fun _ _ => True) s →
      (∀ c : Nat, (c : Int) ∈ m → isC f (c : Int) = true → s.op.getD c false = false) →
      Inv f (open0 f avoid) (fun c => (c : Int) ∈ frm ∧ isC f (c : Int) = true) (fun _ _ => True) (l.foldl (fun s c => if isC f c = true then Fl.reach s c.toNat 0 else s) s) ∧
      ∀ c : Nat, (c : Int) ∈ frm → isC f (c : Int) = true → (l.foldl (fun s c => if isC f c = true then Fl.reach s c.toNat 0 else s) s).op.getD c false = false := by
    intro l
    induction l with
    | nil => intro m s hm h1 h2; rw [List.append_nil] at hm; subst hm; exact ⟨h1, h2⟩
    | cons x l ih =>
      intro m s hm h1 h2
      rw [List.foldl_cons]
      refine ih (m ++ [x]) _ (by rw [← hm]; simp) ?_ ?_
      · split
        · rename_i hx
          have hx0 : 0 ≤ x := by unfold isC at hx; simp at hx; omega
          have hxn : ((x.toNat : Nat) : Int) = x := by omega
          refine (h1.reach (Int.le_refl 0) fun ho => .base ⟨?_, ?_⟩ ho).1
          · rw [hxn, ← hm]; simp
          · rw [hxn]; exact hx
        · exact h1
      · intro c hc hi
        rcases List.mem_append.1 hc with hc | hc
        · split
          · rename_i hx
            have hx0 : 0 ≤ x := by unfold isC at hx; simp at hx; omega
            have hxn : ((x.toNat : Nat) : Int) = x := by omega
            exact (h1.reach (c := x.toNat) (Int.le_refl 0) fun ho => .base ⟨by rw [hxn, ← hm]; simp, by rw [hxn]; exact hx⟩ ho).2.2 c (h2 c hc hi)
          · exact h2 c hc hi
        · have e := List.mem_singleton.1 hc
          rw [if_pos (by rw [← e]; exact hi)]
          have hxn : x.toNat = c := by omega
          rw [hxn]
          exact (h1.reach (c := c) (Int.le_refl 0) fun ho => .base ⟨by rw [e, ← hm]; simp, hi⟩ ho).2.1
  refine key frm [] _ rfl ⟨rfl, by simp [open0_len], (fun c hc => by cases hc), ?_, fun c h => h, ?_, ?_⟩ (fun c hc => by cases hc)
  · intro c hc
    exfalso
    by_cases hlt : c < f.kind.length
    · simp [List.getD, hlt] at hc
    · simp [List.getD, Nat.not_lt.1 hlt] at hc
  · intro c h3 h4; rw [h3] at h4; cases h4
  · intro c hc
    exfalso
    by_cases hlt : c < f.kind.length
    · simp [List.getD, hlt] at hc
    · simp [List.getD, Nat.not_lt.1 hlt] at hc
theorem dist_len (f : Floor) (frm avoid : List Int) : (dist f frm avoid).length = f.kind.length := by
  have h := (Inv.loop _ _ rfl (Inv.start f frm avoid).1).1.lo
  rw [open0_len] at h
  exact h
/-- A cell has a distance exactly if it can be reached. -/
theorem dist_iff (f : Floor) (frm avoid : List Int) (c : Nat) : 0 ≤ (dist f frm avoid).getD c (-1) ↔ Reach f (open0 f avoid) (fun c => (c : Int) ∈ frm ∧ isC f (c : Int) = true) c := by
  obtain ⟨hs, hs2⟩ := Inv.start f frm avoid
  obtain ⟨h, hq⟩ := Inv.loop _ _ rfl hs
  have hmono : ∀ (k : Nat) (s : Bs) (c : Nat), s.op.getD c false = false → (Fl.loop f k s).op.getD c false = false := by
    have hr : ∀ (s : Bs) (x c : Nat) (n : Int), s.op.getD c false = false → (Fl.reach s x n).op.getD c false = false := by
      intro s x c n h
      unfold Fl.reach
      split
      · dsimp only
        rename_i ho
        by_cases e : c = x
        · rw [e, getD_set_same _ _ _ _ (lt_of_getD ho)]
        · rw [getD_set_other _ _ _ _ _ e]; exact h
      · exact h
    have hd : ∀ (x k : Nat) (s : Bs) (c : Nat), s.op.getD c false = false → (Fl.goDirs f x k s).op.getD c false = false := by
      intro x k
      induction k with
      | zero => intro s c h; exact h
      | succ k ih =>
        intro s c h
        rw [Fl.goDirs]; unfold goDir
        split
        · exact hr _ _ _ _ (ih s c h)
        · exact ih s c h
    intro k
    induction k with
    | zero => intro s c h; exact h
    | succ k ih =>
      intro s c h
      rw [Fl.loop]
      split
      · exact h
      · exact ih _ _ (hd _ _ _ _ h)
  constructor
  · exact fun hc => (h.ho c hc).1
  · intro hr
    induction hr with
    | base hsrc ho => exact h.h2 _ ho (hmono _ _ _ (hs2 _ hsrc.1 hsrc.2))
    | step _ hd hn ho ih =>
      rcases h.hc _ ih with h5 | h5
      · rw [show (Fl.loop f (rounds (Fl.start f frm avoid)) (Fl.start f frm avoid)).q = [] from hq] at h5; cases h5
      · exact h.h2 _ ho (h5 _ hd trivial _ hn)
end Fl
end Go.Proofs.YtcdfmgobokjcnaaGreat
/- Sites in plain words: zones, which zones are next to which, how many robots they take. Nothing of the program is imported. -/
namespace Go.Proofs.YtcdfmgobokjcnaaGreat
namespace Si
open Fl (Floor isC)

structure Zone where
  name : List UInt8
  cells : List Int
  speed : Int
  keep : Int
  shut : List (Int × Int)
structure Site where
  floor : Floor
  zones : List Zone
  aparts : List (List UInt8 × List UInt8)
  shelves : List (Int × List UInt8)
  robots : List (Int × Int)
def kindAt (f : Floor) (c : Int) : Int := f.kind.getD c.toNat 0
/-- A site is right. -/
structure Right (s : Site) : Prop where
  fl : Fl.Right s.floor
  zn : s.zones.length ≤ 64
  zc : ∀ z ∈ s.zones, z.cells ≠ [] ∧ z.cells.Pairwise (· < ·) ∧ 0 ≤ z.keep ∧ 1 ≤ z.speed ∧ z.speed ≤ 100
  zk : ∀ z ∈ s.zones, ∀ c ∈ z.cells, isC s.floor c = true ∧ kindAt s.floor c ≠ 0 ∧ kindAt s.floor c ≠ 4 ∧ kindAt s.floor c ≠ 5
  zd : s.zones.Pairwise (fun y z => ∀ c ∈ y.cells, c ∉ z.cells)
  sn : s.shelves.length ≤ 3000
  sc : ∀ x ∈ s.shelves, isC s.floor x.1 = true ∧ (kindAt s.floor x.1 = 1 ∨ kindAt s.floor x.1 = 2)
  sd : (s.shelves.map (·.1)).Nodup
  rn : s.robots.length ≤ 200
  rc : ∀ x ∈ s.robots, isC s.floor x.1 = true ∧ kindAt s.floor x.1 ≠ 0 ∧ 0 ≤ x.2 ∧ x.2 ≤ 1000000
  rd : (s.robots.map (·.1)).Nodup

def zoneIdx : List Zone → Int → Option Nat
  | [], _ => none
  | z :: zs, c => if c ∈ z.cells then some 0 else (zoneIdx zs c).map (· + 1)
def zoneOf (zs : List Zone) (c : Int) : Int := match zoneIdx zs c with
  | some k => k
  | none => -1
theorem zoneIdx_some {zs : List Zone} {c : Int} {k : Nat} (h : zoneIdx zs c = some k) : ∃ hk : k < zs.length, c ∈ zs[k].cells := by
  induction zs generalizing k with
  | nil => cases h
  | cons z zs ih =>
    rw [zoneIdx] at h
    split at h
    · rename_i hc; injection h with h; subst h; exact ⟨by simp, hc⟩
    · cases hz : zoneIdx zs c with
      | none => rw [hz] at h; cases h
      | some j =>
        rw [hz] at h; injection h with h; subst h
        obtain ⟨h1, h2⟩ := ih hz
        exact ⟨by simpa using h1, by simpa using h2⟩
theorem zoneIdx_of {zs : List Zone} (hd : zs.Pairwise (fun y z => ∀ c ∈ y.cells, c ∉ z.cells)) {c : Int} {k : Nat} (hk : k < zs.length) (hc : c ∈ zs[k].cells) : zoneIdx zs c = some k := by
  induction zs generalizing k with
  | nil => simp at hk
  | cons z zs ih =>
    rw [List.pairwise_cons] at hd
    rw [zoneIdx]
    cases k with
    | zero => rw [if_pos (by simpa using hc)]
    | succ k =>
      simp only [List.length_cons, List.getElem_cons_succ] at hk hc
      rw [if_neg (fun h => hd.1 _ (List.getElem_mem (by omega)) c h hc), ih hd.2 (by omega) hc]
      rfl
theorem zoneOf_iff {zs : List Zone} (hd : zs.Pairwise (fun y z => ∀ c ∈ y.cells, c ∉ z.cells)) {c : Int} {k : Nat} (hk : k < zs.length) : zoneOf zs c = (k : Int) ↔ c ∈ zs[k].cells := by
  constructor
  · intro h
    unfold zoneOf at h
    split at h
    · rename_i j hj
      have : j = k := by omega
      subst this
      exact (zoneIdx_some hj).2
    · omega
  · intro h
    unfold zoneOf
    rw [zoneIdx_of hd hk h]
theorem zoneOf_range (zs : List Zone) (c : Int) : -1 ≤ zoneOf zs c ∧ zoneOf zs c < zs.length := by
  unfold zoneOf
  split
  · rename_i k hk; obtain ⟨h, -⟩ := zoneIdx_some hk; omega
  · omega

/-- The cells of all zones but two. -/
def others (a b : Nat) : Nat → List Zone → List Int
  | _, [] => []
  | i, z :: zs => (if i ≠ a ∧ i ≠ b then z.cells else []) ++ others a b (i + 1) zs
def cellsOf (s : Site) (a : Nat) : List Int := ((s.zones[a]?).map Zone.cells).getD []
def far (s : Site) (a b : Nat) : List Int := Fl.dist s.floor (cellsOf s a) (others a b 0 s.zones)
def nextZ (s : Site) (a b : Nat) : Bool := (cellsOf s b).any fun c => decide (0 ≤ (far s a b).getD c.toNat (-1))
def linked (s : Site) (a b : Nat) : Bool := decide (a ≠ b) && nextZ s a b
theorem others_mem (a b : Nat) (c : Int) : ∀ (zs : List Zone) (i : Nat), c ∈ others a b i zs ↔ ∃ k, ∃ h : k < zs.length, i + k ≠ a ∧ i + k ≠ b ∧ c ∈ zs[k].cells
  | [], i => by simp [others]
  | z :: zs, i => by
    rw [others, List.mem_append, others_mem a b c zs (i + 1)]
    constructor
    · rintro (h | ⟨k, hk, h1, h2, h3⟩)
      · split at h
        · rename_i hi; exact ⟨0, by simp, by simpa using hi.1, by simpa using hi.2, by simpa using h⟩
        · cases h
      · exact ⟨k + 1, by simpa using hk, by omega, by omega, by simpa using h3⟩
    · rintro ⟨k, hk, h1, h2, h3⟩
      cases k with
      | zero => left; rw [if_pos ⟨by simpa using h1, by simpa using h2⟩]; simpa using h3
      | succ k => right; exact ⟨k, by simpa using hk, by omega, by omega, by simpa using h3⟩
theorem cellsOf_eq {s : Site} {a : Nat} (h : a < s.zones.length) : cellsOf s a = s.zones[a].cells := by
  unfold cellsOf; rw [List.getElem?_eq_getElem h]; rfl
theorem open_zone {s : Site} (hr : Right s) {a b k : Nat} (hk : k < s.zones.length) (he : k = a ∨ k = b) {c : Int} (hc : c ∈ s.zones[k].cells) : (Fl.open0 s.floor (others a b 0 s.zones)).getD c.toNat false = true ∧ 0 ≤ c ∧ isC s.floor c = true := by
  obtain ⟨h1, h2, h3, h4⟩ := hr.zk _ (List.getElem_mem hk) c hc
  have h0 : 0 ≤ c ∧ c < s.floor.size := by unfold isC at h1; simpa using h1
  have hcn : ((c.toNat : Nat) : Int) = c := by omega
  refine ⟨?_, h0.1, h1⟩
  rw [Fl.open0_iff]
  refine ⟨by have := hr.fl.kl; omega, h2, ?_⟩
  rw [hcn]
  rintro ⟨-, hm⟩
  obtain ⟨j, hj, g1, g2, g3⟩ := (others_mem a b c s.zones 0).1 hm
  have e1 := zoneIdx_of hr.zd hj g3
  have e2 := zoneIdx_of hr.zd hk hc
  rw [e1] at e2
  injection e2 with e2
  omega
/-- A zone to whose cells one gets from a neighbouring cell of another zone is next to it. -/
theorem beside_linked {s : Site} (hr : Right s) {a b : Nat} (ha : a < s.zones.length) (hb : b < s.zones.length) (hab : a ≠ b) {c n d : Nat} (hd : d < 6) (hn : Fl.next s.floor c d = some n)
    (hc : (c : Int) ∈ s.zones[a].cells) (hm : (n : Int) ∈ s.zones[b].cells) : linked s a b = true := by
  unfold linked nextZ
  simp only [Bool.and_eq_true, decide_eq_true_eq, List.any_eq_true]
  refine ⟨hab, (n : Int), by rw [cellsOf_eq hb]; exact hm, ?_⟩
  unfold far
  rw [Int.toNat_natCast, Fl.dist_iff]
  obtain ⟨h1, -, h3⟩ := open_zone hr ha (.inl rfl : a = a ∨ a = b) hc
  obtain ⟨h2, -, -⟩ := open_zone hr hb (.inr rfl : b = a ∨ b = b) hm
  rw [Int.toNat_natCast] at h1 h2
  exact .step (.base ⟨by rw [cellsOf_eq ha]; exact hc, h3⟩ h1) hd hn h2
theorem far_len {s : Site} (a b : Nat) : (far s a b).length = s.floor.kind.length := Fl.dist_len ..
/-- Next to each other: a cell of the zone has a distance. -/
theorem nextZ_iff {s : Site} (hr : Right s) {a b : Nat} (hb : b < s.zones.length) : nextZ s a b = true ↔ ∃ c : Nat, c < s.floor.kind.length ∧ zoneOf s.zones c = (b : Int) ∧ 0 ≤ (far s a b).getD c (-1) := by
  unfold nextZ
  simp only [List.any_eq_true, decide_eq_true_eq]
  constructor
  · rintro ⟨c, hc, h⟩
    rw [cellsOf_eq hb] at hc
    have h1 := (hr.zk _ (List.getElem_mem hb) c hc).1
    have h0 : 0 ≤ c ∧ c < s.floor.size := by unfold isC at h1; simpa using h1
    have hcn : ((c.toNat : Nat) : Int) = c := by omega
    exact ⟨c.toNat, by have := hr.fl.kl; omega, by rw [hcn]; exact (zoneOf_iff hr.zd hb).2 hc, h⟩
  · rintro ⟨c, hc, hz, h⟩
    exact ⟨(c : Int), by rw [cellsOf_eq hb]; exact (zoneOf_iff hr.zd hb).1 hz, by simpa using h⟩

/-! ### How many robots a zone takes -/
/-- How many cells of a zone lie below a number. -/
def below (cells : List Int) (k : Int) : Nat := cells.countP fun x => decide (x < k)
theorem below_succ : ∀ (cells : List Int), cells.Pairwise (· < ·) → ∀ k : Int, below cells (k + 1) = below cells k + if k ∈ cells then 1 else 0
  | [], _, k => rfl
  | x :: l, h, k => by
    rw [List.pairwise_cons] at h
    have ih := below_succ l h.2 k
    unfold below at ih ⊢
    rw [List.countP_cons, List.countP_cons, ih]
    by_cases e : k = x
    · subst e
      have : k ∉ l := fun hm => by have := h.1 k hm; omega
      simp [this]
      omega
    · have e2 : (decide (x < k + 1)) = decide (x < k) := by rw [decide_eq_decide]; omega
      rw [e2]
      simp only [List.mem_cons, e, false_or]
      omega
theorem below_all (cells : List Int) (k : Int) (h : ∀ c ∈ cells, c < k) : below cells k = cells.length := by
  unfold below; rw [List.countP_eq_length]; intro c hc; simpa using h c hc
theorem below_zero (cells : List Int) (h : ∀ c ∈ cells, 0 ≤ c) : below cells 0 = 0 := by
  unfold below; rw [List.countP_eq_zero]; intro c hc; have := h c hc; simp; omega
/-- How many shelves stand in a zone. -/
def taken (s : Site) (a : Nat) : Nat := s.shelves.countP fun x => decide (zoneOf s.zones x.1 = (a : Int))
theorem nodup_sub {l m : List Int} (hn : l.Nodup) (h : ∀ x ∈ l, x ∈ m) : l.length ≤ m.length := by
  induction l generalizing m with
  | nil => simp
  | cons x l ih =>
    rw [List.nodup_cons] at hn
    have hx := h x (List.mem_cons_self ..)
    have := ih (m := m.erase x) hn.2 (fun y hy => (List.mem_erase_of_ne (fun e : y = x => hn.1 (by rw [← e]; exact hy))).2 (h y (List.mem_cons_of_mem _ hy)))
    rw [List.length_erase_of_mem hx] at this
    have := List.length_pos_of_mem hx
    simp only [List.length_cons]; omega
theorem taken_le {s : Site} (hr : Right s) {a : Nat} (ha : a < s.zones.length) : taken s a ≤ s.zones[a].cells.length := by
  have e : taken s a = ((s.shelves.filter fun x => decide (zoneOf s.zones x.1 = (a : Int))).map (·.1)).length := by
    unfold taken; rw [List.length_map, List.countP_eq_length_filter]
  rw [e]
  refine nodup_sub ?_ ?_
  · exact List.Nodup.sublist (List.Sublist.map _ List.filter_sublist) hr.sd
  · intro c hc
    obtain ⟨x, hx, rfl⟩ := List.mem_map.1 hc
    obtain ⟨-, h⟩ := List.mem_filter.1 hx
    exact (zoneOf_iff hr.zd ha).1 (by simpa using h)
def capOf (s : Site) (a : Nat) : Int := match s.zones[a]? with
  | some z => max ((z.cells.length : Int) - taken s a - z.keep) 0
  | none => 0
theorem capOf_eq {s : Site} {a : Nat} (ha : a < s.zones.length) : capOf s a = max ((s.zones[a].cells.length : Int) - taken s a - s.zones[a].keep) 0 := by
  unfold capOf; rw [List.getElem?_eq_getElem ha]
end Si
end Go.Proofs.YtcdfmgobokjcnaaGreat
/- Budgets of faults in plain words: what is left, and which lists can be spent. Nothing of the program is imported. -/
namespace Go.Proofs.YtcdfmgobokjcnaaGreat
namespace Fa

structure Bud where
  stops : Int
  cells : Int
  mutes : Int
  muteMost : Int
  lifts : Int
  liftMost : Int
  steps : Int
deriving DecidableEq
structure Flt where
  kind : Int
  a : Int
  n : Int
deriving DecidableEq
/-- A budget is right. -/
structure Right (b : Bud) : Prop where
  h1 : 0 ≤ b.stops ∧ b.stops ≤ 20
  h2 : 0 ≤ b.cells ∧ b.cells ≤ 20
  h3 : 0 ≤ b.mutes ∧ b.mutes ≤ 20
  h4 : 0 ≤ b.lifts ∧ b.lifts ≤ 20
  h5 : 0 ≤ b.steps ∧ b.steps ≤ 20
  h6 : 0 ≤ b.muteMost ∧ b.muteMost ≤ 100
  h7 : 0 ≤ b.liftMost ∧ b.liftMost ≤ 100
def within (n a b : Int) : Bool := decide (a ≤ n) && decide (n ≤ b)
def rightB (b : Bud) : Bool := within b.stops 0 20 && (within b.cells 0 20 && (within b.mutes 0 20 && (within b.lifts 0 20 && (within b.steps 0 20 && (within b.muteMost 0 100 && within b.liftMost 0 100)))))
theorem rightB_iff {b : Bud} : rightB b = true ↔ Right b := by
  unfold rightB within
  simp only [Bool.and_eq_true, decide_eq_true_eq]
  constructor
  · rintro ⟨h1, h2, h3, h4, h5, h6, h7⟩; exact ⟨h1, h2, h3, h4, h5, h6, h7⟩
  · rintro ⟨h1, h2, h3, h4, h5, h6, h7⟩; exact ⟨h1, h2, h3, h4, h5, h6, h7⟩
def num (b : Bud) (k : Int) : Int := if k = 1 then b.stops else if k = 2 then b.cells else if k = 3 then b.mutes else if k = 4 then b.lifts else b.steps
/-- A kind that exists, and a delay that is not too long. -/
def okF (b : Bud) (f : Flt) : Prop := 0 ≤ f.kind ∧ f.kind < 6 ∧ (f.kind = 3 → 1 ≤ f.n ∧ f.n ≤ b.muteMost) ∧ (f.kind = 4 → 1 ≤ f.n ∧ f.n ≤ b.liftMost)
instance (b : Bud) (f : Flt) : Decidable (okF b f) := by unfold okF; infer_instance
def dec (b : Bud) (k : Int) : Bud :=
  { stops := if k = 1 then b.stops - 1 else b.stops, cells := if k = 2 then b.cells - 1 else b.cells, mutes := if k = 3 then b.mutes - 1 else b.mutes, muteMost := b.muteMost,
    lifts := if k = 4 then b.lifts - 1 else b.lifts, liftMost := b.liftMost, steps := if k = 5 then b.steps - 1 else b.steps }
def spend (b : Bud) (f : Flt) : Option Bud := if f.kind = 0 then some b else if okF b f ∧ 1 ≤ num b f.kind then some (dec b f.kind) else none
def run (b : Bud) : List Flt → Bud × Nat
  | [] => (b, 0)
  | f :: l => match spend b f with
    | none => (b, 0)
    | some c => ((run c l).1, (run c l).2 + 1)
def left (b : Bud) : Int := b.stops + b.cells + b.mutes + b.lifts + b.steps
def cnt (l : List Flt) (k : Int) : Int := (l.countP fun f => decide (f.kind = k) : Nat)
/-- A list can be spent. -/
def Fits (b : Bud) (l : List Flt) : Prop := (∀ f ∈ l, okF b f) ∧ cnt l 1 ≤ b.stops ∧ cnt l 2 ≤ b.cells ∧ cnt l 3 ≤ b.mutes ∧ cnt l 4 ≤ b.lifts ∧ cnt l 5 ≤ b.steps
/-- What is left of a budget. -/
def rest (b : Bud) (l : List Flt) : Bud := ⟨b.stops - cnt l 1, b.cells - cnt l 2, b.mutes - cnt l 3, b.muteMost, b.lifts - cnt l 4, b.liftMost, b.steps - cnt l 5⟩
structure Nn (b : Bud) : Prop where
  h1 : 0 ≤ b.stops
  h2 : 0 ≤ b.cells
  h3 : 0 ≤ b.mutes
  h4 : 0 ≤ b.lifts
  h5 : 0 ≤ b.steps
theorem cnt_cons (f : Flt) (l : List Flt) (k : Int) : cnt (f :: l) k = cnt l k + if f.kind = k then 1 else 0 := by
  unfold cnt; rw [List.countP_cons]
  by_cases h : f.kind = k <;> simp [h]
theorem cnt_nonneg (l : List Flt) (k : Int) : 0 ≤ cnt l k := by unfold cnt; omega
theorem cnt_append (l m : List Flt) (k : Int) : cnt (l ++ m) k = cnt l k + cnt m k := by unfold cnt; rw [List.countP_append]; omega
theorem spend_some {b c : Bud} {f : Flt} (hb : Nn b) (h : spend b f = some c) : okF b f ∧ Nn c ∧ c = rest b [f] := by
  unfold spend at h
  obtain ⟨b1, b2, b3, b4, b5⟩ := hb
  by_cases h0 : f.kind = 0
  · rw [if_pos h0] at h; injection h with h; subst h
    refine ⟨⟨by omega, by omega, by omega, by omega⟩, ⟨b1, b2, b3, b4, b5⟩, ?_⟩
    unfold rest; simp [cnt_cons, h0, show cnt [] = fun _ => 0 from rfl]
  · rw [if_neg h0] at h
    by_cases h1 : okF b f ∧ 1 ≤ num b f.kind
    · rw [if_pos h1] at h; injection h with h; subst h
      obtain ⟨h1, h2⟩ := h1
      refine ⟨h1, ?_, ?_⟩
      · unfold num at h2
        constructor <;> (simp only [dec]; split <;> (try simp_all) <;> omega)
      · unfold rest dec
        simp only [cnt_cons, show cnt [] = fun _ => 0 from rfl]
        congr 1 <;> (split <;> omega)
    · rw [if_neg h1] at h; cases h
theorem spend_none {b : Bud} {f : Flt} (h : spend b f = none) : ¬ Fits b [f] := by
  unfold spend at h
  by_cases h0 : f.kind = 0
  · rw [if_pos h0] at h; cases h
  rw [if_neg h0] at h
  by_cases h1 : okF b f ∧ 1 ≤ num b f.kind
  · rw [if_pos h1] at h; cases h
  · rintro ⟨g0, g1, g2, g3, g4, g5⟩
    have g := g0 f (List.mem_singleton.2 rfl)
    apply h1
    refine ⟨g, ?_⟩
    obtain ⟨k0, k1, -, -⟩ := g
    simp only [cnt_cons, show cnt [] = fun _ => 0 from rfl] at g1 g2 g3 g4 g5
    unfold num
    split
    · rename_i e; simp [e] at g1; omega
    · split
      · rename_i e; simp [e] at g2; omega
      · split
        · rename_i e; simp [e] at g3; omega
        · split
          · rename_i e; simp [e] at g4; omega
          · have e : f.kind = 5 := by omega
            simp [e] at g5; omega
theorem okF_rest (b : Bud) (l : List Flt) (f : Flt) : okF (rest b l) f ↔ okF b f := Iff.rfl
theorem fits_cons {b : Bud} {f : Flt} {l : List Flt} : Fits b (f :: l) ↔ Fits b [f] ∧ Fits (rest b [f]) l := by
  unfold Fits
  simp only [List.mem_cons, List.not_mem_nil, or_false, forall_eq_or_imp, forall_eq, okF_rest]
  have n1 := cnt_nonneg l 1
  have n2 := cnt_nonneg l 2
  have n3 := cnt_nonneg l 3
  have n4 := cnt_nonneg l 4
  have n5 := cnt_nonneg l 5
  simp only [rest]
  rw [cnt_cons f l, cnt_cons f l, cnt_cons f l, cnt_cons f l, cnt_cons f l, cnt_cons f [], cnt_cons f [], cnt_cons f [], cnt_cons f [], cnt_cons f []]
  simp only [show cnt [] = fun _ => 0 from rfl]
  constructor
  · rintro ⟨⟨h1, h2⟩, h3, h4, h5, h6, h7⟩
    exact ⟨⟨h1, by omega, by omega, by omega, by omega, by omega⟩, h2, by omega, by omega, by omega, by omega, by omega⟩
  · rintro ⟨⟨h1, -, -, -, -, -⟩, h2, h3, h4, h5, h6, h7⟩
    exact ⟨⟨h1, h2⟩, by omega, by omega, by omega, by omega, by omega⟩
theorem rest_cons (b : Bud) (f : Flt) (l : List Flt) : rest b (f :: l) = rest (rest b [f]) l := by
  simp only [rest, cnt_cons, show cnt [] = fun _ => 0 from rfl]
  congr 1 <;> omega
theorem rest_nil (b : Bud) : rest b [] = b := by simp [rest, show cnt [] = fun _ => 0 from rfl]
/-- What running a list gives. -/
theorem run_spec : ∀ (l : List Flt) (b : Bud), Nn b → (run b l).2 ≤ l.length ∧ Nn (run b l).1 ∧ (run b l).1 = rest b (l.take (run b l).2) ∧ Fits b (l.take (run b l).2) ∧ ((run b l).2 < l.length → ∀ k, (run b l).2 < k → k ≤ l.length → ¬ Fits b (l.take k))
  | [], b, hb => by
    refine ⟨Nat.le_refl _, hb, (rest_nil b).symm, ⟨fun f h => (by cases h), hb.h1, hb.h2, hb.h3, hb.h4, hb.h5⟩, fun h => (by cases h)⟩
  | f :: l, b, hb => by
    rw [run]
    cases hs : spend b f with
    | none =>
      dsimp only
      refine ⟨Nat.zero_le _, hb, (rest_nil b).symm, ⟨fun f h => (by cases h), hb.h1, hb.h2, hb.h3, hb.h4, hb.h5⟩, fun _ k h1 h2 hf => ?_⟩
      cases k with
      | zero => omega
      | succ k =>
        rw [List.take_succ_cons, fits_cons] at hf
        exact spend_none hs hf.1
    | some c =>
      dsimp only
      obtain ⟨g1, g2, rfl⟩ := spend_some hb hs
      obtain ⟨i1, i2, i3, i4, i5⟩ := run_spec l (rest b [f]) g2
      have hf1 : Fits b [f] := by
        apply Classical.byContradiction
        intro hc
        obtain ⟨c1, c2, c3, c4, c5⟩ := g2
        apply hc
        simp only [rest] at c1 c2 c3 c4 c5
        exact ⟨fun x hx => by rw [List.mem_singleton.1 hx]; exact g1, by omega, by omega, by omega, by omega, by omega⟩
      refine ⟨by simpa using i1, i2, ?_, ?_, fun h k h1 h2 hf => ?_⟩
      · rw [List.take_succ_cons, rest_cons b f (l.take _)]; exact i3
      · rw [List.take_succ_cons, fits_cons]; exact ⟨hf1, i4⟩
      · cases k with
        | zero => omega
        | succ k =>
          rw [List.take_succ_cons, fits_cons] at hf
          simp only [List.length_cons] at h h2
          exact i5 (by omega) k (by omega) (by omega) hf.2
theorem fits_take {b : Bud} {l : List Flt} (h : Fits b l) (k : Nat) : Fits b (l.take k) := by
  obtain ⟨h0, h1, h2, h3, h4, h5⟩ := h
  have hc : ∀ j, cnt (l.take k) j ≤ cnt l j := fun j => by
    have := cnt_append (l.take k) (l.drop k) j
    rw [List.take_append_drop] at this
    have := cnt_nonneg (l.drop k) j
    omega
  have := hc 1; have := hc 2; have := hc 3; have := hc 4; have := hc 5
  exact ⟨fun f hf => h0 f (List.mem_of_mem_take hf), by omega, by omega, by omega, by omega, by omega⟩
/-- All of a list is spent exactly if it fits. -/
theorem run_all {b : Bud} (hb : Nn b) (l : List Flt) : (run b l).2 = l.length ↔ Fits b l := by
  obtain ⟨h1, h2, h3, h4, h5⟩ := run_spec l b hb
  constructor
  · intro h; rw [h, List.take_length] at h4; exact h4
  · intro h
    apply Decidable.byContradiction; intro hc
    exact h5 (by omega) l.length (by omega) (Nat.le_refl _) (by rw [List.take_length]; exact h)
theorem run_rest {b : Bud} (hb : Nn b) {l : List Flt} (h : Fits b l) : (run b l).1 = rest b l := by
  obtain ⟨-, -, h3, -, -⟩ := run_spec l b hb
  rw [(run_all hb l).2 h, List.take_length] at h3; exact h3
/-- A list turned round. -/
theorem fits_rot (b : Bud) (l : List Flt) (k : Nat) : Fits b (l.drop k ++ l.take k) ↔ Fits b l := by
  have hc : ∀ j, cnt (l.drop k ++ l.take k) j = cnt l j := fun j => by
    have := cnt_append (l.take k) (l.drop k) j
    rw [List.take_append_drop] at this
    rw [cnt_append]; omega
  unfold Fits
  rw [hc, hc, hc, hc, hc]
  refine and_congr_left fun _ => ⟨fun h f hf => h f ?_, fun h f hf => h f ?_⟩
  · rw [← List.take_append_drop k l] at hf
    rcases List.mem_append.1 hf with hf | hf
    · exact List.mem_append.2 (.inr hf)
    · exact List.mem_append.2 (.inl hf)
  · rcases List.mem_append.1 hf with hf | hf
    · exact List.mem_of_mem_drop hf
    · exact List.mem_of_mem_take hf
theorem rest_rot (b : Bud) (l : List Flt) (k : Nat) : rest b (l.drop k ++ l.take k) = rest b l := by
  have hc : ∀ j, cnt (l.drop k ++ l.take k) j = cnt l j := fun j => by
    have := cnt_append (l.take k) (l.drop k) j
    rw [List.take_append_drop] at this
    rw [cnt_append]; omega
  simp only [rest, hc]
/-- A budget is at most another one. -/
structure Within (a b : Bud) : Prop where
  h1 : a.stops ≤ b.stops
  h2 : a.cells ≤ b.cells
  h3 : a.mutes ≤ b.mutes
  h4 : a.lifts ≤ b.lifts
  h5 : a.steps ≤ b.steps
  h6 : a.muteMost ≤ b.muteMost
  h7 : a.liftMost ≤ b.liftMost
theorem fits_within {a b : Bud} (h : Within a b) {l : List Flt} (hf : Fits a l) : Fits b l := by
  obtain ⟨h0, h1, h2, h3, h4, h5⟩ := hf
  obtain ⟨g1, g2, g3, g4, g5, g6, g7⟩ := h
  refine ⟨fun f hf => ?_, by omega, by omega, by omega, by omega, by omega⟩
  obtain ⟨k1, k2, k3, k4⟩ := h0 f hf
  exact ⟨k1, k2, fun e => by have := k3 e; omega, fun e => by have := k4 e; omega⟩
theorem within_rest (b : Bud) (l : List Flt) : Within (rest b l) b := by
  have := cnt_nonneg l 1; have := cnt_nonneg l 2; have := cnt_nonneg l 3; have := cnt_nonneg l 4; have := cnt_nonneg l 5
  constructor <;> simp only [rest] <;> omega
theorem rest_within {a b : Bud} (h : Within a b) (l : List Flt) : Within (rest a l) (rest b l) := by
  obtain ⟨g1, g2, g3, g4, g5, g6, g7⟩ := h
  constructor <;> simp only [rest] <;> omega
/-- How many faults there are. -/
theorem len_cnt {b : Bud} {l : List Flt} (h : ∀ f ∈ l, okF b f) : (l.length : Int) - cnt l 0 = cnt l 1 + cnt l 2 + cnt l 3 + cnt l 4 + cnt l 5 := by
  induction l with
  | nil => rfl
  | cons f l ih =>
    have := ih (fun x hx => h x (List.mem_cons_of_mem _ hx))
    obtain ⟨h0, h1, -, -⟩ := h f (List.mem_cons_self ..)
    rw [cnt_cons, cnt_cons, cnt_cons, cnt_cons, cnt_cons, cnt_cons]
    simp only [List.length_cons]
    have hk : f.kind = 0 ∨ f.kind = 1 ∨ f.kind = 2 ∨ f.kind = 3 ∨ f.kind = 4 ∨ f.kind = 5 := by omega
    rcases hk with e | e | e | e | e | e <;> (rw [e]; simp; omega)
theorem left_rest {b : Bud} {l : List Flt} (h : ∀ f ∈ l, okF b f) : (l.length : Int) - cnt l 0 = left b - left (rest b l) := by
  rw [len_cnt h]; simp only [left, rest]; omega
/-- What the lesser budget allows, the greater one does. -/
theorem less_run {a b : Bud} (ha : Nn a) (hb : Nn b) (h : Within a b) (l : List Flt) : (run a l).2 ≤ (run b l).2 ∧ (run b (l.take (run a l).2)).2 = (run a l).2 ∧ Within (run a l).1 (run b (l.take (run a l).2)).1 := by
  obtain ⟨h1, h2, h3, h4, -⟩ := run_spec l a ha
  obtain ⟨k1, k2, k3, k4, k5⟩ := run_spec l b hb
  have hf := fits_within h h4
  have hl : (l.take (run a l).2).length = (run a l).2 := by rw [List.length_take]; omega
  refine ⟨?_, ?_, ?_⟩
  · apply Decidable.byContradiction; intro hc
    exact k5 (by omega) (run a l).2 (by omega) h1 hf
  · rw [(run_all hb _).2 hf, hl]
  · rw [run_rest hb hf, h3]
    exact rest_within h _
end Fa
end Go.Proofs.YtcdfmgobokjcnaaGreat
/- Which faults are listed, in plain words: bodies and their slots, what is possible, what concerns some cells, the list. Nothing of the program is imported. -/
namespace Go.Proofs.YtcdfmgobokjcnaaGreat
namespace Bd
structure Robot where
  cell : Int
  load : Int
  charge : Int
  rest : Int
  mute : Int
  dead : Bool
structure State where
  tick : Int
  shelves : List Int
  robots : List Robot
  people : List Int
  dead : List Int
  stuck : List (Int × Int)
/-- The slots that one who carries (or not) has at a cell. -/
def atL (l c : Int) : List Int := if 0 ≤ l then [2 * c, 2 * c + 1] else [2 * c]
def robotL (r : Robot) : List Int := atL r.load r.cell
def carried (st : State) (i : Nat) : Bool := st.robots.any fun r => r.load == (i : Int)
def shelfL (st : State) (i : Nat) : List Int := if carried st i = true then [] else [2 * st.shelves.getD i 0 + 1]
def personL (c : Int) : List Int := [2 * c, 2 * c + 1]
def robotsL (st : State) : List Int := st.robots.flatMap robotL
def shelvesL (st : State) : List Int := (List.range st.shelves.length).flatMap (shelfL st)
def peopleL (st : State) : List Int := st.people.flatMap personL
def allL (st : State) : List Int := robotsL st ++ (shelvesL st ++ peopleL st)
/-- Somebody has a slot of a cell. -/
def heldB (st : State) (c : Int) : Bool := (allL st).any fun x => x == 2 * c || x == 2 * c + 1
theorem atL_len (l c : Int) : (atL l c).length ≤ 2 := by unfold atL; split <;> simp
theorem flat_len {α : Type} (f : α → List Int) (n : Nat) (h : ∀ x, (f x).length ≤ n) : ∀ l : List α, (l.flatMap f).length ≤ l.length * n
  | [] => by simp
  | x :: l => by
    have := flat_len f n h l
    have := h x
    simp only [List.flatMap_cons, List.length_append, List.length_cons, Nat.add_mul]
    omega
theorem robotsL_len (st : State) : (robotsL st).length ≤ st.robots.length * 2 := flat_len _ 2 (fun _ => atL_len _ _) _
theorem shelfL_len (st : State) (i : Nat) : (shelfL st i).length ≤ 2 := by unfold shelfL; split <;> simp
theorem shelvesL_len (st : State) : (shelvesL st).length ≤ st.shelves.length * 2 := by
  have := flat_len (shelfL st) 2 (shelfL_len st) (List.range st.shelves.length)
  rwa [List.length_range] at this
theorem peopleL_len (st : State) : (peopleL st).length ≤ st.people.length * 2 := flat_len _ 2 (fun _ => by simp [personL]) _
theorem flat_take {α : Type} (f : α → List Int) (l : List α) (i : Nat) (h : i < l.length) : (l.take (i + 1)).flatMap f = (l.take i).flatMap f ++ f l[i] := by
  rw [List.take_succ_eq_append_getElem h, List.flatMap_append]; simp
theorem any_perm {l m : List Int} (h : l.Perm m) (p : Int → Bool) : l.any p = m.any p := by
  rw [Bool.eq_iff_iff, List.any_eq_true, List.any_eq_true]
  exact ⟨fun ⟨x, a, b⟩ => ⟨x, h.mem_iff.1 a, b⟩, fun ⟨x, a, b⟩ => ⟨x, h.mem_iff.2 a, b⟩⟩
end Bd
namespace Fa
def kindF (f : Fl.Floor) (c : Int) : Int := if 0 ≤ c ∧ c < (f.kind.length : Int) then f.kind.getD c.toNat 0 else 0
def deadAt (st : Bd.State) (i : Nat) : Bool := match st.robots[i]? with
  | some r => r.dead
  | none => true
def live (st : Bd.State) (i : Int) : Bool := decide (0 ≤ i) && (decide (i < (st.robots.length : Int)) && !deadAt st i.toNat)
def longB (n : Int) : Bool := decide (1 ≤ n) && decide (n ≤ 20000)
def nearB (f : Fl.Floor) (a b : Int) : Bool := Fl.isC f b && (Fl.beside f a 0 == b || (Fl.beside f a 1 == b || (Fl.beside f a 2 == b || Fl.beside f a 3 == b)))
def stepB (f : Fl.Floor) (st : Bd.State) (p c : Int) : Bool :=
  (decide (kindF f c = 4) || decide (kindF f c = 5)) && (!Bd.heldB st c && (if p = (st.people.length : Int) then decide (kindF f c = 5) && decide (p < 20) else decide (0 ≤ p) && (decide (p < (st.people.length : Int)) && nearB f (st.people.getD p.toNat 0) c)))
def possB (f : Fl.Floor) (st : Bd.State) (x : Flt) : Bool :=
  if x.kind = 0 then true else if x.kind = 1 then live st x.a else if x.kind = 2 then !decide (kindF f x.a = 0) && !st.dead.contains x.a
  else if x.kind = 3 then live st x.a && longB x.n else if x.kind = 4 then decide (kindF f x.a = 6) && longB x.n else if x.kind = 5 then stepB f st x.a x.n else false
def cellOf (st : Bd.State) (i : Nat) : Int := match st.robots[i]? with
  | some r => r.cell
  | none => 0
def concB (st : Bd.State) (x : Flt) (cells : List Int) : Bool :=
  if x.kind = 0 then true else if x.kind = 1 ∨ x.kind = 3 then decide (0 ≤ x.a) && (decide (x.a < (st.robots.length : Int)) && cells.contains (cellOf st x.a.toNat))
  else if x.kind = 2 ∨ x.kind = 4 then cells.contains x.a else if x.kind = 5 then cells.contains x.n else false
def allowsB (b : Bud) (x : Flt) : Bool := (spend b x).isSome
def okB (f : Fl.Floor) (st : Bd.State) (b : Bud) (cells : List Int) (x : Flt) : Bool := allowsB b x && (concB st x cells && possB f st x)
/-! ### The list -/
def delaysL (k a most : Int) : List Flt := (List.range most.toNat).map fun (n : Nat) => ⟨k, a, (n : Int) + 1⟩
def robotC (b : Bud) (i : Nat) : List Flt := ⟨1, (i : Int), 0⟩ :: delaysL 3 (i : Int) b.muteMost
def stepC (np : Nat) (c : Int) : List Flt := (List.range (np + 1)).map fun (p : Nat) => ⟨5, (p : Int), c⟩
def cellC (b : Bud) (np : Nat) (c : Int) : List Flt := ⟨2, c, 0⟩ :: (delaysL 4 c b.liftMost ++ stepC np c)
def robotsC (b : Bud) (n : Nat) : List Flt := (List.range n).flatMap (robotC b)
def allC (b : Bud) (nr np : Nat) (places : List Int) : List Flt := ⟨0, 0, 0⟩ :: (robotsC b nr ++ places.flatMap (cellC b np))
/-- One fault stands ahead of another one. -/
def lt (x y : Flt) : Prop := x.kind < y.kind ∨ (x.kind = y.kind ∧ (x.a < y.a ∨ (x.a = y.a ∧ x.n < y.n)))
def ltB (x y : Flt) : Bool := decide (x.kind < y.kind) || (decide (x.kind = y.kind) && (decide (x.a < y.a) || (decide (x.a = y.a) && decide (x.n < y.n))))
theorem ltB_iff {x y : Flt} : ltB x y = true ↔ lt x y := by unfold ltB lt; simp
theorem lt_irrefl (x : Flt) : ¬ lt x x := by unfold lt; omega
theorem lt_asymm {x y : Flt} (h : lt x y) : ¬ lt y x := by unfold lt at *; omega
theorem lt_trans {x y z : Flt} (h : lt x y) (h2 : lt y z) : lt x z := by unfold lt at *; omega
theorem lt_total {x y : Flt} (h : ¬ lt x y) (h2 : ¬ lt y x) : x = y := by
  obtain ⟨a, b, c⟩ := x
  obtain ⟨d, e, f⟩ := y
  unfold lt at *
  dsimp only at h h2
  congr 1 <;> omega
/-- A candidate of the list. -/
def Cand (b : Bud) (nr np : Nat) (cells : List Int) (x : Flt) : Prop :=
  x = ⟨0, 0, 0⟩ ∨ (x.kind = 1 ∧ (0 ≤ x.a ∧ x.a < (nr : Int)) ∧ x.n = 0) ∨ (x.kind = 2 ∧ x.a ∈ cells ∧ x.n = 0) ∨ (x.kind = 3 ∧ (0 ≤ x.a ∧ x.a < (nr : Int)) ∧ 1 ≤ x.n ∧ x.n ≤ b.muteMost) ∨
  (x.kind = 4 ∧ x.a ∈ cells ∧ 1 ≤ x.n ∧ x.n ≤ b.liftMost) ∨ (x.kind = 5 ∧ (0 ≤ x.a ∧ x.a ≤ (np : Int)) ∧ x.n ∈ cells)
theorem mem_delays {k a most : Int} {x : Flt} : x ∈ delaysL k a most ↔ x.kind = k ∧ x.a = a ∧ 1 ≤ x.n ∧ x.n ≤ most := by
  unfold delaysL
  rw [List.mem_map]
  obtain ⟨xk, xa, xn⟩ := x
  constructor
  · rintro ⟨n, hn, e⟩
    rw [List.mem_range] at hn
    injection e with e1 e2 e3
    subst e1 e2 e3
    exact ⟨rfl, rfl, by dsimp only; omega, by dsimp only; omega⟩
  · rintro ⟨e1, e2, h1, h2⟩
    dsimp only at e1 e2 h1 h2
    subst e1 e2
    exact ⟨(xn - 1).toNat, by rw [List.mem_range]; omega, by congr 1; omega⟩
theorem mem_robotC {b : Bud} {i : Nat} {x : Flt} : x ∈ robotC b i ↔ (x.kind = 1 ∧ x.a = (i : Int) ∧ x.n = 0) ∨ (x.kind = 3 ∧ x.a = (i : Int) ∧ 1 ≤ x.n ∧ x.n ≤ b.muteMost) := by
  unfold robotC
  rw [List.mem_cons, mem_delays]
  obtain ⟨xk, xa, xn⟩ := x
  simp only [Flt.mk.injEq]
theorem mem_stepC {np : Nat} {c : Int} {x : Flt} : x ∈ stepC np c ↔ x.kind = 5 ∧ (0 ≤ x.a ∧ x.a ≤ (np : Int)) ∧ x.n = c := by
  unfold stepC
  rw [List.mem_map]
  obtain ⟨xk, xa, xn⟩ := x
  constructor
  · rintro ⟨n, hn, e⟩
    rw [List.mem_range] at hn
    injection e with e1 e2 e3
    subst e1 e2 e3
    exact ⟨rfl, ⟨by dsimp only; omega, by dsimp only; omega⟩, rfl⟩
  · rintro ⟨e1, ⟨h1, h2⟩, e2⟩
    dsimp only at e1 e2 h1 h2
    subst e1 e2
    exact ⟨xa.toNat, by rw [List.mem_range]; omega, by congr 1; omega⟩
theorem mem_cellC {b : Bud} {np : Nat} {c : Int} {x : Flt} : x ∈ cellC b np c ↔ (x.kind = 2 ∧ x.a = c ∧ x.n = 0) ∨ (x.kind = 4 ∧ x.a = c ∧ 1 ≤ x.n ∧ x.n ≤ b.liftMost) ∨ (x.kind = 5 ∧ (0 ≤ x.a ∧ x.a ≤ (np : Int)) ∧ x.n = c) := by
  unfold cellC
  rw [List.mem_cons, List.mem_append, mem_delays, mem_stepC]
  obtain ⟨xk, xa, xn⟩ := x
  simp only [Flt.mk.injEq]
theorem mem_allC {b : Bud} {nr np : Nat} {places cells : List Int} (hp : ∀ c, c ∈ places ↔ c ∈ cells) {x : Flt} : x ∈ allC b nr np places ↔ Cand b nr np cells x := by
  unfold allC robotsC Cand
  rw [List.mem_cons, List.mem_append, List.mem_flatMap, List.mem_flatMap]
  simp only [List.mem_range, mem_robotC, mem_cellC, hp]
  constructor
  · rintro (h | ⟨i, hi, (⟨h1, h2, h3⟩ | ⟨h1, h2, h3⟩)⟩ | ⟨c, hc, (⟨h1, h2, h3⟩ | ⟨h1, h2, h3⟩ | ⟨h1, h2, h3⟩)⟩)
    · exact .inl h
    · exact .inr (.inl ⟨h1, by omega, h3⟩)
    · exact .inr (.inr (.inr (.inl ⟨h1, by omega, h3⟩)))
    · exact .inr (.inr (.inl ⟨h1, by rw [h2]; exact hc, h3⟩))
    · exact .inr (.inr (.inr (.inr (.inl ⟨h1, by rw [h2]; exact hc, h3⟩))))
    · exact .inr (.inr (.inr (.inr (.inr ⟨h1, h2, by rw [h3]; exact hc⟩))))
  · rintro (h | ⟨h1, h2, h3⟩ | ⟨h1, h2, h3⟩ | ⟨h1, h2, h3⟩ | ⟨h1, h2, h3⟩ | ⟨h1, h2, h3⟩)
    · exact .inl h
    · exact .inr (.inl ⟨x.a.toNat, by omega, .inl ⟨h1, by omega, h3⟩⟩)
    · exact .inr (.inr ⟨x.a, h2, .inl ⟨h1, rfl, h3⟩⟩)
    · exact .inr (.inl ⟨x.a.toNat, by omega, .inr ⟨h1, by omega, h3⟩⟩)
    · exact .inr (.inr ⟨x.a, h2, .inr (.inl ⟨h1, rfl, h3⟩)⟩)
    · exact .inr (.inr ⟨x.n, h3, .inr (.inr ⟨h1, h2, rfl⟩)⟩)
theorem nodup_flat {α : Type} (f : α → List Flt) : ∀ (l : List α), l.Nodup → (∀ x ∈ l, (f x).Nodup) → (∀ x ∈ l, ∀ y ∈ l, x ≠ y → ∀ z, z ∈ f x → z ∉ f y) → (l.flatMap f).Nodup
  | [], _, _, _ => by simp
  | x :: l, h, h1, h2 => by
    rw [List.nodup_cons] at h
    rw [List.flatMap_cons, List.nodup_append]
    refine ⟨h1 x (List.mem_cons_self ..), nodup_flat f l h.2 (fun y hy => h1 y (List.mem_cons_of_mem _ hy)) (fun y hy z hz => h2 y (List.mem_cons_of_mem _ hy) z (List.mem_cons_of_mem _ hz)), ?_⟩
    rintro u hu v hv rfl
    obtain ⟨y, hy, hv⟩ := List.mem_flatMap.1 hv
    exact h2 x (List.mem_cons_self ..) y (List.mem_cons_of_mem _ hy) (fun e => h.1 (e ▸ hy)) u hu hv
theorem nodup_delays (k a most : Int) : (delaysL k a most).Nodup := by
  unfold delaysL
  refine List.Pairwise.map _ ?_ (List.nodup_range (n := most.toNat))
  intro m n h e
  injection e with e1 e2 e3
  exact h (by omega)
theorem nodup_stepC (np : Nat) (c : Int) : (stepC np c).Nodup := by
  unfold stepC
  refine List.Pairwise.map _ ?_ (List.nodup_range (n := np + 1))
  intro m n h e
  injection e with e1 e2 e3
  exact h (by omega)
theorem nodup_robotC (b : Bud) (i : Nat) : (robotC b i).Nodup := by
  unfold robotC
  rw [List.nodup_cons]
  refine ⟨fun h => ?_, nodup_delays ..⟩
  have := (mem_delays.1 h).1
  dsimp only at this
  omega
theorem nodup_cellC (b : Bud) (np : Nat) (c : Int) : (cellC b np c).Nodup := by
  unfold cellC
  rw [List.nodup_cons, List.nodup_append]
  refine ⟨fun h => ?_, nodup_delays .., nodup_stepC .., ?_⟩
  · rcases List.mem_append.1 h with h | h
    · have := (mem_delays.1 h).1
      dsimp only at this
      omega
    · have := (mem_stepC.1 h).1
      dsimp only at this
      omega
  · rintro u hu v hv rfl
    have h1 := (mem_delays.1 hu).1
    have h2 := (mem_stepC.1 hv).1
    omega
theorem nodup_allC {b : Bud} {nr np : Nat} {places : List Int} (h : places.Nodup) : (allC b nr np places).Nodup := by
  unfold allC robotsC
  rw [List.nodup_cons, List.nodup_append]
  refine ⟨fun hm => ?_, nodup_flat _ _ List.nodup_range (fun x _ => nodup_robotC ..) ?_, nodup_flat _ _ h (fun x _ => nodup_cellC ..) ?_, ?_⟩
  · rcases List.mem_append.1 hm with hm | hm
    · obtain ⟨i, _, hi⟩ := List.mem_flatMap.1 hm
      rcases mem_robotC.1 hi with ⟨h1, -⟩ | ⟨h1, -⟩ <;> (dsimp only at h1; omega)
    · obtain ⟨i, _, hi⟩ := List.mem_flatMap.1 hm
      rcases mem_cellC.1 hi with ⟨h1, -⟩ | ⟨h1, -⟩ | ⟨h1, -⟩ <;> (dsimp only at h1; omega)
  · intro i _ j _ hij z hz hz2
    rcases mem_robotC.1 hz with ⟨h1, h2, -⟩ | ⟨h1, h2, -⟩ <;> rcases mem_robotC.1 hz2 with ⟨g1, g2, -⟩ | ⟨g1, g2, -⟩ <;> omega
  · intro i _ j _ hij z hz hz2
    rcases mem_cellC.1 hz with ⟨h1, h2, -⟩ | ⟨h1, h2, -⟩ | ⟨h1, -, h2⟩ <;> rcases mem_cellC.1 hz2 with ⟨g1, g2, -⟩ | ⟨g1, g2, -⟩ | ⟨g1, -, g2⟩ <;> omega
  · rintro u hu v hv rfl
    obtain ⟨i, _, hu⟩ := List.mem_flatMap.1 hu
    obtain ⟨j, _, hv⟩ := List.mem_flatMap.1 hv
    rcases mem_robotC.1 hu with ⟨h1, -⟩ | ⟨h1, -⟩ <;> rcases mem_cellC.1 hv with ⟨g1, -⟩ | ⟨g1, -⟩ | ⟨g1, -⟩ <;> omega
/-- What a list of faults is: it ascends, and has the candidates that may be. -/
structure Listed (f : Fl.Floor) (st : Bd.State) (b : Bud) (cells : List Int) (l : List Flt) : Prop where
  asc : l.Pairwise lt
  mem : ∀ x, x ∈ l ↔ Cand b st.robots.length st.people.length cells x ∧ okB f st b cells x = true
theorem listed_of {f : Fl.Floor} {st : Bd.State} {b : Bud} {cells places : List Int} {l : List Flt} (hn : places.Nodup) (hp : ∀ c, c ∈ places ↔ c ∈ cells)
    (hl : l.Perm ((allC b st.robots.length st.people.length places).filter (okB f st b cells))) (hs : l.Pairwise fun x y => ltB y x = false) : Listed f st b cells l := by
  have hd : l.Nodup := hl.nodup_iff.2 ((nodup_allC hn).sublist List.filter_sublist)
  refine ⟨?_, fun x => ?_⟩
  · have h2 := List.Pairwise.and hs hd
    refine h2.imp ?_
    rintro x y ⟨h1, h2⟩
    apply Classical.byContradiction; intro h3
    exact h2 (lt_total h3 (fun h4 => by rw [ltB_iff.2 h4] at h1; cases h1))
  · rw [hl.mem_iff, List.mem_filter, mem_allC hp]
/-- Two ascending lists with the same members are one list. -/
theorem asc_ext : ∀ {l m : List Flt}, l.Pairwise lt → m.Pairwise lt → (∀ x, x ∈ l ↔ x ∈ m) → l = m
  | [], [], _, _, _ => rfl
  | [], y :: m, _, _, h => by have := (h y).2 (List.mem_cons_self ..); cases this
  | x :: l, [], _, _, h => by have := (h x).1 (List.mem_cons_self ..); cases this
  | x :: l, y :: m, hl, hm, h => by
    rw [List.pairwise_cons] at hl hm
    have e : x = y := by
      rcases List.mem_cons.1 ((h x).1 (List.mem_cons_self ..)) with e | hx
      · exact e
      · rcases List.mem_cons.1 ((h y).2 (List.mem_cons_self ..)) with e | hy
        · exact e.symm
        · exact absurd (hl.1 y hy) (lt_asymm (hm.1 x hx))
    subst e
    congr 1
    refine asc_ext hl.2 hm.2 fun z => ?_
    constructor
    · intro hz
      rcases List.mem_cons.1 ((h z).1 (List.mem_cons_of_mem _ hz)) with e | h2
      · subst e; exact absurd (hl.1 z hz) (lt_irrefl z)
      · exact h2
    · intro hz
      rcases List.mem_cons.1 ((h z).2 (List.mem_cons_of_mem _ hz)) with e | h2
      · subst e; exact absurd (hm.1 z hz) (lt_irrefl z)
      · exact h2
theorem Listed.ext {f : Fl.Floor} {st : Bd.State} {b : Bud} {cells : List Int} {l m : List Flt} (h : Listed f st b cells l) (h2 : Listed f st b cells m) : l = m :=
  asc_ext h.asc h2.asc fun x => by rw [h.mem, h2.mem]
end Fa
end Go.Proofs.YtcdfmgobokjcnaaGreat
/- Right states in plain words: what body.Right answers. Nothing of the program is imported. -/
namespace Go.Proofs.YtcdfmgobokjcnaaGreat
namespace Bd
def inB (n a b : Int) : Bool := decide (a ≤ n) && decide (n ≤ b)
/-- A cell is one of a floor, of one of two kinds. -/
def onB (f : Fl.Floor) (c a b : Int) : Bool := decide (0 ≤ c) && (decide (c < (f.kind.length : Int)) && (decide (f.kind.getD c.toNat 0 = a) || decide (f.kind.getD c.toNat 0 = b)))
def robOk (f : Fl.Floor) (sh : List Int) (r : Robot) : Bool :=
  (decide (0 ≤ r.cell) && (decide (r.cell < (f.kind.length : Int)) && (!decide (f.kind.getD r.cell.toNat 0 = 0) && inB r.load (-1) ((sh.length : Int) - 1)))) &&
  ((inB r.charge 0 1000000 && (inB r.rest 0 20000 && inB r.mute 0 20000)))
/-- A robot carries what no earlier one carries, at its own cell. -/
def loadOk (sh : List Int) (seen : List Int) (r : Robot) : Bool := !(decide (0 ≤ r.load) && (decide (r.load ∈ seen) || !decide (sh.getD r.load.toNat 0 = r.cell)))
def robGo (f : Fl.Floor) (sh : List Int) : List Int → List Robot → Bool
  | _, [] => true
  | seen, r :: l => (robOk f sh r && loadOk sh seen r) && robGo f sh (seen ++ [r.load]) l
def ascGo : Option Int → List Int → Bool
  | _, [] => true
  | p, c :: l => (match p with | none => true | some q => decide (q < c)) && ascGo (some c) l
def deadGo (n : Int) : Option Int → List Int → Bool
  | _, [] => true
  | p, c :: l => (decide (0 ≤ c) && (decide (c < n) && (match p with | none => true | some q => decide (q < c)))) && deadGo n (some c) l
def stuckGo (f : Fl.Floor) : Option Int → List (Int × Int) → Bool
  | _, [] => true
  | p, x :: l => (onB f x.1 6 6 && (inB x.2 1 20000 && (match p with | none => true | some q => decide (q < x.1)))) && stuckGo f (some x.1) l
def robsB (f : Fl.Floor) (st : State) : Bool := robGo f st.shelves [] st.robots
def restB (f : Fl.Floor) (st : State) : Bool := deadGo (f.kind.length : Int) none st.dead && stuckGo f none st.stuck
def shelfOk (f : Fl.Floor) (st : State) (i : Nat) : Bool := carried st i || onB f (st.shelves.getD i 0) 1 2
def shelvesB (f : Fl.Floor) (st : State) : Bool := (List.range st.shelves.length).all (shelfOk f st)
def peopleB (f : Fl.Floor) (st : State) : Bool := st.people.all fun c => onB f c 4 5
/-- The first line of tests. -/
def headB (f : Fl.Floor) (ns nr : Int) (st : State) : Bool :=
  inB st.tick 0 20000 && (decide ((st.shelves.length : Int) = ns) && (decide ((st.robots.length : Int) = nr) && (decide ((st.people.length : Int) ≤ 20) && (robsB f st && restB f st))))
def rightB (f : Fl.Floor) (ns nr : Int) (st : State) : Bool :=
  headB f ns nr st && (shelvesB f st && (peopleB f st && decide (allL st).Nodup))
theorem robGo_take (f : Fl.Floor) (sh : List Int) : ∀ (l : List Robot) (seen : List Int) (k : Nat) (h : k < l.length), robGo f sh seen (l.drop k) = ((robOk f sh l[k] && loadOk sh seen l[k]) && robGo f sh (seen ++ [l[k].load]) (l.drop (k + 1))) := by
  intro l seen k h
  rw [List.drop_eq_getElem_cons h]; rfl
theorem deadGo_take (n : Int) (l : List Int) (p : Option Int) (k : Nat) (h : k < l.length) : deadGo n p (l.drop k) = ((decide (0 ≤ l[k]) && (decide (l[k] < n) && (match p with | none => true | some q => decide (q < l[k])))) && deadGo n (some l[k]) (l.drop (k + 1))) := by
  rw [List.drop_eq_getElem_cons h]; rfl
theorem stuckGo_take (f : Fl.Floor) (l : List (Int × Int)) (p : Option Int) (k : Nat) (h : k < l.length) : stuckGo f p (l.drop k) = ((onB f l[k].1 6 6 && (inB l[k].2 1 20000 && (match p with | none => true | some q => decide (q < l[k].1)))) && stuckGo f (some l[k].1) (l.drop (k + 1))) := by
  rw [List.drop_eq_getElem_cons h]; rfl
/-- What a right state says of its robots' cells. -/
theorem robGo_cell {f : Fl.Floor} {sh : List Int} : ∀ {l : List Robot} {seen : List Int}, robGo f sh seen l = true → ∀ r ∈ l, (0 ≤ r.cell ∧ r.cell < (f.kind.length : Int)) ∧ f.kind.getD r.cell.toNat 0 ≠ 0
  | [], _, _ => by simp
  | x :: l, seen, h => by
    unfold robGo at h
    rw [Bool.and_eq_true, Bool.and_eq_true] at h
    intro r hr
    rcases List.mem_cons.1 hr with rfl | hr
    · have h1 := h.1.1
      unfold robOk at h1
      simp only [Bool.and_eq_true, decide_eq_true_eq, Bool.not_eq_true', decide_eq_false_iff_not] at h1
      exact ⟨⟨h1.1.1, h1.1.2.1⟩, h1.1.2.2.1⟩
    · exact robGo_cell h.2 r hr
theorem right_robots {f : Fl.Floor} {ns nr : Int} {st : State} (h : rightB f ns nr st = true) : (st.robots.length : Int) = nr ∧ ∀ r ∈ st.robots, (0 ≤ r.cell ∧ r.cell < (f.kind.length : Int)) ∧ f.kind.getD r.cell.toNat 0 ≠ 0 := by
  unfold rightB headB at h
  simp only [Bool.and_eq_true, decide_eq_true_eq] at h
  exact ⟨h.1.2.2.1, robGo_cell h.1.2.2.2.2.1⟩
end Bd
end Go.Proofs.YtcdfmgobokjcnaaGreat
/- What FaultLists and FaultNone say of the lists, in plain words. Nothing of the program is imported. -/
namespace Go.Proofs.YtcdfmgobokjcnaaGreat
namespace Fa
def none3 : Flt := ⟨0, 0, 0⟩
theorem none_ok (f : Fl.Floor) (st : Bd.State) (b : Bud) (cells : List Int) : okB f st b cells none3 = true := by
  unfold okB allowsB concB possB spend none3; simp
theorem Listed.none_mem {f : Fl.Floor} {st : Bd.State} {b : Bud} {cells : List Int} {l : List Flt} (h : Listed f st b cells l) : none3 ∈ l :=
  (h.mem _).2 ⟨.inl rfl, none_ok ..⟩
theorem Cand.kind {b : Bud} {nr np : Nat} {cells : List Int} {x : Flt} (h : Cand b nr np cells x) : 0 ≤ x.kind ∧ x.kind < 6 ∧ (x.kind = 0 → x = none3) := by
  rcases h with h | h | h | h | h | h
  · subst h; exact ⟨by decide, by decide, fun _ => rfl⟩
  all_goals exact ⟨by omega, by omega, fun h0 => by omega⟩
/-- The list begins with the fault that is none. -/
theorem Listed.head {f : Fl.Floor} {st : Bd.State} {b : Bud} {cells : List Int} {l : List Flt} (h : Listed f st b cells l) : ∃ r, l = none3 :: r := by
  cases l with
  | nil => have := h.none_mem; cases this
  | cons x r =>
    refine ⟨r, ?_⟩
    congr 1
    have hx := ((h.mem x).1 (List.mem_cons_self ..)).1.kind
    rcases List.mem_cons.1 h.none_mem with e | e
    · exact e.symm
    · have ha := h.asc
      rw [List.pairwise_cons] at ha
      have := ha.1 _ e
      unfold lt none3 at this
      dsimp only at this
      exact hx.2.2 (by omega)
theorem Listed.ok {f : Fl.Floor} {st : Bd.State} {b : Bud} {cells : List Int} {l : List Flt} (h : Listed f st b cells l) {x : Flt} (hx : x ∈ l) : possB f st x = true ∧ allowsB b x = true ∧ concB st x cells = true := by
  have := ((h.mem x).1 hx).2
  unfold okB at this
  simp only [Bool.and_eq_true] at this
  exact ⟨this.2.2, this.1, this.2.1⟩
/-- Whether an element of the list is as a fault, but for fields that its kind does not name. -/
def likeB (f x : Flt) : Bool := (decide (x.kind = f.kind) && (decide (x.kind = 0) || decide (x.a = f.a))) && (decide (x.kind = 0) || (decide (x.kind = 1) || (decide (x.kind = 2) || decide (x.n = f.n))))
theorem Listed.found {g : Fl.Floor} {st : Bd.State} {b : Bud} {cells : List Int} {l : List Flt} (h : Listed g st b cells l) {f : Flt} (hp : possB g st f = true) (ha : allowsB b f = true) (hc : concB st f cells = true) : l.any (likeB f) = true := by
  have key : ∀ x, Cand b st.robots.length st.people.length cells x → okB g st b cells x = true → likeB f x = true → l.any (likeB f) = true := fun x h1 h2 h3 =>
    List.any_eq_true.2 ⟨x, (h.mem x).2 ⟨h1, h2⟩, h3⟩
  obtain ⟨k, a, n⟩ := f
  have hk : k = 0 ∨ k = 1 ∨ k = 2 ∨ k = 3 ∨ k = 4 ∨ k = 5 := by
    unfold allowsB spend at ha
    dsimp only at ha
    by_cases h0 : k = 0
    · exact .inl h0
    · rw [if_neg h0] at ha
      by_cases h1 : okF b ⟨k, a, n⟩ ∧ 1 ≤ num b k
      · obtain ⟨⟨h2, h3, -⟩, -⟩ := h1
        dsimp only at h2 h3
        omega
      · rw [if_neg h1] at ha; cases ha
  have hokF : k ≠ 0 → okF b ⟨k, a, n⟩ := fun h0 => by
    unfold allowsB spend at ha
    dsimp only at ha
    rw [if_neg h0] at ha
    by_cases h1 : okF b ⟨k, a, n⟩ ∧ 1 ≤ num b k
    · exact h1.1
    · rw [if_neg h1] at ha; cases ha
  rcases hk with rfl | rfl | rfl | rfl | rfl | rfl
  · exact key none3 (.inl rfl) (none_ok ..) (by simp [likeB, none3])
  · refine key ⟨1, a, 0⟩ (.inr (.inl ⟨rfl, ?_, rfl⟩)) ?_ (by simp [likeB])
    · unfold concB at hc
      simp at hc
      exact ⟨hc.1, hc.2.1⟩
    · unfold okB
      rw [Bool.and_eq_true, Bool.and_eq_true]
      refine ⟨?_, hc, hp⟩
      unfold allowsB spend okF at ha ⊢
      simpa using ha
  · refine key ⟨2, a, 0⟩ (.inr (.inr (.inl ⟨rfl, ?_, rfl⟩))) ?_ (by simp [likeB])
    · unfold concB at hc
      simpa using hc
    · unfold okB
      rw [Bool.and_eq_true, Bool.and_eq_true]
      refine ⟨?_, hc, hp⟩
      unfold allowsB spend okF at ha ⊢
      simpa using ha
  · have h2 := (hokF (by omega)).2.2.1 rfl
    refine key ⟨3, a, n⟩ (.inr (.inr (.inr (.inl ⟨rfl, ?_, h2⟩)))) ?_ (by simp [likeB])
    · unfold concB at hc
      simp at hc
      exact ⟨hc.1, hc.2.1⟩
    · unfold okB; rw [Bool.and_eq_true, Bool.and_eq_true]; exact ⟨ha, hc, hp⟩
  · have h2 := (hokF (by omega)).2.2.2 rfl
    refine key ⟨4, a, n⟩ (.inr (.inr (.inr (.inr (.inl ⟨rfl, ?_, h2⟩))))) ?_ (by simp [likeB])
    · unfold concB at hc
      simpa using hc
    · unfold okB; rw [Bool.and_eq_true, Bool.and_eq_true]; exact ⟨ha, hc, hp⟩
  · refine key ⟨5, a, n⟩ (.inr (.inr (.inr (.inr (.inr ⟨rfl, ?_, ?_⟩))))) ?_ (by simp [likeB])
    · unfold possB stepB at hp
      simp at hp
      obtain ⟨-, -, hp⟩ := hp
      dsimp only
      split at hp
      · omega
      · omega
    · unfold concB at hc
      simpa using hc
    · unfold okB; rw [Bool.and_eq_true, Bool.and_eq_true]; exact ⟨ha, hc, hp⟩
/-- Nothing but the fault that is none. -/
theorem Listed.only {g : Fl.Floor} {st : Bd.State} {b : Bud} {cells : List Int} {l : List Flt} (h : Listed g st b cells l) (h0 : ∀ x, x.kind ≠ 0 → okB g st b cells x = false) : l = [none3] := by
  obtain ⟨r, rfl⟩ := h.head
  cases r with
  | nil => rfl
  | cons y r =>
    have hy := (h.mem y).1 (by simp)
    have ha := h.asc
    rw [List.pairwise_cons] at ha
    have hl := ha.1 y (List.mem_cons_self ..)
    by_cases hk : y.kind = 0
    · rw [hy.1.kind.2.2 hk] at hl; exact absurd hl (lt_irrefl _)
    · rw [h0 y hk] at hy; cases hy.2
theorem Listed.of_zero {g : Fl.Floor} {st : Bd.State} {b : Bud} {cells : List Int} {l : List Flt} (h : Listed g st b cells l) (h1 : b.stops = 0) (h2 : b.cells = 0) (h3 : b.mutes = 0) (h4 : b.lifts = 0) (h5 : b.steps = 0) : l = [none3] := by
  refine h.only fun x hx => ?_
  have : allowsB b x = false := by
    unfold allowsB spend
    rw [if_neg hx, if_neg]
    · rfl
    · rintro ⟨-, h⟩
      unfold num at h
      repeat' split at h
      all_goals omega
  unfold okB; rw [this]; rfl
theorem Listed.of_nil {g : Fl.Floor} {st : Bd.State} {b : Bud} {l : List Flt} (h : Listed g st b [] l) : l = [none3] := by
  refine h.only fun x hx => ?_
  have : concB st x [] = false := by
    unfold concB
    rw [if_neg hx]
    simp
  unfold okB; rw [this]; simp
/-! ### The documentation's example -/
def sampF : Fl.Floor := ⟨10, 1, 1, [3, 1, 1, 1, 1, 1, 1, 1, 1, 1], [5, 5, 5, 5, 5, 5, 5, 5, 5, 5]⟩
def sampS : Bd.State := ⟨0, [], [⟨3, -1, 9, 0, 0, false⟩, ⟨8, -1, 9, 0, 0, false⟩], [], [], []⟩
def sampB : Bud := ⟨1, 0, 1, 5, 0, 0, 0⟩
def sampL : List Flt := [⟨0, 0, 0⟩, ⟨1, 0, 0⟩, ⟨3, 0, 1⟩, ⟨3, 0, 2⟩, ⟨3, 0, 3⟩, ⟨3, 0, 4⟩, ⟨3, 0, 5⟩]
theorem samp_listed : Listed sampF sampS sampB [3] sampL := by
  refine listed_of (places := [3]) (by simp) (fun c => Iff.rfl) ?_ ?_
  · have e : (allC sampB sampS.robots.length sampS.people.length [3]).filter (okB sampF sampS sampB [3]) = sampL := by decide +kernel
    rw [e]
  · unfold sampL; simp [ltB]
theorem samp_is {l : List Flt} (h : Listed sampF sampS sampB [3] l) : l = sampL := h.ext samp_listed
end Fa
end Go.Proofs.YtcdfmgobokjcnaaGreat
