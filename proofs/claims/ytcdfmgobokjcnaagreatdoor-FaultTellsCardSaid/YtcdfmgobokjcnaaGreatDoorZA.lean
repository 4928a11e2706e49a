/- Parts FlS, SiS, FaS, FaL, BdR, FaM, FtQ, Qu, WrP, WrR, FtR of this claim, laid one behind the other: walks and the plain laws behind them; each contract states its own conditions. -/
import Derived.Lib.ParseIntB
import Derived.Lib.ItoaNum
import Derived.Lib.Bytealg
import Derived.WalkKit
import Derived.Lib.ItoaLen
import Derived.Lib.AtoiAll
import Derived.RowKit
/- The floor in plain words: neighbours, and which cells can be reached. Nothing of the program is imported. -/
namespace Go.Proofs.YtcdfmgobokjcnaaGreatDoor
namespace Fl

structure Floor where
  w : Int
  h : Int
  d : Int
  kind : List Int
  out : List Int
def Floor.size (f : Floor) : Int := f.w * f.h * f.d
def isC (f : Floor) (c : Int) : Bool := decide (0 ≤ c) && decide (c < f.size)
def cell (f : Floor) (x y z : Int) : Int := if x < 0 ∨ y < 0 ∨ z < 0 ∨ f.w ≤ x ∨ f.h ≤ y ∨ f.d ≤ z then -1 else (z * f.h + y) * f.w + x
def atX (f : Floor) (c : Int) : Int := if isC f c = true then c % f.w else 0
def atY (f : Floor) (c : Int) : Int := if isC f c = true then c / f.w % f.h else 0
def atZ (f : Floor) (c : Int) : Int := if isC f c = true then c / (f.w * f.h) else 0
def stX : Nat → Int
  | 0 => 1
  | 2 => -1
  | _ => 0
def stY : Nat → Int
  | 1 => 1
  | 3 => -1
  | _ => 0
def stZ : Nat → Int
  | 4 => 1
  | 5 => -1
  | _ => 0
/-- The neighbour of a cell in a direction, or -1. -/
def beside (f : Floor) (c : Int) (d : Nat) : Int := if isC f c = true then cell f (atX f c + stX d) (atY f c + stY d) (atZ f c + stZ d) else -1
/-- Whether a way leads from a cell to its neighbour. -/
def open2 (f : Floor) (c n : Nat) (d : Nat) : Bool :=
  !(decide (f.kind.getD c 0 = 0) || (decide (f.kind.getD n 0 = 0) || decide ((f.out.getD c 0) / 2 ^ d % 2 = 0))) && !(decide (4 ≤ d) && (!decide (f.kind.getD c 0 = 6) || !decide (f.kind.getD n 0 = 6)))
/-- The cell to which one gets in a direction. -/
def next (f : Floor) (c d : Nat) : Option Nat := if beside f c d < 0 then none else if open2 f c (beside f c d).toNat d = true then some (beside f c d).toNat else none

/-- A floor is right. -/
structure Right (f : Floor) : Prop where
  w1 : 1 ≤ f.w
  h1 : 1 ≤ f.h
  d1 : 1 ≤ f.d
  w2 : f.w ≤ 4096
  h2 : f.h ≤ 4096
  d2 : f.d ≤ 4
  kl : (f.kind.length : Int) = f.size
  ol : f.out.length = f.kind.length
  sz : f.size ≤ 4096
  ks : ∀ k ∈ f.kind, 0 ≤ k ∧ k < 7
  os : ∀ o ∈ f.out, 0 ≤ o ∧ o ≤ 63

theorem cell_lt {f : Floor} (h : Right f) (x y z : Int) : cell f x y z = -1 ∨ (0 ≤ cell f x y z ∧ cell f x y z < f.size) := by
  unfold cell
  split
  · exact .inl rfl
  · rename_i hc
    simp only [not_or] at hc
    right
    have h1 := h.w1
    have h2 := h.h1
    have h3 := h.d1
    have hz : z ≤ f.d - 1 := by omega
    have hy : y ≤ f.h - 1 := by omega
    have ha : 0 ≤ z * f.h := Int.mul_nonneg (by omega) (by omega)
    have hb : 0 ≤ (z * f.h + y) * f.w := Int.mul_nonneg (by omega) (by omega)
    refine ⟨by omega, ?_⟩
    have k1 : z * f.h ≤ (f.d - 1) * f.h := Int.mul_le_mul_of_nonneg_right hz (by omega)
    have k2 : z * f.h + y ≤ f.d * f.h - 1 := by
      have : (f.d - 1) * f.h = f.d * f.h - f.h := by rw [Int.sub_mul, Int.one_mul]
      omega
    have k3 : (z * f.h + y) * f.w ≤ (f.d * f.h - 1) * f.w := Int.mul_le_mul_of_nonneg_right k2 (by omega)
    have k4 : (f.d * f.h - 1) * f.w = f.d * f.h * f.w - f.w := by rw [Int.sub_mul, Int.one_mul]
    have k5 : f.d * f.h * f.w = f.size := by
      unfold Floor.size
      rw [Int.mul_comm (f.d * f.h) f.w, Int.mul_comm f.d f.h, ← Int.mul_assoc]
    omega
/-! ### Spreading from cells -/
structure Bs where
  op : List Bool
  out : List Int
  q : List Nat
def reach (s : Bs) (c : Nat) (n : Int) : Bs := if s.op.getD c false = true then ⟨s.op.set c false, s.out.set c n, s.q ++ [c]⟩ else s
def goDir (f : Floor) (c d : Nat) (s : Bs) : Bs := match next f c d with
  | some n => reach s n (s.out.getD c 0 + 1)
  | none => s
def goDirs (f : Floor) (c : Nat) : Nat → Bs → Bs
  | 0, s => s
  | k + 1, s => goDir f c k (goDirs f c k s)
def loop (f : Floor) : Nat → Bs → Bs
  | 0, s => s
  | k + 1, s => match s.q with
    | [] => s
    | c :: r => loop f k (goDirs f c 6 { s with q := r })
/-- How many rounds are left. -/
def rounds (s : Bs) : Nat := s.q.length + s.op.count true
def open0 (f : Floor) (avoid : List Int) : List Bool := avoid.foldl (fun l c => if isC f c = true then l.set c.toNat false else l) (f.kind.map fun k => decide (k ≠ 0))
def start (f : Floor) (frm avoid : List Int) : Bs := frm.foldl (fun s c => if isC f c = true then reach s c.toNat 0 else s) ⟨open0 f avoid, f.kind.map fun _ => -1, []⟩
theorem count_set (l : List Bool) : ∀ c : Nat, l.getD c false = true → (l.set c false).count true + 1 = l.count true := by
  induction l with
  | nil => intro c h; simp at h
  | cons b l ih =>
    intro c h
    cases c with
    | zero => simp at h; subst h; simp
    | succ c =>
      simp only [List.getD_cons_succ] at h
      rw [List.set_cons_succ, List.count_cons, List.count_cons]
      have := ih c h
      omega
theorem rounds_reach (s : Bs) (c : Nat) (n : Int) : rounds (reach s c n) = rounds s := by
  unfold reach
  split
  · rename_i h
    have := count_set s.op c h
    simp only [rounds, List.length_append, List.length_singleton]; omega
  · rfl
theorem rounds_goDir (f : Floor) (c d : Nat) (s : Bs) : rounds (goDir f c d s) = rounds s := by
  unfold goDir; split
  · exact rounds_reach ..
  · rfl
theorem rounds_goDirs (f : Floor) (c : Nat) : ∀ (k : Nat) (s : Bs), rounds (goDirs f c k s) = rounds s
  | 0, s => rfl
  | k + 1, s => by rw [goDirs, rounds_goDir, rounds_goDirs f c k]
theorem rounds_pop {s : Bs} {c : Nat} {r : List Nat} (f : Floor) (h : s.q = c :: r) : rounds (goDirs f c 6 { s with q := r }) + 1 = rounds s := by
  rw [rounds_goDirs]; simp only [rounds, h, List.length_cons]; omega
/-- A cell can be reached. -/
inductive Reach (f : Floor) (op : List Bool) (src : Nat → Prop) : Nat → Prop where
  | base {c : Nat} (h : src c) (ho : op.getD c false = true) : Reach f op src c
  | step {c d n : Nat} (h : Reach f op src c) (hd : d < 6) (hn : next f c d = some n) (ho : op.getD n false = true) : Reach f op src n

/-- What holds while one spreads; the cell at hand has been left in the first k directions. -/
structure Inv (f : Floor) (op0 : List Bool) (src : Nat → Prop) (cur : Nat → Nat → Prop) (s : Bs) : Prop where
  ln : s.op.length = op0.length
  lo : s.out.length = op0.length
  hq : ∀ c ∈ s.q, 0 ≤ s.out.getD c (-1)
  ho : ∀ c, 0 ≤ s.out.getD c (-1) → Reach f op0 src c ∧ s.op.getD c false = false
  h1 : ∀ c, s.op.getD c false = true → op0.getD c false = true
  h2 : ∀ c, op0.getD c false = true → s.op.getD c false = false → 0 ≤ s.out.getD c (-1)
  hc : ∀ c, 0 ≤ s.out.getD c (-1) → c ∈ s.q ∨ ∀ d, d < 6 → cur c d → ∀ n, next f c d = some n → s.op.getD n false = false
theorem getD_set_same {α : Type} (l : List α) (c : Nat) (v x : α) (h : c < l.length) : (l.set c v).getD c x = v := by
  simp [List.getD, h]
theorem getD_set_other {α : Type} (l : List α) (c k : Nat) (v x : α) (h : k ≠ c) : (l.set c v).getD k x = l.getD k x := by
  simp [List.getD, List.getElem?_set_ne (Ne.symm h)]
theorem lt_of_getD {l : List Bool} {c : Nat} (h : l.getD c false = true) : c < l.length := by
  apply Decidable.byContradiction; intro hc
  rw [List.getD_eq_getElem?_getD, List.getElem?_eq_none (by omega)] at h
  cases h
theorem Inv.reach {f : Floor} {op0 : List Bool} {src : Nat → Prop} {cur : Nat → Nat → Prop} {s : Bs} (h : Inv f op0 src cur s) {c : Nat} {n : Int} (hn : 0 ≤ n) (hr : op0.getD c false = true → Reach f op0 src c) : Inv f op0 src cur (reach s c n) ∧ (reach s c n).op.getD c false = false ∧ ∀ k, s.op.getD k false = false → (Fl.reach s c n).op.getD k false = false := by
  unfold Fl.reach
  split
  · rename_i ho
    have hlt := lt_of_getD ho
    have hop0 := h.h1 c ho
    have hlo : c < s.out.length := by rw [h.lo, ← h.ln]; exact hlt
    have hset : ∀ k, k ≠ c → (s.out.set c n).getD k (-1) = s.out.getD k (-1) := fun k hk => getD_set_other _ _ _ _ _ hk
    have hsame : (s.out.set c n).getD c (-1) = n := getD_set_same _ _ _ _ hlo
    have oset : ∀ k, k ≠ c → (s.op.set c false).getD k false = s.op.getD k false := fun k hk => getD_set_other _ _ _ _ _ hk
    have osame : (s.op.set c false).getD c false = false := getD_set_same _ _ _ _ hlt
    have okeep : ∀ k, s.op.getD k false = false → (s.op.set c false).getD k false = false := by
      intro k hk
      by_cases e : k = c
      · rw [e]; exact osame
      · rw [oset k e]; exact hk
    refine ⟨⟨by simp [h.ln], by simp [h.lo], ?_, ?_, ?_, ?_, ?_⟩, osame, okeep⟩
    · intro k hk
      dsimp only at hk ⊢
      by_cases e : k = c
      · rw [e, hsame]; exact hn
      · rw [hset k e]
        rcases List.mem_append.1 hk with hk | hk
        · exact h.hq k hk
        · exact absurd (List.mem_singleton.1 hk) e
    · intro k hk
      dsimp only at hk ⊢
      by_cases e : k = c
      · rw [e]; exact ⟨hr hop0, osame⟩
      · rw [hset k e] at hk; rw [oset k e]; exact h.ho k hk
    · intro k hk
      dsimp only at hk
      by_cases e : k = c
      · rw [e]; exact hop0
      · rw [oset k e] at hk; exact h.h1 k hk
    · intro k h3 h4
      dsimp only at h4 ⊢
      by_cases e : k = c
      · rw [e, hsame]; exact hn
      · rw [oset k e] at h4; rw [hset k e]; exact h.h2 k h3 h4
    · intro k hk
      dsimp only at hk ⊢
      by_cases e : k = c
      · left; rw [e]; simp
      · rw [hset k e] at hk
        rcases h.hc k hk with h5 | h5
        · left; simp [h5]
        · right; intro d hd hcur m hm; exact okeep m (h5 d hd hcur m hm)
  · rename_i ho
    exact ⟨h, by simpa using ho, fun k hk => hk⟩
theorem Inv.goDirs {f : Floor} {op0 : List Bool} {src : Nat → Prop} {s : Bs} {c : Nat} {r : List Nat} (h : Inv f op0 src (fun _ _ => True) s) (hq : s.q = c :: r) : ∀ k, k ≤ 6 →
    Inv f op0 src (fun x d => x = c → d < k) (goDirs f c k { s with q := r }) ∧ 0 ≤ (Fl.goDirs f c k { s with q := r }).out.getD c (-1)
  | 0, _ => by
    have h0 := h.hq c (by rw [hq]; simp)
    show Inv f op0 src (fun x d => x = c → d < 0) { s with q := r } ∧ 0 ≤ s.out.getD c (-1)
    refine ⟨⟨h.ln, h.lo, fun x hx => h.hq x (by rw [hq]; exact List.mem_cons_of_mem _ hx), h.ho, h.h1, h.h2, fun x hx => ?_⟩, h0⟩
    by_cases e : x = c
    · right; intro d _ hc; have := hc e; omega
    · rcases h.hc x hx with h5 | h5
      · left
        rw [hq] at h5
        rcases List.mem_cons.1 h5 with h5 | h5
        · exact absurd h5 e
        · exact h5
      · right; intro d hd _; exact h5 d hd trivial
  | k + 1, hk => by
    obtain ⟨ih, hc0⟩ := Inv.goDirs h hq k (by omega)
    rw [Fl.goDirs]
    unfold goDir
    cases hn : next f c k with
    | none =>
      dsimp only
      refine ⟨⟨ih.ln, ih.lo, ih.hq, ih.ho, ih.h1, ih.h2, fun x hx => ?_⟩, hc0⟩
      rcases ih.hc x hx with h5 | h5
      · exact .inl h5
      · right; intro d hd hcur n hm
        by_cases e : x = c
        · by_cases ed : d = k
          · rw [e, ed, hn] at hm; cases hm
          · exact h5 d hd (fun _ => by have := hcur e; omega) n hm
        · exact h5 d hd (fun e2 => absurd e2 e) n hm
    | some n =>
      dsimp only
      generalize hs1 : Fl.goDirs f c k { s with q := r } = s1 at ih hc0
      have hlt : c < s1.out.length := by
        apply Decidable.byContradiction; intro hx
        rw [List.getD_eq_getElem?_getD, List.getElem?_eq_none (by omega)] at hc0
        simp at hc0
      have hge : 0 ≤ s1.out.getD c 0 := by
        rw [List.getD_eq_getElem?_getD, List.getElem?_eq_getElem hlt] at hc0 ⊢; exact hc0
      obtain ⟨g1, g2, g3⟩ := ih.reach (c := n) (n := s1.out.getD c 0 + 1) (by omega) (fun ho => .step (ih.ho c hc0).1 (by omega) hn ho)
      refine ⟨⟨g1.ln, g1.lo, g1.hq, g1.ho, g1.h1, g1.h2, fun x hx => ?_⟩, ?_⟩
      · rcases g1.hc x hx with h5 | h5
        · exact .inl h5
        · right; intro d hd hcur m hm
          by_cases e : x = c
          · by_cases ed : d = k
            · rw [e, ed, hn] at hm; injection hm with hm; rw [← hm]; exact g2
            · exact h5 d hd (fun _ => by have := hcur e; omega) m hm
          · exact h5 d hd (fun e2 => absurd e2 e) m hm
      · unfold Fl.reach
        split
        · dsimp only
          by_cases e : c = n
          · rw [← e, getD_set_same _ _ _ _ hlt]; omega
          · rw [getD_set_other _ _ _ _ _ e]; exact hc0
        · exact hc0
theorem Inv.round {f : Floor} {op0 : List Bool} {src : Nat → Prop} {s : Bs} {c : Nat} {r : List Nat} (h : Inv f op0 src (fun _ _ => True) s) (hq : s.q = c :: r) : Inv f op0 src (fun _ _ => True) (Fl.goDirs f c 6 { s with q := r }) := by
  obtain ⟨g, -⟩ := Inv.goDirs h hq 6 (Nat.le_refl _)
  refine ⟨g.ln, g.lo, g.hq, g.ho, g.h1, g.h2, fun x hx => ?_⟩
  rcases g.hc x hx with h5 | h5
  · exact .inl h5
  · right; intro d hd _ n hm; exact h5 d hd (fun _ => hd) n hm
theorem Inv.loop {f : Floor} {op0 : List Bool} {src : Nat → Prop} : ∀ (k : Nat) (s : Bs), rounds s = k → Inv f op0 src (fun _ _ => True) s → Inv f op0 src (fun _ _ => True) (Fl.loop f k s) ∧ (Fl.loop f k s).q = []
  | 0, s, hk, h => by
    refine ⟨h, ?_⟩
    unfold rounds at hk
    exact List.eq_nil_of_length_eq_zero (by show s.q.length = 0; omega)
  | k + 1, s, hk, h => by
    rw [Fl.loop]
    cases hq : s.q with
    | nil => exact ⟨h, hq⟩
    | cons c r =>
      dsimp only
      exact Inv.loop k _ (by have := rounds_pop f hq; omega) (h.round hq)
theorem open0_len (f : Floor) (avoid : List Int) : (open0 f avoid).length = f.kind.length := by
  unfold open0
  have : ∀ (l : List Int) (a : List Bool), (l.foldl (fun l c => if isC f c = true then l.set c.toNat false else l) a).length = a.length := by
    intro l
    induction l with
    | nil => intro a; rfl
    | cons c l ih => intro a; rw [List.foldl_cons, ih]; split <;> simp
  rw [this]; simp
theorem Inv.start (f : Floor) (frm avoid : List Int) : Inv f (open0 f avoid) (fun c => (c : Int) ∈ frm ∧ isC f (c : Int) = true) (fun _ _ => True) (start f frm avoid) ∧
    ∀ c : Nat, (c : Int) ∈ frm → isC f (c : Int) = true → (Fl.start f frm avoid).op.getD c false = false := by
  unfold Fl.start
  have key : ∀ (l m : List Int) (s : Bs), m ++ l = frm → Inv f (open0 f avoid) (fun c => (c : Int) ∈ frm ∧ isC f (c : Int) = true) (fun _ _ => True) s →
      (∀ c : Nat, (c : Int) ∈ m → isC f (c : Int) = true → s.op.getD c false = false) →
      Inv f (open0 f avoid) (fun c => (c : Int) ∈ frm ∧ isC f (c : Int) = true) (fun _ _ => True) (l.foldl (fun s c => if isC f c = true then Fl.reach s c.toNat 0 else s) s) ∧
      ∀ c : Nat, (c : Int) ∈ frm → isC f (c : Int) = true → (l.foldl (fun s c => if isC f c = true then Fl.reach s c.toNat 0 else s) s).op.getD c false = false := by
    intro l
    induction l with
    | nil => intro m s hm h1 h2; rw [List.append_nil] at hm; subst hm; exact ⟨h1, h2⟩
    | cons x l ih =>
      intro m s hm h1 h2
      rw [List.foldl_cons]
      refine ih (m ++ [x]) _ (by rw [← hm]; simp) ?_ ?_
      · split
        · rename_i hx
          have hx0 : 0 ≤ x := by unfold isC at hx; simp at hx; omega
          have hxn : ((x.toNat : Nat) : Int) = x := by omega
          refine (h1.reach (Int.le_refl 0) fun ho => .base ⟨?_, ?_⟩ ho).1
          · rw [hxn, ← hm]; simp
          · rw [hxn]; exact hx
        · exact h1
      · intro c hc hi
        rcases List.mem_append.1 hc with hc | hc
        · split
          · rename_i hx
            have hx0 : 0 ≤ x := by unfold isC at hx; simp at hx; omega
            have hxn : ((x.toNat : Nat) : Int) = x := by omega
            exact (h1.reach (c := x.toNat) (Int.le_refl 0) fun ho => .base ⟨by rw [hxn, ← hm]; simp, by rw [hxn]; exact hx⟩ ho).2.2 c (h2 c hc hi)
          · exact h2 c hc hi
        · have e := List.mem_singleton.1 hc
          rw [if_pos (by rw [← e]; exact hi)]
          have hxn : x.toNat = c := by omega
          rw [hxn]
          exact (h1.reach (c := c) (Int.le_refl 0) fun ho => .base ⟨by rw [e, ← hm]; simp, hi⟩ ho).2.1
  refine key frm [] _ rfl ⟨rfl, by simp [open0_len], (fun c hc => by cases hc), ?_, fun c h => h, ?_, ?_⟩ (fun c hc => by cases hc)
  · intro c hc
    exfalso
    by_cases hlt : c < f.kind.length
    · simp [List.getD, hlt] at hc
    · simp [List.getD, Nat.not_lt.1 hlt] at hc
  · intro c h3 h4; rw [h3] at h4; cases h4
  · intro c hc
    exfalso
    by_cases hlt : c < f.kind.length
    · simp [List.getD, hlt] at hc
    · simp [List.getD, Nat.not_lt.1 hlt] at hc
end Fl
end Go.Proofs.YtcdfmgobokjcnaaGreatDoor
/- Sites in plain words: zones, which zones are next to which, how many robots they take. Nothing of the program is imported. -/
namespace Go.Proofs.YtcdfmgobokjcnaaGreatDoor
namespace Si
open Fl (Floor isC)

structure Zone where
  name : List UInt8
  cells : List Int
  speed : Int
  keep : Int
  shut : List (Int × Int)
structure Site where
  floor : Floor
  zones : List Zone
  aparts : List (List UInt8 × List UInt8)
  shelves : List (Int × List UInt8)
  robots : List (Int × Int)
def kindAt (f : Floor) (c : Int) : Int := f.kind.getD c.toNat 0
/-- A site is right. -/
structure Right (s : Site) : Prop where
  fl : Fl.Right s.floor
  zn : s.zones.length ≤ 64
  zc : ∀ z ∈ s.zones, z.cells ≠ [] ∧ z.cells.Pairwise (· < ·) ∧ 0 ≤ z.keep ∧ 1 ≤ z.speed ∧ z.speed ≤ 100
  zk : ∀ z ∈ s.zones, ∀ c ∈ z.cells, isC s.floor c = true ∧ kindAt s.floor c ≠ 0 ∧ kindAt s.floor c ≠ 4 ∧ kindAt s.floor c ≠ 5
  zd : s.zones.Pairwise (fun y z => ∀ c ∈ y.cells, c ∉ z.cells)
  sn : s.shelves.length ≤ 3000
  sc : ∀ x ∈ s.shelves, isC s.floor x.1 = true ∧ (kindAt s.floor x.1 = 1 ∨ kindAt s.floor x.1 = 2)
  sd : (s.shelves.map (·.1)).Nodup
  rn : s.robots.length ≤ 200
  rc : ∀ x ∈ s.robots, isC s.floor x.1 = true ∧ kindAt s.floor x.1 ≠ 0 ∧ 0 ≤ x.2 ∧ x.2 ≤ 1000000
  rd : (s.robots.map (·.1)).Nodup

/-! ### How many robots a zone takes -/
/-- How many cells of a zone lie below a number. -/
def below (cells : List Int) (k : Int) : Nat := cells.countP fun x => decide (x < k)
end Si
end Go.Proofs.YtcdfmgobokjcnaaGreatDoor
/- Budgets of faults in plain words: what is left, and which lists can be spent. Nothing of the program is imported. -/
namespace Go.Proofs.YtcdfmgobokjcnaaGreatDoor
namespace Fa

structure Bud where
  stops : Int
  cells : Int
  mutes : Int
  muteMost : Int
  lifts : Int
  liftMost : Int
  steps : Int
deriving DecidableEq
structure Flt where
  kind : Int
  a : Int
  n : Int
deriving DecidableEq
/-- A budget is right. -/
structure Right (b : Bud) : Prop where
  h1 : 0 ≤ b.stops ∧ b.stops ≤ 20
  h2 : 0 ≤ b.cells ∧ b.cells ≤ 20
  h3 : 0 ≤ b.mutes ∧ b.mutes ≤ 20
  h4 : 0 ≤ b.lifts ∧ b.lifts ≤ 20
  h5 : 0 ≤ b.steps ∧ b.steps ≤ 20
  h6 : 0 ≤ b.muteMost ∧ b.muteMost ≤ 100
  h7 : 0 ≤ b.liftMost ∧ b.liftMost ≤ 100
def within (n a b : Int) : Bool := decide (a ≤ n) && decide (n ≤ b)
def rightB (b : Bud) : Bool := within b.stops 0 20 && (within b.cells 0 20 && (within b.mutes 0 20 && (within b.lifts 0 20 && (within b.steps 0 20 && (within b.muteMost 0 100 && within b.liftMost 0 100)))))
theorem rightB_iff {b : Bud} : rightB b = true ↔ Right b := by
  unfold rightB within
  simp only [Bool.and_eq_true, decide_eq_true_eq]
  constructor
  · rintro ⟨h1, h2, h3, h4, h5, h6, h7⟩; exact ⟨h1, h2, h3, h4, h5, h6, h7⟩
  · rintro ⟨h1, h2, h3, h4, h5, h6, h7⟩; exact ⟨h1, h2, h3, h4, h5, h6, h7⟩
def num (b : Bud) (k : Int) : Int := if k = 1 then b.stops else if k = 2 then b.cells else if k = 3 then b.mutes else if k = 4 then b.lifts else b.steps
/-- A kind that exists, and a delay that is not too long. -/
def okF (b : Bud) (f : Flt) : Prop := 0 ≤ f.kind ∧ f.kind < 6 ∧ (f.kind = 3 → 1 ≤ f.n ∧ f.n ≤ b.muteMost) ∧ (f.kind = 4 → 1 ≤ f.n ∧ f.n ≤ b.liftMost)
instance (b : Bud) (f : Flt) : Decidable (okF b f) := by unfold okF; infer_instance
def dec (b : Bud) (k : Int) : Bud :=
  { stops := if k = 1 then b.stops - 1 else b.stops, cells := if k = 2 then b.cells - 1 else b.cells, mutes := if k = 3 then b.mutes - 1 else b.mutes, muteMost := b.muteMost,
    lifts := if k = 4 then b.lifts - 1 else b.lifts, liftMost := b.liftMost, steps := if k = 5 then b.steps - 1 else b.steps }
def spend (b : Bud) (f : Flt) : Option Bud := if f.kind = 0 then some b else if okF b f ∧ 1 ≤ num b f.kind then some (dec b f.kind) else none
def run (b : Bud) : List Flt → Bud × Nat
  | [] => (b, 0)
  | f :: l => match spend b f with
    | none => (b, 0)
    | some c => ((run c l).1, (run c l).2 + 1)
def left (b : Bud) : Int := b.stops + b.cells + b.mutes + b.lifts + b.steps
def cnt (l : List Flt) (k : Int) : Int := (l.countP fun f => decide (f.kind = k) : Nat)
/-- What is left of a budget. -/
def rest (b : Bud) (l : List Flt) : Bud := ⟨b.stops - cnt l 1, b.cells - cnt l 2, b.mutes - cnt l 3, b.muteMost, b.lifts - cnt l 4, b.liftMost, b.steps - cnt l 5⟩
end Fa
end Go.Proofs.YtcdfmgobokjcnaaGreatDoor
/- Which faults are listed, in plain words: bodies and their slots, what is possible, what concerns some cells, the list. Nothing of the program is imported. -/
namespace Go.Proofs.YtcdfmgobokjcnaaGreatDoor
namespace Bd
structure Robot where
  cell : Int
  load : Int
  charge : Int
  rest : Int
  mute : Int
  dead : Bool
structure State where
  tick : Int
  shelves : List Int
  robots : List Robot
  people : List Int
  dead : List Int
  stuck : List (Int × Int)
/-- The slots that one who carries (or not) has at a cell. -/
def atL (l c : Int) : List Int := if 0 ≤ l then [2 * c, 2 * c + 1] else [2 * c]
def robotL (r : Robot) : List Int := atL r.load r.cell
def carried (st : State) (i : Nat) : Bool := st.robots.any fun r => r.load == (i : Int)
def shelfL (st : State) (i : Nat) : List Int := if carried st i = true then [] else [2 * st.shelves.getD i 0 + 1]
def personL (c : Int) : List Int := [2 * c, 2 * c + 1]
def robotsL (st : State) : List Int := st.robots.flatMap robotL
def shelvesL (st : State) : List Int := (List.range st.shelves.length).flatMap (shelfL st)
def peopleL (st : State) : List Int := st.people.flatMap personL
def allL (st : State) : List Int := robotsL st ++ (shelvesL st ++ peopleL st)
/-- Somebody has a slot of a cell. -/
def heldB (st : State) (c : Int) : Bool := (allL st).any fun x => x == 2 * c || x == 2 * c + 1
theorem atL_len (l c : Int) : (atL l c).length ≤ 2 := by unfold atL; split <;> simp
theorem flat_len {α : Type} (f : α → List Int) (n : Nat) (h : ∀ x, (f x).length ≤ n) : ∀ l : List α, (l.flatMap f).length ≤ l.length * n
  | [] => by simp
  | x :: l => by
    have := flat_len f n h l
    have := h x
    simp only [List.flatMap_cons, List.length_append, List.length_cons, Nat.add_mul]
    omega
theorem robotsL_len (st : State) : (robotsL st).length ≤ st.robots.length * 2 := flat_len _ 2 (fun _ => atL_len _ _) _
theorem shelfL_len (st : State) (i : Nat) : (shelfL st i).length ≤ 2 := by unfold shelfL; split <;> simp
theorem shelvesL_len (st : State) : (shelvesL st).length ≤ st.shelves.length * 2 := by
  have := flat_len (shelfL st) 2 (shelfL_len st) (List.range st.shelves.length)
  rwa [List.length_range] at this
theorem peopleL_len (st : State) : (peopleL st).length ≤ st.people.length * 2 := flat_len _ 2 (fun _ => by simp [personL]) _
theorem flat_take {α : Type} (f : α → List Int) (l : List α) (i : Nat) (h : i < l.length) : (l.take (i + 1)).flatMap f = (l.take i).flatMap f ++ f l[i] := by
  rw [List.take_succ_eq_append_getElem h, List.flatMap_append]; simp
theorem any_perm {l m : List Int} (h : l.Perm m) (p : Int → Bool) : l.any p = m.any p := by
  rw [Bool.eq_iff_iff, List.any_eq_true, List.any_eq_true]
  exact ⟨fun ⟨x, a, b⟩ => ⟨x, h.mem_iff.1 a, b⟩, fun ⟨x, a, b⟩ => ⟨x, h.mem_iff.2 a, b⟩⟩
end Bd
namespace Fa
def kindF (f : Fl.Floor) (c : Int) : Int := if 0 ≤ c ∧ c < (f.kind.length : Int) then f.kind.getD c.toNat 0 else 0
def deadAt (st : Bd.State) (i : Nat) : Bool := match st.robots[i]? with
  | some r => r.dead
  | none => true
def live (st : Bd.State) (i : Int) : Bool := decide (0 ≤ i) && (decide (i < (st.robots.length : Int)) && !deadAt st i.toNat)
def longB (n : Int) : Bool := decide (1 ≤ n) && decide (n ≤ 20000)
def nearB (f : Fl.Floor) (a b : Int) : Bool := Fl.isC f b && (Fl.beside f a 0 == b || (Fl.beside f a 1 == b || (Fl.beside f a 2 == b || Fl.beside f a 3 == b)))
def stepB (f : Fl.Floor) (st : Bd.State) (p c : Int) : Bool :=
  (decide (kindF f c = 4) || decide (kindF f c = 5)) && (!Bd.heldB st c && (if p = (st.people.length : Int) then decide (kindF f c = 5) && decide (p < 20) else decide (0 ≤ p) && (decide (p < (st.people.length : Int)) && nearB f (st.people.getD p.toNat 0) c)))
def possB (f : Fl.Floor) (st : Bd.State) (x : Flt) : Bool :=
  if x.kind = 0 then true else if x.kind = 1 then live st x.a else if x.kind = 2 then !decide (kindF f x.a = 0) && !st.dead.contains x.a
  else if x.kind = 3 then live st x.a && longB x.n else if x.kind = 4 then decide (kindF f x.a = 6) && longB x.n else if x.kind = 5 then stepB f st x.a x.n else false
def cellOf (st : Bd.State) (i : Nat) : Int := match st.robots[i]? with
  | some r => r.cell
  | none => 0
def concB (st : Bd.State) (x : Flt) (cells : List Int) : Bool :=
  if x.kind = 0 then true else if x.kind = 1 ∨ x.kind = 3 then decide (0 ≤ x.a) && (decide (x.a < (st.robots.length : Int)) && cells.contains (cellOf st x.a.toNat))
  else if x.kind = 2 ∨ x.kind = 4 then cells.contains x.a else if x.kind = 5 then cells.contains x.n else false
def allowsB (b : Bud) (x : Flt) : Bool := (spend b x).isSome
def okB (f : Fl.Floor) (st : Bd.State) (b : Bud) (cells : List Int) (x : Flt) : Bool := allowsB b x && (concB st x cells && possB f st x)
/-! ### The list -/
def delaysL (k a most : Int) : List Flt := (List.range most.toNat).map fun (n : Nat) => ⟨k, a, (n : Int) + 1⟩
def robotC (b : Bud) (i : Nat) : List Flt := ⟨1, (i : Int), 0⟩ :: delaysL 3 (i : Int) b.muteMost
def stepC (np : Nat) (c : Int) : List Flt := (List.range (np + 1)).map fun (p : Nat) => ⟨5, (p : Int), c⟩
def cellC (b : Bud) (np : Nat) (c : Int) : List Flt := ⟨2, c, 0⟩ :: (delaysL 4 c b.liftMost ++ stepC np c)
def robotsC (b : Bud) (n : Nat) : List Flt := (List.range n).flatMap (robotC b)
def allC (b : Bud) (nr np : Nat) (places : List Int) : List Flt := ⟨0, 0, 0⟩ :: (robotsC b nr ++ places.flatMap (cellC b np))
/-- One fault stands ahead of another one. -/
def lt (x y : Flt) : Prop := x.kind < y.kind ∨ (x.kind = y.kind ∧ (x.a < y.a ∨ (x.a = y.a ∧ x.n < y.n)))
def ltB (x y : Flt) : Bool := decide (x.kind < y.kind) || (decide (x.kind = y.kind) && (decide (x.a < y.a) || (decide (x.a = y.a) && decide (x.n < y.n))))
theorem ltB_iff {x y : Flt} : ltB x y = true ↔ lt x y := by unfold ltB lt; simp
theorem lt_irrefl (x : Flt) : ¬ lt x x := by unfold lt; omega
theorem lt_asymm {x y : Flt} (h : lt x y) : ¬ lt y x := by unfold lt at *; omega
theorem lt_trans {x y z : Flt} (h : lt x y) (h2 : lt y z) : lt x z := by unfold lt at *; omega
theorem lt_total {x y : Flt} (h : ¬ lt x y) (h2 : ¬ lt y x) : x = y := by
  obtain ⟨a, b, c⟩ := x
  obtain ⟨d, e, f⟩ := y
  unfold lt at *
  dsimp only at h h2
  congr 1 <;> omega
/-- A candidate of the list. -/
def Cand (b : Bud) (nr np : Nat) (cells : List Int) (x : Flt) : Prop :=
  x = ⟨0, 0, 0⟩ ∨ (x.kind = 1 ∧ (0 ≤ x.a ∧ x.a < (nr : Int)) ∧ x.n = 0) ∨ (x.kind = 2 ∧ x.a ∈ cells ∧ x.n = 0) ∨ (x.kind = 3 ∧ (0 ≤ x.a ∧ x.a < (nr : Int)) ∧ 1 ≤ x.n ∧ x.n ≤ b.muteMost) ∨
  (x.kind = 4 ∧ x.a ∈ cells ∧ 1 ≤ x.n ∧ x.n ≤ b.liftMost) ∨ (x.kind = 5 ∧ (0 ≤ x.a ∧ x.a ≤ (np : Int)) ∧ x.n ∈ cells)
theorem mem_delays {k a most : Int} {x : Flt} : x ∈ delaysL k a most ↔ x.kind = k ∧ x.a = a ∧ 1 ≤ x.n ∧ x.n ≤ most := by
  unfold delaysL
  rw [List.mem_map]
  obtain ⟨xk, xa, xn⟩ := x
  constructor
  · rintro ⟨n, hn, e⟩
    rw [List.mem_range] at hn
    injection e with e1 e2 e3
    subst e1 e2 e3
    exact ⟨rfl, rfl, by dsimp only; omega, by dsimp only; omega⟩
  · rintro ⟨e1, e2, h1, h2⟩
    dsimp only at e1 e2 h1 h2
    subst e1 e2
    exact ⟨(xn - 1).toNat, by rw [List.mem_range]; omega, by congr 1; omega⟩
theorem mem_robotC {b : Bud} {i : Nat} {x : Flt} : x ∈ robotC b i ↔ (x.kind = 1 ∧ x.a = (i : Int) ∧ x.n = 0) ∨ (x.kind = 3 ∧ x.a = (i : Int) ∧ 1 ≤ x.n ∧ x.n ≤ b.muteMost) := by
  unfold robotC
  rw [List.mem_cons, mem_delays]
  obtain ⟨xk, xa, xn⟩ := x
  simp only [Flt.mk.injEq]
theorem mem_stepC {np : Nat} {c : Int} {x : Flt} : x ∈ stepC np c ↔ x.kind = 5 ∧ (0 ≤ x.a ∧ x.a ≤ (np : Int)) ∧ x.n = c := by
  unfold stepC
  rw [List.mem_map]
  obtain ⟨xk, xa, xn⟩ := x
  constructor
  · rintro ⟨n, hn, e⟩
    rw [List.mem_range] at hn
    injection e with e1 e2 e3
    subst e1 e2 e3
    exact ⟨rfl, ⟨by dsimp only; omega, by dsimp only; omega⟩, rfl⟩
  · rintro ⟨e1, ⟨h1, h2⟩, e2⟩
    dsimp only at e1 e2 h1 h2
    subst e1 e2
    exact ⟨xa.toNat, by rw [List.mem_range]; omega, by congr 1; omega⟩
theorem mem_cellC {b : Bud} {np : Nat} {c : Int} {x : Flt} : x ∈ cellC b np c ↔ (x.kind = 2 ∧ x.a = c ∧ x.n = 0) ∨ (x.kind = 4 ∧ x.a = c ∧ 1 ≤ x.n ∧ x.n ≤ b.liftMost) ∨ (x.kind = 5 ∧ (0 ≤ x.a ∧ x.a ≤ (np : Int)) ∧ x.n = c) := by
  unfold cellC
  rw [List.mem_cons, List.mem_append, mem_delays, mem_stepC]
  obtain ⟨xk, xa, xn⟩ := x
  simp only [Flt.mk.injEq]
theorem mem_allC {b : Bud} {nr np : Nat} {places cells : List Int} (hp : ∀ c, c ∈ places ↔ c ∈ cells) {x : Flt} : x ∈ allC b nr np places ↔ Cand b nr np cells x := by
  unfold allC robotsC Cand
  rw [List.mem_cons, List.mem_append, List.mem_flatMap, List.mem_flatMap]
  simp only [List.mem_range, mem_robotC, mem_cellC, hp]
  constructor
  · rintro (h | ⟨i, hi, (⟨h1, h2, h3⟩ | ⟨h1, h2, h3⟩)⟩ | ⟨c, hc, (⟨h1, h2, h3⟩ | ⟨h1, h2, h3⟩ | ⟨h1, h2, h3⟩)⟩)
    · exact .inl h
    · exact .inr (.inl ⟨h1, by omega, h3⟩)
    · exact .inr (.inr (.inr (.inl ⟨h1, by omega, h3⟩)))
    · exact .inr (.inr (.inl ⟨h1, by rw [h2]; exact hc, h3⟩))
    · exact .inr (.inr (.inr (.inr (.inl ⟨h1, by rw [h2]; exact hc, h3⟩))))
    · exact .inr (.inr (.inr (.inr (.inr ⟨h1, h2, by rw [h3]; exact hc⟩))))
  · rintro (h | ⟨h1, h2, h3⟩ | ⟨h1, h2, h3⟩ | ⟨h1, h2, h3⟩ | ⟨h1, h2, h3⟩ | ⟨h1, h2, h3⟩)
    · exact .inl h
    · exact .inr (.inl ⟨x.a.toNat, by omega, .inl ⟨h1, by omega, h3⟩⟩)
    · exact .inr (.inr ⟨x.a, h2, .inl ⟨h1, rfl, h3⟩⟩)
    · exact .inr (.inl ⟨x.a.toNat, by omega, .inr ⟨h1, by omega, h3⟩⟩)
    · exact .inr (.inr ⟨x.a, h2, .inr (.inl ⟨h1, rfl, h3⟩)⟩)
    · exact .inr (.inr ⟨x.n, h3, .inr (.inr ⟨h1, h2, rfl⟩)⟩)
theorem nodup_flat {α : Type} (f : α → List Flt) : ∀ (l : List α), l.Nodup → (∀ x ∈ l, (f x).Nodup) → (∀ x ∈ l, ∀ y ∈ l, x ≠ y → ∀ z, z ∈ f x → z ∉ f y) → (l.flatMap f).Nodup
  | [], _, _, _ => by simp
  | x :: l, h, h1, h2 => by
    rw [List.nodup_cons] at h
    rw [List.flatMap_cons, List.nodup_append]
    refine ⟨h1 x (List.mem_cons_self ..), nodup_flat f l h.2 (fun y hy => h1 y (List.mem_cons_of_mem _ hy)) (fun y hy z hz => h2 y (List.mem_cons_of_mem _ hy) z (List.mem_cons_of_mem _ hz)), ?_⟩
    rintro u hu v hv rfl
    obtain ⟨y, hy, hv⟩ := List.mem_flatMap.1 hv
    exact h2 x (List.mem_cons_self ..) y (List.mem_cons_of_mem _ hy) (fun e => h.1 (e ▸ hy)) u hu hv
theorem nodup_delays (k a most : Int) : (delaysL k a most).Nodup := by
  unfold delaysL
  refine List.Pairwise.map _ ?_ (List.nodup_range (n := most.toNat))
  intro m n h e
  injection e with e1 e2 e3
  exact h (by omega)
theorem nodup_stepC (np : Nat) (c : Int) : (stepC np c).Nodup := by
  unfold stepC
  refine List.Pairwise.map _ ?_ (List.nodup_range (n := np + 1))
  intro m n h e
  injection e with e1 e2 e3
  exact h (by omega)
theorem nodup_robotC (b : Bud) (i : Nat) : (robotC b i).Nodup := by
  unfold robotC
  rw [List.nodup_cons]
  refine ⟨fun h => ?_, nodup_delays ..⟩
  have := (mem_delays.1 h).1
  dsimp only at this
  omega
theorem nodup_cellC (b : Bud) (np : Nat) (c : Int) : (cellC b np c).Nodup := by
  unfold cellC
  rw [List.nodup_cons, List.nodup_append]
  refine ⟨fun h => ?_, nodup_delays .., nodup_stepC .., ?_⟩
  · rcases List.mem_append.1 h with h | h
    · have := (mem_delays.1 h).1
      dsimp only at this
      omega
    · have := (mem_stepC.1 h).1
      dsimp only at this
      omega
  · rintro u hu v hv rfl
    have h1 := (mem_delays.1 hu).1
    have h2 := (mem_stepC.1 hv).1
    omega
theorem nodup_allC {b : Bud} {nr np : Nat} {places : List Int} (h : places.Nodup) : (allC b nr np places).Nodup := by
  unfold allC robotsC
  rw [List.nodup_cons, List.nodup_append]
  refine ⟨fun hm => ?_, nodup_flat _ _ List.nodup_range (fun x _ => nodup_robotC ..) ?_, nodup_flat _ _ h (fun x _ => nodup_cellC ..) ?_, ?_⟩
  · rcases List.mem_append.1 hm with hm | hm
    · obtain ⟨i, _, hi⟩ := List.mem_flatMap.1 hm
      rcases mem_robotC.1 hi with ⟨h1, -⟩ | ⟨h1, -⟩ <;> (dsimp only at h1; omega)
    · obtain ⟨i, _, hi⟩ := List.mem_flatMap.1 hm
      rcases mem_cellC.1 hi with ⟨h1, -⟩ | ⟨h1, -⟩ | ⟨h1, -⟩ <;> (dsimp only at h1; omega)
  · intro i _ j _ hij z hz hz2
    rcases mem_robotC.1 hz with ⟨h1, h2, -⟩ | ⟨h1, h2, -⟩ <;> rcases mem_robotC.1 hz2 with ⟨g1, g2, -⟩ | ⟨g1, g2, -⟩ <;> omega
  · intro i _ j _ hij z hz hz2
    rcases mem_cellC.1 hz with ⟨h1, h2, -⟩ | ⟨h1, h2, -⟩ | ⟨h1, -, h2⟩ <;> rcases mem_cellC.1 hz2 with ⟨g1, g2, -⟩ | ⟨g1, g2, -⟩ | ⟨g1, -, g2⟩ <;> omega
  · rintro u hu v hv rfl
    obtain ⟨i, _, hu⟩ := List.mem_flatMap.1 hu
    obtain ⟨j, _, hv⟩ := List.mem_flatMap.1 hv
    rcases mem_robotC.1 hu with ⟨h1, -⟩ | ⟨h1, -⟩ <;> rcases mem_cellC.1 hv with ⟨g1, -⟩ | ⟨g1, -⟩ | ⟨g1, -⟩ <;> omega
/-- What a list of faults is: it ascends, and has the candidates that may be. -/
structure Listed (f : Fl.Floor) (st : Bd.State) (b : Bud) (cells : List Int) (l : List Flt) : Prop where
  asc : l.Pairwise lt
  mem : ∀ x, x ∈ l ↔ Cand b st.robots.length st.people.length cells x ∧ okB f st b cells x = true
theorem listed_of {f : Fl.Floor} {st : Bd.State} {b : Bud} {cells places : List Int} {l : List Flt} (hn : places.Nodup) (hp : ∀ c, c ∈ places ↔ c ∈ cells)
    (hl : l.Perm ((allC b st.robots.length st.people.length places).filter (okB f st b cells))) (hs : l.Pairwise fun x y => ltB y x = false) : Listed f st b cells l := by
  have hd : l.Nodup := hl.nodup_iff.2 ((nodup_allC hn).sublist List.filter_sublist)
  refine ⟨?_, fun x => ?_⟩
  · have h2 := List.Pairwise.and hs hd
    refine h2.imp ?_
    rintro x y ⟨h1, h2⟩
    apply Classical.byContradiction; intro h3
    exact h2 (lt_total h3 (fun h4 => by rw [ltB_iff.2 h4] at h1; cases h1))
  · rw [hl.mem_iff, List.mem_filter, mem_allC hp]
/-- Two ascending lists with the same members are one list. -/
theorem asc_ext : ∀ {l m : List Flt}, l.Pairwise lt → m.Pairwise lt → (∀ x, x ∈ l ↔ x ∈ m) → l = m
  | [], [], _, _, _ => rfl
  | [], y :: m, _, _, h => by have := (h y).2 (List.mem_cons_self ..); cases this
  | x :: l, [], _, _, h => by have := (h x).1 (List.mem_cons_self ..); cases this
  | x :: l, y :: m, hl, hm, h => by
    rw [List.pairwise_cons] at hl hm
    have e : x = y := by
      rcases List.mem_cons.1 ((h x).1 (List.mem_cons_self ..)) with e | hx
      · exact e
      · rcases List.mem_cons.1 ((h y).2 (List.mem_cons_self ..)) with e | hy
        · exact e.symm
        · exact absurd (hl.1 y hy) (lt_asymm (hm.1 x hx))
    subst e
    congr 1
    refine asc_ext hl.2 hm.2 fun z => ?_
    constructor
    · intro hz
      rcases List.mem_cons.1 ((h z).1 (List.mem_cons_of_mem _ hz)) with e | h2
      · subst e; exact absurd (hl.1 z hz) (lt_irrefl z)
      · exact h2
    · intro hz
      rcases List.mem_cons.1 ((h z).2 (List.mem_cons_of_mem _ hz)) with e | h2
      · subst e; exact absurd (hm.1 z hz) (lt_irrefl z)
      · exact h2
theorem Listed.ext {f : Fl.Floor} {st : Bd.State} {b : Bud} {cells : List Int} {l m : List Flt} (h : Listed f st b cells l) (h2 : Listed f st b cells m) : l = m :=
  asc_ext h.asc h2.asc fun x => by rw [h.mem, h2.mem]
end Fa
end Go.Proofs.YtcdfmgobokjcnaaGreatDoor
/- Right states in plain words: what body.Right answers. Nothing of the program is imported. -/
namespace Go.Proofs.YtcdfmgobokjcnaaGreatDoor
namespace Bd
def inB (n a b : Int) : Bool := decide (a ≤ n) && decide (n ≤ b)
/-- A cell is one of a floor, of one of two kinds. -/
def onB (f : Fl.Floor) (c a b : Int) : Bool := decide (0 ≤ c) && (decide (c < (f.kind.length : Int)) && (decide (f.kind.getD c.toNat 0 = a) || decide (f.kind.getD c.toNat 0 = b)))
def robOk (f : Fl.Floor) (sh : List Int) (r : Robot) : Bool :=
  (decide (0 ≤ r.cell) && (decide (r.cell < (f.kind.length : Int)) && (!decide (f.kind.getD r.cell.toNat 0 = 0) && inB r.load (-1) ((sh.length : Int) - 1)))) &&
  ((inB r.charge 0 1000000 && (inB r.rest 0 20000 && inB r.mute 0 20000)))
/-- A robot carries what no earlier one carries, at its own cell. -/
def loadOk (sh : List Int) (seen : List Int) (r : Robot) : Bool := !(decide (0 ≤ r.load) && (decide (r.load ∈ seen) || !decide (sh.getD r.load.toNat 0 = r.cell)))
def robGo (f : Fl.Floor) (sh : List Int) : List Int → List Robot → Bool
  | _, [] => true
  | seen, r :: l => (robOk f sh r && loadOk sh seen r) && robGo f sh (seen ++ [r.load]) l
def deadGo (n : Int) : Option Int → List Int → Bool
  | _, [] => true
  | p, c :: l => (decide (0 ≤ c) && (decide (c < n) && (match p with | none => true | some q => decide (q < c)))) && deadGo n (some c) l
def stuckGo (f : Fl.Floor) : Option Int → List (Int × Int) → Bool
  | _, [] => true
  | p, x :: l => (onB f x.1 6 6 && (inB x.2 1 20000 && (match p with | none => true | some q => decide (q < x.1)))) && stuckGo f (some x.1) l
def robsB (f : Fl.Floor) (st : State) : Bool := robGo f st.shelves [] st.robots
def restB (f : Fl.Floor) (st : State) : Bool := deadGo (f.kind.length : Int) none st.dead && stuckGo f none st.stuck
def shelfOk (f : Fl.Floor) (st : State) (i : Nat) : Bool := carried st i || onB f (st.shelves.getD i 0) 1 2
def shelvesB (f : Fl.Floor) (st : State) : Bool := (List.range st.shelves.length).all (shelfOk f st)
def peopleB (f : Fl.Floor) (st : State) : Bool := st.people.all fun c => onB f c 4 5
/-- The first line of tests. -/
def headB (f : Fl.Floor) (ns nr : Int) (st : State) : Bool :=
  inB st.tick 0 20000 && (decide ((st.shelves.length : Int) = ns) && (decide ((st.robots.length : Int) = nr) && (decide ((st.people.length : Int) ≤ 20) && (robsB f st && restB f st))))
def rightB (f : Fl.Floor) (ns nr : Int) (st : State) : Bool :=
  headB f ns nr st && (shelvesB f st && (peopleB f st && decide (allL st).Nodup))
theorem robGo_take (f : Fl.Floor) (sh : List Int) : ∀ (l : List Robot) (seen : List Int) (k : Nat) (h : k < l.length), robGo f sh seen (l.drop k) = ((robOk f sh l[k] && loadOk sh seen l[k]) && robGo f sh (seen ++ [l[k].load]) (l.drop (k + 1))) := by
  intro l seen k h
  rw [List.drop_eq_getElem_cons h]; rfl
theorem deadGo_take (n : Int) (l : List Int) (p : Option Int) (k : Nat) (h : k < l.length) : deadGo n p (l.drop k) = ((decide (0 ≤ l[k]) && (decide (l[k] < n) && (match p with | none => true | some q => decide (q < l[k])))) && deadGo n (some l[k]) (l.drop (k + 1))) := by
  rw [List.drop_eq_getElem_cons h]; rfl
theorem stuckGo_take (f : Fl.Floor) (l : List (Int × Int)) (p : Option Int) (k : Nat) (h : k < l.length) : stuckGo f p (l.drop k) = ((onB f l[k].1 6 6 && (inB l[k].2 1 20000 && (match p with | none => true | some q => decide (q < l[k].1)))) && stuckGo f (some l[k].1) (l.drop (k + 1))) := by
  rw [List.drop_eq_getElem_cons h]; rfl
end Bd
end Go.Proofs.YtcdfmgobokjcnaaGreatDoor
/- What FaultLists and FaultNone say of the lists, in plain words. Nothing of the program is imported. -/
namespace Go.Proofs.YtcdfmgobokjcnaaGreatDoor
namespace Fa
def none3 : Flt := ⟨0, 0, 0⟩
theorem none_ok (f : Fl.Floor) (st : Bd.State) (b : Bud) (cells : List Int) : okB f st b cells none3 = true := by
  unfold okB allowsB concB possB spend none3; simp
theorem Listed.none_mem {f : Fl.Floor} {st : Bd.State} {b : Bud} {cells : List Int} {l : List Flt} (h : Listed f st b cells l) : none3 ∈ l :=
  (h.mem _).2 ⟨.inl rfl, none_ok ..⟩
theorem Cand.kind {b : Bud} {nr np : Nat} {cells : List Int} {x : Flt} (h : Cand b nr np cells x) : 0 ≤ x.kind ∧ x.kind < 6 ∧ (x.kind = 0 → x = none3) := by
  rcases h with h | h | h | h | h | h
  · subst h; exact ⟨by decide, by decide, fun _ => rfl⟩
  all_goals exact ⟨by omega, by omega, fun h0 => by omega⟩
/-- The list begins with the fault that is none. -/
theorem Listed.head {f : Fl.Floor} {st : Bd.State} {b : Bud} {cells : List Int} {l : List Flt} (h : Listed f st b cells l) : ∃ r, l = none3 :: r := by
  cases l with
  | nil => have := h.none_mem; cases this
  | cons x r =>
    refine ⟨r, ?_⟩
    congr 1
    have hx := ((h.mem x).1 (List.mem_cons_self ..)).1.kind
    rcases List.mem_cons.1 h.none_mem with e | e
    · exact e.symm
    · have ha := h.asc
      rw [List.pairwise_cons] at ha
      have := ha.1 _ e
      unfold lt none3 at this
      dsimp only at this
      exact hx.2.2 (by omega)
theorem Listed.ok {f : Fl.Floor} {st : Bd.State} {b : Bud} {cells : List Int} {l : List Flt} (h : Listed f st b cells l) {x : Flt} (hx : x ∈ l) : possB f st x = true ∧ allowsB b x = true ∧ concB st x cells = true := by
  have := ((h.mem x).1 hx).2
  unfold okB at this
  simp only [Bool.and_eq_true] at this
  exact ⟨this.2.2, this.1, this.2.1⟩
/-- Nothing but the fault that is none. -/
theorem Listed.only {g : Fl.Floor} {st : Bd.State} {b : Bud} {cells : List Int} {l : List Flt} (h : Listed g st b cells l) (h0 : ∀ x, x.kind ≠ 0 → okB g st b cells x = false) : l = [none3] := by
  obtain ⟨r, rfl⟩ := h.head
  cases r with
  | nil => rfl
  | cons y r =>
    have hy := (h.mem y).1 (by simp)
    have ha := h.asc
    rw [List.pairwise_cons] at ha
    have hl := ha.1 y (List.mem_cons_self ..)
    by_cases hk : y.kind = 0
    · rw [hy.1.kind.2.2 hk] at hl; exact absurd hl (lt_irrefl _)
    · rw [h0 y hk] at hy; cases hy.2
/-! ### The documentation's example -/
def sampF : Fl.Floor := ⟨10, 1, 1, [3, 1, 1, 1, 1, 1, 1, 1, 1, 1], [5, 5, 5, 5, 5, 5, 5, 5, 5, 5]⟩
def sampS : Bd.State := ⟨0, [], [⟨3, -1, 9, 0, 0, false⟩, ⟨8, -1, 9, 0, 0, false⟩], [], [], []⟩
def sampB : Bud := ⟨1, 0, 1, 5, 0, 0, 0⟩
def sampL : List Flt := [⟨0, 0, 0⟩, ⟨1, 0, 0⟩, ⟨3, 0, 1⟩, ⟨3, 0, 2⟩, ⟨3, 0, 3⟩, ⟨3, 0, 4⟩, ⟨3, 0, 5⟩]
theorem samp_listed : Listed sampF sampS sampB [3] sampL := by
  refine listed_of (places := [3]) (by simp) (fun c => Iff.rfl) ?_ ?_
  · have e : (allC sampB sampS.robots.length sampS.people.length [3]).filter (okB sampF sampS sampB [3]) = sampL := by decide +kernel
    rw [e]
  · unfold sampL; simp [ltB]
theorem samp_is {l : List Flt} (h : Listed sampF sampS sampB [3] l) : l = sampL := h.ext samp_listed
end Fa
end Go.Proofs.YtcdfmgobokjcnaaGreatDoor
/- The reference's list of faults, in plain words: it is what the list is said to be. Nothing of the program is imported. -/
namespace Go.Proofs.YtcdfmgobokjcnaaGreatDoor
namespace Fa
/-- The first delay, the number of delays, the number of places that the reference runs through. -/
def fromK (k : Int) : Int := if k = 3 ∨ k = 4 then 1 else 0
def toK (n : Nat) (b : Bud) (k : Int) : Int := if k = 3 then b.muteMost + 1 else if k = 4 then b.liftMost + 1 else if k = 5 then (n : Int) else 1
def mostK (n nr np : Nat) (k : Int) : Nat := if k = 1 ∨ k = 3 then nr else if k = 5 then np + 1 else n
def partR (k a : Int) (j : Nat) : List Flt := (List.range j).map fun (i : Nat) => ⟨k, a, fromK k + (i : Int)⟩
def lenR (n : Nat) (b : Bud) (k : Int) : Nat := (toK n b k - fromK k).toNat
def rowR (n : Nat) (b : Bud) (k : Int) (a : Nat) : List Flt := partR k (a : Int) (lenR n b k)
def rowsR (n : Nat) (b : Bud) (k : Int) (a : Nat) : List Flt := (List.range a).flatMap (rowR n b k)
def kindR (n nr np : Nat) (b : Bud) (k : Int) : List Flt := rowsR n b k (mostK n nr np k)
def kindsR (n nr np : Nat) (b : Bud) (K : Nat) : List Flt := (List.range K).flatMap fun (i : Nat) => kindR n nr np b ((i : Int) + 1)
theorem partR_succ (k a : Int) (j : Nat) : partR k a (j + 1) = partR k a j ++ [⟨k, a, fromK k + (j : Int)⟩] := by
  unfold partR; rw [List.range_succ, List.map_append]; rfl
theorem rowsR_succ (n : Nat) (b : Bud) (k : Int) (a : Nat) : rowsR n b k (a + 1) = rowsR n b k a ++ rowR n b k a := by
  unfold rowsR; rw [List.range_succ, List.flatMap_append]; simp
theorem kindsR_succ (n nr np : Nat) (b : Bud) (K : Nat) : kindsR n nr np b (K + 1) = kindsR n nr np b K ++ kindR n nr np b ((K : Int) + 1) := by
  unfold kindsR; rw [List.range_succ, List.flatMap_append]; simp
theorem mem_partR {k a : Int} {j : Nat} {x : Flt} : x ∈ partR k a j ↔ x.kind = k ∧ x.a = a ∧ fromK k ≤ x.n ∧ x.n < fromK k + (j : Int) := by
  unfold partR
  rw [List.mem_map]
  obtain ⟨xk, xa, xn⟩ := x
  constructor
  · rintro ⟨i, hi, e⟩
    rw [List.mem_range] at hi
    injection e with e1 e2 e3
    subst e1 e2 e3
    exact ⟨rfl, rfl, by dsimp only; omega, by dsimp only; omega⟩
  · rintro ⟨e1, e2, h1, h2⟩
    dsimp only at e1 e2 h1 h2
    subst e1 e2
    exact ⟨(xn - fromK xk).toNat, by rw [List.mem_range]; omega, by congr 1; omega⟩
theorem mem_rowsR {n : Nat} {b : Bud} {k : Int} {a : Nat} {x : Flt} : x ∈ rowsR n b k a ↔ x.kind = k ∧ (0 ≤ x.a ∧ x.a < (a : Int)) ∧ fromK k ≤ x.n ∧ x.n < toK n b k := by
  unfold rowsR rowR lenR
  rw [List.mem_flatMap]
  simp only [List.mem_range, mem_partR]
  constructor
  · rintro ⟨i, hi, h1, h2, h3, h4⟩
    exact ⟨h1, by omega, h3, by omega⟩
  · rintro ⟨h1, h2, h3, h4⟩
    exact ⟨x.a.toNat, by omega, h1, by omega, h3, by omega⟩
theorem mem_kindsR {n nr np : Nat} {b : Bud} {K : Nat} {x : Flt} : x ∈ kindsR n nr np b K ↔ (1 ≤ x.kind ∧ x.kind ≤ (K : Int)) ∧ (0 ≤ x.a ∧ x.a < (mostK n nr np x.kind : Int)) ∧ fromK x.kind ≤ x.n ∧ x.n < toK n b x.kind := by
  unfold kindsR kindR
  rw [List.mem_flatMap]
  simp only [List.mem_range, mem_rowsR]
  constructor
  · rintro ⟨i, hi, h1, h2⟩
    rw [← h1] at h2
    exact ⟨by omega, h2⟩
  · rintro ⟨h1, h2⟩
    have e : ((x.kind - 1).toNat : Int) + 1 = x.kind := by omega
    exact ⟨(x.kind - 1).toNat, by omega, by omega, by rw [e]; exact h2⟩
theorem pair_flat {α : Type} {R : α → α → Prop} {f : Nat → List α} (h1 : ∀ i, (f i).Pairwise R) (h2 : ∀ i j, i < j → ∀ x ∈ f i, ∀ y ∈ f j, R x y) : ∀ n, ((List.range n).flatMap f).Pairwise R
  | 0 => by simp
  | n + 1 => by
    rw [List.range_succ, List.flatMap_append, List.pairwise_append]
    refine ⟨pair_flat h1 h2 n, by simpa using h1 n, fun x hx y hy => ?_⟩
    obtain ⟨i, hi, hx⟩ := List.mem_flatMap.1 hx
    rw [List.mem_range] at hi
    exact h2 i n hi x hx y (by simpa using hy)
theorem asc_partR (k a : Int) (j : Nat) : (partR k a j).Pairwise lt := by
  unfold partR
  refine List.Pairwise.map _ ?_ List.pairwise_lt_range
  intro i j h
  exact .inr ⟨rfl, .inr ⟨rfl, by dsimp only; omega⟩⟩
theorem asc_rowsR (n : Nat) (b : Bud) (k : Int) (a : Nat) : (rowsR n b k a).Pairwise lt := by
  unfold rowsR
  refine pair_flat (fun i => asc_partR ..) (fun i j h x hx y hy => ?_) _
  obtain ⟨h1, h2, -⟩ := mem_partR.1 hx
  obtain ⟨g1, g2, -⟩ := mem_partR.1 hy
  exact .inr ⟨h1.trans g1.symm, .inl (by omega)⟩
theorem asc_kindsR (n nr np : Nat) (b : Bud) (K : Nat) : (kindsR n nr np b K).Pairwise lt := by
  unfold kindsR
  refine pair_flat (fun i => asc_rowsR ..) (fun i j h x hx y hy => ?_) _
  have h1 := (mem_rowsR.1 hx).1
  have g1 := (mem_rowsR.1 hy).1
  exact .inl (by omega)
theorem kindF_in {f : Fl.Floor} {c : Int} (h : kindF f c ≠ 0) : 0 ≤ c ∧ c < (f.kind.length : Int) := by
  unfold kindF at h
  split at h
  · assumption
  · exact absurd rfl h
theorem allows_zero (b : Bud) : allowsB b ⟨0, 0, 0⟩ = true := by unfold allowsB spend; rfl
theorem contains_mem {l : List Int} {x : Int} (h : l.contains x = true) : x ∈ l := by simpa using h
/-- What the reference lists. -/
theorem ref_listed (f : Fl.Floor) (st : Bd.State) (b : Bud) (cells : List Int) :
    Listed f st b cells (⟨0, 0, 0⟩ :: (kindsR f.kind.length st.robots.length st.people.length b 5).filter (okB f st b cells)) := by
  refine ⟨?_, fun x => ?_⟩
  · rw [List.pairwise_cons]
    refine ⟨fun x hx => ?_, (asc_kindsR ..).sublist List.filter_sublist⟩
    have h := (mem_kindsR.1 ((List.mem_filter.1 hx).1)).1
    exact .inl (by dsimp only; omega)
  · rw [List.mem_cons, List.mem_filter, mem_kindsR]
    constructor
    · rintro (rfl | ⟨⟨hk, ha, hn1, hn2⟩, hok⟩)
      · exact ⟨.inl rfl, by unfold okB; rw [allows_zero]; rfl⟩
      · refine ⟨?_, hok⟩
        have hc := hok
        unfold okB at hc
        simp only [Bool.and_eq_true] at hc
        obtain ⟨-, hc, -⟩ := hc
        obtain ⟨xk, xa, xn⟩ := x
        dsimp only at hk ha hn1 hn2
        have hk5 : xk = 1 ∨ xk = 2 ∨ xk = 3 ∨ xk = 4 ∨ xk = 5 := by omega
        rcases hk5 with rfl | rfl | rfl | rfl | rfl
        · unfold mostK at ha; unfold fromK at hn1; unfold toK at hn2
          simp at ha hn1 hn2
          exact .inr (.inl ⟨rfl, by dsimp only; omega, by dsimp only; omega⟩)
        · unfold concB at hc
          rw [if_neg (by dsimp only; omega), if_neg (by dsimp only; omega), if_pos (by dsimp only; omega)] at hc
          unfold fromK at hn1; unfold toK at hn2
          simp at hn1 hn2
          exact .inr (.inr (.inl ⟨rfl, contains_mem hc, by dsimp only; omega⟩))
        · unfold mostK at ha; unfold fromK at hn1; unfold toK at hn2
          simp at ha hn1 hn2
          exact .inr (.inr (.inr (.inl ⟨rfl, by dsimp only; omega, by dsimp only; omega, by dsimp only; omega⟩)))
        · unfold concB at hc
          rw [if_neg (by dsimp only; omega), if_neg (by dsimp only; omega), if_pos (by dsimp only; omega)] at hc
          unfold fromK at hn1; unfold toK at hn2
          simp at hn1 hn2
          exact .inr (.inr (.inr (.inr (.inl ⟨rfl, contains_mem hc, by dsimp only; omega, by dsimp only; omega⟩))))
        · unfold concB at hc
          rw [if_neg (by dsimp only; omega), if_neg (by dsimp only; omega), if_neg (by dsimp only; omega), if_pos rfl] at hc
          unfold mostK at ha
          simp at ha
          exact .inr (.inr (.inr (.inr (.inr ⟨rfl, by dsimp only; omega, contains_mem hc⟩))))
    · rintro ⟨hcd, hok⟩
      rcases hcd with rfl | ⟨h1, h2, h3⟩ | ⟨h1, h2, h3⟩ | ⟨h1, h2, h3, h4⟩ | ⟨h1, h2, h3, h4⟩ | ⟨h1, h2, h3⟩
      · exact .inl rfl
      all_goals
        refine .inr ⟨?_, hok⟩
        have hp := hok
        unfold okB at hp
        simp only [Bool.and_eq_true] at hp
        obtain ⟨-, -, hp⟩ := hp
        obtain ⟨xk, xa, xn⟩ := x
        dsimp only at h1
        subst h1
        dsimp only at h2 h3 ⊢
        unfold possB at hp
        dsimp only at hp
      · refine ⟨by omega, ?_, ?_, ?_⟩
        · unfold mostK; simp; omega
        · unfold fromK; simp; omega
        · unfold toK; simp; omega
      · rw [if_neg (by decide), if_neg (by decide), if_pos rfl] at hp
        simp only [Bool.and_eq_true, Bool.not_eq_true', decide_eq_false_iff_not] at hp
        have hin := kindF_in hp.1
        refine ⟨by omega, ?_, ?_, ?_⟩
        · unfold mostK; simp; omega
        · unfold fromK; simp; omega
        · unfold toK; simp; omega
      · dsimp only at h4
        refine ⟨by omega, ?_, ?_, ?_⟩
        · unfold mostK; simp; omega
        · unfold fromK; simp; omega
        · unfold toK; simp; omega
      · dsimp only at h4
        rw [if_neg (by decide), if_neg (by decide), if_neg (by decide), if_neg (by decide), if_pos rfl] at hp
        simp only [Bool.and_eq_true, decide_eq_true_eq] at hp
        have hin := kindF_in (f := f) (c := xa) (by omega)
        refine ⟨by omega, ?_, ?_, ?_⟩
        · unfold mostK; simp; omega
        · unfold fromK; simp; omega
        · unfold toK; simp; omega
      · rw [if_neg (by decide), if_neg (by decide), if_neg (by decide), if_neg (by decide), if_neg (by decide), if_pos rfl] at hp
        unfold stepB at hp
        simp only [Bool.and_eq_true, Bool.or_eq_true, decide_eq_true_eq] at hp
        have hin := kindF_in (f := f) (c := xn) (by omega)
        refine ⟨by omega, ?_, ?_, ?_⟩
        · unfold mostK; simp; omega
        · unfold fromK; simp; omega
        · unfold toK; simp; omega
end Fa
end Go.Proofs.YtcdfmgobokjcnaaGreatDoor
/- Quoted strings and decimals in plain words. -/
namespace Go.Proofs.YtcdfmgobokjcnaaGreatDoor
open Go.RowKit

theorem dig_ofNat (d : Nat) (h : d < 10) : (UInt8.ofNat (48 + d)).toNat = 48 + d := by
  rw [UInt8.toNat_ofNat']; omega
theorem dec_dig (u : Nat) : ∀ c ∈ Lib.decDigits u, 48 ≤ c.toNat ∧ c.toNat ≤ 57 := by
  induction u using Nat.strongRecOn with
  | _ u ih =>
    rw [Lib.decDigits]
    split
    · rename_i h10
      intro c hc
      obtain rfl := List.mem_singleton.1 hc
      rw [dig_ofNat u h10]; omega
    · rename_i h10
      intro c hc
      rcases List.mem_append.1 hc with hc | hc
      · exact ih _ (by omega) c hc
      · obtain rfl := List.mem_singleton.1 hc
        rw [dig_ofNat _ (by omega)]; omega
theorem dec_ne (u : Nat) : Lib.decDigits u ≠ [] := by
  rw [Lib.decDigits]; split <;> simp
end Go.Proofs.YtcdfmgobokjcnaaGreatDoor
/- The wire encoding in plain words: numbers, texts, lists; what is written can be read in one way. Nothing of the program is imported. -/
namespace Go.Proofs.YtcdfmgobokjcnaaGreatDoor
namespace Wr

abbrev B := List UInt8
def I64 (n : Int) : Prop := -9223372036854775808 ≤ n ∧ n ≤ 9223372036854775807
def int (n : Int) : B := Lib.itoa n ++ [59]
def num (n : Nat) : B := int (n : Int)
theorem itoa_dig (n : Int) : ∀ c ∈ Lib.itoa n, c = 45 ∨ (48 ≤ c.toNat ∧ c.toNat ≤ 57) := by
  intro c hc
  rw [Lib.itoa] at hc
  split at hc
  · rcases List.mem_cons.1 hc with h | h
    · exact .inl h
    · exact .inr (dec_dig _ c h)
  · exact .inr (dec_dig _ c hc)
theorem itoa_no (n : Int) (e : UInt8) (h : e ≠ 45) (h2 : e.toNat < 48 ∨ 57 < e.toNat) : e ∉ Lib.itoa n := by
  intro hm
  rcases itoa_dig n e hm with h3 | h3
  · exact h h3
  · omega
def Ln {α : Type} (l : List α) : Prop := l.length ≤ 9223372036854775807
theorem Ln.i64 {α : Type} {l : List α} (h : Ln l) : I64 (l.length : Int) := by unfold Ln at h; exact ⟨by omega, by omega⟩
theorem flat_len {α : Type} {f : α → B} {k : Nat} : ∀ {l : List α}, (∀ a ∈ l, (f a).length ≤ k) → ((l.map f).flatten).length ≤ l.length * k
  | [], _ => by simp
  | a :: l, h => by
    have h1 := h a (List.mem_cons_self ..)
    have h2 := flat_len (l := l) (fun b hb => h b (List.mem_cons_of_mem _ hb))
    rw [List.map_cons, List.flatten_cons, List.length_append, List.length_cons, Nat.add_mul]; omega
end Wr
end Go.Proofs.YtcdfmgobokjcnaaGreatDoor
/- Reading the wire encoding, in plain words: what a reader reads of what was written. Nothing of the program is imported. -/
namespace Go.Proofs.YtcdfmgobokjcnaaGreatDoor
namespace Wr

/-- What is left to be read, and whether the reader failed. -/
abbrev St := B × Bool
def fail : St := ([], true)
/-- An int, at least as great as a limit, and the byte behind it. -/
def numR (e : UInt8) (least : Int) (r : B) : Option (Int × B) :=
  match (r.take 21).findIdx? (· == e) with
  | none => none
  | some k => match Lib.atoiAll (r.take k) with
    | .ok n => if Lib.itoa n = r.take k ∧ least ≤ n then some (n, r.drop (k + 1)) else none
    | _ => none
def numS (e : UInt8) (least : Int) (s : St) : Int × St := match numR e least s.1 with
  | some (n, r) => (n, (r, s.2))
  | none => (0, fail)
def intS (s : St) : Int × St := numS 59 (-9223372036854775808) s
theorem nDigits_le : ∀ (k u : Nat), u < 10 ^ (k + 1) → Lib.nDigits u ≤ k + 1
  | 0, u, h => by rw [Lib.nDigits_small (by simpa using h)]; omega
  | k + 1, u, h => by
    by_cases h10 : u < 10
    · rw [Lib.nDigits_small h10]; omega
    · rw [Lib.nDigits_big h10]
      have := nDigits_le k (u / 10) (by rw [Nat.div_lt_iff_lt_mul (by omega)]; rw [Nat.pow_succ] at h; exact h)
      omega
theorem nDigits_19 (u : Nat) (h : u ≤ 9223372036854775808) : Lib.nDigits u ≤ 19 := nDigits_le 18 u (by omega)
theorem itoa_le20 {n : Int} (h : I64 n) : (Lib.itoa n).length ≤ 20 := by
  by_cases hneg : n < 0
  · obtain ⟨u, rfl⟩ : ∃ u : Nat, n = -(u : Int) := ⟨n.natAbs, by omega⟩
    have h0 := h.1
    rw [Lib.itoa_neg u (by omega), List.length_cons, Lib.decDigits_length]
    have := nDigits_19 u (by omega)
    omega
  · obtain ⟨u, rfl⟩ : ∃ u : Nat, n = u := ⟨n.toNat, by omega⟩
    have h1 := h.2
    rw [Lib.itoa_nonneg, Lib.decDigits_length]
    have := nDigits_19 u (by omega)
    omega
theorem parse10_append : ∀ (l r : List UInt8) (acc a : Nat), Lib.parseUint10 acc l = .ok a → Lib.parseUint10 acc (l ++ r) = Lib.parseUint10 a r
  | [], r, acc, a, h => by rw [Lib.parseUint10] at h; injection h with h; subst h; rfl
  | c :: l, r, acc, a, h => by
    rw [List.cons_append, Lib.parseUint10]
    rw [Lib.parseUint10] at h
    split at h
    · rename_i h1
      rw [if_pos h1]
      split at h
      · cases h
      · rename_i h2
        rw [if_neg h2]
        split at h
        · cases h
        · rename_i h3
          rw [if_neg h3]
          exact parse10_append l r _ a h
    · cases h
theorem parse10_dec (u : Nat) (h : u ≤ 18446744073709551615) : Lib.parseUint10 0 (Lib.decDigits u) = .ok u := by
  induction u using Nat.strongRecOn with
  | _ u ih =>
    rw [Lib.decDigits]
    split
    · rename_i h10
      rw [Lib.parseUint10, dig_ofNat u h10, if_pos (by omega), if_neg (by omega), if_neg (by omega), Lib.parseUint10]
      congr 1; omega
    · rename_i h10
      rw [parse10_append _ _ _ _ (ih (u / 10) (by omega) (by omega))]
      rw [Lib.parseUint10, dig_ofNat (u % 10) (by omega), if_pos (by omega), if_neg (by omega), if_neg (by omega), Lib.parseUint10]
      congr 1; omega
theorem atoi_itoa {n : Int} (h : I64 n) : Lib.atoiAll (Lib.itoa n) = .ok n := by
  by_cases hneg : n < 0
  · obtain ⟨u, rfl⟩ : ∃ u : Nat, n = -(u : Int) := ⟨n.natAbs, by omega⟩
    have h0 := h.1
    rw [Lib.itoa_neg u (by omega), Lib.atoiAll]
    have e1 : (45 : UInt8).toNat = 45 := by decide
    simp only [e1]
    rw [if_pos (.inr trivial), Lib.parseMag, if_neg (dec_ne u), parse10_dec u (by omega)]
    simp only
    rw [if_neg (fun h => h.1 trivial), if_neg (fun h => by omega), if_pos trivial]
  · obtain ⟨u, rfl⟩ : ∃ u : Nat, n = u := ⟨n.toNat, by omega⟩
    have h1 := h.2
    rw [Lib.itoa_nonneg]
    have hd := dec_dig u
    have hp := parse10_dec u (by omega)
    have hne := dec_ne u
    cases hl : Lib.decDigits u with
    | nil => exact absurd hl hne
    | cons c r =>
      rw [hl] at hd hp
      have hc := hd c (List.mem_cons_self ..)
      rw [Lib.atoiAll]
      rw [if_neg (by omega), Lib.parseMag, if_neg (by simp), hp]
      dsimp only
      rw [if_neg (by omega), if_neg (by omega), if_neg (by omega)]
theorem find_split {e : UInt8} : ∀ {p x : B}, e ∉ p → (p ++ e :: x).findIdx? (· == e) = some p.length
  | [], x, _ => by simp [List.findIdx?_cons]
  | c :: p, x, h => by
    rw [List.cons_append, List.findIdx?_cons, if_neg (by simp; exact fun e1 => h (by subst e1; exact List.mem_cons_self ..)), find_split (fun h2 => h (List.mem_cons_of_mem _ h2))]
    rfl
/-- A number that was written is read. -/
theorem numR_of {e : UInt8} {least n : Int} {r : B} (h : I64 n) (hl : least ≤ n) (he : e ≠ 45) (he2 : e.toNat < 48 ∨ 57 < e.toNat) : numR e least (Lib.itoa n ++ e :: r) = some (n, r) := by
  have hlen := itoa_le20 h
  have hno := itoa_no n e he he2
  have e1 : (Lib.itoa n ++ e :: r).take 21 = Lib.itoa n ++ e :: r.take (20 - (Lib.itoa n).length) := by
    rw [List.take_append, List.take_of_length_le (by omega)]
    congr 1
    rw [show 21 - (Lib.itoa n).length = (20 - (Lib.itoa n).length) + 1 by omega, List.take_succ_cons]
  have e2 : (Lib.itoa n ++ e :: r).take (Lib.itoa n).length = Lib.itoa n := List.take_left ..
  have e3 : (Lib.itoa n ++ e :: r).drop ((Lib.itoa n).length + 1) = r := by
    rw [List.drop_append, List.drop_eq_nil_of_le (by omega)]; simp
  unfold numR
  rw [e1, find_split hno]
  simp only
  rw [e2, e3, atoi_itoa h]
  simp only
  rw [if_pos ⟨trivial, hl⟩]
theorem numS_of {e : UInt8} {least n : Int} {r : B} {b : Bool} (h : I64 n) (hl : least ≤ n) (he : e ≠ 45) (he2 : e.toNat < 48 ∨ 57 < e.toNat) : numS e least (Lib.itoa n ++ e :: r, b) = (n, (r, b)) := by
  unfold numS; rw [numR_of h hl he he2]
theorem intS_of {n : Int} {r : B} {b : Bool} (h : I64 n) : intS (int n ++ r, b) = (n, (r, b)) := by
  unfold intS int; rw [List.append_assoc]; exact numS_of h h.1 (by decide) (by decide)
end Wr
end Go.Proofs.YtcdfmgobokjcnaaGreatDoor
/- Budgets as they are written and read, in plain words; numerals as the reference reckons them. Nothing of the program is imported. -/
namespace Go.Proofs.YtcdfmgobokjcnaaGreatDoor
open Go.RowKit
theorem dec_len : ∀ (k u : Nat), 1 ≤ k → u < 10 ^ k → (Lib.decDigits u).length ≤ k := by
  intro k
  induction k with
  | zero => intro u h; omega
  | succ k ih =>
    intro u _ hu
    rw [Lib.decDigits]
    split
    · simp
    · rename_i h10
      cases k with
      | zero => rw [Nat.zero_add, Nat.pow_one] at hu; omega
      | succ k =>
        have := ih (u / 10) (by omega) (by rw [Nat.pow_succ] at hu; omega)
        rw [List.length_append, List.length_singleton]; omega
theorem itoa_len20 (n : Int) (h0 : -9223372036854775808 ≤ n) (h1 : n ≤ 9223372036854775807) : (Lib.itoa n).length ≤ 20 := by
  unfold Lib.itoa
  split
  · have := dec_len 19 n.natAbs (by omega) (by have e : (10 : Nat) ^ 19 = 10000000000000000000 := by decide
                                               omega)
    rw [List.length_cons]; omega
  · have := dec_len 19 n.toNat (by omega) (by have e : (10 : Nat) ^ 19 = 10000000000000000000 := by decide
                                              omega)
    omega
def accN (z : Int) : List UInt8 → Int
  | [] => z
  | c :: r => accN (wrap64 (wrap64 (z * 10) - ((c.toNat : Int) - 48))) r
theorem accN_snoc (z : Int) (l : List UInt8) (c : UInt8) : accN z (l ++ [c]) = wrap64 (wrap64 (accN z l * 10) - ((c.toNat : Int) - 48)) := by
  induction l generalizing z with
  | nil => rfl
  | cons d l ih => rw [List.cons_append, accN, accN, ih]
theorem wrap_in (n : Int) (h : -9223372036854775808 ≤ n ∧ n ≤ 9223372036854775807) : wrap64 n = n := by
  unfold wrap64; omega
theorem accN_dec (u : Nat) (h : u ≤ 9223372036854775808) : accN 0 (Lib.decDigits u) = -(u : Int) := by
  induction u using Nat.strongRecOn with
  | _ u ih =>
    rw [Lib.decDigits]
    split
    · rename_i h10
      rw [accN, accN, dig_ofNat u h10, wrap_in (0 * 10) (by omega), wrap_in _ (by omega)]; omega
    · rename_i h10
      rw [accN_snoc, ih (u / 10) (by omega) (by omega), dig_ofNat (u % 10) (by omega), wrap_in (-((u / 10 : Nat) : Int) * 10) (by omega), wrap_in _ (by omega)]; omega
def digs : List UInt8 → List UInt8
  | 45 :: r => r
  | l => l
theorem digs_minus (r : List UInt8) : digs (45 :: r) = r := rfl
theorem digs_plain (c : UInt8) (r : List UInt8) (h : c ≠ 45) : digs (c :: r) = c :: r := by
  unfold digs
  split
  · rename_i h1; injection h1 with h1; exact absurd h1 h
  · rfl
def refN (l : List UInt8) : Int := if l.head? = some 45 then accN 0 (digs l) else wrap64 (-(accN 0 (digs l)))
theorem itoa_shape (v : Int) : (v < 0 ∧ Lib.itoa v = 45 :: Lib.decDigits v.natAbs) ∨ (0 ≤ v ∧ Lib.itoa v = Lib.decDigits v.toNat ∧ (Lib.itoa v).head? ≠ some 45) := by
  by_cases h : v < 0
  · exact .inl ⟨h, by rw [Lib.itoa, if_pos h]⟩
  · have e : Lib.itoa v = Lib.decDigits v.toNat := by rw [Lib.itoa, if_neg h]
    refine .inr ⟨by omega, e, ?_⟩
    rw [e]
    cases hd : Lib.decDigits v.toNat with
    | nil => simp
    | cons c r =>
      have := dec_dig v.toNat c (by rw [hd]; exact List.mem_cons_self ..)
      intro e2
      simp only [List.head?_cons, Option.some.injEq] at e2
      rw [e2] at this; revert this; decide
theorem refN_itoa (v : Int) (h0 : -9223372036854775808 ≤ v) (h1 : v ≤ 9223372036854775807) : refN (Lib.itoa v) = v := by
  unfold refN
  rcases itoa_shape v with ⟨h, e⟩ | ⟨h, e, hh⟩
  · rw [e, List.head?_cons, if_pos rfl, digs_minus, accN_dec _ (by omega)]; omega
  · rw [if_neg hh]
    have hd : digs (Lib.itoa v) = Lib.decDigits v.toNat := by
      rw [e]
      cases hd : Lib.decDigits v.toNat with
      | nil => exact absurd hd (dec_ne _)
      | cons c r =>
        rw [digs_plain]
        rintro rfl
        rw [e, hd] at hh; exact hh rfl
    rw [hd, accN_dec _ (by omega), wrap_in] <;> omega
namespace Fa
/-- How a budget is written. -/
def budB (b : Bud) : Wr.B := Wr.int b.stops ++ (Wr.int b.cells ++ (Wr.int b.mutes ++ (Wr.int b.muteMost ++ (Wr.int b.lifts ++ (Wr.int b.liftMost ++ Wr.int b.steps)))))
/-- The reader behind so many ints. -/
def stR (t : Wr.B) : Nat → Wr.St
  | 0 => (t, false)
  | k + 1 => (Wr.intS (stR t k)).2
def numR (t : Wr.B) (k : Nat) : Int := (Wr.intS (stR t k)).1
def budR (t : Wr.B) : Bud := ⟨numR t 0, numR t 1, numR t 2, numR t 3, numR t 4, numR t 5, numR t 6⟩
def doneR (t : Wr.B) : Bool := (stR t 7).1.isEmpty && !(stR t 7).2
/-- What is read of a string. -/
def readB (t : Wr.B) : Bool := doneR t && rightB (budR t)
theorem stR_succ (t : Wr.B) (k : Nat) : stR t (k + 1) = (Wr.intS (stR t k)).2 := rfl
theorem right64 {b : Bud} (h : Right b) : Wr.I64 b.stops ∧ Wr.I64 b.cells ∧ Wr.I64 b.mutes ∧ Wr.I64 b.muteMost ∧ Wr.I64 b.lifts ∧ Wr.I64 b.liftMost ∧ Wr.I64 b.steps := by
  obtain ⟨h1, h2, h3, h4, h5, h6, h7⟩ := h
  unfold Wr.I64
  exact ⟨by omega, by omega, by omega, by omega, by omega, by omega, by omega⟩
theorem read_back {b : Bud} (h : Right b) : readB (budB b) = true ∧ budR (budB b) = b := by
  obtain ⟨h1, h2, h3, h4, h5, h6, h7⟩ := right64 h
  have e1 : Wr.intS (stR (budB b) 0) = (b.stops, (Wr.int b.cells ++ (Wr.int b.mutes ++ (Wr.int b.muteMost ++ (Wr.int b.lifts ++ (Wr.int b.liftMost ++ Wr.int b.steps)))), false)) := Wr.intS_of h1
  have e2 : Wr.intS (stR (budB b) 1) = (b.cells, (Wr.int b.mutes ++ (Wr.int b.muteMost ++ (Wr.int b.lifts ++ (Wr.int b.liftMost ++ Wr.int b.steps))), false)) := by rw [stR_succ, e1]; exact Wr.intS_of h2
  have e3 : Wr.intS (stR (budB b) 2) = (b.mutes, (Wr.int b.muteMost ++ (Wr.int b.lifts ++ (Wr.int b.liftMost ++ Wr.int b.steps)), false)) := by rw [stR_succ, e2]; exact Wr.intS_of h3
  have e4 : Wr.intS (stR (budB b) 3) = (b.muteMost, (Wr.int b.lifts ++ (Wr.int b.liftMost ++ Wr.int b.steps), false)) := by rw [stR_succ, e3]; exact Wr.intS_of h4
  have e5 : Wr.intS (stR (budB b) 4) = (b.lifts, (Wr.int b.liftMost ++ Wr.int b.steps, false)) := by rw [stR_succ, e4]; exact Wr.intS_of h5
  have e6 : Wr.intS (stR (budB b) 5) = (b.liftMost, (Wr.int b.steps, false)) := by rw [stR_succ, e5]; exact Wr.intS_of h6
  have e7 : Wr.intS (stR (budB b) 6) = (b.steps, ([], false)) := by
    rw [stR_succ, e6]
    have := Wr.intS_of (n := b.steps) (r := []) (b := false) h7
    rwa [List.append_nil] at this
  have hb : budR (budB b) = b := by
    unfold budR numR
    rw [e1, e2, e3, e4, e5, e6, e7]
  refine ⟨?_, hb⟩
  unfold readB doneR
  rw [hb, stR_succ, e7]
  simp [rightB_iff.2 h]
end Fa
end Go.Proofs.YtcdfmgobokjcnaaGreatDoor
