/- Sites in plain words: zones, which zones are next to which, how many robots they take. Nothing of the program is imported. -/
import Derived.Test.YtcdfmgobokjcnaaFlS
namespace Go.Proofs.Ytcdfmgobokjcnaa
namespace Si
open Fl (Floor isC)

structure Zone where
  name : List UInt8
  cells : List Int
  speed : Int
  keep : Int
  shut : List (Int × Int)
structure Site where
  floor : Floor
  zones : List Zone
  aparts : List (List UInt8 × List UInt8)
  shelves : List (Int × List UInt8)
  robots : List (Int × Int)
def kindAt (f : Floor) (c : Int) : Int := f.kind.getD c.toNat 0
/-- A site is right. -/
structure Right (s : Site) : Prop where
  fl : Fl.Right s.floor
  zn : s.zones.length ≤ 64
  zc : ∀ z ∈ s.zones, z.cells ≠ [] ∧ z.cells.Pairwise (· < ·) ∧ 0 ≤ z.keep ∧ 1 ≤ z.speed ∧ z.speed ≤ 100
  zk : ∀ z ∈ s.zones, ∀ c ∈ z.cells, isC s.floor c = true ∧ kindAt s.floor c ≠ 0 ∧ kindAt s.floor c ≠ 4 ∧ kindAt s.floor c ≠ 5
  zd : s.zones.Pairwise (fun y z => ∀ c ∈ y.cells, c ∉ z.cells)
  sn : s.shelves.length ≤ 3000
  sc : ∀ x ∈ s.shelves, isC s.floor x.1 = true ∧ (kindAt s.floor x.1 = 1 ∨ kindAt s.floor x.1 = 2)
  sd : (s.shelves.map (·.1)).Nodup
  rn : s.robots.length ≤ 200
  rc : ∀ x ∈ s.robots, isC s.floor x.1 = true ∧ kindAt s.floor x.1 ≠ 0 ∧ 0 ≤ x.2 ∧ x.2 ≤ 1000000
  rd : (s.robots.map (·.1)).Nodup

def zoneIdx : List Zone → Int → Option Nat
  | [], _ => none
  | z :: zs, c => if c ∈ z.cells then some 0 else (zoneIdx zs c).map (· + 1)
def zoneOf (zs : List Zone) (c : Int) : Int := match zoneIdx zs c with
  | some k => k
  | none => -1
theorem zoneIdx_some {zs : List Zone} {c : Int} {k : Nat} (h : zoneIdx zs c = some k) : ∃ hk : k < zs.length, c ∈ zs[k].cells := by
  induction zs generalizing k with
  | nil => cases h
  | cons z zs ih =>
    rw [zoneIdx] at h
    split at h
    · rename_i hc; injection h with h; subst h; exact ⟨by simp, hc⟩
    · cases hz : zoneIdx zs c with
      | none => rw [hz] at h; cases h
      | some j =>
        rw [hz] at h; injection h with h; subst h
        obtain ⟨h1, h2⟩ := ih hz
        exact ⟨by simpa using h1, by simpa using h2⟩
theorem zoneIdx_of {zs : List Zone} (hd : zs.Pairwise (fun y z => ∀ c ∈ y.cells, c ∉ z.cells)) {c : Int} {k : Nat} (hk : k < zs.length) (hc : c ∈ zs[k].cells) : zoneIdx zs c = some k := by
  induction zs generalizing k with
  | nil => simp at hk
  | cons z zs ih =>
    rw [List.pairwise_cons] at hd
    rw [zoneIdx]
    cases k with
    | zero => rw [if_pos (by simpa using hc)]
    | succ k =>
      simp only [List.length_cons, List.getElem_cons_succ] at hk hc
      rw [if_neg (fun h => hd.1 _ (List.getElem_mem (by omega)) c h hc), ih hd.2 (by omega) hc]
      rfl
theorem zoneOf_iff {zs : List Zone} (hd : zs.Pairwise (fun y z => ∀ c ∈ y.cells, c ∉ z.cells)) {c : Int} {k : Nat} (hk : k < zs.length) : zoneOf zs c = (k : Int) ↔ c ∈ zs[k].cells := by
  constructor
  · intro h
    unfold zoneOf at h
    split at h
    · rename_i j hj
      have : j = k := by omega
      subst this
      exact (zoneIdx_some hj).2
    · omega
  · intro h
    unfold zoneOf
    rw [zoneIdx_of hd hk h]
theorem zoneOf_range (zs : List Zone) (c : Int) : -1 ≤ zoneOf zs c ∧ zoneOf zs c < zs.length := by
  unfold zoneOf
  split
  · rename_i k hk; obtain ⟨h, -⟩ := zoneIdx_some hk; omega
  · omega

/-- The cells of all zones but two. -/
def others (a b : Nat) : Nat → List Zone → List Int
  | _, [] => []
  | i, z :: zs => (if i ≠ a ∧ i ≠ b then z.cells else []) ++ others a b (i + 1) zs
def cellsOf (s : Site) (a : Nat) : List Int := ((s.zones[a]?).map Zone.cells).getD []
def far (s : Site) (a b : Nat) : List Int := Fl.dist s.floor (cellsOf s a) (others a b 0 s.zones)
def nextZ (s : Site) (a b : Nat) : Bool := (cellsOf s b).any fun c => decide (0 ≤ (far s a b).getD c.toNat (-1))
def linked (s : Site) (a b : Nat) : Bool := decide (a ≠ b) && nextZ s a b
theorem others_mem (a b : Nat) (c : Int) : ∀ (zs : List Zone) (i : Nat), c ∈ others a b i zs ↔ ∃ k, ∃ h : k < zs.length, i + k ≠ a ∧ i + k ≠ b ∧ c ∈ zs[k].cells
  | [], i => by simp [others]
  | z :: zs, i => by
    rw [others, List.mem_append, others_mem a b c zs (i + 1)]
    constructor
    · rintro (h | ⟨k, hk, h1, h2, h3⟩)
      · split at h
        · rename_i hi; exact ⟨0, by simp, by simpa using hi.1, by simpa using hi.2, by simpa using h⟩
        · cases h
      · exact ⟨k + 1, by simpa using hk, by omega, by omega, by simpa using h3⟩
    · rintro ⟨k, hk, h1, h2, h3⟩
      cases k with
      | zero => left; rw [if_pos ⟨by simpa using h1, by simpa using h2⟩]; simpa using h3
      | succ k => right; exact ⟨k, by simpa using hk, by omega, by omega, by simpa using h3⟩
theorem cellsOf_eq {s : Site} {a : Nat} (h : a < s.zones.length) : cellsOf s a = s.zones[a].cells := by
  unfold cellsOf; rw [List.getElem?_eq_getElem h]; rfl
theorem open_zone {s : Site} (hr : Right s) {a b k : Nat} (hk : k < s.zones.length) (he : k = a ∨ k = b) {c : Int} (hc : c ∈ s.zones[k].cells) : (Fl.open0 s.floor (others a b 0 s.zones)).getD c.toNat false = true ∧ 0 ≤ c ∧ isC s.floor c = true := by
  obtain ⟨h1, h2, h3, h4⟩ := hr.zk _ (List.getElem_mem hk) c hc
  have h0 : 0 ≤ c ∧ c < s.floor.size := by unfold isC at h1; simpa using h1
  have hcn : ((c.toNat : Nat) : Int) = c := by omega
  refine ⟨?_, h0.1, h1⟩
  rw [Fl.open0_iff]
  refine ⟨by have := hr.fl.kl; omega, h2, ?_⟩
  rw [hcn]
  rintro ⟨-, hm⟩
  obtain ⟨j, hj, g1, g2, g3⟩ := (others_mem a b c s.zones 0).1 hm
  have e1 := zoneIdx_of hr.zd hj g3
  have e2 := zoneIdx_of hr.zd hk hc
  rw [e1] at e2
  injection e2 with e2
  omega
/-- A zone to whose cells one gets from a neighbouring cell of another zone is next to it. -/
theorem beside_linked {s : Site} (hr : Right s) {a b : Nat} (ha : a < s.zones.length) (hb : b < s.zones.length) (hab : a ≠ b) {c n d : Nat} (hd : d < 6) (hn : Fl.next s.floor c d = some n)
    (hc : (c : Int) ∈ s.zones[a].cells) (hm : (n : Int) ∈ s.zones[b].cells) : linked s a b = true := by
  unfold linked nextZ
  simp only [Bool.and_eq_true, decide_eq_true_eq, List.any_eq_true]
  refine ⟨hab, (n : Int), by rw [cellsOf_eq hb]; exact hm, ?_⟩
  unfold far
  rw [Int.toNat_natCast, Fl.dist_iff]
  obtain ⟨h1, -, h3⟩ := open_zone hr ha (.inl rfl : a = a ∨ a = b) hc
  obtain ⟨h2, -, -⟩ := open_zone hr hb (.inr rfl : b = a ∨ b = b) hm
  rw [Int.toNat_natCast] at h1 h2
  exact .step (.base ⟨by rw [cellsOf_eq ha]; exact hc, h3⟩ h1) hd hn h2
theorem far_len {s : Site} (a b : Nat) : (far s a b).length = s.floor.kind.length := Fl.dist_len ..
/-- Next to each other: a cell of the zone has a distance. -/
theorem nextZ_iff {s : Site} (hr : Right s) {a b : Nat} (hb : b < s.zones.length) : nextZ s a b = true ↔ ∃ c : Nat, c < s.floor.kind.length ∧ zoneOf s.zones c = (b : Int) ∧ 0 ≤ (far s a b).getD c (-1) := by
  unfold nextZ
  simp only [List.any_eq_true, decide_eq_true_eq]
  constructor
  · rintro ⟨c, hc, h⟩
    rw [cellsOf_eq hb] at hc
    have h1 := (hr.zk _ (List.getElem_mem hb) c hc).1
    have h0 : 0 ≤ c ∧ c < s.floor.size := by unfold isC at h1; simpa using h1
    have hcn : ((c.toNat : Nat) : Int) = c := by omega
    exact ⟨c.toNat, by have := hr.fl.kl; omega, by rw [hcn]; exact (zoneOf_iff hr.zd hb).2 hc, h⟩
  · rintro ⟨c, hc, hz, h⟩
    exact ⟨(c : Int), by rw [cellsOf_eq hb]; exact (zoneOf_iff hr.zd hb).1 hz, by simpa using h⟩

/-! ### How many robots a zone takes -/
/-- How many cells of a zone lie below a number. -/
def below (cells : List Int) (k : Int) : Nat := cells.countP fun x => decide (x < k)
theorem below_succ : ∀ (cells : List Int), cells.Pairwise (· < ·) → ∀ k : Int, below cells (k + 1) = below cells k + if k ∈ cells then 1 else 0
  | [], _, k => rfl
  | x :: l, h, k => by
    rw [List.pairwise_cons] at h
    have ih := below_succ l h.2 k
    unfold below at ih ⊢
    rw [List.countP_cons, List.countP_cons, ih]
    by_cases e : k = x
    · subst e
      have : k ∉ l := fun hm => by have := h.1 k hm; omega
      simp [this]
      omega
    · have e2 : (decide (x < k + 1)) = decide (x < k) := by rw [decide_eq_decide]; omega
      rw [e2]
      simp only [List.mem_cons, e, false_or]
      omega
theorem below_all (cells : List Int) (k : Int) (h : ∀ c ∈ cells, c < k) : below cells k = cells.length := by
  unfold below; rw [List.countP_eq_length]; intro c hc; simpa using h c hc
theorem below_zero (cells : List Int) (h : ∀ c ∈ cells, 0 ≤ c) : below cells 0 = 0 := by
  unfold below; rw [List.countP_eq_zero]; intro c hc; have := h c hc; simp; omega
/-- How many shelves stand in a zone. -/
def taken (s : Site) (a : Nat) : Nat := s.shelves.countP fun x => decide (zoneOf s.zones x.1 = (a : Int))
theorem nodup_sub {l m : List Int} (hn : l.Nodup) (h : ∀ x ∈ l, x ∈ m) : l.length ≤ m.length := by
  induction l generalizing m with
  | nil => simp
  | cons x l ih =>
    rw [List.nodup_cons] at hn
    have hx := h x (List.mem_cons_self ..)
    have := ih (m := m.erase x) hn.2 (fun y hy => (List.mem_erase_of_ne (fun e : y = x => hn.1 (by rw [← e]; exact hy))).2 (h y (List.mem_cons_of_mem _ hy)))
    rw [List.length_erase_of_mem hx] at this
    have := List.length_pos_of_mem hx
    simp only [List.length_cons]; omega
theorem taken_le {s : Site} (hr : Right s) {a : Nat} (ha : a < s.zones.length) : taken s a ≤ s.zones[a].cells.length := by
  have e : taken s a = ((s.shelves.filter fun x => decide (zoneOf s.zones x.1 = (a : Int))).map (·.1)).length := by
    unfold taken; rw [List.length_map, List.countP_eq_length_filter]
  rw [e]
  refine nodup_sub ?_ ?_
  · exact List.Nodup.sublist (List.Sublist.map _ List.filter_sublist) hr.sd
  · intro c hc
    obtain ⟨x, hx, rfl⟩ := List.mem_map.1 hc
    obtain ⟨-, h⟩ := List.mem_filter.1 hx
    exact (zoneOf_iff hr.zd ha).1 (by simpa using h)
def capOf (s : Site) (a : Nat) : Int := match s.zones[a]? with
  | some z => max ((z.cells.length : Int) - taken s a - z.keep) 0
  | none => 0
theorem capOf_eq {s : Site} {a : Nat} (ha : a < s.zones.length) : capOf s a = max ((s.zones[a].cells.length : Int) - taken s a - s.zones[a].keep) 0 := by
  unfold capOf; rw [List.getElem?_eq_getElem ha]
end Si
end Go.Proofs.Ytcdfmgobokjcnaa
