/- Parts Rg of this claim, laid one behind the other: walks and the plain laws behind them; each contract states its own conditions. -/
import Derived.Test.YtfcbcpfnaadpeaaGreatDoorZF
import Derived.Test.YtfcbcpfnaadpeaaGreatDoorZC
/- Walks of package taquinref11: Right. -/
namespace Go.Proofs.YtfcbcpfnaadpeaaGreatDoor
set_option linter.unusedSimpArgs false
set_option linter.unusedVariables false
open Go.RowKit

/-- The first shelves are right. -/
structure ShOk (f : Fl.Floor) (l : List (Int × List UInt8)) : Prop where
  a : ∀ x ∈ l, Fl.isC f x.1 = true ∧ (Si.kindAt f x.1 = 1 ∨ Si.kindAt f x.1 = 2)
  d : (l.map (·.1)).Nodup
structure RbOk (f : Fl.Floor) (l : List (Int × Int)) : Prop where
  a : ∀ x ∈ l, Fl.isC f x.1 = true ∧ Si.kindAt f x.1 ≠ 0 ∧ 0 ≤ x.2 ∧ x.2 ≤ 1000000
  d : (l.map (·.1)).Nodup
theorem nodup_step {α : Type} {l : List (Int × α)} {k : Nat} (h : ((l.take k).map (·.1)).Nodup) (hk : k < l.length) (hn : noAt (l.take k) l[k].1) : ((l.take (k + 1)).map (·.1)).Nodup := by
  rw [List.take_succ_eq_append_getElem hk, List.map_append, List.nodup_append]
  refine ⟨h, by simp, fun x hx y hy => ?_⟩
  obtain ⟨z, hz, rfl⟩ := List.mem_map.1 hx
  rw [List.map_singleton, List.mem_singleton] at hy
  subst hy
  exact hn z hz
theorem ShOk.nil (f : Fl.Floor) : ShOk f [] := ⟨fun z h => (by cases h), List.Pairwise.nil⟩
theorem RbOk.nil (f : Fl.Floor) : RbOk f [] := ⟨fun z h => (by cases h), List.Pairwise.nil⟩
theorem ShOk.step {f : Fl.Floor} {l : List (Int × List UInt8)} {k : Nat} (h : ShOk f (l.take k)) (hk : k < l.length) (h1 : Fl.isC f l[k].1 = true ∧ (Si.kindAt f l[k].1 = 1 ∨ Si.kindAt f l[k].1 = 2)) (hn : sIdx (l.take k) l[k].1 < 0) : ShOk f (l.take (k + 1)) :=
  ⟨all_take h.a hk h1, nodup_step h.d hk ((sIdx_neg _ _).1 hn)⟩
theorem RbOk.step {f : Fl.Floor} {l : List (Int × Int)} {k : Nat} (h : RbOk f (l.take k)) (hk : k < l.length) (h1 : Fl.isC f l[k].1 = true ∧ Si.kindAt f l[k].1 ≠ 0 ∧ 0 ≤ l[k].2 ∧ l[k].2 ≤ 1000000) (hn : sIdx (l.take k) l[k].1 < 0) : RbOk f (l.take (k + 1)) :=
  ⟨all_take h.a hk h1, nodup_step h.d hk ((sIdx_neg _ _).1 hn)⟩
theorem Si.Right.of {s : Si.Site} (hf : Fl.Right s.floor) (hz : ZOk s.floor s.zones) (hn : s.zones.length ≤ 64) (hs : ShOk s.floor s.shelves) (hsn : s.shelves.length ≤ 3000) (hr : RbOk s.floor s.robots) (hrn : s.robots.length ≤ 200) : Si.Right s where
  fl := hf
  zn := hn
  zc := fun z h => let ⟨h1, h2, h3, h4, h5⟩ := hz.a z h; ⟨h1, h2, h3, h4, h5⟩
  zk := fun z h c hc => hz.b z h c hc
  zd := hz.d
  sn := hsn
  sc := hs.a
  sd := hs.d
  rn := hrn
  rc := hr.a
  rd := hr.d
/-- What Right tells. -/
def RtP (s : Si.Site) : Prop := Si.Right s ∧ ∀ z ∈ s.zones, z.keep ≤ z.cells.length
/-- Names are short. -/
structure Names (s : Si.Site) : Prop where
  z : ∀ z ∈ s.zones, z.name.length ≤ 1000000
  a : ∀ p ∈ s.aparts, p.1.length ≤ 1000000 ∧ p.2.length ≤ 1000000
  s : ∀ p ∈ s.shelves, p.2.length ≤ 1000000
end Go.Proofs.YtfcbcpfnaadpeaaGreatDoor
