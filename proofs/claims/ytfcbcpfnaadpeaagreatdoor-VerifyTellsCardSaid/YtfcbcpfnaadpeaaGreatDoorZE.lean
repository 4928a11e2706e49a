/- Parts Rz of this claim, laid one behind the other: walks and the plain laws behind them; each contract states its own conditions. -/
import Derived.Test.YtfcbcpfnaadpeaaGreatDoorZC
namespace Go.Proofs.YtfcbcpfnaadpeaaGreatDoor
set_option linter.unusedSimpArgs false
set_option linter.unusedVariables false
open Go.RowKit
def znKind (f : Fl.Floor) (c : Int) : Prop := Fl.isC f c = true ∧ Si.kindAt f c ≠ 0 ∧ Si.kindAt f c ≠ 4 ∧ Si.kindAt f c ≠ 5
def znNum (z : Si.Zone) : Prop := z.cells ≠ [] ∧ z.cells.Pairwise (· < ·) ∧ 0 ≤ z.keep ∧ 1 ≤ z.speed ∧ z.speed ≤ 100
structure ZOk (f : Fl.Floor) (zs : List Si.Zone) : Prop where
 a : ∀ z ∈ zs, znNum z
 b : ∀ z ∈ zs, ∀ c ∈ z.cells, znKind f c
 d : zs.Pairwise (fun y z => ∀ c ∈ y.cells, c ∉ z.cells)
theorem ZOk.nil (f : Fl.Floor) : ZOk f [] := ⟨fun z h => (by cases h), fun z h => (by cases h), List.Pairwise.nil⟩
theorem ZOk.step {f : Fl.Floor} {zs : List Si.Zone} {k : Nat} (h : ZOk f (zs.take k)) (hk : k < zs.length) (h1 : znNum zs[k]) (h2 : ∀ c ∈ zs[k].cells, znKind f c ∧ zoned (zs.take k) c = false) : ZOk f (zs.take (k + 1)) := by
 rw [List.take_succ_eq_append_getElem hk]
 refine ⟨fun z hz => ?_, fun z hz => ?_, ?_⟩
 · rcases List.mem_append.1 hz with h3 | h3
   · exact h.a z h3
   · rw [List.mem_singleton] at h3; subst h3; exact h1
 · rcases List.mem_append.1 hz with h3 | h3
   · exact h.b z h3
   · rw [List.mem_singleton] at h3; subst h3; exact fun c hc => (h2 c hc).1
 · rw [List.pairwise_append]
   refine ⟨h.d, by simp, fun y hy z hz c hc hcz => ?_⟩
   rw [List.mem_singleton] at hz; subst hz
   have := (h2 c hcz).2
   unfold zoned at this
   rw [List.any_eq_false] at this
   have := this y hy
   rw [List.any_eq_true] at this
   exact this ⟨c, hc, by simp⟩
structure COk (f : Fl.Floor) (zs : List Si.Zone) (l : List Int) : Prop where
 a : ∀ c ∈ l, znKind f c ∧ zoned zs c = false
 p : l.Pairwise (· < ·)
theorem COk.nil (f : Fl.Floor) (zs : List Si.Zone) : COk f zs [] := ⟨fun z h => (by cases h), List.Pairwise.nil⟩
theorem COk.step {f : Fl.Floor} {zs : List Si.Zone} {l : List Int} {j : Nat} (h : COk f zs (l.take j)) (hj : j < l.length) (h1 : znKind f l[j]) (h2 : zoned zs l[j] = false) (h3 : ∀ p, j = p + 1 → (hp : p < l.length) → l[p] < l[j]) : COk f zs (l.take (j + 1)) := by
 rw [List.take_succ_eq_append_getElem hj]
 refine ⟨fun c hc => ?_, ?_⟩
 · rcases List.mem_append.1 hc with h4 | h4
   · exact h.a c h4
   · rw [List.mem_singleton] at h4; subst h4; exact ⟨h1, h2⟩
 · rw [List.pairwise_append]
   refine ⟨h.p, by simp, fun x hx y hy => ?_⟩
   rw [List.mem_singleton] at hy; subst hy
   cases j with
   | zero => simp at hx
   | succ p =>
    have hl := h3 p rfl (by omega)
    have hp := h.p
    rw [List.take_succ_eq_append_getElem (by omega)] at hx hp
    rw [List.pairwise_append] at hp
    rcases List.mem_append.1 hx with h4 | h4
    · have := hp.2.2 x h4 l[p] (by simp); omega
    · rw [List.mem_singleton] at h4; subst h4; exact hl
theorem Rw.take {w : World} {a : Option Addr} {n cap k : Nat} {xs : List (List Value)} (h : Rw w (.slice a n cap) k xs) (i : Nat) (hi : i ≤ xs.length) : Rw w (.slice a i cap) k (xs.take i) := by
 obtain ⟨a2, cap2, e, hm, hn, hc⟩ := h
 injection e with e1 e2 e3
 subst e1 e3
 refine ⟨a, cap, by rw [List.length_take, Nat.min_eq_left hi], by rw [List.length_take]; omega, hn, fun j hj => ?_⟩
 rw [List.length_take] at hj
 obtain ⟨b, off, h1, h2, h3⟩ := hc j (by omega)
 exact ⟨b, off, h1, h2, by rw [List.getElem_take]; exact h3⟩
theorem ZnV.take {w : World} {a : Option Addr} {n cap : Nat} {zs : List Si.Zone} (h : ZnV w (.slice a n cap) zs) (i : Nat) (hi : i ≤ zs.length) : ZnV w (.slice a i cap) (zs.take i) := by
 obtain ⟨l, h1, h2, h3⟩ := h
 have hl : l.length = zs.length := by rw [← h1, List.length_map]
 refine ⟨l.take i, by rw [List.map_take, h1], by rw [List.map_take]; exact h2.take i (by rw [List.length_map]; omega), fun x hx => h3 x (List.mem_of_mem_take hx)⟩
theorem SfV.take {w : World} {a : Option Addr} {n cap : Nat} {l : List (Int × List UInt8)} (h : SfV w (.slice a n cap) l) (i : Nat) (hi : i ≤ l.length) : SfV w (.slice a i cap) (l.take i) := by
 unfold SfV; rw [List.map_take]; exact Rw.take h i (by rw [List.length_map]; exact hi)
theorem RbV.take {w : World} {a : Option Addr} {n cap : Nat} {l : List (Int × Int)} (h : RbV w (.slice a n cap) l) (i : Nat) (hi : i ≤ l.length) : RbV w (.slice a i cap) (l.take i) := by
 unfold RbV; rw [List.map_take]; exact Rw.take h i (by rw [List.length_map]; exact hi)
theorem ApV.take {w : World} {a : Option Addr} {n cap : Nat} {l : List (List UInt8 × List UInt8)} (h : ApV w (.slice a n cap) l) (i : Nat) (hi : i ≤ l.length) : ApV w (.slice a i cap) (l.take i) := by
 unfold ApV; rw [List.map_take]; exact Rw.take h i (by rw [List.length_map]; exact hi)
def TruePost (p : Prop) (e : Ending) : Prop := ∃ r : Bool, e = .returned (.bool r) ∧ (r = true → p)
theorem TruePost.no (p : Prop) : TruePost p (.returned (.bool false)) := ⟨false, rfl, fun h => by cases h⟩
structure SiCap (zv av sv rv : Value) : Prop where
 z : capV zv
 a : capV av
 s : capV sv
 r : capV rv
end Go.Proofs.YtfcbcpfnaadpeaaGreatDoor
