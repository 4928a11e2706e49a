/- Parts Va, Vb, Vc, Vd, Vl, Vr, Vq, Vt, Vu, Vw, Vf, Vg, Vh, Vi, Vk, Vn, Vo, Vp, Ua, Ub of this claim, laid one behind the other: walks and the plain laws behind them; each contract states its own conditions. -/
import Derived.Laws.CopyRow
import Derived.Laws.CopyOwn
import Derived.Test.YtfcbcpfnaadpeaaGreatDoorMM
import Derived.Test.YtfcbcpfnaadpeaaGreatDoorMN
namespace Go.Proofs.YtfcbcpfnaadpeaaGreatDoor
set_option linter.unusedSimpArgs false
set_option linter.unusedVariables false
open Go.RowKit
def zdC (s : Si.Site) (kv ov zv av sv rv x : Value) : Array Value := #[.int .i64 s.floor.w, .int .i64 s.floor.h, .int .i64 s.floor.d, kv, ov, zv, av, sv, rv, x]
structure ZdV (w : World) (B g : Nat) (s : Si.Site) (kv ov zv av sv rv : Value) : Prop where
 hB : w.heap[B]? = some (.cells (zdC s kv ov zv av sv rv (.slice (some ⟨g, 0, none⟩) s.floor.kind.length s.floor.kind.length)) 121 (0, 0))
 hg : w.heap[g]? = some (.cells (ints (Ve.zoneL s)).toArray 3 (0, 0))
 sv : SiV w kv ov zv av sv rv s
theorem ZdV.below {w w' : World} {B g : Nat} {s : Si.Site} {kv ov zv av sv rv : Value} (h : ZdV w B g s kv ov zv av sv rv) (hb : Below w.heap.size w w') : ZdV w' B g s kv ov zv av sv rv :=
 ⟨keep_heap h.hB hb, keep_heap h.hg hb, h.sv.keep hb⟩
def RL (w : World) (b1 b2 : Nat) (v : Value) (ls : List (List Int)) : Prop := ∃ us : List Value, us.length = ls.length ∧ w.ownsRow b1 22 1 v ls.length us ∧ ∀ i (h1 : i < ls.length) (h2 : i < us.length), w.ownsRow b2 3 1 us[i] ls[i].length (ints ls[i])
theorem RL.nil (w : World) (b1 b2 : Nat) : RL w b1 b2 (.slice none 0 0) [] := ⟨[], rfl, World.ownsRow_nil .., fun i h => by simp at h⟩
theorem RL.below {w w' : World} {b1 b2 : Nat} {v : Value} {ls : List (List Int)} (h : RL w b1 b2 v ls) (hb : Below w.heap.size w w') : RL w' b1 b2 v ls := by
 obtain ⟨us, a, b, c⟩ := h
 exact ⟨us, a, own_below b hb, fun i k1 k2 => own_below (c i k1 k2) hb⟩
theorem RL.alloc {w : World} {b1 b2 : Nat} {v : Value} {ls : List (List Int)} (h : RL w b1 b2 v ls) (o : Obj) : RL (w.alloc o) b1 b2 v ls := h.below ((Below.refl _ w).alloc (Nat.le_refl _) o)
theorem RL.form {w : World} {b1 b2 : Nat} {v : Value} {ls : List (List Int)} (h : RL w b1 b2 v ls) : ∃ a cap, v = .slice a ls.length cap ∧ ls.length ≤ 9223372036854775807 := by
 obtain ⟨us, -, b, -⟩ := h
 obtain ⟨a, c, rfl, h1⟩ := own_slice b
 exact ⟨a, c, rfl, h1⟩
theorem RL.ll {w : World} {b1 b2 : Nat} {v : Value} {ls : List (List Int)} (h : RL w b1 b2 v ls) : Ll w v ls := by
 obtain ⟨us, a, b, c⟩ := h
 refine ⟨ls.zip us, ?_, ?_, ?_⟩
 · rw [List.map_fst_zip]; omega
 · rw [List.map_snd_zip (by omega)]
   have b2 : w.ownsRow b1 22 1 v us.length us := by rw [a]; exact b
   exact Sl.of_own b2 (own_max b2)
 · intro x hx
   obtain ⟨i, hi, rfl⟩ := List.getElem_of_mem hx
   have h1 : i < ls.length := by simp at hi; omega
   have h2 : i < us.length := by omega
   rw [List.getElem_zip]
   exact Sl.of_own (c i h1 h2) (own_max (c i h1 h2))
theorem own_base {w : World} {b b' : Nat} {e : TypeId} {sz : Nat} {v : Value} {n : Nat} {xs : List Value} (h : w.ownsRow b e sz v n xs) (hb : b' ≤ b) : w.ownsRow b' e sz v n xs := by
 refine ⟨h.1, ?_⟩
 rcases h.2 with h | ⟨g, cap, cur, rfl, h1, h2, h3⟩
 · exact .inl h
 · exact .inr ⟨g, cap, cur, rfl, by omega, h2, h3⟩
theorem RL.base {w : World} {b1 b2 c1 c2 : Nat} {v : Value} {ls : List (List Int)} (h : RL w b1 b2 v ls) (h1 : c1 ≤ b1) (h2 : c2 ≤ b2) : RL w c1 c2 v ls := by
 obtain ⟨us, a, b, c⟩ := h
 exact ⟨us, a, own_base b h1, fun i k1 k2 => own_base (c i k1 k2) h2⟩
def Dn (w w' : World) : Prop := ∃ q, w' = w.drewN q
theorem Dn.refl (w : World) : Dn w w := ⟨0, rfl⟩
theorem Dn.more {w w' : World} (h : Dn w w') (q : Nat) : Dn w (w'.drewN q) := by
 obtain ⟨p, rfl⟩ := h
 exact ⟨p + q, by simp⟩
theorem Dn.trans {a b c : World} (h : Dn a b) (k : Dn b c) : Dn a c := by
 obtain ⟨p, rfl⟩ := k
 exact h.more p
theorem Dn.below {w w' : World} (h : Dn w w') : Below w.heap.size w w' := by
 obtain ⟨p, rfl⟩ := h
 exact below_drewN _ _ _
open Go.RowKit Go.Sort
open Go.RowKit Go.Sort
theorem RL.set {w : World} {b1 b2 N : Nat} {v x : Value} {ls : List (List Int)} {cs : Array Value} {t : TypeId} {fr : Nat × Nat} (h : RL w b1 b2 v ls) (hN : w.heap[N]? = some (.cells cs t fr)) (h1 : 22 ≠ t) (h2 : 3 ≠ t) (i : Nat) : RL (w.setCell ⟨N, i, none⟩ x) b1 b2 v ls := by
 obtain ⟨us, a, b, c⟩ := h
 exact ⟨us, a, own_set b hN h1 i x, fun j k1 k2 => own_set (c j k1 k2) hN h2 i x⟩
theorem RL.row {w : World} {b1 b2 : Nat} {a : Option Addr} {m c : Nat} {ls : List (List Int)} (h : RL w b1 b2 (.slice a m c) ls) {k : Nat} (hk : k < ls.length) : ∃ g u, a = some ⟨g, 0, none⟩ ∧ b1 ≤ g ∧ w.cell? ⟨g, k, none⟩ = some u ∧ w.ownsRow b2 3 1 u ls[k].length (ints ls[k]) := by
 obtain ⟨us, hul, hown, hin⟩ := h
 rcases hown.2 with ⟨e, h0⟩ | ⟨g, cap, cur, e, hbg, hg, h3⟩
 · rw [h0] at hul; simp at hul; omega
 · injection e with e1 e2 e3
   subst e1 e2 e3
   refine ⟨g, us[k]'(by omega), rfl, hbg, ?_, hin k hk (by omega)⟩
   have := hown.cells (g := g) rfl k (us[k]'(by omega)) (List.getElem?_eq_getElem (by omega))
   rw [Addr.add_lit, Nat.zero_add] at this
   exact this
open Go.RowKit Go.Sort
open Go.RowKit Go.Sort
structure CertV (w : World) (tv cv kv sv : Value) (c : Ve.Cert) : Prop where
 tr : Tr w tv c.trans
 ca : Is w cv c.caps
 ke : Is w kv c.keeps
 si : Ll w sv c.sips
def certA (c : Ve.Cert) (tv cv kv sv : Value) : Array Value := #[.int .i64 c.places, tv, cv, kv, .int .i64 c.robots, sv]
theorem CertV.keep {w W : World} {tv cv kv sv : Value} {c : Ve.Cert} (h : CertV w tv cv kv sv c) (hb : Below w.heap.size w W) : CertV W tv cv kv sv c := ⟨h.tr.keep hb, h.ca.keep hb, h.ke.keep hb, h.si.keep hb⟩
open Go.RowKit Go.Sort
open Go.RowKit Go.Sort
open Go.RowKit Go.Sort
open Go.RowKit Go.Sort
theorem sip_lt {lk : Nat → Nat → Bool} {n : Nat} {sl : List Nat} (h : Pt.Sips lk n sl) (hn : n ≤ 64) {x z : Nat} (hx : x ∈ sl) (hz : z ∈ Pt.listW x) : z < n := by
 have h1 := ((h.mem x).1 hx).1
 have h64 : x < 2 ^ 64 := Nat.lt_of_lt_of_le h1 (Nat.pow_le_pow_right (by omega) hn)
 exact Pt.bit_lt h1 ((Pt.mem_listW h64).1 hz)
open Go.RowKit Go.Sort
open Go.RowKit Go.Sort
open Go.RowKit Go.Sort
structure FairV (s : Si.Site) : Prop where
 few : FewP s 80 30
 zn : s.zones.length ≤ 10
 right : Si.Right s
 keep : ∀ z ∈ s.zones, z.keep ≤ z.cells.length
theorem FairV.ok {s : Si.Site} (h : FairV s) : Si.Ok s := h.right.ok h.keep
end Go.Proofs.YtfcbcpfnaadpeaaGreatDoor
