/- A slice of one-cell elements that reads as a list; append onto a row of the call's own from such a slice. -/
import Derived.WalkKit
import Derived.Laws.AppendOwnNone
namespace Go.Proofs.Ytcdfmgobokjcnaa
open Go.RowKit

/-- The slice value v holds the one-cell elements xs. -/
def Sl (w : World) (v : Value) (xs : List Value) : Prop :=
  ∃ a cap, v = .slice a xs.length cap ∧ xs.length ≤ maxLen ∧ (a = none → cap = 0) ∧ ∀ i, (h : i < xs.length) → ∃ b off, a = some ⟨b, off, none⟩ ∧ w.cell? ⟨b, off + i, none⟩ = some xs[i]

theorem Sl.nil (w : World) : Sl w (.slice none 0 0) [] := ⟨none, 0, rfl, by simp, fun _ => rfl, fun i h => by simp at h⟩
theorem cell_block_lt {w : World} {a : Addr} {v : Value} (h : w.cell? a = some v) : a.block < w.heap.size := by
  unfold World.cell? at h
  split at h
  · rename_i h'; exact (Array.getElem?_eq_some_iff.1 h').1
  · cases h
theorem Sl.below {w W : World} {v : Value} {xs : List Value} (h : Sl w v xs) (hb : Below w.heap.size w W) : Sl W v xs := by
  obtain ⟨a, cap, rfl, hm, hn, hc⟩ := h
  refine ⟨a, cap, rfl, hm, hn, fun i hi => ?_⟩
  obtain ⟨b, off, h1, h2⟩ := hc i hi
  exact ⟨b, off, h1, by rw [hb.cell (cell_block_lt h2)]; exact h2⟩
theorem Sl.of_own {w : World} {base : Nat} {e : TypeId} {v : Value} {n : Nat} {xs : List Value} (h : w.ownsRow base e 1 v n xs) (hm : n ≤ maxLen) : Sl w v xs := by
  have hl : xs.length = n := by have := h.1; omega
  rcases h.2 with ⟨rfl, rfl⟩ | ⟨g, cap, cur, rfl, hb, hh, hnc, hcm, hcs, ht⟩
  · obtain rfl : xs = [] := List.eq_nil_of_length_eq_zero hl
    exact Sl.nil w
  · refine ⟨some ⟨g, 0, none⟩, cap, by rw [hl], by omega, fun h => (by cases h), fun i hi => ⟨g, 0, rfl, ?_⟩⟩
    have hc := h.cells (g := g) rfl i xs[i] (by simp)
    have e2 : ((⟨g, 0, none⟩ : Addr).add i) = ⟨g, 0 + i, none⟩ := by unfold Addr.add; split <;> simp_all
    rw [e2] at hc; exact hc

theorem wpList_append_sl {P : Program} {w : World} {ops : Array Oper} {rest : List Oper} {o : Oper} {a : Act} {Q : Exit → Act → World → Prop} (hgd : o.guard = none) (s x : Operand) (t : TypeId)
    (ho : o.op = .call { callee := .builtin .append, args := #[s, x], argTypes := #[t, t] })
    (base : Nat) (e : TypeId) (z : Value) (bytes : Nat) (ht : P.underlying t = some (.slice e)) (hinfo : (P.info? e).map (fun i => (i.zero, i.size, i.bytes)) = some (some z, 1, bytes)) (hzs : z.cells.size = 1)
    (v : Value) (n : Nat) (xs : List Value) (hs : a.eval s = v) (hown : w.ownsRow base e 1 v n xs)
    (u : Value) (news : List Value) (hx : a.eval x = u) (hr : Sl w u news) (h1 : ∀ u ∈ news, u.oneCell' = true)
    (h63 : n + news.length ≤ maxLen) (hbytes : (n + news.length) * bytes ≤ 140737488355328) (hbase : base ≤ w.heap.size)
    (h : ∀ v' w', w'.ownsRow base e 1 v' (n + news.length) (xs ++ news) → w.grownBy w' v.ownBlock → wpList P ops Q rest (a.put o.dst v') w') : wpList P ops Q (o :: rest) a w := by
  obtain ⟨i, hi, hz, hsize, hby⟩ := info_parts hinfo
  obtain ⟨ad, cap, rfl, hm, hn, hc⟩ := hr
  cases ad with
  | none =>
    obtain rfl := hn rfl
    have h0 : news.length = 0 := by
      rcases Nat.eq_zero_or_pos news.length with h | h
      · exact h
      · obtain ⟨_, _, h', _⟩ := hc 0 h; cases h'
    obtain rfl : news = [] := List.eq_nil_of_length_eq_zero h0
    exact wpList_append_own_none hgd s x t ho base e i 1 ht hi v n xs hs hown hx (h v w (by simpa using hown) (World.grownBy.refl w _))
  | some ad =>
    refine wpList_append_own w hgd s x t ho base e i z 1 bytes ht hi hz hsize hby hzs (by omega) v n xs hs hown ad news.length cap news hx (by omega) (fun j u hu => ?_) h1 h63 hbytes hbase (fun v' w' h2 h3 _ => h v' w' h2 h3)
    obtain ⟨hj, he⟩ := List.getElem?_eq_some_iff.1 hu
    obtain ⟨b, off, h2, h3⟩ := hc j hj
    cases h2
    have e2 : ((⟨b, off, none⟩ : Addr).add j) = ⟨b, off + j, none⟩ := by unfold Addr.add; split <;> simp_all
    rw [e2, h3, he]
end Go.Proofs.Ytcdfmgobokjcnaa
