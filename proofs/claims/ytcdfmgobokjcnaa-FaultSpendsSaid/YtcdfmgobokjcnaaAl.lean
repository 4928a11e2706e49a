/- Worlds with a few new blocks: where each lies. -/
import Derived.Test.YtcdfmgobokjcnaaHd
namespace Go.Proofs.Ytcdfmgobokjcnaa
open Go.RowKit
theorem al1 (w : World) (A : Obj) : (w.alloc A).heap[w.heap.size]? = some A ∧ Below w.heap.size w (w.alloc A) ∧ (w.alloc A).heap.size = w.heap.size + 1 :=
  ⟨heap_alloc_new _ _, (Below.refl _ _).alloc (Nat.le_refl _) _, by simp⟩
theorem al2 (w : World) (A B : Obj) : ((w.alloc A).alloc B).heap[w.heap.size]? = some A ∧ ((w.alloc A).alloc B).heap[w.heap.size + 1]? = some B ∧ Below w.heap.size w ((w.alloc A).alloc B) ∧ ((w.alloc A).alloc B).heap.size = w.heap.size + 2 := by
  obtain ⟨h1, h2, h3⟩ := al1 w A
  obtain ⟨k1, k2, k3⟩ := al1 (w.alloc A) B
  rw [h3] at k1 k2 k3
  exact ⟨(Below.heap_alloc _ _ _ (by omega)).trans h1, k1, h2.trans (k2.mono (by omega)), k3⟩
theorem al3 (w : World) (A B C : Obj) : (((w.alloc A).alloc B).alloc C).heap[w.heap.size]? = some A ∧ (((w.alloc A).alloc B).alloc C).heap[w.heap.size + 1]? = some B ∧ (((w.alloc A).alloc B).alloc C).heap[w.heap.size + 1 + 1]? = some C ∧
    Below w.heap.size w (((w.alloc A).alloc B).alloc C) ∧ (((w.alloc A).alloc B).alloc C).heap.size = w.heap.size + 3 := by
  obtain ⟨h1, h2, h3, h4⟩ := al2 w A B
  obtain ⟨k1, k2, k3⟩ := al1 ((w.alloc A).alloc B) C
  rw [h4] at k1 k2 k3
  exact ⟨(Below.heap_alloc _ _ _ (by omega)).trans h1, (Below.heap_alloc _ _ _ (by omega)).trans h2, k1, h3.trans (k2.mono (by omega)), k3⟩
theorem al4 (w : World) (A B C D : Obj) : ((((w.alloc A).alloc B).alloc C).alloc D).heap[w.heap.size]? = some A ∧ ((((w.alloc A).alloc B).alloc C).alloc D).heap[w.heap.size + 1]? = some B ∧ ((((w.alloc A).alloc B).alloc C).alloc D).heap[w.heap.size + 1 + 1]? = some C ∧
    ((((w.alloc A).alloc B).alloc C).alloc D).heap[w.heap.size + 1 + 1 + 1]? = some D ∧ Below w.heap.size w ((((w.alloc A).alloc B).alloc C).alloc D) ∧ ((((w.alloc A).alloc B).alloc C).alloc D).heap.size = w.heap.size + 4 := by
  obtain ⟨h1, h2, h3, h4, h5⟩ := al3 w A B C
  obtain ⟨k1, k2, k3⟩ := al1 (((w.alloc A).alloc B).alloc C) D
  rw [h5] at k1 k2 k3
  exact ⟨(Below.heap_alloc _ _ _ (by omega)).trans h1, (Below.heap_alloc _ _ _ (by omega)).trans h2, (Below.heap_alloc _ _ _ (by omega)).trans h3, k1, h4.trans (k2.mono (by omega)), k3⟩
theorem al5 (w : World) (A B C D E : Obj) : (((((w.alloc A).alloc B).alloc C).alloc D).alloc E).heap[w.heap.size]? = some A ∧ (((((w.alloc A).alloc B).alloc C).alloc D).alloc E).heap[w.heap.size + 1]? = some B ∧ (((((w.alloc A).alloc B).alloc C).alloc D).alloc E).heap[w.heap.size + 1 + 1]? = some C ∧
    (((((w.alloc A).alloc B).alloc C).alloc D).alloc E).heap[w.heap.size + 1 + 1 + 1]? = some D ∧ (((((w.alloc A).alloc B).alloc C).alloc D).alloc E).heap[w.heap.size + 1 + 1 + 1 + 1]? = some E ∧ Below w.heap.size w (((((w.alloc A).alloc B).alloc C).alloc D).alloc E) ∧ (((((w.alloc A).alloc B).alloc C).alloc D).alloc E).heap.size = w.heap.size + 5 := by
  obtain ⟨h1, h2, h3, h4, h5, h6⟩ := al4 w A B C D
  obtain ⟨k1, k2, k3⟩ := al1 ((((w.alloc A).alloc B).alloc C).alloc D) E
  rw [h6] at k1 k2 k3
  exact ⟨(Below.heap_alloc _ _ _ (by omega)).trans h1, (Below.heap_alloc _ _ _ (by omega)).trans h2, (Below.heap_alloc _ _ _ (by omega)).trans h3, (Below.heap_alloc _ _ _ (by omega)).trans h4, k1, h5.trans (k2.mono (by omega)), k3⟩
end Go.Proofs.Ytcdfmgobokjcnaa
