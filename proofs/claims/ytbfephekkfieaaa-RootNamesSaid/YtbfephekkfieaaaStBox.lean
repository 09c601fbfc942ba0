/-
  A state in a box of its own: what its cells hold; its rows while others change.
-/
import Derived.Test.YtbfephekkfieaaaStA
import Derived.Test.YtbfephekkfieaaaSnapEl
import Derived.Deep.Heap
namespace Go.Proofs.Ytbfephekkfieaaa
open Go.RowKit

/-- Block b is a box of a state. -/
def BoxAt (w : World) (b : Nat) (k n x : Int) (v4 v5 v6 : Value) : Prop := w.heap[b]? = some (.cells #[.int .i64 k, .int .i64 n, .int .i64 x, v4, v5, v6] 29)
section
variable {w w' : World} {b : Nat} {k n x : Int} {v4 v5 v6 : Value}
theorem BoxAt.lt (h : BoxAt w b k n x v4 v5 v6) : b < w.heap.size := (Array.getElem?_eq_some_iff.1 h).1
theorem BoxAt.cells (h : BoxAt w b k n x v4 v5 v6) : w.cell? ⟨b, 0, none⟩ = some (.int .i64 k) ∧ w.cell? ⟨b, 1, none⟩ = some (.int .i64 n) ∧ w.cell? ⟨b, 2, none⟩ = some (.int .i64 x) ∧ w.cell? ⟨b, 3, none⟩ = some v4 ∧ w.cell? ⟨b, 4, none⟩ = some v5 ∧ w.cell? ⟨b, 5, none⟩ = some v6 :=
  ⟨cell_of_row w b 0 _ _ _ h, cell_of_row w b 1 _ _ _ h, cell_of_row w b 2 _ _ _ h, cell_of_row w b 3 _ _ _ h, cell_of_row w b 4 _ _ _ h, cell_of_row w b 5 _ _ _ h⟩
theorem BoxAt.frozen (h : BoxAt w b k n x v4 v5 v6) (o : Nat) : w.frozen? ⟨b, o, none⟩ = false := by
  unfold BoxAt at h
  unfold World.frozen?
  simp [h]
theorem BoxAt.block (h : BoxAt w b k n x v4 v5 v6) (hb : w'.heap[b]? = w.heap[b]?) : BoxAt w' b k n x v4 v5 v6 := hb.trans h
theorem BoxAt.below (h : BoxAt w b k n x v4 v5 v6) (hb : Below w.heap.size w w') : BoxAt w' b k n x v4 v5 v6 := h.block (hb.block b h.lt)
theorem BoxAt.grown {row : Option Nat} (h : BoxAt w b k n x v4 v5 v6) (hg : w.grownBy w' row) (hne : row ≠ some b) : BoxAt w' b k n x v4 v5 v6 := h.block (hg.block b h.lt (fun e => hne e.symm))
theorem BoxAt.setOther (h : BoxAt w b k n x v4 v5 v6) {b' o : Nat} (u : Value) (hne : b ≠ b') : BoxAt (w.setCell ⟨b', o, none⟩ u) b k n x v4 v5 v6 := h.block (Go.Deep.blk_setCell_other _ _ _ _ hne)
theorem BoxAt.alloc (h : BoxAt w b k n x v4 v5 v6) (o : Obj) : BoxAt (w.alloc o) b k n x v4 v5 v6 := h.block (Go.Deep.blk_alloc_lt _ _ _ h.lt)
theorem BoxAt.drewN (h : BoxAt w b k n x v4 v5 v6) (q : Nat) : BoxAt (w.drewN q) b k n x v4 v5 v6 := h
theorem BoxAt.drew (h : BoxAt w b k n x v4 v5 v6) : BoxAt w.drew b k n x v4 v5 v6 := h
theorem BoxAt.new (w : World) (k n x : Int) (v4 v5 v6 : Value) : BoxAt (w.alloc (.cells #[.int .i64 k, .int .i64 n, .int .i64 x, v4, v5, v6] 29)) w.heap.size k n x v4 v5 v6 := heap_alloc_new w _
theorem heap_setCell {w : World} {b o : Nat} {cs : Array Value} {T : TypeId} {fz : Nat × Nat} (h : w.heap[b]? = some (.cells cs T fz)) (u : Value) : (w.setCell ⟨b, o, none⟩ u).heap[b]? = some (.cells (cs.setIfInBounds o u) T fz) := by
  simp [World.setCell, Array.getElem?_modify, h]
theorem BoxAt.set3 (h : BoxAt w b k n x v4 v5 v6) (u : Value) : BoxAt (w.setCell ⟨b, 3, none⟩ u) b k n x u v5 v6 := (heap_setCell h u).trans rfl
theorem BoxAt.set4 (h : BoxAt w b k n x v4 v5 v6) (u : Value) : BoxAt (w.setCell ⟨b, 4, none⟩ u) b k n x v4 u v6 := (heap_setCell h u).trans rfl
theorem BoxAt.set5 (h : BoxAt w b k n x v4 v5 v6) (u : Value) : BoxAt (w.setCell ⟨b, 5, none⟩ u) b k n x v4 v5 u := (heap_setCell h u).trans rfl
end
section
variable {α : Type} {k : Nat} {enc : α → List Value} {T : TypeId} {w w' : World} {base : Nat} {v : Value} {l : List α}
theorem Owns.setOther (h : Owns k enc T w base v l) {b o : Nat} (u : Value) (hb : b < base) : Owns k enc T (w.setCell ⟨b, o, none⟩ u) base v l :=
  ⟨h.1, h.2.imp id fun ⟨g, cap, cur, e, hg, hh, r⟩ => ⟨g, cap, cur, e, hg, (Go.Deep.blk_setCell_other _ _ _ _ (by show g ≠ b; omega)).trans hh, r⟩⟩
theorem own_in {g n c i B : Nat} (h : (Value.slice (some ⟨g, 0, none⟩) n c).ownBlock = some i) (hB : B ≤ g) : B ≤ i := by
  cases h
  exact hB
theorem Owns.ne_new (h : Owns k enc T w base v l) {g n c : Nat} (hg : w.heap.size ≤ g) : v.ownBlock = none ∨ v.ownBlock ≠ (Value.slice (some ⟨g, 0, none⟩) n c).ownBlock := .inr fun e => by
  have := (h.within (i := g) e).2
  omega
theorem Owns.ne_some (h : Owns k enc T w base v l) {b : Nat} (hb : b < base) : v.ownBlock ≠ some b := fun e => by
  have := (h.within e).1
  omega
theorem Owns.fresh_ne {v' : Value} {w0 : World} (h : v'.ownBlock = v.ownBlock ∨ v'.ownBlock = some w0.heap.size) {u : Value} (h1 : u.ownBlock = none ∨ u.ownBlock ≠ v.ownBlock) (h2 : ∀ i, u.ownBlock = some i → i < w0.heap.size) : u.ownBlock = none ∨ u.ownBlock ≠ v'.ownBlock := by
  rcases h1 with h1 | h1
  · exact .inl h1
  · refine .inr fun e => ?_
    rcases h with h | h
    · exact h1 (e.trans h)
    · have := h2 _ (e.trans h)
      omega
end
end Go.Proofs.Ytbfephekkfieaaa
