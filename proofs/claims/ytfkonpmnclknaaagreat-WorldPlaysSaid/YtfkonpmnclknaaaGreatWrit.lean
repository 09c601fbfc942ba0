/-
  Cells that may be written over.
-/
import Derived.Test.YtfkonpmnclknaaaGreatElem
import Derived.Test.YtfkonpmnclknaaaGreatLawA

namespace Go.Proofs.YtfkonpmnclknaaaGreat
open Go.ChangeShapes Go.WideShapes Go.ChangeAt Go.RowKit

/-- The cells of a slice of n elements of k cells each lie in a block from base on, are there, and may be written. -/
def Writ (k : Nat) (w : World) (base : Nat) (A : Option Addr) (n : Nat) : Prop := 0 < n → ∃ b off, A = some ⟨b, off, none⟩ ∧ base ≤ b ∧ ∀ j, j < n * k → (w.cell? ⟨b, off + j, none⟩).isSome = true ∧ w.frozen? ⟨b, off + j, none⟩ = false
theorem Owns.writ {α : Type} {k : Nat} {enc : α → List Value} {T : TypeId} {w : World} {base n c : Nat} {A : Option Addr} {l : List α} (h : Owns k enc T w base (.slice A n c) l) : Writ k w base A n := by
  intro hn
  rcases h.2 with ⟨e, h0⟩ | ⟨g, cap, cur, e, hg, hh, hnc, _, hcs, _⟩
  · simp only [Value.slice.injEq] at e
    omega
  · simp only [Value.slice.injEq] at e
    obtain ⟨rfl, rfl, rfl⟩ := e
    refine ⟨g, 0, rfl, hg, fun j hj => ⟨?_, by simp [World.frozen?, hh]⟩⟩
    have : l.length * k ≤ c * k := Nat.mul_le_mul_right _ hnc
    rw [cell_of_row _ _ _ _ _ _ hh, Array.getElem?_eq_getElem (by omega)]
    rfl
theorem Writ.below {k : Nat} {w w' : World} {base n : Nat} {A : Option Addr} (h : Writ k w base A n) (hb : Below w.heap.size w w') : Writ k w' base A n := by
  intro hn
  obtain ⟨b, off, rfl, hb0, hc⟩ := h hn
  refine ⟨b, off, rfl, hb0, fun j hj => ?_⟩
  obtain ⟨u, hu⟩ := Option.isSome_iff_exists.1 (hc j hj).1
  have hlt := World.block_lt_of_cell? w _ hu
  rw [hb.cell (p := ⟨b, off + j, none⟩) hlt, hb.frozen (p := ⟨b, off + j, none⟩) hlt]
  exact hc j hj
theorem Writ.setCell {k : Nat} {w : World} {base n : Nat} {A : Option Addr} (h : Writ k w base A n) (p : Addr) (v : Value) : Writ k (w.setCell p v) base A n := by
  intro hn
  obtain ⟨b, off, rfl, hb0, hc⟩ := h hn
  refine ⟨b, off, rfl, hb0, fun j hj => ⟨?_, by rw [World.frozen?_setCell]; exact (hc j hj).2⟩⟩
  obtain ⟨u, hu⟩ := Option.isSome_iff_exists.1 (hc j hj).1
  obtain ⟨v', hv⟩ := cell?_setCell_some (p := p) (x := v) hu
  rw [hv]
  rfl
theorem Writ.at_ {k : Nat} {w : World} {base n : Nat} {A : Option Addr} (h : Writ k w base A n) {i : Nat} (hi : i < n) (hk : 0 < k) : ∃ b off u, A = some ⟨b, off, none⟩ ∧ base ≤ b ∧ w.cell? ⟨b, off + i * k, none⟩ = some u ∧ w.frozen? ⟨b, off + i * k, none⟩ = false := by
  obtain ⟨b, off, e, hb, hc⟩ := h (by omega)
  have hj : i * k < n * k := (Nat.mul_lt_mul_right hk).2 hi
  obtain ⟨u, hu⟩ := Option.isSome_iff_exists.1 (hc _ hj).1
  exact ⟨b, off, u, e, hb, hu, (hc _ hj).2⟩
theorem Writ.at1 {w : World} {base n : Nat} {A : Option Addr} (h : Writ 2 w base A n) {i : Nat} (hi : i < n) : ∃ b off u, A = some ⟨b, off, none⟩ ∧ base ≤ b ∧ w.cell? ⟨b, off + i * 2 + 1, none⟩ = some u ∧ w.frozen? ⟨b, off + i * 2 + 1, none⟩ = false := by
  obtain ⟨b, off, e, hb, hc⟩ := h (by omega)
  obtain ⟨h1, h2⟩ := hc (i * 2 + 1) (by omega)
  obtain ⟨u, hu⟩ := Option.isSome_iff_exists.1 h1
  exact ⟨b, off, u, e, hb, hu, h2⟩

end Go.Proofs.YtfkonpmnclknaaaGreat
