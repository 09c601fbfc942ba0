/-
  Arguments that are slices of texts, of places, of snapshots: what they read as.
-/
import Derived.Test.YtcepdigeimedoaaLawSt
namespace Go.Proofs.Ytcepdigeimedoaa
open Go.ChangeShapes Go.WideShapes Go.ChangeAt Go.RowKit

section
variable {H : Type} {enc : TypeId × Value → H} {W : World} {base : Nat} {v : Value} {d : DataW H} {p : List MemPlace}
theorem cells_slice (A : Option Addr) (n c : Nat) : (Value.slice A n c).cells.toList = [.slice A n c] := by simp [Value.cells]
set_option maxRecDepth 100000 in
theorem open_texts (hv : Value.okWide Try.prog W .any base 53 v) (h : DataW.Trod enc Try.prog W 0 (fun _ => true) true 53 v d p) :
    ∃ A n c l, v = .slice A n c ∧ StrsAt W W.heap.size A n l ∧ ((∀ q ∈ d.weights Try.prog 53, q ≤ reachBytes) → n ≤ reachBytes) := by
  obtain ⟨a0, len, cap, rfl⟩ := okWide_slice Try.underlying53 hv
  obtain ⟨fuel, hf⟩ := h
  rw [cells_slice] at hf
  exact strsT hf
set_option maxRecDepth 100000 in
theorem open_places (hv : Value.okWide Try.prog W .any base 69 v) (h : DataW.Trod enc Try.prog W 0 (fun _ => true) true 69 v d p) :
    ∃ A n c l, v = .slice A n c ∧ PlacesAt W W.heap.size A n l ∧ (∀ s ∈ l, PlaceOk s) ∧ ((∀ q ∈ d.weights Try.prog 69, q ≤ reachBytes) → n ≤ reachBytes) := by
  obtain ⟨a0, len, cap, rfl⟩ := okWide_slice Try.underlying69 hv
  obtain ⟨fuel, hf⟩ := h
  rw [cells_slice] at hf
  exact placesT hf
end
end Go.Proofs.Ytcepdigeimedoaa
