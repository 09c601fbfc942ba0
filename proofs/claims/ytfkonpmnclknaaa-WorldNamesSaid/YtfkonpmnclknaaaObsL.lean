/-
  Rows of objects.
-/
import Derived.Test.YtfkonpmnclknaaaStoG
namespace Go.Proofs.Ytfkonpmnclknaaa
open Go.RowKit

abbrev ObsAt := RowAt 2 obCells
theorem RowAt.ob {w : World} {B n : Nat} {A : Option Addr} {l : List Ob} (h : ObsAt w B A n l) {i : Nat} (hi : i < n) : ∃ b off p, A = some ⟨b, off, none⟩ ∧ b < B ∧ l[i]? = some p ∧
    w.cell? ⟨b, off + i * 2, none⟩ = some (.string p.1) ∧ w.cell? ⟨b, off + i * 2 + 1, none⟩ = some (.string p.2) := by
  obtain ⟨hl, _, hc⟩ := h
  obtain ⟨b, off, e, hb, hc⟩ := hc (by omega)
  have hx : l[i]? = some (l[i]'(by omega)) := List.getElem?_eq_getElem (by omega)
  exact ⟨b, off, _, e, hb, hx, hc i _ hx 0 _ rfl, hc i _ hx 1 _ rfl⟩

end Go.Proofs.Ytfkonpmnclknaaa
