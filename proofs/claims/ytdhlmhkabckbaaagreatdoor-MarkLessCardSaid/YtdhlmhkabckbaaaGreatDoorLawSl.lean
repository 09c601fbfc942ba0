/-
  Arguments that are slices of texts, of places, of snapshots: what they read as.
-/
import Derived.Test.YtdhlmhkabckbaaaGreatDoorLawSt
namespace Go.Proofs.YtdhlmhkabckbaaaGreatDoor
open Go.ChangeShapes Go.WideShapes Go.ChangeAt Go.RowKit

section
variable {H : Type} {enc : TypeId × Value → H} {W : World} {base : Nat} {v : Value} {d : DataW H} {p : List MemPlace}
theorem cells_slice (A : Option Addr) (n c : Nat) : (Value.slice A n c).cells.toList = [.slice A n c] := by simp [Value.cells]
set_option maxRecDepth 100000 in
theorem open_texts (hv : Value.okWide Tryz.prog W .any base 23 v) (h : DataW.Trod enc Tryz.prog W 0 (fun _ => true) true 23 v d p) :
    ∃ A n c l, v = .slice A n c ∧ StrsAt W W.heap.size A n l ∧ ((∀ q ∈ d.weights Tryz.prog 23, q ≤ reachBytes) → n ≤ reachBytes) := by
  obtain ⟨a0, len, cap, rfl⟩ := okWide_slice Tryz.underlying23 hv
  obtain ⟨fuel, hf⟩ := h
  rw [cells_slice] at hf
  exact strsT hf
set_option maxRecDepth 100000 in
theorem open_places (hv : Value.okWide Tryz.prog W .any base 55 v) (h : DataW.Trod enc Tryz.prog W 0 (fun _ => true) true 55 v d p) :
    ∃ A n c l, v = .slice A n c ∧ PlacesAt W W.heap.size A n l ∧ (∀ s ∈ l, PlaceOk s) ∧ ((∀ q ∈ d.weights Tryz.prog 55, q ≤ reachBytes) → n ≤ reachBytes) := by
  obtain ⟨a0, len, cap, rfl⟩ := okWide_slice Tryz.underlying55 hv
  obtain ⟨fuel, hf⟩ := h
  rw [cells_slice] at hf
  exact placesT hf
end
end Go.Proofs.YtdhlmhkabckbaaaGreatDoor
/-
  Arguments that are slices of texts: what they read as; each text may be a key.
-/
namespace Go.Proofs.YtdhlmhkabckbaaaGreatDoor
open Go.ChangeShapes Go.WideShapes Go.ChangeAt Go.RowKit Go.Deep

section
variable {H : Type} {enc : TypeId × Value → H} {W : World} {base fuel : Nat} {v : Value} {d : DataW H} {p : List MemPlace} {x : DataW H × List MemPlace}
set_option maxRecDepth 100000 in
theorem strsTx (hf : DataW.trod enc Tryz.prog W 0 (fun _ => true) true fuel 23 [v] = some x) : ∃ A n c l, v = .slice A n c ∧ StrsAt W W.heap.size A n l ∧ (∀ s ∈ l, s.size ≤ maxLen) ∧ ((∀ q ∈ x.1.weights Tryz.prog 23, q ≤ reachBytes) → n ≤ reachBytes) := by
  rcases open_strs Tryz.underlying23 Tryz.underlying9 (by kernel_rfl) hf with ⟨e, _⟩ | ⟨a, len', cap', m, Sx, e, _, hlc, hcm, hm, hx, hi⟩
  · simp at e
    subst e
    exact ⟨_, _, _, [], rfl, RowAt.none_, by simp, fun _ => Nat.zero_le _⟩
  · simp at e
    subst e
    obtain rfl : m = cap' := by simpa using hm
    refine ⟨_, _, _, (List.range len').map Sx, rfl, ⟨by simp, by simp only [maxLen] at hcm; omega, fun hn => ?_⟩, fun s hs => ?_, slice_weight hx Tryz.underlying23 (by kernel_rfl)⟩
    · have c0 := (hi 0 (by omega)).1
      have ha := addr_form c0
      simp [Addr.add] at ha
      have hb := World.block_lt_of_cell? W _ c0
      simp [Addr.add] at hb
      refine ⟨a.block, a.off, by rw [← ha], hb, fun i x hx j u hu => ?_⟩
      have hil : i < len' := by simpa using (List.getElem?_eq_some_iff.1 hx).1
      rw [List.getElem?_map, List.getElem?_range hil] at hx
      simp at hx
      subst hx
      have q0 := (hi i (by omega)).1
      rw [ha] at q0
      simp only [Addr.add_lit] at q0
      match j, hu with
      | 0, hu => simp [strCell] at hu; subst hu; simpa using q0
      | j + 1, hu => simp [strCell] at hu
    · obtain ⟨i, hi', rfl⟩ := List.mem_map.1 hs
      exact (hi i (by have := List.mem_range.1 hi'; omega)).2
set_option maxRecDepth 100000 in
theorem open_textsx (hv : Value.okWide Tryz.prog W .any base 23 v) (h : DataW.Trod enc Tryz.prog W 0 (fun _ => true) true 23 v d p) :
    ∃ A n c l, v = .slice A n c ∧ StrsAt W W.heap.size A n l ∧ (∀ s ∈ l, s.size ≤ maxLen) ∧ ((∀ q ∈ d.weights Tryz.prog 23, q ≤ reachBytes) → n ≤ reachBytes) := by
  obtain ⟨a0, len, cap, rfl⟩ := okWide_slice Tryz.underlying23 hv
  obtain ⟨fuel, hf⟩ := h
  rw [cells_slice] at hf
  exact strsTx hf
end
end Go.Proofs.YtdhlmhkabckbaaaGreatDoor
