/-
  Rows cut at their head and at their tail.
-/
import Derived.Test.YtdhlmhkabckbaaaGreatDoorBase
namespace Go.Proofs.YtdhlmhkabckbaaaGreatDoor
open Go.RowKit

/-- A row, cut at its head and at its tail. -/
theorem RowAt.headRow {α : Type} {k : Nat} {enc : α → List Value} {w : World} {B : Nat} {A : Option Addr} {m : Nat} {l : List α} (h : RowAt k enc w B A m l) {n : Nat} (hn : n ≤ m) : RowAt k enc w B A n (l.take n) := by
  refine ⟨by simp [h.1, hn], by have := h.2.1; omega, fun h0 => ?_⟩
  obtain ⟨b, off, e, hb, hcl⟩ := h.2.2 (by omega)
  refine ⟨b, off, e, hb, fun i x hx j v hv => ?_⟩
  rw [List.getElem?_take] at hx
  split at hx
  · exact hcl i x hx j v hv
  · cases hx
theorem RowAt.tailRow {α : Type} {k : Nat} {enc : α → List Value} {w : World} {B b off m : Nat} {l : List α} (h : RowAt k enc w B (some ⟨b, off, none⟩) m l) {n : Nat} (hn : n ≤ m) : RowAt k enc w B (some ⟨b, off + n * k, none⟩) (m - n) (l.drop n) := by
  refine ⟨by simp [h.1], by have := h.2.1; omega, fun h0 => ?_⟩
  obtain ⟨b', off', e, hb, hcl⟩ := h.2.2 (by omega)
  simp only [Option.some.injEq, Addr.mk.injEq] at e
  obtain ⟨rfl, rfl, _⟩ := e
  refine ⟨b, off + n * k, rfl, hb, fun i x hx j v hv => ?_⟩
  rw [List.getElem?_drop] at hx
  have := hcl _ x hx j v hv
  rw [show off + n * k + i * k + j = off + (n + i) * k + j by rw [Nat.add_mul]; omega]
  exact this
theorem RowAt.tailIf {α : Type} {k : Nat} {enc : α → List Value} {w : World} {B b off m c : Nat} {l : List α} (h : RowAt k enc w B (some ⟨b, off, none⟩) m l) {n : Nat} (hn : n ≤ m) (hm : m ≤ c) : RowAt k enc w B (if c = n then some ⟨b, off, none⟩ else some ⟨b, off + n * k, none⟩) (m - n) (l.drop n) := by
  split
  · have h1 : m - n = 0 := by omega
    have h2 : l.drop n = [] := List.drop_eq_nil_of_le (by rw [h.1]; omega)
    rw [h1, h2]
    exact RowAt.none_
  · exact h.tailRow hn
end Go.Proofs.YtdhlmhkabckbaaaGreatDoor
