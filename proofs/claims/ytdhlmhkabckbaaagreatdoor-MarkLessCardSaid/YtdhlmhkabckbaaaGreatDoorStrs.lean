/-
  Slices of strings: what a cell holds; the contracts of among and of the reference's Put.
-/
import Derived.Test.YtdhlmhkabckbaaaGreatDoorElem
import Derived.Test.YtdhlmhkabckbaaaGreatDoorStr
namespace Go.Proofs.YtdhlmhkabckbaaaGreatDoor
open Go.RowKit

def strE : Elem ByteArray where
  T := 9
  S := 23
  k := 1
  bytes := 16
  enc := strCell
  z := .string ⟨#[]⟩
  und := Tryz.underlying23
  info := by kernel_rfl
  zc := rfl
  pos := by decide
  small := by decide
  len := strCell_len
  one := fun x u hu => by simp [strCell] at hu; subst hu; rfl

theorem RowAt.str {w : World} {B n : Nat} {A : Option Addr} {l : List ByteArray} (h : StrsAt w B A n l) {i : Nat} (hi : i < n) :
    ∃ b off s, A = some ⟨b, off, none⟩ ∧ b < B ∧ l[i]? = some s ∧ w.cell? ⟨b, off + i, none⟩ = some (.string s) := by
  obtain ⟨hl, _, hc⟩ := h
  obtain ⟨b, off, e, hb, hc⟩ := hc (by omega)
  have hx : l[i]? = some (l[i]'(by omega)) := List.getElem?_eq_getElem (by omega)
  exact ⟨b, off, _, e, hb, hx, by simpa using hc i _ hx 0 _ rfl⟩
theorem RowAt.strAt {w : World} {B n b off : Nat} {l : List ByteArray} (h : StrsAt w B (some ⟨b, off, none⟩) n l) {i : Nat} {s : ByteArray} (hx : l[i]? = some s) : w.cell? ⟨b, off + i, none⟩ = some (.string s) := by
  have hi : i < n := by have := h.1; have := (List.getElem?_eq_some_iff.1 hx).1; omega
  obtain ⟨b', off', s', e, _, hx', hc⟩ := h.str hi
  simp only [Option.some.injEq, Addr.mk.injEq] at e
  obtain ⟨rfl, rfl, _⟩ := e
  rw [hx] at hx'
  injection hx' with hx'
  subst hx'
  exact hc
theorem RowAt.addrOf {α : Type} {k : Nat} {enc : α → List Value} {w : World} {B n i : Nat} {A : Option Addr} {l : List α} (h : RowAt k enc w B A n l) (hi : i < n) : ∃ b off, A = some ⟨b, off, none⟩ ∧ b < B := by
  obtain ⟨b, off, e, hb, _⟩ := h.2.2 (by omega)
  exact ⟨b, off, e, hb⟩

theorem mem_take_succ {l : List ByteArray} {k : Nat} {s : ByteArray} (h : l[k]? = some s) (x : ByteArray) : x ∈ l.take (k + 1) ↔ x ∈ l.take k ∨ x = s := by
  rw [List.take_add_one, h]
  simp

end Go.Proofs.YtdhlmhkabckbaaaGreatDoor
