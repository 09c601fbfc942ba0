/-
  Slices of strings: what a cell holds; the contracts of among and of the reference's Put.
-/
import Derived.Test.YtbhbkllclookhaaElem
import Derived.Test.YtbhbkllclookhaaStr
namespace Go.Proofs.Ytbhbkllclookhaa
open Go.RowKit

def strE : Elem ByteArray where
  T := 9
  S := 38
  k := 1
  bytes := 16
  enc := strCell
  z := .string ⟨#[]⟩
  und := Try.underlying38
  info := by kernel_rfl
  zc := rfl
  pos := by decide
  small := by decide
  len := strCell_len
  one := fun x u hu => by simp [strCell] at hu; subst hu; rfl

theorem RowAt.str {w : World} {B n : Nat} {A : Option Addr} {l : List ByteArray} (h : StrsAt w B A n l) {i : Nat} (hi : i < n) :
    ∃ b off s, A = some ⟨b, off, none⟩ ∧ b < B ∧ l[i]? = some s ∧ w.cell? ⟨b, off + i, none⟩ = some (.string s) := by
  obtain ⟨hl, _, hc⟩ := h
  obtain ⟨b, off, e, hb, hc⟩ := hc (by omega)
  have hx : l[i]? = some (l[i]'(by omega)) := List.getElem?_eq_getElem (by omega)
  exact ⟨b, off, _, e, hb, hx, by simpa using hc i _ hx 0 _ rfl⟩
theorem RowAt.strAt {w : World} {B n b off : Nat} {l : List ByteArray} (h : StrsAt w B (some ⟨b, off, none⟩) n l) {i : Nat} {s : ByteArray} (hx : l[i]? = some s) : w.cell? ⟨b, off + i, none⟩ = some (.string s) := by
  have hi : i < n := by have := h.1; have := (List.getElem?_eq_some_iff.1 hx).1; omega
  obtain ⟨b', off', s', e, _, hx', hc⟩ := h.str hi
  simp only [Option.some.injEq, Addr.mk.injEq] at e
  obtain ⟨rfl, rfl, _⟩ := e
  rw [hx] at hx'
  injection hx' with hx'
  subst hx'
  exact hc
theorem RowAt.addrOf {α : Type} {k : Nat} {enc : α → List Value} {w : World} {B n i : Nat} {A : Option Addr} {l : List α} (h : RowAt k enc w B A n l) (hi : i < n) : ∃ b off, A = some ⟨b, off, none⟩ ∧ b < B := by
  obtain ⟨b, off, e, hb, _⟩ := h.2.2 (by omega)
  exact ⟨b, off, e, hb⟩

theorem mem_take_succ {l : List ByteArray} {k : Nat} {s : ByteArray} (h : l[k]? = some s) (x : ByteArray) : x ∈ l.take (k + 1) ↔ x ∈ l.take k ∨ x = s := by
  rw [List.take_add_one, h]
  simp

set_option maxHeartbeats 400000 in
theorem among_any (A : Option Addr) (n c : Nat) (l : List ByteArray) (x : ByteArray) (w : World) (h : StrsAt w w.heap.size A n l) :
    Calls Try.prog 23 #[.slice A n c, .string x] w fun e w' => e = .returned (.bool (decide (x ∈ l))) ∧ Below w.heap.size w w' := by
  have hn := h.2.1
  have hl := Lib.hid h.1
  go_enter Try.func23, Try.ntmps23
  go_wp2
  go_loopw [5] (fun i wr => ∃ k : Nat, k ≤ n ∧ i = .int .i64 k ∧ Hid (x ∉ l.take k) ∧ Below w.heap.size w wr) (fun i _ => n - (intOf i).toNat)
  case atStart => exact ⟨0, Nat.zero_le _, rfl, by simp [Hid], (by repeat (first | exact Below.refl _ _ | assumption | refine Below.drew ?_ | refine below_drewN ?_ _ | refine Below.alloc ?_ (by first | omega | (simp; try omega)) _ | refine Below.setCell ?_ (by first | omega | (simp; try omega)) _ | (refine Below.trans ?_ (Below.mono (by assumption) (by first | omega | (simp; try omega))))))⟩
  case round =>
    obtain ⟨k, hk, rfl, hno, hbr⟩ := hrel
    by_cases hlt : k < n
    · obtain ⟨b0, off, s, rfl, hb0, hx, q0⟩ := (h.to hbr).str hlt
      replace hx := Lib.hid hx
      by_cases hs : s = x
      · have hq := str_eq hs
        have hin : Hid (decide (x ∈ l) = true) := by unfold Hid; simp; exact hs ▸ List.mem_of_getElem? hx.out
        replace hs := Lib.hid hs
        go_wp2_with fail
        go_ret
        exact ⟨ret_bool hin.out.symm, (by repeat (first | exact Below.refl _ _ | assumption | refine Below.drew ?_ | refine below_drewN ?_ _ | refine Below.alloc ?_ (by first | omega | (simp; try omega)) _ | refine Below.setCell ?_ (by first | omega | (simp; try omega)) _ | (refine Below.trans ?_ (Below.mono (by assumption) (by first | omega | (simp; try omega))))))⟩
      · have hq := str_ne hs
        replace hs := Lib.hid hs
        go_wp2_with fail
        go_roundw
        case rel => exact ⟨k + 1, by omega, by go_num, by unfold Hid; rw [mem_take_succ hx.out]; exact fun e => e.elim hno.out (fun e => hs.out e.symm), (by repeat (first | exact Below.refl _ _ | assumption | refine Below.drew ?_ | refine below_drewN ?_ _ | refine Below.alloc ?_ (by first | omega | (simp; try omega)) _ | refine Below.setCell ?_ (by first | omega | (simp; try omega)) _ | (refine Below.trans ?_ (Below.mono (by assumption) (by first | omega | (simp; try omega))))))⟩
        case measure => simp [intOf]; omega
    · obtain rfl : k = n := by omega
      have hin : Hid (decide (x ∈ l) = false) := by
        have h1 := hno.out
        rw [List.take_of_length_le (by have := hl.out; omega)] at h1
        simpa [Hid] using h1
      go_wp2_with fail
      go_ret
      exact ⟨ret_bool hin.out.symm, (by repeat (first | exact Below.refl _ _ | assumption | refine Below.drew ?_ | refine below_drewN ?_ _ | refine Below.alloc ?_ (by first | omega | (simp; try omega)) _ | refine Below.setCell ?_ (by first | omega | (simp; try omega)) _ | (refine Below.trans ?_ (Below.mono (by assumption) (by first | omega | (simp; try omega))))))⟩
end Go.Proofs.Ytbhbkllclookhaa
