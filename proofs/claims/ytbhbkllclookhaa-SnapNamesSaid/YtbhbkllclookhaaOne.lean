/-
  The contract of one: a snapshot of a root of one letter.
-/
import Derived.Test.YtbhbkllclookhaaBytes
import Derived.Test.YtbhbkllclookhaaSnapD
namespace Go.Proofs.Ytbhbkllclookhaa
open Go.RowKit

def letters (k : Nat) (c : UInt8) : List UInt8 := List.replicate k c ++ List.replicate (32 - k) 0
theorem letters_len {k : Nat} (h : k ≤ 32) (c : UInt8) : (letters k c).length = 32 := by simp [letters]; omega
theorem letters_set {k : Nat} (h : k < 32) (c : UInt8) : (letters k c).set k c = letters (k + 1) c := by
  obtain ⟨m, hm⟩ : ∃ m, 32 - k = m + 1 := ⟨31 - k, by omega⟩
  have hm' : 32 - (k + 1) = m := by omega
  unfold letters
  rw [hm, hm', List.replicate_succ' (n := k), List.replicate_succ (n := m)]
  simp
theorem flat_set (c : UInt8) : ∀ (l : List UInt8) (k : Nat), (l.flatMap byteCell).set k (.int .u8 c.toNat) = (l.set k c).flatMap byteCell
  | [], k => by simp
  | b :: l, 0 => by simp [byteCell]
  | b :: l, k + 1 => by
    have := flat_set c l k
    simp [byteCell] at this ⊢
    exact this
def letterRoot (c : UInt8) : ByteArray := str (List.replicate 32 c)
def oneSnap (id time : Int) (c : UInt8) : Snap := ⟨id, time, letterRoot c⟩

set_option maxHeartbeats 1000000 in
theorem one_any (id time : Int) (c : UInt8) (w : World) :
    Calls Try.prog 24 #[.int .i64 id, .int .i64 time, .int .u8 c.toNat] w fun e w' => e = .returned (oneSnap id time c).agg ∧ Below w.heap.size w w' := by
  have hmk := make32
  go_enter Try.func24, Try.ntmps24
  go_wp2_with fail
  go_loopw [8] (fun i wr => ∃ k : Nat, k ≤ 32 ∧ i = .int .i64 k ∧ Owns 1 byteCell 5 wr (w.heap.size + 1) (.slice (some ⟨w.heap.size + 1, 0, none⟩) 32 32) (letters k c) ∧ Below (w.heap.size + 1) (w.alloc (.cells #[.int .i64 0, .int .i64 0, .string ⟨#[]⟩] 24)) wr ∧ Below w.heap.size w wr) (fun i _ => 32 - (intOf i).toNat)
  case atStart =>
    refine ⟨0, by omega, rfl, ?_, (Below.refl _ _).alloc (by simp) _, (by repeat (first | exact Below.refl _ _ | assumption | refine Below.drew ?_ | refine below_drewN ?_ _ | refine Below.alloc ?_ (by first | omega | (simp; try omega)) _ | refine Below.setCell ?_ (by first | omega | (simp; try omega)) _ | (refine Below.trans ?_ (Below.mono (by assumption) (by first | omega | (simp; try omega))))))⟩
    exact ⟨rfl, .inr ⟨w.heap.size + 1, 32, zcells, rfl, Nat.le_refl _, (by have := heap_alloc_new (w.alloc (.cells #[.int .i64 0, .int .i64 0, .string ⟨#[]⟩] 24)) (.cells zcells 5); rw [show (w.alloc (.cells #[.int .i64 0, .int .i64 0, .string ⟨#[]⟩] 24)).heap.size = w.heap.size + 1 by simp] at this; exact this), Nat.le_refl _, by simp [maxLen], rfl, rfl⟩⟩
  case round =>
    obtain ⟨k, hk, rfl, ho, hbx, hbw⟩ := hrel
    by_cases hlt : k < 32
    · have ho' := ho
      unfold Owns at ho'
      rw [letters_len hk] at ho'
      have hc := ho'.cellAt k (by omega)
      obtain ⟨x, hx⟩ := getElem_some (l := (letters k c).flatMap byteCell) (i := k) (by rw [flat_len byteCell_len, letters_len hk]; omega)
      rw [hx] at hc
      have hf := ho'.frozenAt k
      have hst := ho'.stored k (.int .u8 c.toNat)
      rw [flat_set, letters_set hlt] at hst
      replace hst := Lib.hid hst
      replace ho := Lib.hid ho
      replace ho' := Lib.hid ho'
      clear hx
      go_wp2
      go_roundw
      case rel => exact ⟨k + 1, by omega, by go_num, by unfold Owns; rw [letters_len (by omega)]; exact hst.out.1, hbx.setCell (by simp) _, (by repeat (first | exact Below.refl _ _ | assumption | refine Below.drew ?_ | refine below_drewN ?_ _ | refine Below.alloc ?_ (by first | omega | (simp; try omega)) _ | refine Below.setCell ?_ (by first | omega | (simp; try omega)) _ | (refine Below.trans ?_ (Below.mono (by assumption) (by first | omega | (simp; try omega))))))⟩
      case measure => simp [intOf]; omega
    · obtain rfl : k = 32 := by omega
      have hcv := run_bytes_str (c := 32) (ho.row byteCell_len)
      rw [show str (letters 32 c) = letterRoot c by simp [letters, letterRoot]] at hcv
      obtain ⟨hcx, hfx⟩ := bcell (hbx.mono (show (w.alloc (.cells #[.int .i64 0, .int .i64 0, .string ⟨#[]⟩] 24)).heap.size ≤ w.heap.size + 1 by simp))
      have hsz := hbx.size
      have g0 : wr.cell? ⟨w.heap.size, 0, none⟩ = some (.int .i64 0) := by go_simp
      have g1 : wr.cell? ⟨w.heap.size, 1, none⟩ = some (.int .i64 0) := by go_simp
      have g2 : wr.cell? ⟨w.heap.size, 2, none⟩ = some (.string ⟨#[]⟩) := by go_simp
      have f0 : wr.frozen? ⟨w.heap.size, 0, none⟩ = false := by go_simp
      have f1 : wr.frozen? ⟨w.heap.size, 1, none⟩ = false := by go_simp
      have f2 : wr.frozen? ⟨w.heap.size, 2, none⟩ = false := by go_simp
      replace ho := Lib.hid ho
      clear hcx hfx
      go_wp2
      exact bodyPost_ret (v := (oneSnap id time c).agg) (by simp [results, Try.results24, go_sem, Snap.agg, oneSnap, g0, g1, g2]) rfl ⟨rfl, (by repeat (first | exact Below.refl _ _ | assumption | refine Below.drew ?_ | refine below_drewN ?_ _ | refine Below.alloc ?_ (by first | omega | (simp; try omega)) _ | refine Below.setCell ?_ (by first | omega | (simp; try omega)) _ | (refine Below.trans ?_ (Below.mono (by assumption) (by first | omega | (simp; try omega))))))⟩
theorem one_lit (id time : Int) (c : UInt8) (w : World) :
    Calls Try.prog 24 #[.int .i64 id, .int .i64 time, .int .u8 c.toNat] w fun e w' => e = .returned (.agg #[.int .i64 id, .int .i64 time, .string (letterRoot c)]) ∧ Below w.heap.size w w' := one_any id time c w
end Go.Proofs.Ytbhbkllclookhaa
