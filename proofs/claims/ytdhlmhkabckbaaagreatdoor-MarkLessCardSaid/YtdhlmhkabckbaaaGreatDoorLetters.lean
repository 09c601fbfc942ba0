/-
  Rows of one letter.
-/
import Derived.Test.YtdhlmhkabckbaaaGreatDoorBytes
namespace Go.Proofs.YtdhlmhkabckbaaaGreatDoor
open Go.RowKit

def letters (k : Nat) (c : UInt8) : List UInt8 := List.replicate k c ++ List.replicate (32 - k) 0
theorem letters_len {k : Nat} (h : k ≤ 32) (c : UInt8) : (letters k c).length = 32 := by simp [letters]; omega
theorem letters_set {k : Nat} (h : k < 32) (c : UInt8) : (letters k c).set k c = letters (k + 1) c := by
  obtain ⟨m, hm⟩ : ∃ m, 32 - k = m + 1 := ⟨31 - k, by omega⟩
  have hm' : 32 - (k + 1) = m := by omega
  unfold letters
  rw [hm, hm', List.replicate_succ' (n := k), List.replicate_succ (n := m)]
  simp
theorem flat_set (c : UInt8) : ∀ (l : List UInt8) (k : Nat), (l.flatMap byteCell).set k (.int .u8 c.toNat) = (l.set k c).flatMap byteCell
  | [], k => by simp
  | b :: l, 0 => by simp [byteCell]
  | b :: l, k + 1 => by
    have := flat_set c l k
    simp [byteCell] at this ⊢
    exact this
def letterRoot (c : UInt8) : ByteArray := str (List.replicate 32 c)
end Go.Proofs.YtdhlmhkabckbaaaGreatDoor
