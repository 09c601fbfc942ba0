/-
  Equality of lists, as loops tell it.
-/
import Derived.Test.YtbfephekkfieaaaBase
namespace Go.Proofs.Ytbfephekkfieaaa

def eqL {α : Type} [DecidableEq α] (l l' : List α) : Bool := decide (l = l')
section
variable {α : Type} [DecidableEq α]
theorem eqL_len {l l' : List α} (h : l.length ≠ l'.length) : false = eqL l l' := by simp [eqL]; rintro rfl; exact h rfl
theorem eqL_no {l l' : List α} {k : Nat} {s s' : α} (h : l[k]? = some s) (h' : l'[k]? = some s') (hs : s ≠ s') : false = eqL l l' := by
  simp [eqL]; rintro rfl; rw [h] at h'; injection h' with h'; exact hs h'
theorem eqL_yes {l l' : List α} {n : Nat} (hl : l.length = n) (hl' : l'.length = n) (h : l.take n = l'.take n) : true = eqL l l' := by
  rw [List.take_of_length_le (by omega), List.take_of_length_le (by omega)] at h; simp [eqL, h]
end
theorem take_step {α : Type} {l l' : List α} {k : Nat} {s : α} (ht : l.take k = l'.take k) (h : l[k]? = some s) (h' : l'[k]? = some s) : l.take (k + 1) = l'.take (k + 1) := by
  rw [List.take_add_one, List.take_add_one, ht, h, h']
end Go.Proofs.Ytbfephekkfieaaa
