/-
  slices.Clone at strings.
-/
import Derived.Test.YtdhlmhkabckbaaaGreatDoorPlaceA
import Derived.Test.YtdhlmhkabckbaaaGreatDoorStrs
import Derived.Test.YtdhlmhkabckbaaaGreatDoorBase
namespace Go.Proofs.YtdhlmhkabckbaaaGreatDoor
open Go.RowKit
attribute [local go_sem ↓] Go.wp_at_zero Go.wp_at_succ

set_option maxHeartbeats 1000000 in
theorem clone_strs (A : Option Addr) (n c : Nat) (l : List ByteArray) (w : World) (h : strE.At w w.heap.size A n l) (hn9 : n ≤ 1000000) :
    Calls Tryz.prog 59 #[.slice A n c] w fun e w' => ∃ v, e = .returned v ∧ strE.Own w' w.heap.size v l ∧ Below w.heap.size w w' := by
  have hn := h.2.1
  have heq := fun (W : World) => Lib.run_eql_slice_nil (P := Tryz.prog) W 23 9 A n c 0 0 Tryz.underlying23
  cases A with
  | none =>
    have h0 : n = 0 := by
      rcases Nat.eq_zero_or_pos n with h0 | h0
      · exact h0
      · obtain ⟨_, _, e, _⟩ := h.2.2 h0; cases e
    have hl : l = [] := List.eq_nil_of_length_eq_zero (by rw [h.1]; exact h0)
    subst hl
    clear h0
    go_enter Tryz.func59, Tryz.ntmps59
    go_wp2
    go_ret
    exact ⟨.slice none 0 0, rfl, Owns.nil_, (by repeat (first | exact Below.refl _ _ | assumption | refine Below.drew ?_ | refine below_drewN ?_ _ | refine Below.alloc ?_ (by first | omega | (simp; try omega)) _ | refine Below.setCell ?_ (by first | omega | (simp; try omega)) _ | (refine Below.trans ?_ (Below.mono (by assumption) (by first | omega | (simp; try omega))))))⟩
  | some a =>
    go_enter Tryz.func59, Tryz.ntmps59
    go_wp2_with (at_builtin; go_must (refine Elem.wpList_row strE rfl (.tmp 5) (.tmp 6) rfl w.heap.size (.slice (some ⟨w.heap.size, 0, none⟩) 0 0) [] rfl (some a) n c l rfl (Owns.emptyAt w rfl (Nat.le_refl _)) w.heap.size (h.below (by repeat (first | exact Below.refl _ _ | assumption | refine Below.drew ?_ | refine below_drewN ?_ _ | refine Below.alloc ?_ (by first | omega | (simp; try omega)) _ | refine Below.setCell ?_ (by first | omega | (simp; try omega)) _ | (refine Below.trans ?_ (Below.mono (by assumption) (by first | omega | (simp; try omega))))))) (by simp; omega) (by first | omega | (simp; try omega)) ?_; intro v' w1 hown hg hat))
    go_ret
    rw [List.nil_append] at hown
    exact ⟨v', rfl, hown, Below.grownOwn (by repeat (first | exact Below.refl _ _ | assumption | refine Below.drew ?_ | refine below_drewN ?_ _ | refine Below.alloc ?_ (by first | omega | (simp; try omega)) _ | refine Below.setCell ?_ (by first | omega | (simp; try omega)) _ | (refine Below.trans ?_ (Below.mono (by assumption) (by first | omega | (simp; try omega)))))) (Owns.emptyAt (k := strE.k) (enc := strE.enc) (T := strE.T) w rfl (Nat.le_refl _)) (Nat.le_refl _) (by first | omega | (simp; try omega)) hg⟩
end Go.Proofs.YtdhlmhkabckbaaaGreatDoor
/-
  slices.Clone at places.
-/
namespace Go.Proofs.YtdhlmhkabckbaaaGreatDoor
open Go.RowKit
attribute [local go_sem ↓] Go.wp_at_zero Go.wp_at_succ

end Go.Proofs.YtdhlmhkabckbaaaGreatDoor
/-
  Equality of lists, as loops tell it.
-/
namespace Go.Proofs.YtdhlmhkabckbaaaGreatDoor

def eqL {α : Type} [DecidableEq α] (l l' : List α) : Bool := decide (l = l')
section
variable {α : Type} [DecidableEq α]
theorem eqL_len {l l' : List α} (h : l.length ≠ l'.length) : false = eqL l l' := by simp [eqL]; rintro rfl; exact h rfl
theorem eqL_no {l l' : List α} {k : Nat} {s s' : α} (h : l[k]? = some s) (h' : l'[k]? = some s') (hs : s ≠ s') : false = eqL l l' := by
  simp [eqL]; rintro rfl; rw [h] at h'; injection h' with h'; exact hs h'
theorem eqL_yes {l l' : List α} {n : Nat} (hl : l.length = n) (hl' : l'.length = n) (h : l.take n = l'.take n) : true = eqL l l' := by
  rw [List.take_of_length_le (by omega), List.take_of_length_le (by omega)] at h; simp [eqL, h]
end
theorem take_step {α : Type} {l l' : List α} {k : Nat} {s : α} (ht : l.take k = l'.take k) (h : l[k]? = some s) (h' : l'[k]? = some s) : l.take (k + 1) = l'.take (k + 1) := by
  rw [List.take_add_one, List.take_add_one, ht, h, h']
end Go.Proofs.YtdhlmhkabckbaaaGreatDoor
