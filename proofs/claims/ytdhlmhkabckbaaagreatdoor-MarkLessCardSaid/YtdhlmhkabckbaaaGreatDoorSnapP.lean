/-
  Plain laws of rising lists of snapshots.
-/
import Derived.Test.YtdhlmhkabckbaaaGreatDoorSnapA
namespace Go.Proofs.YtdhlmhkabckbaaaGreatDoor
open Go.RowKit

theorem rising_gt : ∀ {l : List Snap} {y : Int}, rising y l = true → ∀ t ∈ l, y < t.id
  | [], _, _ => by simp
  | s :: l, y, h => by
    simp [rising] at h
    intro t ht
    simp at ht
    rcases ht with rfl | ht
    · exact h.1.2
    · have := rising_gt h.2 t ht; omega
theorem rising_mono {y y' : Int} (h : y' ≤ y) : ∀ {l : List Snap}, rising y l = true → rising y' l = true
  | [], _ => rfl
  | s :: l, hr => by
    simp [rising] at hr ⊢
    exact ⟨⟨hr.1.1, by omega⟩, hr.2⟩
theorem rising_sub {l l' : List Snap} (hs : l'.Sublist l) : ∀ {y : Int}, rising y l = true → rising y l' = true := by
  induction hs with
  | slnil => intro y h; exact h
  | cons s _ ih =>
    intro y h
    simp [rising] at h
    exact rising_mono (by omega) (ih h.2)
  | cons_cons s _ ih =>
    intro y h
    simp [rising] at h ⊢
    exact ⟨h.1, ih h.2⟩
theorem mayL_sub {l l' : List Snap} (hs : l'.Sublist l) (h : mayL l = true) : mayL l' = true := by
  simp [mayL] at h ⊢
  exact ⟨rising_sub hs h.1, Nat.le_trans hs.length_le h.2⟩
end Go.Proofs.YtdhlmhkabckbaaaGreatDoor
