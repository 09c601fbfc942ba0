/-
  A step of a drawn region that keeps a condition, where one of two operations may come up.
-/
import Derived.Test.YthbmbbbojpdlaaaHeldB
namespace Go.Proofs.Ythbmbbbojpdlaaa
open Go Go.RowKit

section
variable {P : Program} {Q : Exit → Act → World → Prop} {S : World → Prop} {l : List Oper} {n f : Nat} {listed : Array Bool} {a : Act} {w : World}
theorem HT.step {i : Nat} {o : Oper} (hi : l.toArray[i]? = some o) (h5 : i < n) (hr : i ∈ Region.ready .any l.toArray listed) (inv : HeadInv .any l.toArray n listed)
    (h : ∀ K : Act → World → Prop, Shut (∀ a' w', S w' → (S w' → HT P l Q S n f (listed.setIfInBounds i true) a' w') → K a' w') → if Region.wanted o (yielded l.toArray a.tmps) = true then o.wp P a w K Q else K (a.put o.dst undef) w) :
    i < n ∧ wpOp P l.toArray Q i (fun a' w' => S w' ∧ heldT P .any l.toArray Q S n (tailL P .any l Q n) f (listed.setIfInBounds i true) a' w') a w := by
  refine ⟨h5, ?_⟩
  have := h (fun a' w' => S w' ∧ heldT P .any l.toArray Q S n (tailL P .any l Q n) f (listed.setIfInBounds i true) a' w') (fun a' w' hS hh => ⟨hS, hh hS (inv.set hr h5)⟩)
  unfold wpOp
  simp only [hi]
  split
  · rename_i hw
    rw [if_pos hw] at this
    exact .inl this
  · rename_i hw
    rw [if_neg hw] at this
    exact this
theorem HT.twoL {i j : Nat} {o o' : Oper} (hi : l[i]? = some o) (hj : l[j]? = some o') (hB : (decide (i < n) && decide (j < n) && (Region.ready .any l.toArray listed == [i, j])) = true)
    (h : ∀ K : Act → World → Prop, Shut (∀ a' w', S w' → (S w' → HT P l Q S n f (listed.setIfInBounds i true) a' w') → K a' w') → if Region.wanted o (yielded l.toArray a.tmps) = true then o.wp P a w K Q else K (a.put o.dst undef) w)
    (h' : ∀ K : Act → World → Prop, Shut (∀ a' w', S w' → (S w' → HT P l Q S n f (listed.setIfInBounds j true) a' w') → K a' w') → if Region.wanted o' (yielded l.toArray a.tmps) = true then o'.wp P a w K Q else K (a.put o'.dst undef) w) :
    HT P l Q S n (f + 1) listed a w := by
  intro inv
  simp only [Bool.and_eq_true, decide_eq_true_eq, beq_iff_eq] at hB
  obtain ⟨⟨hin, hjn⟩, h7⟩ := hB
  refine ⟨by rw [h7]; simp, fun q hq => ?_⟩
  have hr := hq
  rw [h7] at hq
  simp only [List.mem_cons, List.not_mem_nil, or_false] at hq
  rcases hq with rfl | rfl
  · exact HT.step (by simpa using hi) hin hr inv h
  · exact HT.step (by simpa using hj) hjn hr inv h'
end
end Go.Proofs.Ythbmbbbojpdlaaa
