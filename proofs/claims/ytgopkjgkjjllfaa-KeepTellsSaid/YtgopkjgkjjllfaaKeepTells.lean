/-
  For every list of snapshots and every rule KeepTells returns true: what keep.Choose answers is what the reference answers, in new memory, what was handed in stands. No condition.
-/
import Derived.Test.YtgopkjgkjjllfaaKeepLaw
namespace Go.Proofs.Ytgopkjgkjjllfaa
open Go.ChangeShapes Go.WideShapes Go.ChangeAt Go.RowKit

set_option maxRecDepth 100000 in
theorem keepTells_lifted (os : Os) (started : os.Started) (H : Type) (enc : TypeId × Value → H) :
    ReturnsInHanded {} Try.checked os 4 .any (Rows.keepTellsSpec.pre6 enc Try.prog Try.f4 Rows.keepTellsRow.domain false) (Rows.keepTellsSpec.post enc Try.prog Try.f4 false true false false) := by
  refine law_lifted started (by kernel_rfl) Try.func4 rfl rfl ?_ (by kernel_rfl)
    (ChangeSpec.witness6 (enc := enc) (C := Try.checked) false ⟨#[], #[.slice none 0 0, .agg #[.int .i64 0, .int .i64 0, .int .i64 0]], []⟩ 8 (by kernel_rfl) (by kernel_rfl) (by kernel_rfl) (by kernel_rfl)) ?_
  · intro ds hd
    match ds, hd with
    | [d1, d2], _ => exact ⟨rfl, rfl, rfl⟩
  · intro W base args ds ps hval hA hlt
    rw [Try.params4] at hA hval
    obtain ⟨v0, v1, d0, d1, p0, p1, rfl, rfl, rfl, h0, h1⟩ := trodAll_two hA
    obtain ⟨A, n, c, l, rfl, hl, _⟩ := open_snaps (hval 0 22 v0 rfl rfl) h0
    obtain ⟨r, rfl, hr⟩ := open_rule (hval 1 25 v1 rfl rfl) h1
    exact keepTells_walk A n c l r W hl hr.2.1.2 hr.2.2.2

theorem keepTells_holds : Rows.KeepTellsSaid :=
  OpenClaim.holds_of_wide 4 Try.f4 rfl rfl rfl rfl rfl rfl rfl ⟨rfl, rfl, rfl, rfl, rfl⟩ rfl rfl rfl rfl rfl (by kernel_rfl) Try.func4 (by kernel_rfl)
    (of_decide_eq_true (by kernel_rfl)) (by unfold Func.isWrapper; rw [if_neg (of_decide_eq_false (by kernel_rfl))]; exact ⟨rfl, rfl⟩)
    (fun os started H enc _ => keepTells_lifted os started H enc)
#print axioms keepTells_holds
end Go.Proofs.Ytgopkjgkjjllfaa
