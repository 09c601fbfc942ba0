/-
  IndexNames returns true: the examples, the limits and the errors are as the document has them. (Closed.) No condition.
-/
import Derived.Test.YtbfephekkfieaaaIxW
import Derived.Test.YtbfephekkfieaaaLawZ
import Derived.ChangeMaps5
namespace Go.Proofs.Ytbfephekkfieaaa
open Go.ChangeShapes Go.WideShapes Go.ChangeAt Go.RowKit
attribute [local go_sem ↓] Go.wp_at_zero Go.wp_at_succ

set_option maxRecDepth 100000 in
set_option maxRecDepth 100000 in
theorem indexNames_lifted (os : Os) (started : os.Started) (H : Type) (enc : TypeId × Value → H) :
    ReturnsInHanded {} Try.checked os 4 .any (Rows.indexNamesSpec.pre6 enc Try.prog Try.f4 Rows.indexNamesRow.domain false) (Rows.indexNamesSpec.post enc Try.prog Try.f4 false true false false) := by
  refine law_lifted_z started (by kernel_rfl) Try.func4 rfl rfl ?_ (by kernel_rfl)
    (ChangeSpec.witness6 (enc := enc) (C := Try.checked) false ⟨#[], #[], []⟩ 8 (by kernel_rfl) (by kernel_rfl) (by kernel_rfl) (by kernel_rfl)) ?_
  · intro ds hd
    match ds, hd with
    | [], _ => exact ⟨rfl, rfl, rfl⟩
  · intro W base args ds ps hval hA hlt hz
    rw [Try.params4] at hA hval
    obtain ⟨rfl, rfl, rfl⟩ := trodAll_none hA
    exact indexNames_walk W

theorem indexNames_holds : Rows.IndexNamesSaid :=
  OpenClaim.holds_of_wide 4 Try.f4 rfl rfl rfl rfl rfl rfl rfl ⟨rfl, rfl, rfl, rfl, rfl⟩ rfl rfl rfl rfl rfl (by kernel_rfl) Try.func4 (by kernel_rfl)
    (of_decide_eq_true (by kernel_rfl)) (by unfold Func.isWrapper; rw [if_neg (of_decide_eq_false (by kernel_rfl))]; exact ⟨rfl, rfl⟩)
    (fun os started H enc _ => indexNames_lifted os started H enc)
#print axioms indexNames_holds
end Go.Proofs.Ytbfephekkfieaaa
