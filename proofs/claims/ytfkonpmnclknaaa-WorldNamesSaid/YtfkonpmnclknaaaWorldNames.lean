/-
  WorldNames returns true: the examples, the errors, and that nothing is there of no world. (Closed.) No condition.
-/
import Derived.Test.YtfkonpmnclknaaaNamW
import Derived.Test.YtfkonpmnclknaaaLawZ
import Derived.ChangeMaps5
namespace Go.Proofs.Ytfkonpmnclknaaa
open Go.ChangeShapes Go.WideShapes Go.ChangeAt Go.RowKit
attribute [local go_sem ↓] Go.wp_at_zero Go.wp_at_succ

set_option maxRecDepth 100000 in
set_option maxRecDepth 100000 in
theorem worldNames_lifted (os : Os) (started : os.Started) (H : Type) (enc : TypeId × Value → H) :
    ReturnsInHanded {} Try.checked os 6 .any (Rows.worldNamesSpec.pre6 enc Try.prog Try.f6 Rows.worldNamesRow.domain false) (Rows.worldNamesSpec.post enc Try.prog Try.f6 false true false false) := by
  refine law_lifted_z started (by kernel_rfl) Try.func6 rfl rfl ?_ (by kernel_rfl)
    (ChangeSpec.witness6 (enc := enc) (C := Try.checked) false ⟨#[], #[], []⟩ 8 (by kernel_rfl) (by kernel_rfl) (by kernel_rfl) (by kernel_rfl)) ?_
  · intro ds hd
    match ds, hd with
    | [], _ => exact ⟨rfl, rfl, rfl⟩
  · intro W base args ds ps hval hA hlt hz
    rw [Try.params6] at hA hval
    obtain ⟨rfl, rfl, rfl⟩ := trodAll_none hA
    exact worldNames_walk W

theorem worldNames_holds : Rows.WorldNamesSaid :=
  OpenClaim.holds_of_wide 6 Try.f6 rfl rfl rfl rfl rfl rfl rfl ⟨rfl, rfl, rfl, rfl, rfl⟩ rfl rfl rfl rfl rfl (by kernel_rfl) Try.func6 (by kernel_rfl)
    (of_decide_eq_true (by kernel_rfl)) (by unfold Func.isWrapper; rw [if_neg (of_decide_eq_false (by kernel_rfl))]; exact ⟨rfl, rfl⟩)
    (fun os started H enc _ => worldNames_lifted os started H enc)
#print axioms worldNames_holds
end Go.Proofs.Ytfkonpmnclknaaa
