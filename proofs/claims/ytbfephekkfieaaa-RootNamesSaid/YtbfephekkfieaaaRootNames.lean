/-
  RootNames returns true: the examples, the limits, and which bytes are refused. (Closed.) No condition.
-/
import Derived.Test.YtbfephekkfieaaaRnW
import Derived.Test.YtbfephekkfieaaaLawZ
import Derived.ChangeMaps5
namespace Go.Proofs.Ytbfephekkfieaaa
open Go.ChangeShapes Go.WideShapes Go.ChangeAt Go.RowKit
attribute [local go_sem ↓] Go.wp_at_zero Go.wp_at_succ

set_option maxRecDepth 100000 in
set_option maxRecDepth 100000 in
theorem rootNames_lifted (os : Os) (started : os.Started) (H : Type) (enc : TypeId × Value → H) :
    ReturnsInHanded {} Try.checked os 3 .any (Rows.rootNamesSpec.pre6 enc Try.prog Try.f3 Rows.rootNamesRow.domain false) (Rows.rootNamesSpec.post enc Try.prog Try.f3 false true false false) := by
  refine law_lifted_z started (by kernel_rfl) Try.func3 rfl rfl ?_ (by kernel_rfl)
    (ChangeSpec.witness6 (enc := enc) (C := Try.checked) false ⟨#[], #[], []⟩ 8 (by kernel_rfl) (by kernel_rfl) (by kernel_rfl) (by kernel_rfl)) ?_
  · intro ds hd
    match ds, hd with
    | [], _ => exact ⟨rfl, rfl, rfl⟩
  · intro W base args ds ps hval hA hlt hz
    rw [Try.params3] at hA hval
    obtain ⟨rfl, rfl, rfl⟩ := trodAll_none hA
    exact rootNames_walk W

theorem rootNames_holds : Rows.RootNamesSaid :=
  OpenClaim.holds_of_wide 3 Try.f3 rfl rfl rfl rfl rfl rfl rfl ⟨rfl, rfl, rfl, rfl, rfl⟩ rfl rfl rfl rfl rfl (by kernel_rfl) Try.func3 (by kernel_rfl)
    (of_decide_eq_true (by kernel_rfl)) (by unfold Func.isWrapper; rw [if_neg (of_decide_eq_false (by kernel_rfl))]; exact ⟨rfl, rfl⟩)
    (fun os started H enc _ => rootNames_lifted os started H enc)
#print axioms rootNames_holds
end Go.Proofs.Ytbfephekkfieaaa
