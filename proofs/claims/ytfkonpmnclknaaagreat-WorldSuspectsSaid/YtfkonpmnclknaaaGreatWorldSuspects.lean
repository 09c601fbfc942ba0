/-
  For any steps WorldSuspects returns true: just those stores are suspect that a fault struck, but Up and Room, since they were cleared last, and clearing leaves those that do not answer. No condition.
-/
import Derived.Test.YtfkonpmnclknaaaGreatSusW
import Derived.Test.YtfkonpmnclknaaaGreatLawZ
import Derived.ChangeMaps5
namespace Go.Proofs.YtfkonpmnclknaaaGreat
open Go.ChangeShapes Go.WideShapes Go.ChangeAt Go.RowKit
attribute [local go_sem ↓] Go.wp_at_zero Go.wp_at_succ

set_option maxRecDepth 100000 in
set_option maxRecDepth 100000 in
theorem worldSuspects_lifted (os : Os) (started : os.Started) (H : Type) (enc : TypeId × Value → H) :
    ReturnsInHanded {} Tryz.checked os 5 .any (Rows.worldSuspectsSpec.pre6 enc Tryz.prog Tryz.f5 Rows.worldSuspectsRow.domain false) (Rows.worldSuspectsSpec.post enc Tryz.prog Tryz.f5 false true false false) := by
  refine law_lifted_z started (by kernel_rfl) Tryz.func5 rfl rfl ?_ (by kernel_rfl)
    (ChangeSpec.witness6 (enc := enc) (C := Tryz.checked) false ⟨#[], #[.slice none 0 0], []⟩ 8 (by kernel_rfl) (by kernel_rfl) (by kernel_rfl) (by kernel_rfl)) ?_
  · intro ds hd
    match ds, hd with
    | [d1], _ => exact ⟨rfl, rfl, rfl⟩
  · intro W base args ds ps hval hA hlt hz
    rw [Tryz.params5] at hA hval
    obtain ⟨v0, d0, rfl, rfl, h0⟩ := trodAll_one hA
    obtain ⟨A, n, c, l, rfl, a0, ok⟩ := open_steps (hval 0 22 v0 rfl rfl) h0
    exact worldSuspects_walk A n c l W ⟨a0, ok⟩

theorem worldSuspects_holds : Rows.WorldSuspectsSaid :=
  OpenClaim.holds_of_wide 5 Tryz.f5 rfl rfl rfl rfl rfl rfl rfl ⟨rfl, rfl, rfl, rfl, rfl⟩ rfl rfl rfl rfl rfl (by kernel_rfl) Tryz.func5 (by kernel_rfl)
    (of_decide_eq_true (by kernel_rfl)) (by unfold Func.isWrapper; rw [if_neg (of_decide_eq_false (by kernel_rfl))]; exact ⟨rfl, rfl⟩)
    (fun os started H enc _ => worldSuspects_lifted os started H enc)
#print axioms worldSuspects_holds
end Go.Proofs.YtfkonpmnclknaaaGreat
