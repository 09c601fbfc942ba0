/-
  For any steps ahead and any calls behind a cut WorldDark returns true: while the power is gone nothing changes. No condition.
-/
import Derived.Test.YtfkonpmnclknaaaGreatDrkW
import Derived.Test.YtfkonpmnclknaaaGreatLawZ
import Derived.ChangeMaps5
namespace Go.Proofs.YtfkonpmnclknaaaGreat
open Go.ChangeShapes Go.WideShapes Go.ChangeAt Go.RowKit
attribute [local go_sem ↓] Go.wp_at_zero Go.wp_at_succ

set_option maxRecDepth 100000 in
set_option maxRecDepth 100000 in
theorem worldDark_lifted (os : Os) (started : os.Started) (H : Type) (enc : TypeId × Value → H) :
    ReturnsInHanded {} Tryz.checked os 7 .any (Rows.worldDarkSpec.pre6 enc Tryz.prog Tryz.f7 Rows.worldDarkRow.domain false) (Rows.worldDarkSpec.post enc Tryz.prog Tryz.f7 false true false false) := by
  refine law_lifted_z started (by kernel_rfl) Tryz.func7 rfl rfl ?_ (by kernel_rfl)
    (ChangeSpec.witness6 (enc := enc) (C := Tryz.checked) false ⟨#[], #[.slice none 0 0, .slice none 0 0], []⟩ 8 (by kernel_rfl) (by kernel_rfl) (by kernel_rfl) (by kernel_rfl)) ?_
  · intro ds hd
    match ds, hd with
    | [d1, d2], _ => exact ⟨rfl, rfl, rfl⟩
  · intro W base args ds ps hval hA hlt hz
    rw [Tryz.params7] at hA hval
    obtain ⟨v0, v1, d0, d1, p0, p1, rfl, rfl, _, h0, h1⟩ := trodAll_two hA
    obtain ⟨A, n, c, l, rfl, a0, ok⟩ := open_steps (hval 0 22 v0 rfl rfl) h0
    obtain ⟨A2, n2, c2, l2, rfl, a2, ok2⟩ := open_steps (hval 1 22 v1 rfl rfl) h1
    exact worldDark_walk A n c l A2 n2 c2 l2 W ⟨a0, ok⟩ ⟨a2, ok2⟩

theorem worldDark_holds : Rows.WorldDarkSaid :=
  OpenClaim.holds_of_wide 7 Tryz.f7 rfl rfl rfl rfl rfl rfl rfl ⟨rfl, rfl, rfl, rfl, rfl⟩ rfl rfl rfl rfl rfl (by kernel_rfl) Tryz.func7 (by kernel_rfl)
    (of_decide_eq_true (by kernel_rfl)) (by unfold Func.isWrapper; rw [if_neg (of_decide_eq_false (by kernel_rfl))]; exact ⟨rfl, rfl⟩)
    (fun os started H enc _ => worldDark_lifted os started H enc)
#print axioms worldDark_holds
end Go.Proofs.YtfkonpmnclknaaaGreat
