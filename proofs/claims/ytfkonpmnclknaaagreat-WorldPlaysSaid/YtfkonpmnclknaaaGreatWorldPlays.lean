/-
  For any number of stores and any steps WorldPlays returns true: each answer is the document's, all that is told of the world is too, and a copy goes its own way. No condition.
-/
import Derived.Test.YtfkonpmnclknaaaGreatPlyW
import Derived.Test.YtfkonpmnclknaaaGreatLawZ
import Derived.ChangeMaps5
namespace Go.Proofs.YtfkonpmnclknaaaGreat
open Go.ChangeShapes Go.WideShapes Go.ChangeAt Go.RowKit
attribute [local go_sem ↓] Go.wp_at_zero Go.wp_at_succ

set_option maxRecDepth 100000 in
set_option maxRecDepth 100000 in
theorem worldPlays_lifted (os : Os) (started : os.Started) (H : Type) (enc : TypeId × Value → H) :
    ReturnsInHanded {} Tryz.checked os 6 .any (Rows.worldPlaysSpec.pre6 enc Tryz.prog Tryz.f6 Rows.worldPlaysRow.domain false) (Rows.worldPlaysSpec.post enc Tryz.prog Tryz.f6 false true false false) := by
  refine law_lifted_z started (by kernel_rfl) Tryz.func6 rfl rfl ?_ (by kernel_rfl)
    (ChangeSpec.witness6 (enc := enc) (C := Tryz.checked) false ⟨#[], #[.int .i64 0, .slice none 0 0], []⟩ 8 (by kernel_rfl) (by kernel_rfl) (by kernel_rfl) (by kernel_rfl)) ?_
  · intro ds hd
    match ds, hd with
    | [d1, d2], _ => exact ⟨rfl, rfl, rfl⟩
  · intro W base args ds ps hval hA hlt hz
    rw [Tryz.params6] at hA hval
    obtain ⟨v0, v1, d0, d1, p0, p1, rfl, rfl, _, h0, h1⟩ := trodAll_two hA
    obtain ⟨k, rfl, _, _, wn⟩ := open_int Tryz.underlying3 (hval 0 3 v0 rfl rfl) h0
    obtain ⟨A, n, c, l, rfl, a0, ok⟩ := open_steps (hval 1 22 v1 rfl rfl) h1
    exact worldPlays_walk k A n c l W ⟨a0, ok⟩

theorem worldPlays_holds : Rows.WorldPlaysSaid :=
  OpenClaim.holds_of_wide 6 Tryz.f6 rfl rfl rfl rfl rfl rfl rfl ⟨rfl, rfl, rfl, rfl, rfl⟩ rfl rfl rfl rfl rfl (by kernel_rfl) Tryz.func6 (by kernel_rfl)
    (of_decide_eq_true (by kernel_rfl)) (by unfold Func.isWrapper; rw [if_neg (of_decide_eq_false (by kernel_rfl))]; exact ⟨rfl, rfl⟩)
    (fun os started H enc _ => worldPlays_lifted os started H enc)
#print axioms worldPlays_holds
end Go.Proofs.YtfkonpmnclknaaaGreat
