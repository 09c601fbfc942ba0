/-
  For any two rows of acts StoreSame returns true: which stores are the same is what the document says. No condition.
-/
import Derived.Test.YtfkonpmnclknaaaSameW
import Derived.ChangeMaps5
namespace Go.Proofs.Ytfkonpmnclknaaa
open Go.ChangeShapes Go.WideShapes Go.ChangeAt Go.RowKit
attribute [local go_sem ↓] Go.wp_at_zero Go.wp_at_succ

set_option maxRecDepth 100000 in
set_option maxRecDepth 100000 in
theorem storeSame_lifted (os : Os) (started : os.Started) (H : Type) (enc : TypeId × Value → H) :
    ReturnsInHanded {} Try.checked os 3 .any (Rows.storeSameSpec.pre6 enc Try.prog Try.f3 Rows.storeSameRow.domain false) (Rows.storeSameSpec.post enc Try.prog Try.f3 false true false false) := by
  refine law_lifted_z started (by kernel_rfl) Try.func3 rfl rfl ?_ (by kernel_rfl)
    (ChangeSpec.witness6 (enc := enc) (C := Try.checked) false ⟨#[], #[.slice none 0 0, .slice none 0 0, .bool false], []⟩ 8 (by kernel_rfl) (by kernel_rfl) (by kernel_rfl) (by kernel_rfl)) ?_
  · intro ds hd
    match ds, hd with
    | [d1, d2, d3], _ => exact ⟨rfl, rfl, rfl⟩
  · intro W base args ds ps hval hA hlt hz
    rw [Try.params3] at hA hval
    obtain ⟨v0, v1, v2, d0, d1, d2, p0, p1, p2, rfl, rfl, _, h0, h1, h2⟩ := trodAll_three hA
    obtain ⟨A, n, c, l, rfl, a0, ok, hw⟩ := open_acts (hval 0 22 v0 rfl rfl) h0
    obtain ⟨A2, n2, c2, l2, rfl, a2, ok2, hw2⟩ := open_acts (hval 1 22 v1 rfl rfl) h1
    obtain ⟨bh, rfl, _⟩ := open_bool Try.underlying4 (hval 2 4 v2 rfl rfl) h2
    have k1 := hw (hz 0 _ _ rfl rfl)
    have k2 := hw2 (hz 1 _ _ rfl rfl)
    exact storeSame_walk A n c l A2 n2 c2 l2 bh W a0 k1.1 k1.2 ok a2 k2.1 k2.2 ok2

theorem storeSame_holds : Rows.StoreSameSaid :=
  OpenClaim.holds_of_wide 3 Try.f3 rfl rfl rfl rfl rfl rfl rfl ⟨rfl, rfl, rfl, rfl, rfl⟩ rfl rfl rfl rfl rfl (by kernel_rfl) Try.func3 (by kernel_rfl)
    (of_decide_eq_true (by kernel_rfl)) (by unfold Func.isWrapper; rw [if_neg (of_decide_eq_false (by kernel_rfl))]; exact ⟨rfl, rfl⟩)
    (fun os started H enc _ => storeSame_lifted os started H enc)
#print axioms storeSame_holds
end Go.Proofs.Ytfkonpmnclknaaa
