/-
  For any steps ahead, any store and any steps at it WorldApart returns true: what is done to one store changes nothing of the others. No condition.
-/
import Derived.Test.YtfkonpmnclknaaaGreatAptW
import Derived.Test.YtfkonpmnclknaaaGreatLawZ
import Derived.ChangeMaps5
namespace Go.Proofs.YtfkonpmnclknaaaGreat
open Go.ChangeShapes Go.WideShapes Go.ChangeAt Go.RowKit
attribute [local go_sem ↓] Go.wp_at_zero Go.wp_at_succ

set_option maxRecDepth 100000 in
set_option maxRecDepth 100000 in
theorem worldApart_lifted (os : Os) (started : os.Started) (H : Type) (enc : TypeId × Value → H) :
    ReturnsInHanded {} Tryz.checked os 8 .any (Rows.worldApartSpec.pre6 enc Tryz.prog Tryz.f8 Rows.worldApartRow.domain false) (Rows.worldApartSpec.post enc Tryz.prog Tryz.f8 false true false false) := by
  refine law_lifted_z started (by kernel_rfl) Tryz.func8 rfl rfl ?_ (by kernel_rfl)
    (ChangeSpec.witness6 (enc := enc) (C := Tryz.checked) false ⟨#[], #[.slice none 0 0, .slice none 0 0, .int .i64 0], []⟩ 8 (by kernel_rfl) (by kernel_rfl) (by kernel_rfl) (by kernel_rfl)) ?_
  · intro ds hd
    match ds, hd with
    | [d1, d2, d3], _ => exact ⟨rfl, rfl, rfl⟩
  · intro W base args ds ps hval hA hlt hz
    rw [Tryz.params8] at hA hval
    obtain ⟨v0, v1, v2, d0, d1, d2, p0, p1, p2, rfl, rfl, _, h0, h1, h2⟩ := trodAll_three hA
    obtain ⟨A, n, c, l, rfl, a0, ok⟩ := open_steps (hval 0 22 v0 rfl rfl) h0
    obtain ⟨A2, n2, c2, l2, rfl, a2, ok2⟩ := open_steps (hval 1 22 v1 rfl rfl) h1
    obtain ⟨k, rfl, _, _, wn⟩ := open_int Tryz.underlying3 (hval 2 3 v2 rfl rfl) h2
    exact worldApart_walk A n c l A2 n2 c2 l2 k (wf_i64 wn) W ⟨a0, ok⟩ ⟨a2, ok2⟩

theorem worldApart_holds : Rows.WorldApartSaid :=
  OpenClaim.holds_of_wide 8 Tryz.f8 rfl rfl rfl rfl rfl rfl rfl ⟨rfl, rfl, rfl, rfl, rfl⟩ rfl rfl rfl rfl rfl (by kernel_rfl) Tryz.func8 (by kernel_rfl)
    (of_decide_eq_true (by kernel_rfl)) (by unfold Func.isWrapper; rw [if_neg (of_decide_eq_false (by kernel_rfl))]; exact ⟨rfl, rfl⟩)
    (fun os started H enc _ => worldApart_lifted os started H enc)
#print axioms worldApart_holds
end Go.Proofs.YtfkonpmnclknaaaGreat
