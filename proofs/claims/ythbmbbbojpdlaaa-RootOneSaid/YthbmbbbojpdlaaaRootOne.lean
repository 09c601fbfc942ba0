/-
  For any two states RootOne returns true: unlike states have unlike bytes; the same ones the same. No condition.
-/
import Derived.Test.YthbmbbbojpdlaaaRootOneW
import Derived.Test.YthbmbbbojpdlaaaLawSt
namespace Go.Proofs.Ythbmbbbojpdlaaa
open Go.ChangeShapes Go.WideShapes Go.ChangeAt Go.RowKit
attribute [local go_sem ↓] Go.wp_at_zero Go.wp_at_succ

set_option maxRecDepth 100000 in
set_option maxRecDepth 100000 in
theorem rootOne_lifted (os : Os) (started : os.Started) (H : Type) (enc : TypeId × Value → H) :
    ReturnsInHanded {} Try.checked os 5 .any (Rows.rootOneSpec.pre6 enc Try.prog Try.f5 Rows.rootOneRow.domain false) (Rows.rootOneSpec.post enc Try.prog Try.f5 false true false false) := by
  refine law_lifted_z started (by kernel_rfl) Try.func5 rfl rfl ?_ (by kernel_rfl)
    (ChangeSpec.witness6 (enc := enc) (C := Try.checked) false ⟨#[], #[.agg #[.int .i64 0, .int .i64 0, .int .i64 0, .slice none 0 0, .slice none 0 0, .slice none 0 0], .agg #[.int .i64 0, .int .i64 0, .int .i64 0, .slice none 0 0, .slice none 0 0, .slice none 0 0]], []⟩ 8 (by kernel_rfl) (by kernel_rfl) (by kernel_rfl) (by kernel_rfl)) ?_
  · intro ds hd
    match ds, hd with
    | [d1, d2], _ => exact ⟨rfl, rfl, rfl⟩
  · intro W base args ds ps hval hA hlt hz
    rw [Try.params5] at hA hval
    obtain ⟨v0, v1, d0, d1, p0, p1, rfl, rfl, rfl, h0, h1⟩ := trodAll_two hA
    obtain ⟨r0, s0, rfl, a0, _, b0⟩ := open_state (hval 0 28 v0 rfl rfl) h0
    obtain ⟨r1, s1, rfl, a1, _, b1⟩ := open_state (hval 1 28 v1 rfl rfl) h1
    exact rootOne_walk r0 r1 s0 s1 W a0 a1 (b0 (hz 0 _ _ rfl rfl)) (b1 (hz 1 _ _ rfl rfl))

theorem rootOne_holds : Rows.RootOneSaid :=
  OpenClaim.holds_of_wide 5 Try.f5 rfl rfl rfl rfl rfl rfl rfl ⟨rfl, rfl, rfl, rfl, rfl⟩ rfl rfl rfl rfl rfl (by kernel_rfl) Try.func5 (by kernel_rfl)
    (of_decide_eq_true (by kernel_rfl)) (by unfold Func.isWrapper; rw [if_neg (of_decide_eq_false (by kernel_rfl))]; exact ⟨rfl, rfl⟩)
    (fun os started H enc _ => rootOne_lifted os started H enc)
#print axioms rootOne_holds
end Go.Proofs.Ythbmbbbojpdlaaa
