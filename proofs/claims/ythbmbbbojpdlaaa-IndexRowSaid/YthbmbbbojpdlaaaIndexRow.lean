/-
  For any state and any text IndexRow returns true: the places that Of tells rise, none runs into the next one, and Find tells each of them of its chunk; a pack that Packs does not tell has none. No condition.
-/
import Derived.Test.YthbmbbbojpdlaaaRowW
import Derived.Test.YthbmbbbojpdlaaaLawSt
import Derived.ChangeMaps5
namespace Go.Proofs.Ythbmbbbojpdlaaa
open Go.ChangeShapes Go.WideShapes Go.ChangeAt Go.RowKit
attribute [local go_sem ↓] Go.wp_at_zero Go.wp_at_succ

set_option maxRecDepth 100000 in
set_option maxRecDepth 100000 in
theorem indexRow_lifted (os : Os) (started : os.Started) (H : Type) (enc : TypeId × Value → H) :
    ReturnsInHanded {} Try.checked os 11 .any (Rows.indexRowSpec.pre6 enc Try.prog Try.f11 Rows.indexRowRow.domain false) (Rows.indexRowSpec.post enc Try.prog Try.f11 false true false false) := by
  refine law_lifted_z started (by kernel_rfl) Try.func11 rfl rfl ?_ (by kernel_rfl)
    (ChangeSpec.witness6 (enc := enc) (C := Try.checked) false ⟨#[], #[.agg #[.int .i64 0, .int .i64 0, .int .i64 0, .slice none 0 0, .slice none 0 0, .slice none 0 0], .string ⟨#[]⟩], []⟩ 8 (by kernel_rfl) (by kernel_rfl) (by kernel_rfl) (by kernel_rfl)) ?_
  · intro ds hd
    match ds, hd with
    | [d1, d2], _ => exact ⟨rfl, rfl, rfl⟩
  · intro W base args ds ps hval hA hlt hz
    rw [Try.params11] at hA hval
    obtain ⟨v0, v1, d0, d1, p0, p1, rfl, rfl, _, h0, h1⟩ := trodAll_two hA
    obtain ⟨r0, s0, rfl, a0, _, b0⟩ := open_state (hval 0 28 v0 rfl rfl) h0
    obtain ⟨m, rfl, _⟩ := Go.ChangeMaps.open_string Try.underlying9 (hval 1 9 v1 rfl rfl) h1
    exact indexRow_walk r0 s0 m W a0 (b0 (hz 0 _ _ rfl rfl))

theorem indexRow_holds : Rows.IndexRowSaid :=
  OpenClaim.holds_of_wide 11 Try.f11 rfl rfl rfl rfl rfl rfl rfl ⟨rfl, rfl, rfl, rfl, rfl⟩ rfl rfl rfl rfl rfl (by kernel_rfl) Try.func11 (by kernel_rfl)
    (of_decide_eq_true (by kernel_rfl)) (by unfold Func.isWrapper; rw [if_neg (of_decide_eq_false (by kernel_rfl))]; exact ⟨rfl, rfl⟩)
    (fun os started H enc _ => indexRow_lifted os started H enc)
#print axioms indexRow_holds
end Go.Proofs.Ythbmbbbojpdlaaa
