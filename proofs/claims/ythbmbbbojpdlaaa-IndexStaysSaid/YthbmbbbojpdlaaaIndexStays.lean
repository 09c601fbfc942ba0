/-
  For any state, any digests and any places IndexStays returns true: what Add and Drop tell may be; what was added is found, what was dropped is not, all others stand where they stood; Drop of what was added is as it was; the chunks of all packs, put together, are all chunks, each once. No condition.
-/
import Derived.Test.YthbmbbbojpdlaaaStaysW
import Derived.Test.YthbmbbbojpdlaaaLawSl
import Derived.ChangeMaps5
namespace Go.Proofs.Ythbmbbbojpdlaaa
open Go.ChangeShapes Go.WideShapes Go.ChangeAt Go.RowKit
attribute [local go_sem ↓] Go.wp_at_zero Go.wp_at_succ

set_option maxRecDepth 100000 in
set_option maxRecDepth 100000 in
theorem indexStays_lifted (os : Os) (started : os.Started) (H : Type) (enc : TypeId × Value → H) :
    ReturnsInHanded {} Try.checked os 13 .any (Rows.indexStaysSpec.pre6 enc Try.prog Try.f13 Rows.indexStaysRow.domain false) (Rows.indexStaysSpec.post enc Try.prog Try.f13 false true false false) := by
  refine law_lifted_z started (by kernel_rfl) Try.func13 rfl rfl ?_ (by kernel_rfl)
    (ChangeSpec.witness6 (enc := enc) (C := Try.checked) false ⟨#[], #[.agg #[.int .i64 0, .int .i64 0, .int .i64 0, .slice none 0 0, .slice none 0 0, .slice none 0 0], .slice none 0 0, .slice none 0 0], []⟩ 8 (by kernel_rfl) (by kernel_rfl) (by kernel_rfl) (by kernel_rfl)) ?_
  · intro ds hd
    match ds, hd with
    | [d1, d2, d3], _ => exact ⟨rfl, rfl, rfl⟩
  · intro W base args ds ps hval hA hlt hz
    rw [Try.params13] at hA hval
    obtain ⟨v0, v1, v2, d0, d1, d2, p0, p1, p2, rfl, rfl, _, h0, h1, h2⟩ := trodAll_three hA
    obtain ⟨r0, s0, rfl, a0, _, b0⟩ := open_state (hval 0 28 v0 rfl rfl) h0
    obtain ⟨A, n, c, ds, rfl, a1, b1⟩ := open_texts (hval 1 25 v1 rfl rfl) h1
    obtain ⟨A', n', c', qs, rfl, a2, ok2, b2⟩ := open_places (hval 2 26 v2 rfl rfl) h2
    exact indexStays_walk r0 s0 A n c ds A' n' c' qs W a0 a1 a2 ok2 (b0 (hz 0 _ _ rfl rfl))

theorem indexStays_holds : Rows.IndexStaysSaid :=
  OpenClaim.holds_of_wide 13 Try.f13 rfl rfl rfl rfl rfl rfl rfl ⟨rfl, rfl, rfl, rfl, rfl⟩ rfl rfl rfl rfl rfl (by kernel_rfl) Try.func13 (by kernel_rfl)
    (of_decide_eq_true (by kernel_rfl)) (by unfold Func.isWrapper; rw [if_neg (of_decide_eq_false (by kernel_rfl))]; exact ⟨rfl, rfl⟩)
    (fun os started H enc _ => indexStays_lifted os started H enc)
#print axioms indexStays_holds
end Go.Proofs.Ythbmbbbojpdlaaa
