/-
  For any state, any digests and any more of them MarkMore returns true: by more digests no more chunks are gone, and no more packs are dead. No condition.
-/
import Derived.Test.YtcepdigeimedoaaMoreW
import Derived.Test.YtcepdigeimedoaaLawTx
import Derived.ChangeMaps5
namespace Go.Proofs.Ytcepdigeimedoaa
open Go.ChangeShapes Go.WideShapes Go.ChangeAt Go.RowKit
attribute [local go_sem ↓] Go.wp_at_zero Go.wp_at_succ

set_option maxRecDepth 100000 in
set_option maxRecDepth 100000 in
theorem markMore_lifted (os : Os) (started : os.Started) (H : Type) (enc : TypeId × Value → H) :
    ReturnsInHanded {} Try.checked os 13 .any (Rows.markMoreSpec.pre6 enc Try.prog Try.f13 Rows.markMoreRow.domain false) (Rows.markMoreSpec.post enc Try.prog Try.f13 false true false false) := by
  refine law_lifted_z started (by kernel_rfl) Try.func13 rfl rfl ?_ (by kernel_rfl)
    (ChangeSpec.witness6 (enc := enc) (C := Try.checked) false ⟨#[], #[.agg #[.int .i64 0, .int .i64 0, .int .i64 0, .slice none 0 0, .slice none 0 0, .slice none 0 0], .slice none 0 0, .slice none 0 0], []⟩ 8 (by kernel_rfl) (by kernel_rfl) (by kernel_rfl) (by kernel_rfl)) ?_
  · intro ds hd
    match ds, hd with
    | [d1, d2, d3], _ => exact ⟨rfl, rfl, rfl⟩
  · intro W base args ds ps hval hA hlt hz
    rw [Try.params13] at hA hval
    obtain ⟨v0, v1, v2, d0, d1, d2, p0, p1, p2, rfl, rfl, _, h0, h1, h2⟩ := trodAll_three hA
    obtain ⟨r0, s0, rfl, a0, _, _⟩ := open_state (hval 0 71 v0 rfl rfl) h0
    obtain ⟨A, n, c, ds, rfl, a1, k1, _⟩ := open_textsx (hval 1 53 v1 rfl rfl) h1
    obtain ⟨A', n', c', es, rfl, a2, k2, _⟩ := open_textsx (hval 2 53 v2 rfl rfl) h2
    exact markMore_walk r0 s0 A n c ds A' n' c' es W a0 a1 k1 a2 k2

theorem markMore_holds : Rows.MarkMoreSaid :=
  OpenClaim.holds_of_wide 13 Try.f13 rfl rfl rfl rfl rfl rfl rfl ⟨rfl, rfl, rfl, rfl, rfl⟩ rfl rfl rfl rfl rfl (by kernel_rfl) Try.func13 (by kernel_rfl)
    (of_decide_eq_true (by kernel_rfl)) (by unfold Func.isWrapper; rw [if_neg (of_decide_eq_false (by kernel_rfl))]; exact ⟨rfl, rfl⟩)
    (fun os started H enc _ => markMore_lifted os started H enc)
#print axioms markMore_holds
end Go.Proofs.Ytcepdigeimedoaa
