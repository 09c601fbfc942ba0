/-
  For any state and any digests MarkPacks returns true: a pack is stale just if some chunk in it is live and some is not, dead just if none is live; what is moved is what is live in stale ones. No condition.
-/
import Derived.Test.YtcepdigeimedoaaPacksW
import Derived.Test.YtcepdigeimedoaaLawTx
import Derived.ChangeMaps5
namespace Go.Proofs.Ytcepdigeimedoaa
open Go.ChangeShapes Go.WideShapes Go.ChangeAt Go.RowKit
attribute [local go_sem ↓] Go.wp_at_zero Go.wp_at_succ

set_option maxRecDepth 100000 in
set_option maxRecDepth 100000 in
theorem markPacks_lifted (os : Os) (started : os.Started) (H : Type) (enc : TypeId × Value → H) :
    ReturnsInHanded {} Try.checked os 12 .any (Rows.markPacksSpec.pre6 enc Try.prog Try.f12 Rows.markPacksRow.domain false) (Rows.markPacksSpec.post enc Try.prog Try.f12 false true false false) := by
  refine law_lifted_z started (by kernel_rfl) Try.func12 rfl rfl ?_ (by kernel_rfl)
    (ChangeSpec.witness6 (enc := enc) (C := Try.checked) false ⟨#[], #[.agg #[.int .i64 0, .int .i64 0, .int .i64 0, .slice none 0 0, .slice none 0 0, .slice none 0 0], .slice none 0 0], []⟩ 8 (by kernel_rfl) (by kernel_rfl) (by kernel_rfl) (by kernel_rfl)) ?_
  · intro ds hd
    match ds, hd with
    | [d1, d2], _ => exact ⟨rfl, rfl, rfl⟩
  · intro W base args ds ps hval hA hlt hz
    rw [Try.params12] at hA hval
    obtain ⟨v0, v1, d0, d1, p0, p1, rfl, rfl, _, h0, h1⟩ := trodAll_two hA
    obtain ⟨r0, s0, rfl, a0, _, _⟩ := open_state (hval 0 71 v0 rfl rfl) h0
    obtain ⟨A, n, c, ds, rfl, a1, k1, _⟩ := open_textsx (hval 1 53 v1 rfl rfl) h1
    exact markPacks_walk r0 s0 A n c ds W a0 a1 k1

theorem markPacks_holds : Rows.MarkPacksSaid :=
  OpenClaim.holds_of_wide 12 Try.f12 rfl rfl rfl rfl rfl rfl rfl ⟨rfl, rfl, rfl, rfl, rfl⟩ rfl rfl rfl rfl rfl (by kernel_rfl) Try.func12 (by kernel_rfl)
    (of_decide_eq_true (by kernel_rfl)) (by unfold Func.isWrapper; rw [if_neg (of_decide_eq_false (by kernel_rfl))]; exact ⟨rfl, rfl⟩)
    (fun os started H enc _ => markPacks_lifted os started H enc)
#print axioms markPacks_holds
end Go.Proofs.Ytcepdigeimedoaa
