/-
  For any acts and any number StoreRefused returns true: what was refused changes nothing that is seen; one write is refused by a Refuse, and no more. No condition.
-/
import Derived.Test.YtcepdigeimedoaaRefusedW
import Derived.ChangeMaps5
namespace Go.Proofs.Ytcepdigeimedoaa
open Go.ChangeShapes Go.WideShapes Go.ChangeAt Go.RowKit
attribute [local go_sem ↓] Go.wp_at_zero Go.wp_at_succ

set_option maxRecDepth 100000 in
set_option maxRecDepth 100000 in
theorem storeRefused_lifted (os : Os) (started : os.Started) (H : Type) (enc : TypeId × Value → H) :
    ReturnsInHanded {} Try.checked os 5 .any (Rows.storeRefusedSpec.pre6 enc Try.prog Try.f5 Rows.storeRefusedRow.domain false) (Rows.storeRefusedSpec.post enc Try.prog Try.f5 false true false false) := by
  refine law_lifted_z started (by kernel_rfl) Try.func5 rfl rfl ?_ (by kernel_rfl)
    (ChangeSpec.witness6 (enc := enc) (C := Try.checked) false ⟨#[], #[.slice none 0 0, .int .i64 0], []⟩ 8 (by kernel_rfl) (by kernel_rfl) (by kernel_rfl) (by kernel_rfl)) ?_
  · intro ds hd
    match ds, hd with
    | [d1, d2], _ => exact ⟨rfl, rfl, rfl⟩
  · intro W base args ds ps hval hA hlt hz
    rw [Try.params5] at hA hval
    obtain ⟨v0, v1, d0, d1, p0, p1, rfl, rfl, _, h0, h1⟩ := trodAll_two hA
    obtain ⟨A, n, c, l, rfl, a0, ok, hw⟩ := open_acts (hval 0 23 v0 rfl rfl) h0
    obtain ⟨k, rfl, _, _, wn⟩ := open_int Try.underlying3 (hval 1 3 v1 rfl rfl) h1
    have hw2 := hw (hz 0 _ _ rfl rfl)
    exact storeRefused_walk A n c l k W a0 hw2.1 hw2.2 ok (wf_i64 wn)

theorem storeRefused_holds : Rows.StoreRefusedSaid :=
  OpenClaim.holds_of_wide 5 Try.f5 rfl rfl rfl rfl rfl rfl rfl ⟨rfl, rfl, rfl, rfl, rfl⟩ rfl rfl rfl rfl rfl (by kernel_rfl) Try.func5 (by kernel_rfl)
    (of_decide_eq_true (by kernel_rfl)) (by unfold Func.isWrapper; rw [if_neg (of_decide_eq_false (by kernel_rfl))]; exact ⟨rfl, rfl⟩)
    (fun os started H enc _ => storeRefused_lifted os started H enc)
#print axioms storeRefused_holds
end Go.Proofs.Ytcepdigeimedoaa
