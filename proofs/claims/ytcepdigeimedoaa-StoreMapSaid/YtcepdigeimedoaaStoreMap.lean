/-
  For any acts StoreMap returns true: as long as no fault strikes, and the power does not go, a store has what a map has, whatever is put and taken away, and synced in between. No condition.
-/
import Derived.Test.YtcepdigeimedoaaMapW
import Derived.ChangeMaps5
namespace Go.Proofs.Ytcepdigeimedoaa
open Go.ChangeShapes Go.WideShapes Go.ChangeAt Go.RowKit
attribute [local go_sem ↓] Go.wp_at_zero Go.wp_at_succ

set_option maxRecDepth 100000 in
set_option maxRecDepth 100000 in
theorem storeMap_lifted (os : Os) (started : os.Started) (H : Type) (enc : TypeId × Value → H) :
    ReturnsInHanded {} Try.checked os 6 .any (Rows.storeMapSpec.pre6 enc Try.prog Try.f6 Rows.storeMapRow.domain false) (Rows.storeMapSpec.post enc Try.prog Try.f6 false true false false) := by
  refine law_lifted_z started (by kernel_rfl) Try.func6 rfl rfl ?_ (by kernel_rfl)
    (ChangeSpec.witness6 (enc := enc) (C := Try.checked) false ⟨#[], #[.slice none 0 0], []⟩ 8 (by kernel_rfl) (by kernel_rfl) (by kernel_rfl) (by kernel_rfl)) ?_
  · intro ds hd
    match ds, hd with
    | [d1], _ => exact ⟨rfl, rfl, rfl⟩
  · intro W base args ds ps hval hA hlt hz
    rw [Try.params6] at hA hval
    obtain ⟨v0, d0, rfl, rfl, h0⟩ := trodAll_one hA
    obtain ⟨A, n, c, l, rfl, a0, ok, hw⟩ := open_acts (hval 0 23 v0 rfl rfl) h0
    have hw2 := hw (hz 0 _ _ rfl rfl)
    exact storeMap_walk A n c l W a0 hw2.1 hw2.2 ok

theorem storeMap_holds : Rows.StoreMapSaid :=
  OpenClaim.holds_of_wide 6 Try.f6 rfl rfl rfl rfl rfl rfl rfl ⟨rfl, rfl, rfl, rfl, rfl⟩ rfl rfl rfl rfl rfl (by kernel_rfl) Try.func6 (by kernel_rfl)
    (of_decide_eq_true (by kernel_rfl)) (by unfold Func.isWrapper; rw [if_neg (of_decide_eq_false (by kernel_rfl))]; exact ⟨rfl, rfl⟩)
    (fun os started H enc _ => storeMap_lifted os started H enc)
#print axioms storeMap_holds
end Go.Proofs.Ytcepdigeimedoaa
