/-
  For any acts and any room StoreRoom returns true: of a store that has a room, behind a Put of another name than m0 and m1 that was OK, the data of all others than these are no more than it; a Put of these is never refused for room. No condition.
-/
import Derived.Test.YtcepdigeimedoaaRoomW
import Derived.ChangeMaps5
namespace Go.Proofs.Ytcepdigeimedoaa
open Go.ChangeShapes Go.WideShapes Go.ChangeAt Go.RowKit
attribute [local go_sem ↓] Go.wp_at_zero Go.wp_at_succ

set_option maxRecDepth 100000 in
set_option maxRecDepth 100000 in
theorem storeRoom_lifted (os : Os) (started : os.Started) (H : Type) (enc : TypeId × Value → H) :
    ReturnsInHanded {} Try.checked os 4 .any (Rows.storeRoomSpec.pre6 enc Try.prog Try.f4 Rows.storeRoomRow.domain false) (Rows.storeRoomSpec.post enc Try.prog Try.f4 false true false false) := by
  refine law_lifted_z started (by kernel_rfl) Try.func4 rfl rfl ?_ (by kernel_rfl)
    (ChangeSpec.witness6 (enc := enc) (C := Try.checked) false ⟨#[], #[.slice none 0 0, .int .i64 0], []⟩ 8 (by kernel_rfl) (by kernel_rfl) (by kernel_rfl) (by kernel_rfl)) ?_
  · intro ds hd
    match ds, hd with
    | [d1, d2], _ => exact ⟨rfl, rfl, rfl⟩
  · intro W base args ds ps hval hA hlt hz
    rw [Try.params4] at hA hval
    obtain ⟨v0, v1, d0, d1, p0, p1, rfl, rfl, _, h0, h1⟩ := trodAll_two hA
    obtain ⟨A, n, c, l, rfl, a0, ok, hw⟩ := open_acts (hval 0 23 v0 rfl rfl) h0
    obtain ⟨k, rfl, _, _, wn⟩ := open_int Try.underlying3 (hval 1 3 v1 rfl rfl) h1
    have hw2 := hw (hz 0 _ _ rfl rfl)
    exact storeRoom_walk A n c l k W a0 hw2.1 hw2.2 ok (wf_i64 wn)

theorem storeRoom_holds : Rows.StoreRoomSaid :=
  OpenClaim.holds_of_wide 4 Try.f4 rfl rfl rfl rfl rfl rfl rfl ⟨rfl, rfl, rfl, rfl, rfl⟩ rfl rfl rfl rfl rfl (by kernel_rfl) Try.func4 (by kernel_rfl)
    (of_decide_eq_true (by kernel_rfl)) (by unfold Func.isWrapper; rw [if_neg (of_decide_eq_false (by kernel_rfl))]; exact ⟨rfl, rfl⟩)
    (fun os started H enc _ => storeRoom_lifted os started H enc)
#print axioms storeRoom_holds
end Go.Proofs.Ytcepdigeimedoaa
