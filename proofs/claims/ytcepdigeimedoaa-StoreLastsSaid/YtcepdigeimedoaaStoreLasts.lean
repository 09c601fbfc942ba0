/-
  For any objects, any writes, whatever survives, StoreLasts returns true: behind a Sync, whatever is put and taken away then, and the power's going: if nothing survives, the store has what was seen at the Sync; if all does, what was seen last; else each object is as it was at the Sync, or begins as some put behind it made it, or is gone, if a del stood behind it. No condition.
-/
import Derived.Test.YtcepdigeimedoaaLastsW
import Derived.ChangeMaps5
namespace Go.Proofs.Ytcepdigeimedoaa
open Go.ChangeShapes Go.WideShapes Go.ChangeAt Go.RowKit
attribute [local go_sem ↓] Go.wp_at_zero Go.wp_at_succ

set_option maxRecDepth 100000 in
set_option maxRecDepth 100000 in
theorem storeLasts_lifted (os : Os) (started : os.Started) (H : Type) (enc : TypeId × Value → H) :
    ReturnsInHanded {} Try.checked os 3 .any (Rows.storeLastsSpec.pre6 enc Try.prog Try.f3 Rows.storeLastsRow.domain false) (Rows.storeLastsSpec.post enc Try.prog Try.f3 false true false false) := by
  refine law_lifted_z started (by kernel_rfl) Try.func3 rfl rfl ?_ (by kernel_rfl)
    (ChangeSpec.witness6 (enc := enc) (C := Try.checked) false ⟨#[], #[.slice none 0 0, .slice none 0 0, .slice none 0 0], []⟩ 8 (by kernel_rfl) (by kernel_rfl) (by kernel_rfl) (by kernel_rfl)) ?_
  · intro ds hd
    match ds, hd with
    | [d1, d2, d3], _ => exact ⟨rfl, rfl, rfl⟩
  · intro W base args ds ps hval hA hlt hz
    rw [Try.params3] at hA hval
    obtain ⟨v0, v1, v2, d0, d1, d2, p0, p1, p2, rfl, rfl, rfl, h0, h1, h2⟩ := trodAll_three hA
    obtain ⟨A0, n0, c0, fs, rfl, a0, hw0⟩ := open_objs (hval 0 22 v0 rfl rfl) h0
    obtain ⟨A, n, c, l, rfl, a1, ok, hw⟩ := open_acts (hval 1 23 v1 rfl rfl) h1
    obtain ⟨A2, n2, c2, ks, rfl, a2⟩ := open_ints (hval 2 24 v2 rfl rfl) h2
    have hw2 := hw (hz 1 _ _ rfl rfl)
    exact storeLasts_walk A0 n0 c0 fs A n c l A2 n2 c2 ks W a0 (hw0 (hz 0 _ _ rfl rfl)).2 a1 hw2.1 hw2.2 ok a2

theorem storeLasts_holds : Rows.StoreLastsSaid :=
  OpenClaim.holds_of_wide 3 Try.f3 rfl rfl rfl rfl rfl rfl rfl ⟨rfl, rfl, rfl, rfl, rfl⟩ rfl rfl rfl rfl rfl (by kernel_rfl) Try.func3 (by kernel_rfl)
    (of_decide_eq_true (by kernel_rfl)) (by unfold Func.isWrapper; rw [if_neg (of_decide_eq_false (by kernel_rfl))]; exact ⟨rfl, rfl⟩)
    (fun os started H enc _ => storeLasts_lifted os started H enc)
#print axioms storeLasts_holds
end Go.Proofs.Ytcepdigeimedoaa
