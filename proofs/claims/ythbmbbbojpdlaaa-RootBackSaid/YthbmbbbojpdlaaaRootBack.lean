/-
  For any state, any bytes and any number RootBack returns true: Read of Make is the state, Make of Read the bytes; how many bytes a state has; a state that may be may be without one of its snapshots, and without one of its chunks. No condition.
-/
import Derived.Test.YthbmbbbojpdlaaaRootBackW
import Derived.Test.YthbmbbbojpdlaaaLawStC
import Derived.ChangeMaps5
namespace Go.Proofs.Ythbmbbbojpdlaaa
open Go.ChangeShapes Go.WideShapes Go.ChangeAt Go.RowKit
attribute [local go_sem ↓] Go.wp_at_zero Go.wp_at_succ

set_option maxRecDepth 100000 in
set_option maxRecDepth 100000 in
theorem rootBack_lifted (os : Os) (started : os.Started) (H : Type) (enc : TypeId × Value → H) :
    ReturnsInHanded {} Try.checked os 6 .any (Rows.rootBackSpec.pre6 enc Try.prog Try.f6 Rows.rootBackRow.domain false) (Rows.rootBackSpec.post enc Try.prog Try.f6 false true false false) := by
  refine law_lifted_z started (by kernel_rfl) Try.func6 rfl rfl ?_ (by kernel_rfl)
    (ChangeSpec.witness6 (enc := enc) (C := Try.checked) false ⟨#[], #[.agg #[.int .i64 0, .int .i64 0, .int .i64 0, .slice none 0 0, .slice none 0 0, .slice none 0 0], .string ⟨#[]⟩, .int .i64 0], []⟩ 8 (by kernel_rfl) (by kernel_rfl) (by kernel_rfl) (by kernel_rfl)) ?_
  · intro ds hd
    match ds, hd with
    | [d1, d2, d3], _ => exact ⟨rfl, rfl, rfl⟩
  · intro W base args ds ps hval hA hlt hz
    rw [Try.params6] at hA hval
    obtain ⟨v0, v1, v2, d0, d1, d2, p0, p1, p2, rfl, rfl, rfl, h0, h1, h2⟩ := trodAll_three hA
    obtain ⟨r0, s0, rfl, a0, _, b0⟩ := open_state (hval 0 28 v0 rfl rfl) h0
    obtain ⟨m, rfl, _⟩ := Go.ChangeMaps.open_string Try.underlying9 (hval 1 9 v1 rfl rfl) h1
    obtain ⟨n, rfl, _, _, wn⟩ := open_int Try.underlying3 (hval 2 3 v2 rfl rfl) h2
    exact rootBack_walk r0 s0 m n W a0 (b0 (hz 0 _ _ rfl rfl)) (wf_i64 wn) (state_caps r0 s0 (hval 0 28 _ rfl rfl) h0)

theorem rootBack_holds : Rows.RootBackSaid :=
  OpenClaim.holds_of_wide 6 Try.f6 rfl rfl rfl rfl rfl rfl rfl ⟨rfl, rfl, rfl, rfl, rfl⟩ rfl rfl rfl rfl rfl (by kernel_rfl) Try.func6 (by kernel_rfl)
    (of_decide_eq_true (by kernel_rfl)) (by unfold Func.isWrapper; rw [if_neg (of_decide_eq_false (by kernel_rfl))]; exact ⟨rfl, rfl⟩)
    (fun os started H enc _ => rootBack_lifted os started H enc)
#print axioms rootBack_holds
end Go.Proofs.Ythbmbbbojpdlaaa
