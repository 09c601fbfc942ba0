/-
  For any bytes RootReads returns true: the state of any bytes, or how they are refused, is the document's; what is handed out may be written over. No condition.
-/
import Derived.Test.YthbmbbbojpdlaaaRootReadsW
import Derived.Test.YthbmbbbojpdlaaaLawSt
import Derived.ChangeMaps5
namespace Go.Proofs.Ythbmbbbojpdlaaa
open Go.ChangeShapes Go.WideShapes Go.ChangeAt Go.RowKit
attribute [local go_sem ↓] Go.wp_at_zero Go.wp_at_succ

set_option maxRecDepth 100000 in
set_option maxRecDepth 100000 in
theorem rootReads_lifted (os : Os) (started : os.Started) (H : Type) (enc : TypeId × Value → H) :
    ReturnsInHanded {} Try.checked os 3 .any (Rows.rootReadsSpec.pre6 enc Try.prog Try.f3 Rows.rootReadsRow.domain false) (Rows.rootReadsSpec.post enc Try.prog Try.f3 false true false false) := by
  refine law_lifted_z started (by kernel_rfl) Try.func3 rfl rfl ?_ (by kernel_rfl)
    (ChangeSpec.witness6 (enc := enc) (C := Try.checked) false ⟨#[], #[.string ⟨#[]⟩], []⟩ 8 (by kernel_rfl) (by kernel_rfl) (by kernel_rfl) (by kernel_rfl)) ?_
  · intro ds hd
    match ds, hd with
    | [d1], _ => exact ⟨rfl, rfl, rfl⟩
  · intro W base args ds ps hval hA hlt hz
    rw [Try.params3] at hA hval
    obtain ⟨v0, d0, rfl, rfl, h0⟩ := trodAll_one hA
    obtain ⟨m, rfl, hm⟩ := Go.ChangeMaps.open_string Try.underlying9 (hval 0 9 v0 rfl rfl) h0
    have e : m = str (bl m) := by cases m; simp [str]
    have hl : (bl m).length ≤ 9223372036854775807 := by
      have h2 : m.size = (bl m).length := by cases m; simp [ByteArray.size]
      unfold maxLen at hm
      omega
    rw [e]
    exact rootReads_walk (bl m) W hl

theorem rootReads_holds : Rows.RootReadsSaid :=
  OpenClaim.holds_of_wide 3 Try.f3 rfl rfl rfl rfl rfl rfl rfl ⟨rfl, rfl, rfl, rfl, rfl⟩ rfl rfl rfl rfl rfl (by kernel_rfl) Try.func3 (by kernel_rfl)
    (of_decide_eq_true (by kernel_rfl)) (by unfold Func.isWrapper; rw [if_neg (of_decide_eq_false (by kernel_rfl))]; exact ⟨rfl, rfl⟩)
    (fun os started H enc _ => rootReads_lifted os started H enc)
#print axioms rootReads_holds
end Go.Proofs.Ythbmbbbojpdlaaa
