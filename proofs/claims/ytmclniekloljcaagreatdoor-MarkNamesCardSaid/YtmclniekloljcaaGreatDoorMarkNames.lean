/-
  MarkNames returns true: the example; what may not be. (Closed.) The card: the two listed tables of package unicode/utf8 are tied to the program's text; the walk does not read them.
-/
import Derived.Test.YtmclniekloljcaaGreatDoorMnW
import Derived.Test.YtmclniekloljcaaGreatDoorLawL
import Derived.ChangeMaps5
namespace Go.Proofs.YtmclniekloljcaaGreatDoor
open Go.ChangeShapes Go.WideShapes Go.ChangeAt Go.RowKit

set_option maxRecDepth 100000 in
theorem markNames_lifted (os : Os) (started : os.Started) (H : Type) (enc : TypeId × Value → H) :
    ReturnsInHanded {} Tryz.checked os 3 .any (fun w args => (Rows.markNamesSpec.pre enc Tryz.prog Tryz.f3 Rows.markNamesRow.domain false w args ∧ laidMetH Tryz.prog Rows.markNamesRow.laid w) ∧ sizedMet enc Tryz.prog Tryz.f3 (OpenSpec.ofChange Rows.markNamesSpec) false w args)
      (Rows.markNamesSpec.post enc Tryz.prog Tryz.f3 false true false false) := by
  refine law_lifted_l started (by kernel_rfl) Tryz.func3 rfl rfl ?_ (by kernel_rfl)
    (ChangeSpec.witness_shaped (enc := enc) (C := Tryz.checked) (os := os) (X := fun w _ => laidMetH Tryz.prog Rows.markNamesRow.laid w) false (World.laidAll Tryz.prog os Rows.markNamesRow.laid) #[] 8 (World.laidAll_os _ _ _)
      (World.shaped_of_ZipB (by kernel_rfl) (by kernel_rfl)) (by kernel_rfl) (by kernel_rfl) (by kernel_rfl)
      (by rw [MakeChecks.laidMetH_plain _ _ _ (by kernel_rfl)]; exact laidMet_laidAll _ (by kernel_rfl) (by kernel_rfl))) ?_
  · intro ds hd
    match ds, hd with
    | [], _ => exact ⟨rfl, rfl, rfl⟩
  · intro W base args ds ps hval hA hlt hz hL
    rw [Tryz.params3] at hA hval
    obtain ⟨rfl, rfl, rfl⟩ := trodAll_none hA
    exact markNames_walk W

theorem markNames_row : Rows.MarkNamesSaid :=
  OpenClaim.holds_of_wide 3 Tryz.f3 rfl rfl rfl rfl rfl rfl rfl ⟨rfl, rfl, rfl, rfl, rfl⟩ rfl rfl rfl rfl rfl (by kernel_rfl) Tryz.func3 (by kernel_rfl)
    (of_decide_eq_true (by kernel_rfl)) (by unfold Func.isWrapper; rw [if_neg (of_decide_eq_false (by kernel_rfl))]; exact ⟨rfl, rfl⟩)
    (fun os started H enc _ => markNames_lifted os started H enc)

theorem markNames_holds : Rows.MarkNamesCardSaid :=
  Claim7.holds_tied_plain_at .later [] [.data, .pinned] true Rows.markNamesCard.stood.harness true markNames_row (fun _ h => by cases h) (by kernel_rfl) (fun _ h => by cases h) markNames_row_tie rfl ⟨rfl, rfl⟩ (by kernel_rfl) rfl
    (fun f fn hf hfn => by
      obtain rfl : f = 3 := Option.some.inj ((show Tryz.prog.funcNamed "strongbox/strongboxlaw24.MarkNames" = some 3 by kernel_rfl).symm.trans hf) |>.symm
      obtain rfl : fn = Tryz.f3 := (Option.some.inj (Tryz.func3.symm.trans hfn)).symm
      exact ⟨by kernel_rfl, fun j t ht => by
        rw [Tryz.params3] at ht
        simp at ht⟩)
    (by kernel_rfl)
#print axioms markNames_holds
end Go.Proofs.YtmclniekloljcaaGreatDoor
