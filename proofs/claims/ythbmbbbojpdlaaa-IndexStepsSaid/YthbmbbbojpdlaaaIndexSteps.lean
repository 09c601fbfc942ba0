/-
  For any state and any two rows of chunks and places IndexSteps returns true: chunks that are added in two steps make the state that they make at once; dropped in two steps, or at once, the same is left. No condition.
-/
import Derived.Test.YthbmbbbojpdlaaaStepsW
import Derived.Test.YthbmbbbojpdlaaaLawSl
import Derived.ChangeMaps5
namespace Go.Proofs.Ythbmbbbojpdlaaa
open Go.ChangeShapes Go.WideShapes Go.ChangeAt Go.RowKit
attribute [local go_sem ↓] Go.wp_at_zero Go.wp_at_succ

section
variable {H : Type} {enc : TypeId × Value → H} {P : Program} {w : World} {base : Nat} {spare : Nat → Bool} {held : Bool}
theorem trodAll_five {t t' t'' t3 t4 : TypeId} {args : Array Value} {ds : List (DataW H)} {ps : List MemPlace} (h : DataW.TrodAll enc P w base spare held [t, t', t'', t3, t4] args.toList ds ps) :
    ∃ v v' v'' v3 v4 d d' d'' d3 d4 p p' p'' p3 p4, args = #[v, v', v'', v3, v4] ∧ ds = [d, d', d'', d3, d4] ∧ DataW.Trod enc P w base spare held t v d p ∧ DataW.Trod enc P w base spare held t' v' d' p' ∧ DataW.Trod enc P w base spare held t'' v'' d'' p'' ∧ DataW.Trod enc P w base spare held t3 v3 d3 p3 ∧
      DataW.Trod enc P w base spare held t4 v4 d4 p4 := by
  obtain ⟨v, vs, d, ds', p, q, hargs, rfl, rfl, hd, hrest⟩ := trodAll_cons h
  obtain ⟨v', vs', d', ds'', p', q', rfl, rfl, rfl, hd', hrest'⟩ := trodAll_cons hrest
  obtain ⟨v'', vs'', d'', ds''', p'', q'', rfl, rfl, rfl, hd'', hrest''⟩ := trodAll_cons hrest'
  obtain ⟨v3, vs3, d3, ds3, p3, q3, rfl, rfl, rfl, hd3, hrest3⟩ := trodAll_cons hrest''
  obtain ⟨v4, vs4, d4, ds4, p4, q4, rfl, rfl, rfl, hd4, hrest4⟩ := trodAll_cons hrest3
  obtain ⟨rfl, rfl, rfl⟩ := trodAll_nil hrest4
  exact ⟨v, v', v'', v3, v4, d, d', d'', d3, d4, p, p', p'', p3, p4, by cases args; simp_all, rfl, hd, hd', hd'', hd3, hd4⟩
end

set_option maxRecDepth 100000 in
set_option maxRecDepth 100000 in
theorem indexSteps_lifted (os : Os) (started : os.Started) (H : Type) (enc : TypeId × Value → H) :
    ReturnsInHanded {} Try.checked os 14 .any (Rows.indexStepsSpec.pre6 enc Try.prog Try.f14 Rows.indexStepsRow.domain false) (Rows.indexStepsSpec.post enc Try.prog Try.f14 false true false false) := by
  refine law_lifted_z started (by kernel_rfl) Try.func14 rfl rfl ?_ (by kernel_rfl)
    (ChangeSpec.witness6 (enc := enc) (C := Try.checked) false ⟨#[], #[.agg #[.int .i64 0, .int .i64 0, .int .i64 0, .slice none 0 0, .slice none 0 0, .slice none 0 0], .slice none 0 0, .slice none 0 0, .slice none 0 0, .slice none 0 0], []⟩ 8 (by kernel_rfl) (by kernel_rfl) (by kernel_rfl) (by kernel_rfl)) ?_
  · intro ds hd
    match ds, hd with
    | [d1, d2, d3, d4, d5], _ => exact ⟨rfl, rfl, rfl⟩
  · intro W base args ds ps hval hA hlt hz
    rw [Try.params14] at hA hval
    obtain ⟨v0, v1, v2, v3, v4, d0, d1, d2, d3, d4, p0, p1, p2, p3, p4, rfl, rfl, h0, h1, h2, h3, h4⟩ := trodAll_five hA
    obtain ⟨r0, s0, rfl, a0, _, b0⟩ := open_state (hval 0 28 v0 rfl rfl) h0
    obtain ⟨A4, n4, c4, D, rfl, a1, _⟩ := open_texts (hval 1 25 v1 rfl rfl) h1
    obtain ⟨A5, n5, c5, E, rfl, a2, _⟩ := open_texts (hval 2 25 v2 rfl rfl) h2
    obtain ⟨A6, n6, c6, P, rfl, a3, ok3, _⟩ := open_places (hval 3 26 v3 rfl rfl) h3
    obtain ⟨A7, n7, c7, Q, rfl, a4, ok4, _⟩ := open_places (hval 4 26 v4 rfl rfl) h4
    exact indexSteps_walk r0 s0 A4 n4 c4 D A5 n5 c5 E A6 n6 c6 P A7 n7 c7 Q W a0 a1 a2 a3 a4 ok3 ok4 (b0 (hz 0 _ _ rfl rfl))

theorem indexSteps_holds : Rows.IndexStepsSaid :=
  OpenClaim.holds_of_wide 14 Try.f14 rfl rfl rfl rfl rfl rfl rfl ⟨rfl, rfl, rfl, rfl, rfl⟩ rfl rfl rfl rfl rfl (by kernel_rfl) Try.func14 (by kernel_rfl)
    (of_decide_eq_true (by kernel_rfl)) (by unfold Func.isWrapper; rw [if_neg (of_decide_eq_false (by kernel_rfl))]; exact ⟨rfl, rfl⟩)
    (fun os started H enc _ => indexSteps_lifted os started H enc)
#print axioms indexSteps_holds
end Go.Proofs.Ythbmbbbojpdlaaa
