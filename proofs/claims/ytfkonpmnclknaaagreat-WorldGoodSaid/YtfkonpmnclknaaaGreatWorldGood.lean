/-
  For any steps ahead and behind, any store, object and survivors WorldGood returns true: what was synced stands behind a crash, if no fault struck the store and nothing was written of its name since. No condition.
-/
import Derived.Test.YtfkonpmnclknaaaGreatGodW
import Derived.Test.YtfkonpmnclknaaaGreatLawZ
import Derived.ChangeMaps5
namespace Go.Proofs.YtfkonpmnclknaaaGreat
open Go.ChangeShapes Go.WideShapes Go.ChangeAt Go.RowKit
attribute [local go_sem ↓] Go.wp_at_zero Go.wp_at_succ

section
variable {H : Type} {enc : TypeId × Value → H} {P : Program} {w : World} {base : Nat} {spare : Nat → Bool} {held : Bool}
theorem trodAll_five {t t' t'' t3 t4 : TypeId} {args : Array Value} {ds : List (DataW H)} {ps : List MemPlace} (h : DataW.TrodAll enc P w base spare held [t, t', t'', t3, t4] args.toList ds ps) :
    ∃ v v' v'' v3 v4 d d' d'' d3 d4 p p' p'' p3 p4, args = #[v, v', v'', v3, v4] ∧ ds = [d, d', d'', d3, d4] ∧ DataW.Trod enc P w base spare held t v d p ∧ DataW.Trod enc P w base spare held t' v' d' p' ∧ DataW.Trod enc P w base spare held t'' v'' d'' p'' ∧ DataW.Trod enc P w base spare held t3 v3 d3 p3 ∧
      DataW.Trod enc P w base spare held t4 v4 d4 p4 := by
  obtain ⟨v, vs, d, ds', p, q, hargs, rfl, rfl, hd, hrest⟩ := trodAll_cons h
  obtain ⟨v', vs', d', ds'', p', q', rfl, rfl, rfl, hd', hrest'⟩ := trodAll_cons hrest
  obtain ⟨v'', vs'', d'', ds''', p'', q'', rfl, rfl, rfl, hd'', hrest''⟩ := trodAll_cons hrest'
  obtain ⟨v3, vs3, d3, ds3, p3, q3, rfl, rfl, rfl, hd3, hrest3⟩ := trodAll_cons hrest''
  obtain ⟨v4, vs4, d4, ds4, p4, q4, rfl, rfl, rfl, hd4, hrest4⟩ := trodAll_cons hrest3
  obtain ⟨rfl, rfl, rfl⟩ := trodAll_nil hrest4
  exact ⟨v, v', v'', v3, v4, d, d', d'', d3, d4, p, p', p'', p3, p4, by cases args; simp_all, rfl, hd, hd', hd'', hd3, hd4⟩
end

set_option maxRecDepth 100000 in
set_option maxRecDepth 100000 in
theorem worldGood_lifted (os : Os) (started : os.Started) (H : Type) (enc : TypeId × Value → H) :
    ReturnsInHanded {} Tryz.checked os 3 .any (Rows.worldGoodSpec.pre6 enc Tryz.prog Tryz.f3 Rows.worldGoodRow.domain false) (Rows.worldGoodSpec.post enc Tryz.prog Tryz.f3 false true false false) := by
  refine law_lifted_z started (by kernel_rfl) Tryz.func3 rfl rfl ?_ (by kernel_rfl)
    (ChangeSpec.witness6 (enc := enc) (C := Tryz.checked) false ⟨#[], #[.slice none 0 0, .slice none 0 0, .int .i64 0, .agg #[.string ⟨#[]⟩, .string ⟨#[]⟩], .slice none 0 0], []⟩ 8 (by kernel_rfl) (by kernel_rfl) (by kernel_rfl) (by kernel_rfl)) ?_
  · intro ds hd
    match ds, hd with
    | [d1, d2, d3, d4, d5], _ => exact ⟨rfl, rfl, rfl⟩
  · intro W base args ds ps hval hA hlt hz
    rw [Tryz.params3] at hA hval
    obtain ⟨v0, v1, v2, v3, v4, d0, d1, d2, d3, d4, p0, p1, p2, p3, p4, rfl, rfl, h0, h1, h2, h3, h4⟩ := trodAll_five hA
    obtain ⟨A, n, c, l, rfl, a0, ok⟩ := open_steps (hval 0 22 v0 rfl rfl) h0
    obtain ⟨A2, n2, c2, l2, rfl, a2, ok2⟩ := open_steps (hval 1 22 v1 rfl rfl) h1
    obtain ⟨k, rfl, _, _, wn⟩ := open_int Tryz.underlying3 (hval 2 3 v2 rfl rfl) h2
    obtain ⟨o, rfl, hw⟩ := open_object (hval 3 24 v3 rfl rfl) h3
    obtain ⟨A5, n5, c5, ks, rfl, a5, ok5⟩ := open_survs (hval 4 25 v4 rfl rfl) h4
    have hw2 := hw (hz 3 _ _ rfl rfl)
    exact worldGood_walk A n c l A2 n2 c2 l2 k o (Nat.le_trans hw2.1 (by decide)) A5 n5 c5 ks W ⟨a0, ok⟩ ⟨a2, ok2⟩ ⟨a5, ok5⟩

theorem worldGood_holds : Rows.WorldGoodSaid :=
  OpenClaim.holds_of_wide 3 Tryz.f3 rfl rfl rfl rfl rfl rfl rfl ⟨rfl, rfl, rfl, rfl, rfl⟩ rfl rfl rfl rfl rfl (by kernel_rfl) Tryz.func3 (by kernel_rfl)
    (of_decide_eq_true (by kernel_rfl)) (by unfold Func.isWrapper; rw [if_neg (of_decide_eq_false (by kernel_rfl))]; exact ⟨rfl, rfl⟩)
    (fun os started H enc _ => worldGood_lifted os started H enc)
#print axioms worldGood_holds
end Go.Proofs.YtfkonpmnclknaaaGreat
