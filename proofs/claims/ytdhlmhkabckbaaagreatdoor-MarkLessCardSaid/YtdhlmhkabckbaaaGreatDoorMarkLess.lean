/-
  For any snapshots, any chunks and any number MarkLess returns true: with a snapshot less, nothing more is needed. The card: the two listed tables of package unicode/utf8 are tied to the program's text; the walk does not read them.
-/
import Derived.Test.YtdhlmhkabckbaaaGreatDoorMlL
import Derived.Test.YtdhlmhkabckbaaaGreatDoorLawL
import Derived.Test.YtdhlmhkabckbaaaGreatDoorLawSl
import Derived.ChangeMaps5
namespace Go.Proofs.YtdhlmhkabckbaaaGreatDoor
open Go.ChangeShapes Go.WideShapes Go.ChangeAt Go.RowKit

theorem snaps_cap {H : Type} {enc : TypeId × Value → H} {W : World} {d : DataW H} {p : List MemPlace} {A : Option Addr} {n c : Nat} (h : DataW.Trod enc Tryz.prog W 0 (fun _ => true) true 22 (.slice A n c) d p) : n ≤ c := by
  obtain ⟨fuel, hf⟩ := h
  rcases DataW.trod_slice Tryz.underlying22 hf with ⟨e, _⟩ | ⟨a, len, cap, _, _, _, _, e, _, _, hl, _⟩
  · simp [Value.cells] at e
    omega
  · simp [Value.cells] at e
    omega

set_option maxRecDepth 100000 in
theorem markLess_lifted (os : Os) (started : os.Started) (H : Type) (enc : TypeId × Value → H) :
    ReturnsInHanded {} Tryz.checked os 3 .any (fun w args => (Rows.markLessSpec.pre enc Tryz.prog Tryz.f3 Rows.markLessRow.domain false w args ∧ laidMetH Tryz.prog Rows.markLessRow.laid w) ∧ sizedMet enc Tryz.prog Tryz.f3 (OpenSpec.ofChange Rows.markLessSpec) false w args)
      (Rows.markLessSpec.post enc Tryz.prog Tryz.f3 false true false false) := by
  refine law_lifted_l started (by kernel_rfl) Tryz.func3 rfl rfl ?_ (by kernel_rfl)
    (ChangeSpec.witness_shaped (enc := enc) (C := Tryz.checked) (os := os) (X := fun w _ => laidMetH Tryz.prog Rows.markLessRow.laid w) false (World.laidAll Tryz.prog os Rows.markLessRow.laid) #[.slice none 0 0, .slice none 0 0, .int .i64 0] 8 (World.laidAll_os _ _ _)
      (World.shaped_of_ZipB (by kernel_rfl) (by kernel_rfl)) (by kernel_rfl) (by kernel_rfl) (by kernel_rfl)
      (by rw [MakeChecks.laidMetH_plain _ _ _ (by kernel_rfl)]; exact laidMet_laidAll _ (by kernel_rfl) (by kernel_rfl))) ?_
  · intro ds hd
    match ds, hd with
    | [d1, d2, d3], _ => exact ⟨rfl, rfl, rfl⟩
  · intro W base args ds ps hval hA hlt hz hL
    rw [Tryz.params3] at hA hval
    obtain ⟨v0, v1, v2, d0, d1, d2, p0, p1, p2, rfl, rfl, _, h0, h1, h2⟩ := trodAll_three hA
    obtain ⟨A, n, c, l, rfl, a0, _⟩ := open_snaps (hval 0 22 v0 rfl rfl) h0
    obtain ⟨A', m, c', es, rfl, a1, _, _⟩ := open_textsx (hval 1 23 v1 rfl rfl) h1
    obtain ⟨k, rfl, _, _, wn⟩ := open_int Tryz.underlying3 (hval 2 3 v2 rfl rfl) h2
    exact markLess_walk A n c l A' m c' es k W a0 (snaps_cap h0) a1 (wf_i64 wn)

theorem markLess_row : Rows.MarkLessSaid :=
  OpenClaim.holds_of_wide 3 Tryz.f3 rfl rfl rfl rfl rfl rfl rfl ⟨rfl, rfl, rfl, rfl, rfl⟩ rfl rfl rfl rfl rfl (by kernel_rfl) Tryz.func3 (by kernel_rfl)
    (of_decide_eq_true (by kernel_rfl)) (by unfold Func.isWrapper; rw [if_neg (of_decide_eq_false (by kernel_rfl))]; exact ⟨rfl, rfl⟩)
    (fun os started H enc _ => markLess_lifted os started H enc)

theorem markLess_holds : Rows.MarkLessCardSaid :=
  Claim7.holds_tied_plain_at .later [] [.data, .pinned] true Rows.markLessCard.stood.harness true markLess_row (fun _ h => by cases h) (by kernel_rfl) (fun _ h => by cases h) markLess_row_tie rfl ⟨rfl, rfl⟩ (by kernel_rfl) rfl
    (fun f fn hf hfn => by
      obtain rfl : f = 3 := Option.some.inj ((show Tryz.prog.funcNamed "strongbox/strongboxlaw24.MarkLess" = some 3 by kernel_rfl).symm.trans hf) |>.symm
      obtain rfl : fn = Tryz.f3 := (Option.some.inj (Tryz.func3.symm.trans hfn)).symm
      exact ⟨by kernel_rfl, fun j t ht => by
        rw [Tryz.params3] at ht
        have hm : t ∈ [22, 23, 3] := by simpa using Array.mem_of_getElem? ht
        have hall : ([22, 23, 3].all fun u => !Tryz.prog.wantsStandIn u) = true := by kernel_rfl
        exact (show Tryz.prog.wantsStandIn t = false by simpa using List.all_eq_true.1 hall t hm)⟩)
    (by kernel_rfl)
#print axioms markLess_holds
end Go.Proofs.YtdhlmhkabckbaaaGreatDoor
