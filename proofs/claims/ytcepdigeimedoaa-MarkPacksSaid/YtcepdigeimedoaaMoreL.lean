/-
  By more digests no more is gone. No program in sight.
-/
import Derived.Test.YtcepdigeimedoaaMarkL
namespace Go.Proofs.Ytcepdigeimedoaa

section
variable {s : St} {L M : List ByteArray}
theorem more_gone : ∀ x ∈ (markSp s (L ++ M)).gone, x ∈ (markSp s L).gone := fun x hx => by
  simp [markSp] at hx ⊢
  exact ⟨hx.1, hx.2.1⟩
theorem more_live : ∀ x ∈ (markSp s L).live, x ∈ (markSp s (L ++ M)).live := fun x hx => by
  simp [markSp] at hx ⊢
  exact ⟨hx.1, .inl hx.2⟩
theorem more_dead : ∀ x ∈ (markSp s (L ++ M)).dead, x ∈ (markSp s L).dead := fun x hx => by
  simp only [markSp, List.mem_filter, deadP, decide_eq_true_eq, List.length_eq_zero_iff] at hx ⊢
  refine ⟨hx.1, ?_⟩
  rw [List.eq_nil_iff_forall_not_mem] at hx ⊢
  intro c hc
  obtain ⟨h1, h2⟩ := kept_mem.1 hc
  exact hx.2 c (kept_mem.2 ⟨h1, List.mem_append_left _ h2⟩)
theorem markRes_ok (hm : mayIdx s.cs s.ps = true) : markRes s L = (markSp s L, 0) := by simp [markRes, hm]
theorem markRes_no (hm : mayIdx s.cs s.ps = false) : markRes s L = (⟨[], [], [], [], []⟩, 4) := by simp [markRes, hm]
theorem pack_size (hm : mayIdx s.cs s.ps = true) : ∀ x ∈ packsL s, x.size ≤ maxLen := fun x hx => by
  obtain ⟨p, hp, rfl⟩ := List.mem_map.1 ((setS_mem _ _).1 hx)
  rw [mayPlace_pack (mayIdx_places hm p hp)]
  decide
theorem chunk_size (hm : mayIdx s.cs s.ps = true) : ∀ x ∈ s.cs, x.size ≤ maxLen := fun c hc => by rw [mayIdx_size hm c hc]; decide
/-- Texts that may be keys, few. -/
def Few (l : List ByteArray) : Prop := (∀ x ∈ l, x.size ≤ maxLen) ∧ l.length ≤ 400
theorem few_sub {l m : List ByteArray} (h : Few l) (hs : m.Sublist l) : Few m := ⟨fun x hx => h.1 x (hs.subset hx), Nat.le_trans hs.length_le h.2⟩
theorem few_cs (hm : mayIdx s.cs s.ps = true) : Few s.cs := ⟨chunk_size hm, (mayIdx_len hm).2⟩
theorem few_packs (hm : mayIdx s.cs s.ps = true) : Few (packsL s) := ⟨pack_size hm, by
  have h1 := setS_len (s.ps.map Place.pack)
  have h2 := mayIdx_len hm
  unfold packsL
  rw [List.length_map] at h1
  omega⟩
theorem few_sp (hm : mayIdx s.cs s.ps = true) : Few (markSp s L).live ∧ Few (markSp s L).gone ∧ Few (markSp s L).stale ∧ Few (markSp s L).dead :=
  ⟨few_sub (few_cs hm) (List.filter_sublist ..), few_sub (few_cs hm) (List.filter_sublist ..), few_sub (few_packs hm) (List.filter_sublist ..), few_sub (few_packs hm) (List.filter_sublist ..)⟩
theorem more_cases (s : St) (L M : List ByteArray) : ∃ l0 l1 l2 l3 l4 z g0 g1 g2 g3 g4 y, markRes s L = (⟨l0, l1, l2, l3, l4⟩, z) ∧ markRes s (L ++ M) = (⟨g0, g1, g2, g3, g4⟩, y) ∧
    ((z = 4 ∧ y = 4) ∨ (z = 0 ∧ y = 0 ∧ (∀ x ∈ g1, x ∈ l1) ∧ (∀ x ∈ g3, x ∈ l3) ∧ (∀ x ∈ l0, x ∈ g0) ∧ Few l0 ∧ Few l1 ∧ Few l3 ∧ Few g0 ∧ Few g1 ∧ Few g3)) := by
  cases hm : mayIdx s.cs s.ps
  · exact ⟨_, _, _, _, _, _, _, _, _, _, _, _, markRes_no hm, markRes_no hm, .inl ⟨rfl, rfl⟩⟩
  · have f := few_sp (L := L) hm
    have g := few_sp (L := L ++ M) hm
    exact ⟨_, _, _, _, _, _, _, _, _, _, _, _, markRes_ok hm, markRes_ok hm, .inr ⟨rfl, rfl, more_gone, more_dead, more_live, f.1, f.2.1, f.2.2.2, g.1, g.2.1, g.2.2.2⟩⟩
end
end Go.Proofs.Ytcepdigeimedoaa
