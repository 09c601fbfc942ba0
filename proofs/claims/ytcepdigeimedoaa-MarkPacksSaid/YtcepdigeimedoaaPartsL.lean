/-
  Where each chunk, and its pack, comes to stand. No program in sight.
-/
import Derived.Test.YtcepdigeimedoaaMoreL
namespace Go.Proofs.Ytcepdigeimedoaa

section
variable {s : St} {L : List ByteArray} {c : ByteArray} {p : Place} {i : Nat}
theorem pack_in (hp : s.ps[i]? = some p) : p.pack ∈ packsL s := (setS_mem _ _).2 (List.mem_map.2 ⟨p, List.mem_of_getElem? hp, rfl⟩)
theorem at_in (hm : mayIdx s.cs s.ps = true) (hc : s.cs[i]? = some c) (hp : s.ps[i]? = some p) : c ∈ inD s p.pack := (inD_mem hm).2 ⟨i, p, hc, hp, rfl⟩
theorem live_at (hc : s.cs[i]? = some c) : c ∈ (markSp s L).live ↔ c ∈ L := by
  simp [markSp]
  exact fun _ => List.mem_of_getElem? hc
theorem gone_at (hc : s.cs[i]? = some c) : c ∈ (markSp s L).gone ↔ c ∉ L := by
  simp [markSp]
  exact fun _ => List.mem_of_getElem? hc
theorem stale_at (hp : s.ps[i]? = some p) : p.pack ∈ (markSp s L).stale ↔ staleP s L p.pack = true := by
  simp only [markSp, List.mem_filter]
  exact ⟨fun h => h.2, fun h => ⟨pack_in hp, h⟩⟩
theorem dead_at (hp : s.ps[i]? = some p) : p.pack ∈ (markSp s L).dead ↔ deadP s L p.pack = true := by
  simp only [markSp, List.mem_filter]
  exact ⟨fun h => h.2, fun h => ⟨pack_in hp, h⟩⟩
theorem moved_at (hm : mayIdx s.cs s.ps = true) (hc : s.cs[i]? = some c) (hp : s.ps[i]? = some p) : c ∈ (markSp s L).moved ↔ c ∈ L ∧ staleP s L p.pack = true := by
  simp only [markSp]
  rw [setS_mem, movedL_mem]
  constructor
  · rintro ⟨q, _, h2, h3, h4⟩
    rw [inD_apart hm (at_in hm hc hp) h3]
    exact ⟨h4, h2⟩
  · rintro ⟨h1, h2⟩
    exact ⟨p.pack, pack_in hp, h2, at_in hm hc hp, h1⟩
theorem live_undead (hm : mayIdx s.cs s.ps = true) (hc : s.cs[i]? = some c) (hp : s.ps[i]? = some p) (h : c ∈ L) : deadP s L p.pack = false := by
  have : c ∈ keptD s L p.pack := kept_mem.2 ⟨at_in hm hc hp, h⟩
  have := List.length_pos_of_mem this
  simp [deadP]
  intro e
  rw [e] at this
  simp at this
theorem gone_left (hm : mayIdx s.cs s.ps = true) (hc : s.cs[i]? = some c) (hp : s.ps[i]? = some p) (h : c ∉ L) : staleP s L p.pack = true ∨ deadP s L p.pack = true := by
  have hlt : (keptD s L p.pack).length < (inD s p.pack).length := by
    unfold keptD
    refine List.length_filter_lt_length_iff_exists.2 ⟨c, at_in hm hc hp, by simp [h]⟩
  by_cases h0 : (keptD s L p.pack).length = 0
  · exact .inr (by simp only [deadP, h0, decide_true])
  · exact .inl (by unfold staleP; rw [decide_eq_true h0, decide_eq_true (by omega)]; rfl)
theorem stale_undead (h : staleP s L c = true) : deadP s L c = false := by
  unfold staleP at h
  unfold deadP
  simp only [Bool.and_eq_true, decide_eq_true_eq] at h
  exact decide_eq_false h.1
theorem parts_len : (markSp s L).live.length + (markSp s L).gone.length = s.cs.length := by
  simp only [markSp]
  induction s.cs with
  | nil => rfl
  | cons c l ih =>
    by_cases h : c ∈ L
    · rw [List.filter_cons_of_pos (by simpa using h), List.filter_cons_of_neg (by simpa using h)]
      simp only [List.length_cons]
      omega
    · rw [List.filter_cons_of_neg (by simpa using h), List.filter_cons_of_pos (by simpa using h)]
      simp only [List.length_cons]
      omega
theorem kept_all (hm : mayIdx s.cs s.ps = true) : keptD s s.cs c = inD s c := by
  unfold keptD
  rw [List.filter_eq_self]
  intro x hx
  simpa using inD_sub hm hx
theorem all_none (hm : mayIdx s.cs s.ps = true) : (markSp s s.cs).gone = [] ∧ (markSp s s.cs).stale = [] ∧ (markSp s s.cs).dead = [] ∧ (markSp s s.cs).moved = [] := by
  have hs : ∀ q, staleP s s.cs q = false := fun q => by unfold staleP; rw [kept_all hm]; simp
  refine ⟨?_, ?_, ?_, ?_⟩
  · simp [markSp]
  · simp [markSp, hs]
  · simp only [markSp]
    rw [List.filter_eq_nil_iff]
    intro q hq
    unfold deadP
    rw [kept_all hm]
    simp
    exact inD_ne hm hq
  · simp only [markSp]
    have : movedL s s.cs (packsL s) = [] := by unfold movedL; rw [List.filter_eq_nil_iff.2 (fun q _ => by rw [hs]; simp)]; rfl
    rw [this]
    rfl
/-- The four ways in which a chunk and its pack may stand. -/
theorem parts_four (L : List ByteArray) (hm : mayIdx s.cs s.ps = true) (hc : s.cs[i]? = some c) (hp : s.ps[i]? = some p) :
    (decide (c ∈ (markSp s L).live) = true ∧ decide (c ∈ (markSp s L).gone) = false ∧ decide (c ∈ (markSp s L).moved) = true ∧ decide (c ∈ L) = true ∧ decide (p.pack ∈ (markSp s L).stale) = true ∧ decide (p.pack ∈ (markSp s L).dead) = false) ∨
    (decide (c ∈ (markSp s L).live) = true ∧ decide (c ∈ (markSp s L).gone) = false ∧ decide (c ∈ (markSp s L).moved) = false ∧ decide (c ∈ L) = true ∧ decide (p.pack ∈ (markSp s L).stale) = false ∧ decide (p.pack ∈ (markSp s L).dead) = false) ∨
    (decide (c ∈ (markSp s L).live) = false ∧ decide (c ∈ (markSp s L).gone) = true ∧ decide (c ∈ (markSp s L).moved) = false ∧ decide (c ∈ L) = false ∧ decide (p.pack ∈ (markSp s L).stale) = true ∧ decide (p.pack ∈ (markSp s L).dead) = false) ∨
    (decide (c ∈ (markSp s L).live) = false ∧ decide (c ∈ (markSp s L).gone) = true ∧ decide (c ∈ (markSp s L).moved) = false ∧ decide (c ∈ L) = false ∧ decide (p.pack ∈ (markSp s L).stale) = false ∧ decide (p.pack ∈ (markSp s L).dead) = true) := by
  have e0 : decide (c ∈ (markSp s L).live) = decide (c ∈ L) := by rw [decide_eq_decide]; exact live_at hc
  have e1 : decide (c ∈ (markSp s L).gone) = !decide (c ∈ L) := by rw [Bool.eq_iff_iff]; simp; exact gone_at hc
  have e2 : decide (p.pack ∈ (markSp s L).stale) = staleP s L p.pack := by rw [Bool.eq_iff_iff]; simp; exact stale_at hp
  have e3 : decide (p.pack ∈ (markSp s L).dead) = deadP s L p.pack := by rw [Bool.eq_iff_iff]; simp; exact dead_at hp
  have e4 : decide (c ∈ (markSp s L).moved) = (decide (c ∈ L) && staleP s L p.pack) := by rw [Bool.eq_iff_iff]; simp; exact moved_at hm hc hp
  rw [e0, e1, e2, e3, e4]
  by_cases h : c ∈ L
  · have hd := live_undead hm hc hp h
    rw [decide_eq_true h, hd]
    cases staleP s L p.pack
    · exact .inr (.inl ⟨rfl, rfl, rfl, rfl, rfl, rfl⟩)
    · exact .inl ⟨rfl, rfl, rfl, rfl, rfl, rfl⟩
  · rw [decide_eq_false h]
    cases hs : staleP s L p.pack
    · rcases gone_left hm hc hp h with h1 | h1
      · rw [hs] at h1; cases h1
      · rw [h1]
        exact .inr (.inr (.inr ⟨rfl, rfl, rfl, rfl, rfl, rfl⟩))
    · rw [stale_undead hs]
      exact .inr (.inr (.inl ⟨rfl, rfl, rfl, rfl, rfl, rfl⟩))
end
end Go.Proofs.Ytcepdigeimedoaa
