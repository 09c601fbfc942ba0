/-
  What Of and Packs tell of a state that may be. No program in sight.
-/
import Derived.Test.YtbfephekkfieaaaOfA
import Derived.Test.YtbfephekkfieaaaStepL
namespace Go.Proofs.Ytbfephekkfieaaa
open Go.RowKit

section
variable {s : St} {pack : ByteArray} {D : List ByteArray} {P : List Place} {z : Int}
theorem stands_map {x : ByteArray × Place} {L : List (ByteArray × Place)} {k : Nat} (h : L[k]? = some x) : (L.map (·.1))[k]? = some x.1 ∧ (L.map (·.2))[k]? = some x.2 := by
  rw [List.getElem?_map, List.getElem?_map, h]
  exact ⟨rfl, rfl⟩
theorem ofRes_in (hm : mayIdx s.cs s.ps = true) (h : OfRes s pack D P z) (hp : pack ∈ s.ps.map Place.pack) :
    ∃ L, OfL s.cs s.ps pack L ∧ D = L.map (·.1) ∧ P = L.map (·.2) ∧ L ≠ [] ∧ z = 0 := by
  rcases h with ⟨a, _⟩ | ⟨_, L, h1, h2, h3, h4⟩
  · rw [hm] at a; cases a
  · rcases h4 with ⟨e, _⟩ | ⟨e, rfl⟩
    · exfalso
      obtain ⟨p, hp1, hp2⟩ := List.mem_map.1 hp
      obtain ⟨i, hi⟩ := List.getElem?_of_mem hp1
      obtain ⟨c, hc⟩ := getElem_some (l := s.cs) (i := i) (by have := (List.getElem?_eq_some_iff.1 hi).1; have := (mayIdx_len hm).1; omega)
      have := (h1.mem (c, p)).2 ⟨⟨i, hc, hi⟩, hp2⟩
      rw [e] at this
      cases this
    · exact ⟨L, h1, h2, h3, e, rfl⟩
theorem ofRes_out (hm : mayIdx s.cs s.ps = true) (h : OfRes s pack D P z) (hp : pack ∉ s.ps.map Place.pack) : z = 5 := by
  rcases h with ⟨a, _⟩ | ⟨_, L, h1, h2, h3, h4⟩
  · rw [hm] at a; cases a
  · rcases h4 with ⟨_, e⟩ | ⟨e, _⟩
    · exact e
    · exfalso
      obtain ⟨x, hx⟩ := List.exists_mem_of_ne_nil L e
      obtain ⟨⟨i, _, hi⟩, hpk⟩ := (h1.mem x).1 hx
      exact hp (List.mem_map.2 ⟨x.2, List.mem_of_getElem? hi, hpk⟩)
theorem OfL.find {L : List (ByteArray × Place)} {x : ByteArray × Place} (hm : mayIdx s.cs s.ps = true) (h : OfL s.cs s.ps pack L) (hx : x ∈ L) : findP s x.1 = (x.2, 0) ∧ x.2.pack = pack := by
  obtain ⟨⟨i, h1, h2⟩, h3⟩ := (h.mem x).1 hx
  exact ⟨stands_findP hm ⟨i, h1, h2⟩, h3⟩
theorem OfL.next {L : List (ByteArray × Place)} {k : Nat} {a b : ByteArray × Place} (hm : mayIdx s.cs s.ps = true) (h : OfL s.cs s.ps pack L) (ha : L[k]? = some a) (hb : L[k + 1]? = some b) : a.2.at_ + a.2.len ≤ b.2.at_ := by
  obtain ⟨k1, e1⟩ := List.getElem?_eq_some_iff.1 ha
  obtain ⟨k2, e2⟩ := List.getElem?_eq_some_iff.1 hb
  have hlt := List.pairwise_iff_getElem.1 h.rise k (k + 1) k1 k2 (by omega)
  rw [e1, e2] at hlt
  obtain ⟨⟨i, _, hi⟩, hpa⟩ := (h.mem a).1 (List.mem_of_getElem? ha)
  obtain ⟨⟨j, _, hj⟩, hpb⟩ := (h.mem b).1 (List.mem_of_getElem? hb)
  have hpl := mayPlace_bounds (mayIdx_places hm _ (List.mem_of_getElem? hj))
  have hne : i ≠ j := fun e => by
    subst e
    rw [hi] at hj
    injection hj with hj
    rw [hj] at hlt
    omega
  have hap := (apartB_iff s.ps).1 (mayIdx_apart hm)
  have hcl : clash a.2 b.2 = false := by
    obtain ⟨i1, e3⟩ := List.getElem?_eq_some_iff.1 hi
    obtain ⟨j1, e4⟩ := List.getElem?_eq_some_iff.1 hj
    rcases Nat.lt_or_ge i j with hij | hij
    · have := List.pairwise_iff_getElem.1 hap i j i1 j1 hij
      rwa [e3, e4] at this
    · have := List.pairwise_iff_getElem.1 hap j i j1 i1 (by omega)
      rw [e3, e4] at this
      rw [clash_symm]
      exact this
  unfold clash at hcl
  simp only [Bool.and_eq_false_iff, decide_eq_false_iff_not] at hcl
  rcases hcl with (h1 | h1) | h1
  · exact absurd (hpa.trans hpb.symm) h1
  · omega
  · omega
theorem OfL.bounds {L : List (ByteArray × Place)} {x : ByteArray × Place} (hm : mayIdx s.cs s.ps = true) (h : OfL s.cs s.ps pack L) (hx : x ∈ L) : 0 ≤ x.2.at_ ∧ x.2.at_ ≤ 32768 ∧ 1 ≤ x.2.len ∧ x.2.len ≤ 16384 := by
  obtain ⟨⟨i, _, h2⟩, _⟩ := (h.mem x).1 hx
  have := mayPlace_bounds (mayIdx_places hm _ (List.mem_of_getElem? h2))
  omega

/-! The chunks of all packs, put together. -/
def ofPacks (ps : List Place) (A : List ByteArray) : Nat := (ps.filter fun p => decide (p.pack ∈ A)).length
theorem ofPacks_add {A : List ByteArray} {pk : ByteArray} (h : pk ∉ A) : ∀ ps : List Place, ofPacks ps (A ++ [pk]) = ofPacks ps A + (ps.filter fun p => decide (p.pack = pk)).length
  | [] => rfl
  | p :: ps => by
    have ih := ofPacks_add h ps
    unfold ofPacks at ih ⊢
    simp only [List.filter_cons, List.mem_append, List.mem_singleton, Bool.decide_or] at ih ⊢
    by_cases h1 : p.pack = pk
    · have h2 : p.pack ∉ A := h1 ▸ h
      simp [h1, h, ih]
      omega
    · by_cases h2 : p.pack ∈ A
      · simp [h1, h2, ih]
        omega
      · simp [h1, h2, ih]
theorem ofPacks_none (ps : List Place) : ofPacks ps [] = 0 := by simp [ofPacks]
theorem ofPacks_all {ps : List Place} {A : List ByteArray} (h : ∀ p ∈ ps, p.pack ∈ A) : ofPacks ps A = ps.length := by
  unfold ofPacks
  rw [List.filter_eq_self.2 (fun p hp => by simpa using h p hp)]
theorem ofPacks_le (ps : List Place) (A : List ByteArray) : ofPacks ps A ≤ ps.length := List.length_filter_le _ _
theorem places_nodup (hm : mayIdx s.cs s.ps = true) : s.ps.Nodup := by
  have hap := (apartB_iff s.ps).1 (mayIdx_apart hm)
  have hpl := mayIdx_places hm
  refine List.pairwise_iff_getElem.2 fun i j hi hj hij e => ?_
  have h1 := List.pairwise_iff_getElem.1 hap i j hi hj hij
  have h2 := mayPlace_bounds (hpl _ (List.getElem_mem hj))
  rw [e] at h1
  unfold clash at h1
  simp at h1
  omega
theorem OfL.len {L : List (ByteArray × Place)} (hm : mayIdx s.cs s.ps = true) (h : OfL s.cs s.ps pack L) : L.length = (s.ps.filter fun p => decide (p.pack = pack)).length := by
  have h1 : (L.map (·.2)).Nodup := by
    refine List.pairwise_map.2 (h.rise.imp fun {a b} hab e => ?_)
    rw [e] at hab
    omega
  have h2 := nodup_len (m := s.ps.filter fun p => decide (p.pack = pack)) h1 ((places_nodup hm).filter _) fun p => by
    simp only [List.mem_map, List.mem_filter, decide_eq_true_eq]
    constructor
    · rintro ⟨x, hx, rfl⟩
      obtain ⟨⟨i, _, hi⟩, hp⟩ := (h.mem x).1 hx
      exact ⟨List.mem_of_getElem? hi, hp⟩
    · rintro ⟨hp, hpk⟩
      obtain ⟨i, hi⟩ := List.getElem?_of_mem hp
      obtain ⟨c, hc⟩ := getElem_some (l := s.cs) (i := i) (by have := (List.getElem?_eq_some_iff.1 hi).1; have := (mayIdx_len hm).1; omega)
      exact ⟨(c, p), (h.mem (c, p)).2 ⟨⟨i, hc, hi⟩, hpk⟩, rfl⟩
  rwa [List.length_map] at h2
theorem rise_fresh {PL : List ByteArray} {q : Nat} {pk : ByteArray} (hr : RiseS PL) (h : PL[q]? = some pk) : pk ∉ PL.take q := by
  intro hin
  obtain ⟨i, hi⟩ := List.getElem?_of_mem hin
  have hiq : i < q := by
    have := (List.getElem?_eq_some_iff.1 hi).1
    rw [List.length_take] at this
    omega
  rw [List.getElem?_take_of_lt hiq] at hi
  have h1 := List.pairwise_iff_getElem.1 hr i q (List.getElem?_eq_some_iff.1 hi).1 (List.getElem?_eq_some_iff.1 h).1 hiq
  rw [(List.getElem?_eq_some_iff.1 hi).2, (List.getElem?_eq_some_iff.1 h).2, sLt_irrefl] at h1
  cases h1
end
end Go.Proofs.Ytbfephekkfieaaa
