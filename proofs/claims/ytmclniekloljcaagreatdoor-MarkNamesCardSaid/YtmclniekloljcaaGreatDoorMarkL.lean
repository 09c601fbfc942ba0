/-
  Which chunks and packs of a state are needed, as lists. No program in sight.
-/
import Derived.Test.YtmclniekloljcaaGreatDoorOfA
namespace Go.Proofs.YtmclniekloljcaaGreatDoor
open Go.RowKit

theorem riseS_nodup {l : List ByteArray} (h : RiseS l) : l.Nodup := h.imp fun h => sLt_ne h
/-- What stands in a pack, reckoned. -/
def ofLs (cs : List ByteArray) (ps : List Place) (pack : ByteArray) : List (ByteArray × Place) := ((inPack ps pack ps.length).mergeSort (fun a b => decide (atOf ps a ≤ atOf ps b))).map (pairAt cs ps)
theorem ofLs_of {cs : List ByteArray} {ps : List Place} {pack : ByteArray} (hm : mayIdx cs ps = true) : OfL cs ps pack (ofLs cs ps pack) := by
  refine ofL_of hm (List.mergeSort_perm _ _) ?_
  have tr : ∀ a b c : Nat, decide (atOf ps a ≤ atOf ps b) = true → decide (atOf ps b ≤ atOf ps c) = true → decide (atOf ps a ≤ atOf ps c) = true := fun a b c h1 h2 => by simp only [decide_eq_true_eq] at *; omega
  have to : ∀ a b : Nat, (decide (atOf ps a ≤ atOf ps b) || decide (atOf ps b ≤ atOf ps a)) = true := fun a b => by simp only [Bool.or_eq_true, decide_eq_true_eq]; omega
  exact (List.pairwise_mergeSort tr to _).imp fun h => by simpa using h
/-- The chunks of a pack. -/
def inD (s : St) (pack : ByteArray) : List ByteArray := (ofLs s.cs s.ps pack).map (·.1)
section
variable {s : St} {pack : ByteArray} {D : List ByteArray} {P : List Place} {z : Int} {L : List ByteArray} {c : ByteArray}
theorem ofRes_inD (hm : mayIdx s.cs s.ps = true) (h : OfRes s pack D P z) : D = inD s pack := by
  rcases h with ⟨h, _⟩ | ⟨_, L, hL, rfl, _⟩
  · rw [hm] at h; cases h
  · rw [hL.unique (ofLs_of hm)]; rfl
/-- A chunk stands in a pack. -/
theorem inD_mem (hm : mayIdx s.cs s.ps = true) : c ∈ inD s pack ↔ ∃ (i : Nat) (p : Place), s.cs[i]? = some c ∧ s.ps[i]? = some p ∧ p.pack = pack := by
  unfold inD
  rw [List.mem_map]
  constructor
  · rintro ⟨x, hx, rfl⟩
    obtain ⟨⟨i, h1, h2⟩, h3⟩ := ((ofLs_of hm).mem x).1 hx
    exact ⟨i, x.2, h1, h2, h3⟩
  · rintro ⟨i, p, h1, h2, h3⟩
    exact ⟨(c, p), ((ofLs_of hm).mem (c, p)).2 ⟨⟨i, h1, h2⟩, h3⟩, rfl⟩
theorem inD_sub (hm : mayIdx s.cs s.ps = true) (h : c ∈ inD s pack) : c ∈ s.cs := by
  obtain ⟨i, p, h1, _⟩ := (inD_mem hm).1 h
  exact List.mem_of_getElem? h1
theorem inD_nodup (hm : mayIdx s.cs s.ps = true) : (inD s pack).Nodup := by
  unfold inD
  refine List.pairwise_map.2 ((ofLs_of hm).rise.imp_of_mem fun {a b} ha hb hab he => ?_)
  obtain ⟨⟨i, h1, h2⟩, h3⟩ := ((ofLs_of hm).mem a).1 ha
  obtain ⟨⟨j, h4, h5⟩, h6⟩ := ((ofLs_of hm).mem b).1 hb
  rw [← he] at h4
  obtain rfl := rise_inj (mayIdx_rise hm) h1 h4
  rw [h2] at h5
  injection h5 with h5
  rw [h5] at hab
  omega
/-- Packs part their chunks. -/
theorem inD_apart {pack' : ByteArray} (hm : mayIdx s.cs s.ps = true) (h : c ∈ inD s pack) (h' : c ∈ inD s pack') : pack = pack' := by
  obtain ⟨i, p, h1, h2, h3⟩ := (inD_mem hm).1 h
  obtain ⟨j, q, h4, h5, h6⟩ := (inD_mem hm).1 h'
  obtain rfl := rise_inj (mayIdx_rise hm) h1 h4
  rw [h2] at h5
  injection h5 with h5
  rw [← h3, ← h6, h5]
theorem inD_len (hm : mayIdx s.cs s.ps = true) : (inD s pack).length ≤ 400 := by
  have h1 := inPack_len s.ps pack s.ps.length
  have h2 := mayIdx_len hm
  unfold inD ofLs
  rw [List.length_map, List.length_map, List.length_mergeSort]
  omega

/-- The needed chunks of a pack. -/
def keptD (s : St) (L : List ByteArray) (pack : ByteArray) : List ByteArray := (inD s pack).filter fun c => decide (c ∈ L)
def packsL (s : St) : List ByteArray := setS (s.ps.map Place.pack)
def deadP (s : St) (L : List ByteArray) (pack : ByteArray) : Bool := decide ((keptD s L pack).length = 0)
def staleP (s : St) (L : List ByteArray) (pack : ByteArray) : Bool := decide ((keptD s L pack).length ≠ 0) && decide ((keptD s L pack).length ≠ (inD s pack).length)
/-- The needed chunks of the stale ones of some packs. -/
def movedL (s : St) (L : List ByteArray) (l : List ByteArray) : List ByteArray := (l.filter (staleP s L)).flatMap (keptD s L)
/-- Which chunks and packs are needed. -/
structure Sp where
  live : List ByteArray
  gone : List ByteArray
  stale : List ByteArray
  dead : List ByteArray
  moved : List ByteArray
def markSp (s : St) (L : List ByteArray) : Sp :=
  ⟨s.cs.filter (fun c => decide (c ∈ L)), s.cs.filter (fun c => !decide (c ∈ L)), (packsL s).filter (staleP s L), (packsL s).filter (deadP s L), setS (movedL s L (packsL s))⟩
def markRes (s : St) (L : List ByteArray) : Sp × Int := if mayIdx s.cs s.ps then (markSp s L, 0) else (⟨[], [], [], [], []⟩, 4)

theorem kept_mem : c ∈ keptD s L pack ↔ c ∈ inD s pack ∧ c ∈ L := by simp [keptD]
theorem movedL_mem {l : List ByteArray} : c ∈ movedL s L l ↔ ∃ p, p ∈ l ∧ staleP s L p = true ∧ c ∈ inD s p ∧ c ∈ L := by
  simp only [movedL, List.mem_flatMap, List.mem_filter, kept_mem]
  constructor
  · rintro ⟨p, ⟨h1, h2⟩, h3, h4⟩; exact ⟨p, h1, h2, h3, h4⟩
  · rintro ⟨p, h1, h2, h3, h4⟩; exact ⟨p, ⟨h1, h2⟩, h3, h4⟩
theorem movedL_nodup {l : List ByteArray} (hm : mayIdx s.cs s.ps = true) (hl : l.Nodup) : (movedL s L l).Nodup := by
  unfold movedL
  induction l with
  | nil => simp
  | cons p l ih =>
    obtain ⟨h1, h2⟩ := List.nodup_cons.1 hl
    by_cases hp : staleP s L p = true
    · rw [List.filter_cons_of_pos hp, List.flatMap_cons]
      refine List.nodup_append.2 ⟨List.Pairwise.filter _ (inD_nodup hm), ih h2, ?_⟩
      intro a ha b hb hab
      subst hab
      obtain ⟨q, hq, hq'⟩ := List.mem_flatMap.1 hb
      have := inD_apart hm (kept_mem.1 ha).1 (kept_mem.1 hq').1
      subst this
      exact h1 (List.mem_filter.1 hq).1
    · rw [List.filter_cons_of_neg hp]
      exact ih h2
theorem inD_ne (hm : mayIdx s.cs s.ps = true) (hp : pack ∈ packsL s) : inD s pack ≠ [] := by
  obtain ⟨p, hp1, hp2⟩ := List.mem_map.1 ((setS_mem _ _).1 hp)
  obtain ⟨i, hi⟩ := List.getElem?_of_mem hp1
  obtain ⟨c, hc⟩ := getElem_some (l := s.cs) (i := i) (by have := (List.getElem?_eq_some_iff.1 hi).1; have := (mayIdx_len hm).1; omega)
  exact List.ne_nil_of_mem ((inD_mem hm).2 ⟨i, p, hc, hi, hp2⟩)
theorem movedL_yes {l : List ByteArray} (h : staleP s L pack = true) : movedL s L (l ++ [pack]) = movedL s L l ++ keptD s L pack := by simp [movedL, List.filter_append, h]
theorem movedL_no {l : List ByteArray} (h : staleP s L pack = false) : movedL s L (l ++ [pack]) = movedL s L l := by simp [movedL, List.filter_append, h]
theorem kept_len (hm : mayIdx s.cs s.ps = true) : (keptD s L pack).length ≤ 400 := Nat.le_trans (List.length_filter_le _ _) (inD_len hm)
theorem movedL_len (hm : mayIdx s.cs s.ps = true) : ∀ l : List ByteArray, (movedL s L l).length ≤ l.length * 400
  | [] => by simp [movedL]
  | p :: l => by
    have ih := movedL_len hm l
    have hk := kept_len (L := L) (pack := p) hm
    unfold movedL at ih ⊢
    by_cases hp : staleP s L p = true
    · rw [List.filter_cons_of_pos hp, List.flatMap_cons, List.length_append, List.length_cons, Nat.add_mul, Nat.one_mul, Nat.add_comm]
      exact Nat.add_le_add ih hk
    · rw [List.filter_cons_of_neg hp, List.length_cons, Nat.add_mul]
      exact Nat.le_trans ih (Nat.le_add_right _ _)
/-- Sorted, what has none twice is the set. -/
theorem sorted_set {l : List ByteArray} (hn : l.Nodup) : ((l.map bl).mergeSort (fun x y => decide (x ≤ y))).map ofBytes = setS l := by
  have hn' : (l.map bl).Nodup := List.pairwise_map.2 (hn.imp fun {a b} h e => h (bl_inj e))
  refine setS_unique (rise_of_sorted hn') fun z => ?_
  rw [List.mem_map]
  constructor
  · rintro ⟨x, hx, rfl⟩
    obtain ⟨y, hy, rfl⟩ := List.mem_map.1 ((List.mergeSort_perm _ _).mem_iff.1 hx)
    rwa [bl_inj (bl_ofBytes (bl y)) ]
  · intro hz
    exact ⟨bl z, (List.mergeSort_perm _ _).mem_iff.2 (List.mem_map.2 ⟨z, hz, rfl⟩), bl_inj (bl_ofBytes _)⟩
end
end Go.Proofs.YtmclniekloljcaaGreatDoor
