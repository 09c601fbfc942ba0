/-
  Which chunks and packs of a state are needed, as lists. No program in sight.
-/
import Derived.Test.YtdhlmhkabckbaaaGreatDoorPosL
import Derived.Test.YtdhlmhkabckbaaaGreatDoorLetters
namespace Go.Proofs.YtdhlmhkabckbaaaGreatDoor
open Go.RowKit

theorem riseS_nodup {l : List ByteArray} (h : RiseS l) : l.Nodup := h.imp fun h => sLt_ne h
/-- What stands in a pack, reckoned. -/
def ofLs (cs : List ByteArray) (ps : List Place) (pack : ByteArray) : List (ByteArray × Place) := ((inPack ps pack ps.length).mergeSort (fun a b => decide (atOf ps a ≤ atOf ps b))).map (pairAt cs ps)
theorem ofLs_of {cs : List ByteArray} {ps : List Place} {pack : ByteArray} (hm : mayIdx cs ps = true) : OfL cs ps pack (ofLs cs ps pack) := by
  refine ofL_of hm (List.mergeSort_perm _ _) ?_
  have tr : ∀ a b c : Nat, decide (atOf ps a ≤ atOf ps b) = true → decide (atOf ps b ≤ atOf ps c) = true → decide (atOf ps a ≤ atOf ps c) = true := fun a b c h1 h2 => by simp only [decide_eq_true_eq] at *; omega
  have to : ∀ a b : Nat, (decide (atOf ps a ≤ atOf ps b) || decide (atOf ps b ≤ atOf ps a)) = true := fun a b => by simp only [Bool.or_eq_true, decide_eq_true_eq]; omega
  exact (List.pairwise_mergeSort tr to _).imp fun h => by simpa using h
/-- The chunks of a pack. -/
def inD (s : St) (pack : ByteArray) : List ByteArray := (ofLs s.cs s.ps pack).map (·.1)
section
variable {s : St} {pack : ByteArray} {D : List ByteArray} {P : List Place} {z : Int} {L : List ByteArray} {c : ByteArray}
theorem ofRes_inD (hm : mayIdx s.cs s.ps = true) (h : OfRes s pack D P z) : D = inD s pack := by
  rcases h with ⟨h, _⟩ | ⟨_, L, hL, rfl, _⟩
  · rw [hm] at h; cases h
  · rw [hL.unique (ofLs_of hm)]; rfl
/-- A chunk stands in a pack. -/
theorem inD_mem (hm : mayIdx s.cs s.ps = true) : c ∈ inD s pack ↔ ∃ (i : Nat) (p : Place), s.cs[i]? = some c ∧ s.ps[i]? = some p ∧ p.pack = pack := by
  unfold inD
  rw [List.mem_map]
  constructor
  · rintro ⟨x, hx, rfl⟩
    obtain ⟨⟨i, h1, h2⟩, h3⟩ := ((ofLs_of hm).mem x).1 hx
    exact ⟨i, x.2, h1, h2, h3⟩
  · rintro ⟨i, p, h1, h2, h3⟩
    exact ⟨(c, p), ((ofLs_of hm).mem (c, p)).2 ⟨⟨i, h1, h2⟩, h3⟩, rfl⟩
theorem inD_sub (hm : mayIdx s.cs s.ps = true) (h : c ∈ inD s pack) : c ∈ s.cs := by
  obtain ⟨i, p, h1, _⟩ := (inD_mem hm).1 h
  exact List.mem_of_getElem? h1
theorem inD_nodup (hm : mayIdx s.cs s.ps = true) : (inD s pack).Nodup := by
  unfold inD
  refine List.pairwise_map.2 ((ofLs_of hm).rise.imp_of_mem fun {a b} ha hb hab he => ?_)
  obtain ⟨⟨i, h1, h2⟩, h3⟩ := ((ofLs_of hm).mem a).1 ha
  obtain ⟨⟨j, h4, h5⟩, h6⟩ := ((ofLs_of hm).mem b).1 hb
  rw [← he] at h4
  obtain rfl := rise_inj (mayIdx_rise hm) h1 h4
  rw [h2] at h5
  injection h5 with h5
  rw [h5] at hab
  omega
/-- Packs part their chunks. -/
theorem inD_apart {pack' : ByteArray} (hm : mayIdx s.cs s.ps = true) (h : c ∈ inD s pack) (h' : c ∈ inD s pack') : pack = pack' := by
  obtain ⟨i, p, h1, h2, h3⟩ := (inD_mem hm).1 h
  obtain ⟨j, q, h4, h5, h6⟩ := (inD_mem hm).1 h'
  obtain rfl := rise_inj (mayIdx_rise hm) h1 h4
  rw [h2] at h5
  injection h5 with h5
  rw [← h3, ← h6, h5]
theorem inD_len (hm : mayIdx s.cs s.ps = true) : (inD s pack).length ≤ 400 := by
  have h1 := inPack_len s.ps pack s.ps.length
  have h2 := mayIdx_len hm
  unfold inD ofLs
  rw [List.length_map, List.length_map, List.length_mergeSort]
  omega

/-- The needed chunks of a pack. -/
def keptD (s : St) (L : List ByteArray) (pack : ByteArray) : List ByteArray := (inD s pack).filter fun c => decide (c ∈ L)
def packsL (s : St) : List ByteArray := setS (s.ps.map Place.pack)
def deadP (s : St) (L : List ByteArray) (pack : ByteArray) : Bool := decide ((keptD s L pack).length = 0)
def staleP (s : St) (L : List ByteArray) (pack : ByteArray) : Bool := decide ((keptD s L pack).length ≠ 0) && decide ((keptD s L pack).length ≠ (inD s pack).length)
/-- The needed chunks of the stale ones of some packs. -/
def movedL (s : St) (L : List ByteArray) (l : List ByteArray) : List ByteArray := (l.filter (staleP s L)).flatMap (keptD s L)
/-- Which chunks and packs are needed. -/
structure Sp where
  live : List ByteArray
  gone : List ByteArray
  stale : List ByteArray
  dead : List ByteArray
  moved : List ByteArray
def markSp (s : St) (L : List ByteArray) : Sp :=
  ⟨s.cs.filter (fun c => decide (c ∈ L)), s.cs.filter (fun c => !decide (c ∈ L)), (packsL s).filter (staleP s L), (packsL s).filter (deadP s L), setS (movedL s L (packsL s))⟩
def markRes (s : St) (L : List ByteArray) : Sp × Int := if mayIdx s.cs s.ps then (markSp s L, 0) else (⟨[], [], [], [], []⟩, 4)

theorem kept_mem : c ∈ keptD s L pack ↔ c ∈ inD s pack ∧ c ∈ L := by simp [keptD]
theorem movedL_mem {l : List ByteArray} : c ∈ movedL s L l ↔ ∃ p, p ∈ l ∧ staleP s L p = true ∧ c ∈ inD s p ∧ c ∈ L := by
  simp only [movedL, List.mem_flatMap, List.mem_filter, kept_mem]
  constructor
  · rintro ⟨p, ⟨h1, h2⟩, h3, h4⟩; exact ⟨p, h1, h2, h3, h4⟩
  · rintro ⟨p, h1, h2, h3, h4⟩; exact ⟨p, ⟨h1, h2⟩, h3, h4⟩
theorem movedL_nodup {l : List ByteArray} (hm : mayIdx s.cs s.ps = true) (hl : l.Nodup) : (movedL s L l).Nodup := by
  unfold movedL
  induction l with
  | nil => simp
  | cons p l ih =>
    obtain ⟨h1, h2⟩ := List.nodup_cons.1 hl
    by_cases hp : staleP s L p = true
    · rw [List.filter_cons_of_pos hp, List.flatMap_cons]
      refine List.nodup_append.2 ⟨List.Pairwise.filter _ (inD_nodup hm), ih h2, ?_⟩
      intro a ha b hb hab
      subst hab
      obtain ⟨q, hq, hq'⟩ := List.mem_flatMap.1 hb
      have := inD_apart hm (kept_mem.1 ha).1 (kept_mem.1 hq').1
      subst this
      exact h1 (List.mem_filter.1 hq).1
    · rw [List.filter_cons_of_neg hp]
      exact ih h2
theorem inD_ne (hm : mayIdx s.cs s.ps = true) (hp : pack ∈ packsL s) : inD s pack ≠ [] := by
  obtain ⟨p, hp1, hp2⟩ := List.mem_map.1 ((setS_mem _ _).1 hp)
  obtain ⟨i, hi⟩ := List.getElem?_of_mem hp1
  obtain ⟨c, hc⟩ := getElem_some (l := s.cs) (i := i) (by have := (List.getElem?_eq_some_iff.1 hi).1; have := (mayIdx_len hm).1; omega)
  exact List.ne_nil_of_mem ((inD_mem hm).2 ⟨i, p, hc, hi, hp2⟩)
theorem movedL_yes {l : List ByteArray} (h : staleP s L pack = true) : movedL s L (l ++ [pack]) = movedL s L l ++ keptD s L pack := by simp [movedL, List.filter_append, h]
theorem movedL_no {l : List ByteArray} (h : staleP s L pack = false) : movedL s L (l ++ [pack]) = movedL s L l := by simp [movedL, List.filter_append, h]
theorem kept_len (hm : mayIdx s.cs s.ps = true) : (keptD s L pack).length ≤ 400 := Nat.le_trans (List.length_filter_le _ _) (inD_len hm)
theorem movedL_len (hm : mayIdx s.cs s.ps = true) : ∀ l : List ByteArray, (movedL s L l).length ≤ l.length * 400
  | [] => by simp [movedL]
  | p :: l => by
    have ih := movedL_len hm l
    have hk := kept_len (L := L) (pack := p) hm
    unfold movedL at ih ⊢
    by_cases hp : staleP s L p = true
    · rw [List.filter_cons_of_pos hp, List.flatMap_cons, List.length_append, List.length_cons, Nat.add_mul, Nat.one_mul, Nat.add_comm]
      exact Nat.add_le_add ih hk
    · rw [List.filter_cons_of_neg hp, List.length_cons, Nat.add_mul]
      exact Nat.le_trans ih (Nat.le_add_right _ _)
/-- Sorted, what has none twice is the set. -/
theorem sorted_set {l : List ByteArray} (hn : l.Nodup) : ((l.map bl).mergeSort (fun x y => decide (x ≤ y))).map ofBytes = setS l := by
  have hn' : (l.map bl).Nodup := List.pairwise_map.2 (hn.imp fun {a b} h e => h (bl_inj e))
  refine setS_unique (rise_of_sorted hn') fun z => ?_
  rw [List.mem_map]
  constructor
  · rintro ⟨x, hx, rfl⟩
    obtain ⟨y, hy, rfl⟩ := List.mem_map.1 ((List.mergeSort_perm _ _).mem_iff.1 hx)
    rwa [bl_inj (bl_ofBytes (bl y)) ]
  · intro hz
    exact ⟨bl z, (List.mergeSort_perm _ _).mem_iff.2 (List.mem_map.2 ⟨z, hz, rfl⟩), bl_inj (bl_ofBytes _)⟩
end
end Go.Proofs.YtdhlmhkabckbaaaGreatDoor
/-
  The example of chapter 24, as lists.
-/
namespace Go.Proofs.YtdhlmhkabckbaaaGreatDoor
open Go.RowKit

abbrev la : ByteArray := letterRoot 97
abbrev lb : ByteArray := letterRoot 98
abbrev lc : ByteArray := letterRoot 99
abbrev lp : ByteArray := letterRoot 112
abbrev lq : ByteArray := letterRoot 113
abbrev exC : List ByteArray := [la, lb, lc]
abbrev exP : List Place := [⟨lp, 10, 5⟩, ⟨lp, 15, 5⟩, ⟨lq, 8, 9⟩]
abbrev exS : St := ⟨0, 0, 0, [], exC, exP⟩
theorem sLt_ab : sLt la lb = true := sLt_iff.2 (by decide +kernel)
theorem sLt_bc : sLt lb lc = true := sLt_iff.2 (by decide +kernel)
theorem sLt_pq : sLt lp lq = true := sLt_iff.2 (by decide +kernel)
theorem may_ex : mayIdx exC exP = true := by
  have h1 : decide (la.size = 32) = true := by decide +kernel
  have h2 : decide (lb.size = 32) = true := by decide +kernel
  have h3 : decide (lc.size = 32) = true := by decide +kernel
  have h4 : ∀ p ∈ exP, mayPlace p = true := by decide +kernel
  have h5 : apartB exP = true := by decide +kernel
  have h6 : prevOk none la = true := rfl
  have h7 : prevOk (some la) lb = true := sLt_ab
  have h8 : prevOk (some lb) lc = true := sLt_bc
  have hc : chk none exC exP = true := by
    show (decide (la.size = 32) && prevOk none la && mayPlace ⟨lp, 10, 5⟩ && (decide (lb.size = 32) && prevOk (some la) lb && mayPlace ⟨lp, 15, 5⟩ && (decide (lc.size = 32) && prevOk (some lb) lc && mayPlace ⟨lq, 8, 9⟩ && true))) = true
    rw [h1, h2, h3, h6, h7, h8, h4 _ (by simp), h4 _ (by simp), h4 _ (by simp)]
    rfl
  unfold mayIdx
  rw [hc, h5]
  rfl
theorem of_p : inD exS lp = [la, lb] := by
  have h := ofL_of (pack := lp) may_ex (l' := [0, 1]) (by rw [show inPack exP lp exP.length = [0, 1] by decide +kernel]) (by decide +kernel)
  exact (ofRes_inD (s := exS) (D := [la, lb]) (P := _) (z := 0) may_ex (.inr ⟨may_ex, _, h, rfl, rfl, .inr ⟨by simp, rfl⟩⟩)).symm
theorem of_q : inD exS lq = [lc] := by
  have h := ofL_of (pack := lq) may_ex (l' := [2]) (by rw [show inPack exP lq exP.length = [2] by decide +kernel]) (by decide +kernel)
  exact (ofRes_inD (s := exS) (D := [lc]) (P := _) (z := 0) may_ex (.inr ⟨may_ex, _, h, rfl, rfl, .inr ⟨by simp, rfl⟩⟩)).symm
theorem packs_ex : packsL exS = [lp, lq] := by
  refine (setS_unique (m := [lp, lq]) (List.pairwise_cons.2 ⟨by intro x hx; simp at hx; subst hx; exact sLt_pq, List.pairwise_singleton _ _⟩) fun z => ?_).symm
  simp [exP]
theorem mark_ex : markRes exS [la] = (⟨[la], [lb, lc], [lp], [lq], [la]⟩, 0) := by
  have k1 : keptD exS [la] lp = [la] := by unfold keptD; rw [of_p]; decide +kernel
  have k2 : keptD exS [la] lq = [] := by unfold keptD; rw [of_q]; decide +kernel
  have s1 : staleP exS [la] lp = true := by unfold staleP; rw [k1, of_p]; rfl
  have s2 : staleP exS [la] lq = false := by unfold staleP; rw [k2]; rfl
  have d1 : deadP exS [la] lp = false := by unfold deadP; rw [k1]; rfl
  have d2 : deadP exS [la] lq = true := by unfold deadP; rw [k2]; rfl
  have e1 : exC.filter (fun c => decide (c ∈ [la])) = [la] := by decide +kernel
  have e2 : exC.filter (fun c => !decide (c ∈ [la])) = [lb, lc] := by decide +kernel
  have e3 : [lp, lq].filter (staleP exS [la]) = [lp] := by rw [List.filter_cons_of_pos s1, List.filter_cons_of_neg (by rw [s2]; simp)]; rfl
  have e4 : [lp, lq].filter (deadP exS [la]) = [lq] := by rw [List.filter_cons_of_neg (by rw [d1]; simp), List.filter_cons_of_pos d2]; rfl
  have e5 : movedL exS [la] [lp, lq] = [la] := by unfold movedL; rw [e3]; simp [k1]
  have e6 : setS [la] = [la] := (setS_unique (m := [la]) (List.pairwise_singleton _ _) fun z => Iff.rfl).symm
  unfold markRes
  rw [if_pos may_ex]
  unfold markSp
  rw [packs_ex, e3, e4, e5, e6, e1, e2]
end Go.Proofs.YtdhlmhkabckbaaaGreatDoor
