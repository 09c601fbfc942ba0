/-
  What index.Add and index.Drop tell, as lists.
-/
import Derived.Test.YtbfephekkfieaaaInsA
import Derived.Test.YtbfephekkfieaaaIdxB
namespace Go.Proofs.Ytbfephekkfieaaa
open Go.RowKit

/-- Where a text would stand in a rising row. -/
def lowB (cs : List ByteArray) (d : ByteArray) : Nat := (cs.takeWhile fun c => sLt c d).length
theorem lowB_cons_lt {c d : ByteArray} {cs : List ByteArray} (h : sLt c d = true) : lowB (c :: cs) d = lowB cs d + 1 := by simp [lowB, h]
theorem lowB_cons_ge {c d : ByteArray} {cs : List ByteArray} (h : sLt c d = false) : lowB (c :: cs) d = 0 := by simp [lowB, h]
theorem lowB_le (cs : List ByteArray) (d : ByteArray) : lowB cs d ≤ cs.length := by
  induction cs with
  | nil => simp [lowB]
  | cons c cs ih =>
    cases h : sLt c d
    · rw [lowB_cons_ge h]; omega
    · rw [lowB_cons_lt h]; simp; exact ih
theorem lowB_of {d : ByteArray} : ∀ {cs : List ByteArray} {m : Nat}, m ≤ cs.length → (∀ j, j < m → geAt cs d j = false) → (m < cs.length → geAt cs d m = true) → lowB cs d = m
  | [], m, hm, _, _ => by simp at hm; subst hm; rfl
  | c :: cs, 0, _, _, h2 => by
    have := h2 (by simp)
    simp [geAt] at this
    exact lowB_cons_ge this
  | c :: cs, m + 1, hm, h1, h2 => by
    have h0 := h1 0 (by omega)
    simp [geAt] at h0
    rw [lowB_cons_lt h0, lowB_of (m := m) (by simpa using hm) (fun j hj => ?_) (fun hj => ?_)]
    · have := h1 (j + 1) (by omega)
      simpa [geAt] using this
    · have := h2 (by simpa using hj)
      simpa [geAt] using this
theorem lowB_lo {d : ByteArray} : ∀ {cs : List ByteArray} {j : Nat} {c : ByteArray}, j < lowB cs d → cs[j]? = some c → sLt c d = true
  | [], j, c, h, _ => by simp [lowB] at h
  | x :: cs, j, c, h, hc => by
    cases hx : sLt x d
    · rw [lowB_cons_ge hx] at h; omega
    · rw [lowB_cons_lt hx] at h
      cases j with
      | zero => simp at hc; subst hc; exact hx
      | succ j => exact lowB_lo (cs := cs) (j := j) (by omega) (by simpa using hc)
theorem lowB_at {d : ByteArray} : ∀ {cs : List ByteArray} {c : ByteArray}, cs[lowB cs d]? = some c → sLt c d = false
  | [], c, h => by simp at h
  | x :: cs, c, h => by
    cases hx : sLt x d
    · rw [lowB_cons_ge hx] at h
      simp at h
      subst h
      exact hx
    · rw [lowB_cons_lt hx] at h
      exact lowB_at (cs := cs) (by simpa using h)
theorem lowB_hi {cs : List ByteArray} {d : ByteArray} (hr : RiseS cs) {j : Nat} {c : ByteArray} (hj : lowB cs d ≤ j) (hc : cs[j]? = some c) : sLt c d = false := by
  obtain ⟨hjl, hjc⟩ := List.getElem?_eq_some_iff.1 hc
  obtain ⟨x, hx⟩ := getElem_some (l := cs) (i := lowB cs d) (by omega)
  have h1 := lowB_at hx
  rcases Nat.lt_or_ge (lowB cs d) j with h | h
  · cases h2 : sLt c d
    · rfl
    · have h3 := List.pairwise_iff_getElem.1 hr _ _ (List.getElem?_eq_some_iff.1 hx).1 hjl h
      rw [(List.getElem?_eq_some_iff.1 hx).2, hjc] at h3
      rw [sLt_trans h3 h2] at h1
      cases h1
  · have : j = lowB cs d := by omega
    subst this
    rw [hx] at hc
    injection hc with e
    rw [← e]
    exact h1
theorem lowB_mem {cs : List ByteArray} {d : ByteArray} (hr : RiseS cs) : cs[lowB cs d]? = some d ↔ d ∈ cs := by
  refine ⟨List.mem_of_getElem?, fun h => ?_⟩
  obtain ⟨i, hi⟩ := List.getElem?_of_mem h
  replace hi : cs[i]? = some d := hi
  rcases Nat.lt_trichotomy i (lowB cs d) with h | h | h
  · have := lowB_lo h hi
    rw [sLt_irrefl] at this
    cases this
  · rw [← h]; exact hi
  · obtain ⟨h1, h2⟩ := List.getElem?_eq_some_iff.1 hi
    obtain ⟨x, hx⟩ := getElem_some (l := cs) (i := lowB cs d) (by omega)
    have h3 := lowB_at hx
    have h4 := List.pairwise_iff_getElem.1 hr _ _ (List.getElem?_eq_some_iff.1 hx).1 h1 h
    rw [(List.getElem?_eq_some_iff.1 hx).2, h2, h3] at h4
    cases h4

theorem mem_insAt {α : Type} {i : Nat} {x y : α} {l : List α} : y ∈ insAt i x l ↔ y = x ∨ y ∈ l := by
  rw [insAt, List.mem_append, List.mem_cons]
  conv => rhs; rw [← List.take_append_drop i l, List.mem_append]
  constructor
  · rintro (h | h | h)
    · exact .inr (.inl h)
    · exact .inl h
    · exact .inr (.inr h)
  · rintro (h | h | h)
    · exact .inr (.inl h)
    · exact .inl h
    · exact .inr (.inr h)
theorem rise_insAt {cs : List ByteArray} {d : ByteArray} (hr : RiseS cs) (hd : d ∉ cs) : RiseS (insAt (lowB cs d) d cs) := by
  have hlo : ∀ x ∈ cs.take (lowB cs d), sLt x d = true := fun x hx => by
    obtain ⟨j, hj⟩ := List.getElem?_of_mem hx
    have h2 := (List.getElem?_eq_some_iff.1 hj).1
    rw [List.length_take] at h2
    rw [List.getElem?_take_of_lt (by omega)] at hj
    exact lowB_lo (by omega) hj
  have hhi : ∀ x ∈ cs.drop (lowB cs d), sLt d x = true := fun x hx => by
    obtain ⟨j, hj⟩ := List.getElem?_of_mem hx
    rw [List.getElem?_drop] at hj
    have h1 := lowB_hi (d := d) hr (Nat.le_add_right _ _) hj
    rcases sLt_tri d x with h | h | h
    · exact h
    · exact absurd (h ▸ List.mem_of_getElem? hj) hd
    · rw [h] at h1; cases h1
  have hp : RiseS (cs.take (lowB cs d) ++ cs.drop (lowB cs d)) := by rw [List.take_append_drop]; exact hr
  obtain ⟨h1, h2, h3⟩ := List.pairwise_append.1 hp
  refine List.pairwise_append.2 ⟨h1, List.pairwise_cons.2 ⟨hhi, h2⟩, fun a ha b hb => ?_⟩
  rcases List.mem_cons.1 hb with rfl | hb
  · exact hlo a ha
  · exact h3 a ha b hb

def stNone : St := ⟨0, 0, 0, [], [], []⟩
/-- Chunks laid into a row one behind the other. -/
def addGo : List ByteArray → List Place → List ByteArray → List Place → Option (List ByteArray × List Place)
  | d :: ds, q :: qs, cs, ps => if d ∈ cs then none else addGo ds qs (insAt (lowB cs d) d cs) (insAt (lowB cs d) q ps)
  | _, _, cs, ps => some (cs, ps)
/-- May these be added, as far as each of them tells? -/
def mayNew (ds : List ByteArray) (qs : List Place) : Bool := (ds.all fun d => decide (d.size = 32)) && qs.all mayPlace
/-- What Add tells. -/
def addIdx (s : St) (ds : List ByteArray) (qs : List Place) : St × Int :=
  if mayIdx s.cs s.ps then
    if ds.length = qs.length ∧ 0 < ds.length ∧ mayNew ds qs = true then
      match addGo ds qs s.cs s.ps with
      | none => (stNone, 6)
      | some (cs, ps) => if 400 < cs.length then (stNone, 40) else if apartB ps then (⟨s.k, s.n, s.next, s.sn, cs, ps⟩, 0) else (stNone, 1)
    else (stNone, 1)
  else (stNone, 4)

/-- What is left of a row of pairs without some chunks. -/
def dropGo (ds : List ByteArray) : List ByteArray → List Place → List ByteArray × List Place
  | c :: cs, p :: ps => if c ∈ ds then dropGo ds cs ps else (c :: (dropGo ds cs ps).1, p :: (dropGo ds cs ps).2)
  | _, _ => ([], [])
/-- What Drop tells. -/
def dropIdx (s : St) (ds : List ByteArray) : St × Int :=
  if mayIdx s.cs s.ps then if ds.all fun d => decide (d ∈ s.cs) then (⟨s.k, s.n, s.next, s.sn, (dropGo ds s.cs s.ps).1, (dropGo ds s.cs s.ps).2⟩, 0) else (stNone, 5) else (stNone, 4)
end Go.Proofs.Ytbfephekkfieaaa
