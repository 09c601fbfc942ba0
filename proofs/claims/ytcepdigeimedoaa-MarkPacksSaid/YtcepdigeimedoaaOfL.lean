/-
  What stands in a pack, as a list: it is one and no other.
-/
import Derived.Test.YtcepdigeimedoaaOfA
namespace Go.Proofs.Ytcepdigeimedoaa

theorem pair_unique {α : Type} {r : α → α → Prop} (irr : ∀ a, ¬ r a a) (tr : ∀ a b c, r a b → r b c → r a c) : ∀ {l l' : List α}, l.Pairwise r → l'.Pairwise r → (∀ x, x ∈ l ↔ x ∈ l') → l = l'
  | [], [], _, _, _ => rfl
  | [], y :: l', _, _, h => absurd ((h y).2 List.mem_cons_self) List.not_mem_nil
  | x :: l, [], _, _, h => absurd ((h x).1 List.mem_cons_self) List.not_mem_nil
  | x :: l, y :: l', h1, h2, h => by
    have a1 := List.pairwise_cons.1 h1
    have a2 := List.pairwise_cons.1 h2
    have hxy : x = y := by
      rcases List.mem_cons.1 ((h x).1 List.mem_cons_self) with e | hx
      · exact e
      · rcases List.mem_cons.1 ((h y).2 List.mem_cons_self) with e | hy
        · exact e.symm
        · exact absurd (tr _ _ _ (a1.1 y hy) (a2.1 x hx)) (irr x)
    subst hxy
    rw [pair_unique irr tr a1.2 a2.2 fun z => ?_]
    refine ⟨fun hz => ?_, fun hz => ?_⟩
    · rcases List.mem_cons.1 ((h z).1 (List.mem_cons_of_mem _ hz)) with e | hz'
      · exact absurd (e ▸ a1.1 z hz) (irr x)
      · exact hz'
    · rcases List.mem_cons.1 ((h z).2 (List.mem_cons_of_mem _ hz)) with e | hz'
      · exact absurd (e ▸ a2.1 z hz) (irr x)
      · exact hz'

/-- What stands in a pack: each chunk with its place, by where the places begin. -/
structure OfL (cs : List ByteArray) (ps : List Place) (pack : ByteArray) (L : List (ByteArray × Place)) : Prop where
  rise : L.Pairwise fun a b => a.2.at_ < b.2.at_
  mem : ∀ x : ByteArray × Place, x ∈ L ↔ (∃ i : Nat, cs[i]? = some x.1 ∧ ps[i]? = some x.2) ∧ x.2.pack = pack
theorem OfL.unique {cs : List ByteArray} {ps : List Place} {pack : ByteArray} {L L' : List (ByteArray × Place)} (h : OfL cs ps pack L) (h' : OfL cs ps pack L') : L = L' :=
  pair_unique (r := fun a b : ByteArray × Place => a.2.at_ < b.2.at_) (fun a => by omega) (fun a b c h1 h2 => by omega) h.rise h'.rise fun x => (h.mem x).trans (h'.mem x).symm

/-- The numbers of the places that stand in a pack, among the first n. -/
def inPack (ps : List Place) (pack : ByteArray) (n : Nat) : List Nat := (List.range n).filter fun i => decide ((ps[i]?).map Place.pack = some pack)
theorem inPack_mem {ps : List Place} {pack : ByteArray} {n i : Nat} : i ∈ inPack ps pack n ↔ i < n ∧ (ps[i]?).map Place.pack = some pack := by simp [inPack]
theorem inPack_yes {ps : List Place} {pack : ByteArray} {k : Nat} {p : Place} (h : ps[k]? = some p) (hp : p.pack = pack) : inPack ps pack (k + 1) = inPack ps pack k ++ [k] := by
  simp [inPack, List.range_succ, List.filter_append, h, hp]
theorem inPack_no {ps : List Place} {pack : ByteArray} {k : Nat} {p : Place} (h : ps[k]? = some p) (hp : p.pack ≠ pack) : inPack ps pack (k + 1) = inPack ps pack k := by
  simp [inPack, List.range_succ, List.filter_append, h, hp]
theorem inPack_len (ps : List Place) (pack : ByteArray) (n : Nat) : (inPack ps pack n).length ≤ n := by
  have := List.length_filter_le (fun i => decide ((ps[i]?).map Place.pack = some pack)) (List.range n)
  simpa [inPack] using this
theorem inPack_nodup (ps : List Place) (pack : ByteArray) (n : Nat) : (inPack ps pack n).Nodup := List.Pairwise.filter _ List.nodup_range

/-- A chunk with its place. -/
def pairAt (cs : List ByteArray) (ps : List Place) (i : Nat) : ByteArray × Place := ((cs[i]?).getD ⟨#[]⟩, (ps[i]?).getD Place.zero)
theorem pairAt_eq {cs : List ByteArray} {ps : List Place} {i : Nat} {c : ByteArray} {p : Place} (h1 : cs[i]? = some c) (h2 : ps[i]? = some p) : pairAt cs ps i = (c, p) := by simp [pairAt, h1, h2]

theorem at_ne {cs : List ByteArray} {ps : List Place} (hm : mayIdx cs ps = true) {i j : Nat} {p q : Place} (hi : ps[i]? = some p) (hj : ps[j]? = some q) (hpq : p.pack = q.pack) (hij : i ≠ j) : p.at_ ≠ q.at_ := by
  have hv := mayIdx_places hm
  have hap : apartB ps = true := by simp [mayIdx] at hm; exact hm.2
  have hpw := (apartB_iff ps).1 hap
  have key : ∀ {a b : Nat} {x y : Place}, ps[a]? = some x → ps[b]? = some y → x.pack = y.pack → a < b → x.at_ ≠ y.at_ := fun {a b x y} ha hb hxy hab he => by
    obtain ⟨h1, h2⟩ := List.getElem?_eq_some_iff.1 ha
    obtain ⟨h3, h4⟩ := List.getElem?_eq_some_iff.1 hb
    have := List.pairwise_iff_getElem.1 hpw a b h1 h3 hab
    rw [h2, h4] at this
    have b1 := mayPlace_bounds (hv x (List.mem_of_getElem? ha))
    have b2 := mayPlace_bounds (hv y (List.mem_of_getElem? hb))
    simp [clash, hxy] at this
    omega
  rcases Nat.lt_or_ge i j with h | h
  · exact key hi hj hpq h
  · exact (key hj hi hpq.symm (by omega)).symm

theorem ofL_of {cs : List ByteArray} {ps : List Place} {pack : ByteArray} (hm : mayIdx cs ps = true) {l' : List Nat} (hp : l'.Perm (inPack ps pack ps.length)) (hs : l'.Pairwise fun a b => atOf ps a ≤ atOf ps b) : OfL cs ps pack (l'.map (pairAt cs ps)) := by
  have hlen := (mayIdx_len hm).1
  have hin : ∀ {i}, i ∈ l' → ∃ c p, cs[i]? = some c ∧ ps[i]? = some p ∧ p.pack = pack := fun {i} hi => by
    obtain ⟨h1, h2⟩ := inPack_mem.1 (hp.mem_iff.1 hi)
    obtain ⟨p, hp'⟩ := getElem_some (l := ps) (i := i) h1
    obtain ⟨c, hc⟩ := getElem_some (l := cs) (i := i) (by omega)
    rw [hp'] at h2
    exact ⟨c, p, hc, hp', by simpa using h2⟩
  constructor
  · rw [List.pairwise_map]
    have hnd : l'.Nodup := hp.nodup_iff.2 (inPack_nodup ps pack ps.length)
    refine List.Pairwise.imp_of_mem ?_ (hs.and hnd)
    intro a b ha hb hab
    obtain ⟨c1, p1, h1, h2, h3⟩ := hin ha
    obtain ⟨c2, p2, h4, h5, h6⟩ := hin hb
    rw [pairAt_eq h1 h2, pairAt_eq h4 h5]
    have := at_ne hm h2 h5 (h3.trans h6.symm) hab.2
    have h7 := hab.1
    rw [atOf_eq h2, atOf_eq h5] at h7
    simp only
    omega
  · intro x
    rw [List.mem_map]
    constructor
    · rintro ⟨i, hi, rfl⟩
      obtain ⟨c1, p1, h1, h2, h3⟩ := hin hi
      rw [pairAt_eq h1 h2]
      exact ⟨⟨i, h1, h2⟩, h3⟩
    · rintro ⟨⟨i, h1, h2⟩, h3⟩
      refine ⟨i, hp.mem_iff.2 (inPack_mem.2 ⟨(List.getElem?_eq_some_iff.1 h2).1, by rw [h2]; simp [h3]⟩), ?_⟩
      rw [pairAt_eq h1 h2]

/-- What Of tells. -/
def OfRes (s : St) (pack : ByteArray) (D : List ByteArray) (P : List Place) (z : Int) : Prop :=
  (mayIdx s.cs s.ps = false ∧ D = [] ∧ P = [] ∧ z = 4) ∨ (mayIdx s.cs s.ps = true ∧ ∃ L, OfL s.cs s.ps pack L ∧ D = L.map (·.1) ∧ P = L.map (·.2) ∧ ((L = [] ∧ z = 5) ∨ (L ≠ [] ∧ z = 0)))
theorem OfRes.unique {s : St} {pack : ByteArray} {D D' : List ByteArray} {P P' : List Place} {z z' : Int} (h : OfRes s pack D P z) (h' : OfRes s pack D' P' z') : D = D' ∧ P = P' ∧ z = z' := by
  rcases h with ⟨a, rfl, rfl, rfl⟩ | ⟨a, L, h1, rfl, rfl, h4⟩
  · rcases h' with ⟨_, rfl, rfl, rfl⟩ | ⟨b, _⟩
    · exact ⟨rfl, rfl, rfl⟩
    · rw [a] at b; cases b
  · rcases h' with ⟨b, _⟩ | ⟨_, L', h1', rfl, rfl, h4'⟩
    · rw [a] at b; cases b
    · obtain rfl := h1.unique h1'
      refine ⟨rfl, rfl, ?_⟩
      rcases h4 with ⟨e, rfl⟩ | ⟨e, rfl⟩ <;> rcases h4' with ⟨e', rfl⟩ | ⟨e', rfl⟩ <;> first | rfl | exact absurd e e' | exact absurd e' e

/-- What was chosen so far by the reference: what begins below. -/
structure OfTo (cs : List ByteArray) (ps : List Place) (pack : ByteArray) (from_ : Int) (L : List (ByteArray × Place)) : Prop where
  rise : L.Pairwise fun a b => a.2.at_ < b.2.at_
  mem : ∀ x : ByteArray × Place, x ∈ L ↔ ((∃ i : Nat, cs[i]? = some x.1 ∧ ps[i]? = some x.2) ∧ x.2.pack = pack) ∧ x.2.at_ < from_
theorem OfTo.nil {cs : List ByteArray} {ps : List Place} {pack : ByteArray} (hm : mayIdx cs ps = true) : OfTo cs ps pack 0 [] :=
  ⟨List.Pairwise.nil, fun x => ⟨fun h => absurd h List.not_mem_nil, fun ⟨⟨⟨i, _, h2⟩, _⟩, h3⟩ => by have := mayPlace_bounds (mayIdx_places hm _ (List.mem_of_getElem? h2)); omega⟩⟩
/-- The next one: number q, which stands in the pack, begins at from_ or behind, and none that does so begins ahead of it. -/
theorem OfTo.next {cs : List ByteArray} {ps : List Place} {pack : ByteArray} {f : Int} {L : List (ByteArray × Place)} (h : OfTo cs ps pack f L) (hm : mayIdx cs ps = true) {q : Nat} {c : ByteArray} {p : Place} (hc : cs[q]? = some c) (hp : ps[q]? = some p) (hpk : p.pack = pack) (hf : f ≤ p.at_)
    (hmin : ∀ (i : Nat) (r : Place), ps[i]? = some r → r.pack = pack → f ≤ r.at_ → p.at_ ≤ r.at_) : OfTo cs ps pack (p.at_ + 1) (L ++ [(c, p)]) := by
  constructor
  · rw [List.pairwise_append]
    refine ⟨h.rise, List.pairwise_singleton _ _, fun a ha b hb => ?_⟩
    rw [List.mem_singleton] at hb
    subst hb
    have := ((h.mem a).1 ha).2
    simp only
    omega
  · intro x
    rw [List.mem_append, List.mem_singleton, h.mem]
    constructor
    · rintro (⟨h1, h2⟩ | rfl)
      · exact ⟨h1, by omega⟩
      · exact ⟨⟨⟨q, hc, hp⟩, hpk⟩, by simp only; omega⟩
    · rintro ⟨⟨⟨i, h1, h2⟩, h3⟩, h4⟩
      by_cases hx : x.2.at_ < f
      · exact .inl ⟨⟨⟨i, h1, h2⟩, h3⟩, hx⟩
      · refine .inr ?_
        have h5 := hmin i x.2 h2 h3 (by omega)
        by_cases hiq : i = q
        · subst hiq
          rw [hc] at h1
          rw [hp] at h2
          injection h1 with h1
          injection h2 with h2
          exact Prod.ext h1.symm h2.symm
        · have := at_ne hm h2 hp (h3.trans hpk.symm) hiq
          omega
/-- None is left. -/
theorem OfTo.done {cs : List ByteArray} {ps : List Place} {pack : ByteArray} {f : Int} {L : List (ByteArray × Place)} (h : OfTo cs ps pack f L) (hno : ∀ (i : Nat) (r : Place), ps[i]? = some r → r.pack = pack → r.at_ < f) : OfL cs ps pack L :=
  ⟨h.rise, fun x => (h.mem x).trans ⟨fun h => h.1, fun h => ⟨h, by obtain ⟨⟨i, _, h2⟩, h3⟩ := h; exact hno i x.2 h2 h3⟩⟩⟩
end Go.Proofs.Ytcepdigeimedoaa
