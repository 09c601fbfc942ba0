/-
  What adding and dropping chunks does to which chunk stands where. No program in sight.
-/
import Derived.Test.YtbfephekkfieaaaDropA
namespace Go.Proofs.Ytbfephekkfieaaa
open Go.RowKit

/-- A chunk stands at a place. -/
def Stands (cs : List ByteArray) (ps : List Place) (c : ByteArray) (p : Place) : Prop := ∃ i : Nat, cs[i]? = some c ∧ ps[i]? = some p
section
variable {s : St} {D ds cs cs' : List ByteArray} {qs ps ps' : List Place} {c d : ByteArray} {p q : Place}
theorem stands_nil : ¬ Stands [] ps c p := by rintro ⟨i, h, _⟩; simp at h
theorem stands_nil' : ¬ Stands cs [] c p := by rintro ⟨i, _, h⟩; simp at h
theorem stands_cons : Stands (d :: cs) (q :: ps) c p ↔ (c = d ∧ p = q) ∨ Stands cs ps c p := by
  constructor
  · rintro ⟨i, h1, h2⟩
    cases i with
    | zero => simp at h1 h2; exact .inl ⟨h1.symm, h2.symm⟩
    | succ i => exact .inr ⟨i, by simpa using h1, by simpa using h2⟩
  · rintro (⟨rfl, rfl⟩ | ⟨i, h1, h2⟩)
    · exact ⟨0, rfl, rfl⟩
    · exact ⟨i + 1, by simpa using h1, by simpa using h2⟩
theorem stands_append : ∀ {cs : List ByteArray} {ps : List Place} {cs' : List ByteArray} {ps' : List Place}, cs.length = ps.length → (Stands (cs ++ cs') (ps ++ ps') c p ↔ Stands cs ps c p ∨ Stands cs' ps' c p)
  | [], [], _, _, _ => by simp [stands_nil]
  | [], _ :: _, _, _, h => by simp at h
  | _ :: _, [], _, _, h => by simp at h
  | a :: cs, b :: ps, cs', ps', h => by
    rw [List.cons_append, List.cons_append, stands_cons, stands_cons, stands_append (by simpa using h), or_assoc]
theorem stands_mem (h : Stands cs ps c p) : c ∈ cs := by obtain ⟨i, h1, _⟩ := h; exact List.mem_of_getElem? h1
theorem stands_of_mem (hl : cs.length = ps.length) (h : c ∈ cs) : ∃ p, Stands cs ps c p := by
  obtain ⟨i, hi⟩ := List.getElem?_of_mem h
  obtain ⟨p, hp⟩ := getElem_some (l := ps) (i := i) (by have := (List.getElem?_eq_some_iff.1 hi).1; omega)
  exact ⟨p, i, hi, hp⟩
theorem insAt_stands {i : Nat} (hl : cs.length = ps.length) : Stands (insAt i d cs) (insAt i q ps) c p ↔ (c = d ∧ p = q) ∨ Stands cs ps c p := by
  have h1 : (cs.take i).length = (ps.take i).length := by simp [hl]
  rw [insAt, insAt, stands_append h1, stands_cons]
  conv => rhs; rw [← List.take_append_drop i cs, ← List.take_append_drop i ps, stands_append h1]
  constructor
  · rintro (h | h | h)
    · exact .inr (.inl h)
    · exact .inl h
    · exact .inr (.inr h)
  · rintro (h | h | h)
    · exact .inr (.inl h)
    · exact .inl h
    · exact .inr (.inr h)

/-- What addGo makes of a row. -/
structure Added (ds : List ByteArray) (qs : List Place) (cs : List ByteArray) (ps : List Place) (cs' : List ByteArray) (ps' : List Place) : Prop where
  rise : RiseS cs'
  lens : cs'.length = ps'.length
  len : cs'.length = cs.length + ds.length
  stands : ∀ c p, Stands cs' ps' c p ↔ Stands ds qs c p ∨ Stands cs ps c p
  apart : ∀ c ∈ ds, c ∉ cs
theorem addGo_added : ∀ {ds : List ByteArray} {qs : List Place} {cs : List ByteArray} {ps : List Place}, ds.length = qs.length → cs.length = ps.length → RiseS cs → addGo ds qs cs ps = some (cs', ps') → Added ds qs cs ps cs' ps'
  | [], qs, cs, ps, _, hl, hr, e => by
    simp only [addGo, Option.some.injEq, Prod.mk.injEq] at e
    obtain ⟨rfl, rfl⟩ := e
    exact ⟨hr, hl, by simp, fun c p => by simp [stands_nil], by simp⟩
  | d :: ds, [], _, _, h, _, _, _ => by simp at h
  | d :: ds, q :: qs, cs, ps, h, hl, hr, e => by
    simp only [addGo] at e
    split at e
    · cases e
    · rename_i hd
      have ih := addGo_added (by simpa using h) (insAt_same hl) (rise_insAt hr hd) e
      refine ⟨ih.rise, ih.lens, ?_, fun c p => ?_, fun c hc => ?_⟩
      · have := ih.len
        rw [insAt_len (lowB_le cs d)] at this
        simp only [List.length_cons]
        omega
      · rw [ih.stands, insAt_stands hl, stands_cons]
        constructor
        · rintro (h | h | h)
          · exact .inl (.inr h)
          · exact .inl (.inl h)
          · exact .inr h
        · rintro ((h | h) | h)
          · exact .inr (.inl h)
          · exact .inl h
          · exact .inr (.inr h)
      · rcases List.mem_cons.1 hc with rfl | hc
        · exact hd
        · exact fun hcs => ih.apart c hc (mem_insAt.2 (.inr hcs))
theorem addGo_append : ∀ {ds : List ByteArray} {qs : List Place} {ds' : List ByteArray} {qs' : List Place} {cs : List ByteArray} {ps : List Place}, ds.length = qs.length → addGo (ds ++ ds') (qs ++ qs') cs ps = (match addGo ds qs cs ps with | none => none | some (x, y) => addGo ds' qs' x y)
  | [], [], _, _, _, _, _ => by simp [addGo]
  | [], _ :: _, _, _, _, _, h => by simp at h
  | _ :: _, [], _, _, _, _, h => by simp at h
  | d :: ds, q :: qs, ds', qs', cs, ps, h => by
    simp only [List.cons_append, addGo]
    split
    · rfl
    · exact addGo_append (by simpa using h)

theorem dropGo_stands : ∀ {cs : List ByteArray} {ps : List Place}, Stands (dropGo D cs ps).1 (dropGo D cs ps).2 c p ↔ Stands cs ps c p ∧ c ∉ D
  | [], _ => by simp [dropGo, stands_nil]
  | _ :: _, [] => by simp [dropGo, stands_nil, stands_nil']
  | a :: cs, b :: ps => by
    have ih := dropGo_stands (cs := cs) (ps := ps)
    simp only [dropGo]
    split
    · rename_i ha
      rw [ih, stands_cons]
      constructor
      · rintro ⟨h1, h2⟩; exact ⟨.inr h1, h2⟩
      · rintro ⟨⟨rfl, rfl⟩ | h1, h2⟩
        · exact absurd ha h2
        · exact ⟨h1, h2⟩
    · rename_i ha
      rw [stands_cons, ih, stands_cons]
      constructor
      · rintro (⟨rfl, rfl⟩ | ⟨h1, h2⟩)
        · exact ⟨.inl ⟨rfl, rfl⟩, ha⟩
        · exact ⟨.inr h1, h2⟩
      · rintro ⟨h1 | h1, h2⟩
        · exact .inl h1
        · exact .inr ⟨h1, h2⟩
theorem dropGo_append : ∀ {cs : List ByteArray} {ps : List Place} {cs' : List ByteArray} {ps' : List Place}, cs.length = ps.length → dropGo D (cs ++ cs') (ps ++ ps') = ((dropGo D cs ps).1 ++ (dropGo D cs' ps').1, (dropGo D cs ps).2 ++ (dropGo D cs' ps').2)
  | [], [], _, _, _ => by simp [dropGo]
  | [], _ :: _, _, _, h => by simp at h
  | _ :: _, [], _, _, h => by simp at h
  | a :: cs, b :: ps, cs', ps', h => by
    simp only [List.cons_append, dropGo]
    rw [dropGo_append (by simpa using h)]
    split <;> rfl
theorem dropGo_insAt {i : Nat} (hl : cs.length = ps.length) (hd : d ∈ D) : dropGo D (insAt i d cs) (insAt i q ps) = dropGo D cs ps := by
  have h1 : (cs.take i).length = (ps.take i).length := by simp [hl]
  rw [insAt, insAt, dropGo_append h1]
  conv => rhs; rw [← List.take_append_drop i cs, ← List.take_append_drop i ps, dropGo_append h1]
  simp only [dropGo, if_pos hd]
theorem dropGo_none : ∀ {cs : List ByteArray} {ps : List Place}, cs.length = ps.length → (∀ c ∈ cs, c ∉ D) → dropGo D cs ps = (cs, ps)
  | [], [], _, _ => by simp [dropGo]
  | [], _ :: _, h, _ => by simp at h
  | _ :: _, [], h, _ => by simp at h
  | a :: cs, b :: ps, h, hn => by
    simp only [dropGo]
    rw [if_neg (hn a List.mem_cons_self), dropGo_none (by simpa using h) fun c hc => hn c (List.mem_cons_of_mem _ hc)]
theorem dropGo_addGo : ∀ {ds : List ByteArray} {qs : List Place} {cs : List ByteArray} {ps : List Place}, cs.length = ps.length → (∀ c ∈ ds, c ∈ D) → addGo ds qs cs ps = some (cs', ps') → dropGo D cs' ps' = dropGo D cs ps
  | [], qs, cs, ps, _, _, e => by
    simp only [addGo, Option.some.injEq, Prod.mk.injEq] at e
    obtain ⟨rfl, rfl⟩ := e
    rfl
  | d :: ds, [], cs, ps, _, _, e => by
    simp only [addGo, Option.some.injEq, Prod.mk.injEq] at e
    obtain ⟨rfl, rfl⟩ := e
    rfl
  | d :: ds, q :: qs, cs, ps, hl, hD, e => by
    simp only [addGo] at e
    split at e
    · cases e
    · rw [dropGo_addGo (insAt_same hl) (fun c hc => hD c (List.mem_cons_of_mem _ hc)) e, dropGo_insAt hl (hD d List.mem_cons_self)]
theorem dropGo_twice : ∀ {cs : List ByteArray} {ps : List Place}, dropGo ds (dropGo D cs ps).1 (dropGo D cs ps).2 = dropGo (ds ++ D) cs ps
  | [], _ => by simp [dropGo]
  | _ :: _, [] => by simp [dropGo]
  | a :: cs, b :: ps => by
    simp only [dropGo]
    by_cases h1 : a ∈ D
    · rw [if_pos h1, if_pos (List.mem_append.2 (.inr h1)), dropGo_twice]
    · rw [if_neg h1]
      simp only [dropGo]
      by_cases h2 : a ∈ ds
      · rw [if_pos h2, if_pos (List.mem_append.2 (.inl h2)), dropGo_twice]
      · rw [if_neg h2, if_neg (fun h => (List.mem_append.1 h).elim h2 h1), dropGo_twice]
theorem dropGo_subs : ∀ {cs : List ByteArray} {ps : List Place}, (dropGo D cs ps).1.Sublist cs ∧ (dropGo D cs ps).2.Sublist ps
  | [], _ => by simp [dropGo]
  | _ :: _, [] => by simp [dropGo]
  | a :: cs, b :: ps => by
    have ih := dropGo_subs (cs := cs) (ps := ps)
    simp only [dropGo]
    split
    · exact ⟨ih.1.cons _, ih.2.cons _⟩
    · exact ⟨ih.1.cons_cons _, ih.2.cons_cons _⟩

theorem chk_of : ∀ {cs : List ByteArray} {ps : List Place} {prev : Option ByteArray}, cs.length = ps.length → (∀ c ∈ cs, c.size = 32) → (∀ p ∈ ps, mayPlace p = true) → RiseS cs → (∀ b, prev = some b → ∀ c ∈ cs, sLt b c = true) → chk prev cs ps = true
  | [], _, _, _, _, _, _, _ => by simp [chk]
  | _ :: _, [], _, h, _, _, _, _ => by simp at h
  | a :: cs, b :: ps, prev, h, h32, hp, hr, hprev => by
    have hr' := List.pairwise_cons.1 hr
    simp only [chk, Bool.and_eq_true, decide_eq_true_eq]
    refine ⟨⟨⟨h32 a List.mem_cons_self, ?_⟩, hp b List.mem_cons_self⟩, ?_⟩
    · cases prev with
      | none => rfl
      | some x => exact hprev x rfl a List.mem_cons_self
    · exact chk_of (by simpa using h) (fun c hc => h32 c (List.mem_cons_of_mem _ hc)) (fun p hp' => hp p (List.mem_cons_of_mem _ hp')) hr'.2 fun x hx c hc => by cases hx; exact hr'.1 c hc
theorem mayIdx_of (hl : cs.length = ps.length) (h4 : cs.length ≤ 400) (h32 : ∀ c ∈ cs, c.size = 32) (hp : ∀ p ∈ ps, mayPlace p = true) (hr : RiseS cs) (ha : apartB ps = true) : mayIdx cs ps = true := by
  unfold mayIdx
  rw [chk_of hl h32 hp hr (fun b hb => by cases hb), ha, decide_eq_true hl, decide_eq_true h4]
  rfl
theorem mayIdx_apart (h : mayIdx cs ps = true) : apartB ps = true := by simp [mayIdx] at h; exact h.2
theorem mayIdx_drop (h : mayIdx cs ps = true) : mayIdx (dropGo D cs ps).1 (dropGo D cs ps).2 = true := by
  obtain ⟨h1, h2⟩ := dropGo_subs (D := D) (cs := cs) (ps := ps)
  refine mayIdx_of (dropGo_lens _ _ _) (Nat.le_trans h1.length_le (mayIdx_len h).2) (fun c hc => mayIdx_size h c (h1.subset hc)) (fun p hp => mayIdx_places h p (h2.subset hp)) (List.Pairwise.sublist h1 (mayIdx_rise h)) ?_
  have := mayIdx_apart h
  rw [apartB_iff] at this ⊢
  exact this.sublist h2
theorem mayNew_size (h : mayNew ds qs = true) : ∀ c ∈ ds, c.size = 32 := fun c hc => by
  unfold mayNew at h
  rw [Bool.and_eq_true] at h
  exact of_decide_eq_true (List.all_eq_true.1 h.1 c hc)
theorem mayNew_place (h : mayNew ds qs = true) : ∀ p ∈ qs, mayPlace p = true := fun p hp => by
  unfold mayNew at h
  rw [Bool.and_eq_true] at h
  exact List.all_eq_true.1 h.2 p hp

/-- What it takes that Add answers OK. -/
structure AddOk (s : St) (ds : List ByteArray) (qs : List Place) (cs' : List ByteArray) (ps' : List Place) : Prop where
  may : mayIdx s.cs s.ps = true
  lens : ds.length = qs.length
  pos : 0 < ds.length
  new : mayNew ds qs = true
  go : addGo ds qs s.cs s.ps = some (cs', ps')
  many : ¬ 400 < cs'.length
  apart : apartB ps' = true
theorem addIdx_cases (s : St) (ds : List ByteArray) (qs : List Place) : (∃ z, addIdx s ds qs = (stNone, z) ∧ z ≠ 0) ∨ ∃ cs' ps', AddOk s ds qs cs' ps' ∧ addIdx s ds qs = (⟨s.k, s.n, s.next, s.sn, cs', ps'⟩, 0) := by
  cases hm : mayIdx s.cs s.ps
  · exact .inl ⟨4, addIdx_form hm, by decide⟩
  · by_cases h1 : ds.length = qs.length ∧ 0 < ds.length ∧ mayNew ds qs = true
    · obtain ⟨h1, h2, h3⟩ := h1
      cases hg : addGo ds qs s.cs s.ps with
      | none => exact .inl ⟨6, addIdx_none hm h1 h2 h3 hg, by decide⟩
      | some x =>
        obtain ⟨cs', ps'⟩ := x
        by_cases h5 : 400 < cs'.length
        · exact .inl ⟨40, addIdx_many hm h1 h2 h3 hg h5, by decide⟩
        · cases h6 : apartB ps'
          · exact .inl ⟨1, addIdx_apart hm h1 h2 h3 hg h5 h6, by decide⟩
          · exact .inr ⟨cs', ps', ⟨hm, h1, h2, h3, hg, h5, h6⟩, addIdx_ok hm h1 h2 h3 hg h5 h6⟩
    · exact .inl ⟨1, addIdx_arg hm h1, by decide⟩
theorem AddOk.added (h : AddOk s ds qs cs' ps') : Added ds qs s.cs s.ps cs' ps' := addGo_added h.lens (mayIdx_len h.may).1 (mayIdx_rise h.may) h.go
theorem AddOk.mem (h : AddOk s ds qs cs' ps') {c : ByteArray} : c ∈ cs' ↔ c ∈ ds ∨ c ∈ s.cs := by
  have ha := h.added
  constructor
  · intro hc
    obtain ⟨p, hp⟩ := stands_of_mem ha.lens hc
    rcases (ha.stands c p).1 hp with h1 | h1
    · exact .inl (stands_mem h1)
    · exact .inr (stands_mem h1)
  · rintro (hc | hc)
    · obtain ⟨p, hp⟩ := stands_of_mem h.lens hc
      exact stands_mem ((ha.stands c p).2 (.inl hp))
    · obtain ⟨p, hp⟩ := stands_of_mem (mayIdx_len h.may).1 hc
      exact stands_mem ((ha.stands c p).2 (.inr hp))
theorem AddOk.res (h : AddOk s ds qs cs' ps') : mayIdx cs' ps' = true := by
  have ha := h.added
  refine mayIdx_of ha.lens (by have := h.many; omega) (fun c hc => ?_) (fun p hp => ?_) ha.rise h.apart
  · rcases h.mem.1 hc with h1 | h1
    · exact mayNew_size h.new c h1
    · exact mayIdx_size h.may c h1
  · obtain ⟨i, hi⟩ := List.getElem?_of_mem hp
    obtain ⟨c, hc⟩ := getElem_some (l := cs') (i := i) (by have := (List.getElem?_eq_some_iff.1 hi).1; have := ha.lens; omega)
    rcases (ha.stands c p).1 ⟨i, hc, hi⟩ with ⟨j, _, h1⟩ | ⟨j, _, h1⟩
    · exact mayNew_place h.new p (List.mem_of_getElem? h1)
    · exact mayIdx_places h.may p (List.mem_of_getElem? h1)
theorem AddOk.back (h : AddOk s ds qs cs' ps') (hD : ∀ c, c ∈ D ↔ c ∈ ds) : dropGo D cs' ps' = (s.cs, s.ps) := by
  rw [dropGo_addGo (mayIdx_len h.may).1 (fun c hc => (hD c).2 hc) h.go]
  exact dropGo_none (mayIdx_len h.may).1 fun c hc hcD => h.added.apart c ((hD c).1 hcD) hc

theorem stands_findP {s : St} (h : mayIdx s.cs s.ps = true) (hs : Stands s.cs s.ps c p) : findP s c = (p, 0) := by
  obtain ⟨i, h1, h2⟩ := hs
  exact findP_some h (posOf_of_at (mayIdx_rise h) h1) h2
theorem findP_out {s : St} (h : mayIdx s.cs s.ps = true) (hc : c ∉ s.cs) : findP s c = (Place.zero, 5) := findP_none h (posOf_none.2 hc)
theorem dropIdx_cases (s : St) (ds : List ByteArray) (hm : mayIdx s.cs s.ps = true) : (dropIdx s ds = (stNone, 5) ∧ ∃ c ∈ ds, c ∉ s.cs) ∨ (dropIdx s ds = (⟨s.k, s.n, s.next, s.sn, (dropGo ds s.cs s.ps).1, (dropGo ds s.cs s.ps).2⟩, 0) ∧ ∀ c ∈ ds, c ∈ s.cs) := by
  by_cases h : ∀ c ∈ ds, c ∈ s.cs
  · exact .inr ⟨dropIdx_ok hm rfl (fun i c _ hi => h c (List.mem_of_getElem? hi)), h⟩
  · have ⟨c, hc⟩ := Classical.not_forall.1 h
    have ⟨hc1, hc2⟩ := Classical.not_imp.1 hc
    obtain ⟨i, hi⟩ := List.getElem?_of_mem hc1
    exact .inl ⟨dropIdx_none hm hi hc2, c, hc1, hc2⟩
end

section
variable {s : St} {D E : List ByteArray} {P Q : List Place} {cs' : List ByteArray} {ps' : List Place}
theorem mayNew_append {D E : List ByteArray} {P Q : List Place} : mayNew (D ++ E) (P ++ Q) = true ↔ mayNew D P = true ∧ mayNew E Q = true := by
  unfold mayNew
  simp only [List.all_append, Bool.and_eq_true]
  constructor
  · rintro ⟨⟨a, b⟩, c, d⟩; exact ⟨⟨a, c⟩, b, d⟩
  · rintro ⟨⟨a, c⟩, b, d⟩; exact ⟨⟨a, b⟩, c, d⟩
theorem AddOk.eq (h : AddOk s D P cs' ps') : addIdx s D P = (⟨s.k, s.n, s.next, s.sn, cs', ps'⟩, 0) := addIdx_ok h.may h.lens h.pos h.new h.go h.many h.apart
/-- What comes of the second step, and of both at once. -/
theorem steps_add (h : AddOk s D P cs' ps') (hne : ¬ (E = [] ∧ Q = [])) :
    (∃ z2 z3, addIdx ⟨s.k, s.n, s.next, s.sn, cs', ps'⟩ E Q = (stNone, z2) ∧ z2 ≠ 0 ∧ addIdx s (D ++ E) (P ++ Q) = (stNone, z3) ∧ z3 ≠ 0) ∨
    ∃ cs2 ps2, AddOk ⟨s.k, s.n, s.next, s.sn, cs', ps'⟩ E Q cs2 ps2 ∧ AddOk s (D ++ E) (P ++ Q) cs2 ps2 := by
  rcases addIdx_cases ⟨s.k, s.n, s.next, s.sn, cs', ps'⟩ E Q with ⟨z2, e2, h2⟩ | ⟨cs2, ps2, ok2, _⟩
  · rcases addIdx_cases s (D ++ E) (P ++ Q) with ⟨z3, e3, h3⟩ | ⟨cs3, ps3, ok3, _⟩
    · exact .inl ⟨z2, z3, e2, h2, e3, h3⟩
    · exfalso
      have hl : E.length = Q.length := by
        have := ok3.lens
        rw [List.length_append, List.length_append, h.lens] at this
        omega
      have hpos : 0 < E.length := by
        rcases Nat.eq_zero_or_pos E.length with h0 | h0
        · exact absurd ⟨List.length_eq_zero_iff.1 h0, List.length_eq_zero_iff.1 (by omega)⟩ hne
        · exact h0
      have hgo := ok3.go
      rw [addGo_append h.lens, h.go] at hgo
      have ok : AddOk ⟨s.k, s.n, s.next, s.sn, cs', ps'⟩ E Q cs3 ps3 := ⟨h.res, hl, hpos, (mayNew_append.1 ok3.new).2, hgo, ok3.many, ok3.apart⟩
      have := ok.eq
      rw [e2] at this
      simp only [Prod.mk.injEq] at this
      exact h2 this.2
  · refine .inr ⟨cs2, ps2, ok2, ⟨h.may, ?_, ?_, mayNew_append.2 ⟨h.new, ok2.new⟩, ?_, ok2.many, ok2.apart⟩⟩
    · rw [List.length_append, List.length_append, h.lens, ok2.lens]
    · have := h.pos
      rw [List.length_append]
      omega
    · rw [addGo_append h.lens, h.go]
      exact ok2.go
theorem steps_drop {cs2 : List ByteArray} {ps2 : List Place} (h : AddOk s D P cs' ps') (h2 : AddOk ⟨s.k, s.n, s.next, s.sn, cs', ps'⟩ E Q cs2 ps2) (h3 : AddOk s (D ++ E) (P ++ Q) cs2 ps2) :
    dropIdx ⟨s.k, s.n, s.next, s.sn, cs2, ps2⟩ D = (⟨s.k, s.n, s.next, s.sn, (dropGo D cs2 ps2).1, (dropGo D cs2 ps2).2⟩, 0) ∧
    dropIdx ⟨s.k, s.n, s.next, s.sn, (dropGo D cs2 ps2).1, (dropGo D cs2 ps2).2⟩ E = (s, 0) ∧ dropIdx ⟨s.k, s.n, s.next, s.sn, cs2, ps2⟩ (E ++ D) = (s, 0) := by
  have hb := h3.back (D := E ++ D) (fun c => by rw [List.mem_append, List.mem_append]; exact Or.comm)
  have hin : ∀ c ∈ D ++ E, c ∈ cs2 := fun c hc => h3.mem.2 (.inl hc)
  refine ⟨dropIdx_ok h2.res rfl (fun i c _ hi => hin c (List.mem_append.2 (.inl (List.mem_of_getElem? hi)))), ?_, ?_⟩
  · have hm := mayIdx_drop (D := D) h2.res
    rw [dropIdx_ok (s := ⟨s.k, s.n, s.next, s.sn, (dropGo D cs2 ps2).1, (dropGo D cs2 ps2).2⟩) hm rfl (fun i c _ hi => ?_)]
    · dsimp only
      rw [dropGo_twice, hb]
    · have hcE : c ∈ E := List.mem_of_getElem? hi
      have hnD : c ∉ D := fun hD => h2.added.apart c hcE (h.mem.2 (.inl hD))
      obtain ⟨p, hp⟩ := stands_of_mem (mayIdx_len h2.res).1 (hin c (List.mem_append.2 (.inr hcE)))
      exact stands_mem (dropGo_stands.2 ⟨hp, hnD⟩)
  · rw [dropIdx_ok h2.res rfl (fun i c _ hi => hin c (by have := List.mem_of_getElem? hi; rw [List.mem_append] at this ⊢; exact this.symm))]
    dsimp only
    rw [hb]
theorem steps_law {k2 nn2 next2 k3 nn3 next3 z2 z3 : Int} {sn2 sn3 : List Snap} {cs2 cs3 : List ByteArray} {ps2 ps3 : List Place} (h : AddOk s D P cs' ps') (h2 : (⟨k2, nn2, next2, sn2, cs2, ps2⟩, z2) = addIdx ⟨s.k, s.n, s.next, s.sn, cs', ps'⟩ E Q) (h3 : (⟨k3, nn3, next3, sn3, cs3, ps3⟩, z3) = addIdx s (D ++ E) (P ++ Q)) :
    (E = [] ∧ Q = [] ∧ z2 = 1) ∨ (z2 ≠ 0 ∧ z3 ≠ 0) ∨ ∃ c2 p2, AddOk ⟨s.k, s.n, s.next, s.sn, cs', ps'⟩ E Q c2 p2 ∧ AddOk s (D ++ E) (P ++ Q) c2 p2 ∧
      (k2 = s.k ∧ nn2 = s.n ∧ next2 = s.next ∧ sn2 = s.sn ∧ cs2 = c2 ∧ ps2 = p2 ∧ z2 = 0) ∧ (k3 = s.k ∧ nn3 = s.n ∧ next3 = s.next ∧ sn3 = s.sn ∧ cs3 = c2 ∧ ps3 = p2 ∧ z3 = 0) := by
  by_cases hne : E = [] ∧ Q = []
  · refine .inl ⟨hne.1, hne.2, ?_⟩
    rw [hne.1, hne.2, addIdx_arg h.res (fun hh => absurd hh.2.1 (by simp))] at h2
    simp only [Prod.mk.injEq] at h2
    exact h2.2
  · refine .inr ?_
    rcases steps_add h hne with ⟨y2, y3, e2, n2, e3, n3⟩ | ⟨c2, p2, ok2, ok3⟩
    · rw [e2] at h2
      rw [e3] at h3
      simp only [Prod.mk.injEq] at h2 h3
      exact .inl ⟨by rw [h2.2]; exact n2, by rw [h3.2]; exact n3⟩
    · rw [ok2.eq] at h2
      rw [ok3.eq] at h3
      simp only [Prod.mk.injEq, St.mk.injEq] at h2 h3
      obtain ⟨⟨a1, a2, a3, a4, a5, a6⟩, a7⟩ := h2
      obtain ⟨⟨b1, b2, b3, b4, b5, b6⟩, b7⟩ := h3
      exact .inr ⟨c2, p2, ok2, ok3, ⟨a1, a2, a3, a4, a5, a6, a7⟩, ⟨b1, b2, b3, b4, b5, b6, b7⟩⟩
end
end Go.Proofs.Ytbfephekkfieaaa
