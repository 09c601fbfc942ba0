/-
  Some rows of strings of the call's own, apart from one another, and a box of five slices.
-/
import Derived.Test.YtdhlmhkabckbaaaGreatDoorMarkL
import Derived.Test.YtdhlmhkabckbaaaGreatDoorStA
namespace Go.Proofs.YtdhlmhkabckbaaaGreatDoor
open Go.RowKit

/-- The slices vs hold the rows ls, each the call's own, in blocks apart. -/
structure Fives (w : World) (base : Nat) (vs : List Value) (ls : List (List ByteArray)) : Prop where
  len : vs.length = ls.length
  own : ∀ (i : Nat) (v : Value) (l : List ByteArray), vs[i]? = some v → ls[i]? = some l → strE.Own w base v l
  ap : ∀ (i j : Nat) (a b : Value), i ≠ j → vs[i]? = some a → vs[j]? = some b → ∀ g, a.ownBlock = some g → b.ownBlock ≠ some g
section
variable {w w' : World} {base : Nat} {vs : List Value} {ls : List (List ByteArray)} {i : Nat} {v v' : Value} {l l' : List ByteArray}
theorem Fives.keep (h : Fives w base vs ls) (hk : ∀ v l, strE.Own w base v l → strE.Own w' base v l) : Fives w' base vs ls := ⟨h.len, fun i v l h1 h2 => hk v l (h.own i v l h1 h2), h.ap⟩
theorem Fives.below (h : Fives w base vs ls) (hb : Below w.heap.size w w') : Fives w' base vs ls := h.keep fun _ _ ho => Owns.below ho hb
theorem Fives.alloc (h : Fives w base vs ls) (o : Obj) : Fives (w.alloc o) base vs ls := h.keep fun _ _ ho => Owns.alloc ho o
theorem Fives.setOther (h : Fives w base vs ls) {b o : Nat} (u : Value) (hb : b < base) : Fives (w.setCell ⟨b, o, none⟩ u) base vs ls := h.keep fun _ _ ho => Owns.setOther ho u hb
theorem Fives.from (h : Fives w base vs ls) {B : Nat} (hB : B ≤ base) : Fives w B vs ls := ⟨h.len, fun i v l h1 h2 => Owns.from (h.own i v l h1 h2) hB, h.ap⟩
theorem Fives.nils (w : World) (base : Nat) (n : Nat) : Fives w base (List.replicate n (.slice none 0 0)) (List.replicate n []) :=
  ⟨by simp, fun i v l h1 h2 => by
    obtain ⟨hi, rfl⟩ := List.getElem?_eq_some_iff.1 h1
    obtain ⟨_, rfl⟩ := List.getElem?_eq_some_iff.1 h2
    simp only [List.getElem_replicate]
    exact Owns.nil_, fun i j a b _ h1 _ g hg => by
    obtain ⟨hi, rfl⟩ := List.getElem?_eq_some_iff.1 h1
    simp [Value.ownBlock] at hg⟩
theorem Fives.step (h : Fives w base vs ls) (i : Nat) (hv : vs[i]? = some v) (ho : strE.Own w' base v' l') (hg : w.grownBy w' v.ownBlock) (hat : v'.ownBlock = v.ownBlock ∨ v'.ownBlock = some w.heap.size) : Fives w' base (vs.set i v') (ls.set i l') := by
  have hi : i < vs.length := (List.getElem?_eq_some_iff.1 hv).1
  have old : ∀ (j : Nat) (u : Value), j ≠ i → vs[j]? = some u → ∀ g, u.ownBlock = some g → v'.ownBlock ≠ some g := fun j u hj hu g hu' he => by
    rcases hat with e | e
    · rw [e] at he
      exact h.ap j i u v hj hu hv g hu' he
    · rw [e] at he
      injection he with he
      obtain ⟨l, hl⟩ := getElem_some (l := ls) (i := j) (by rw [← h.len]; exact (List.getElem?_eq_some_iff.1 hu).1)
      have := (Owns.within (h.own j u l hu hl) hu').2
      omega
  refine ⟨by simp [h.len], fun j u l hu hl => ?_, fun j k a b hjk ha hb g hg' he => ?_⟩
  · by_cases hj : j = i
    · subst hj
      rw [List.getElem?_set_self hi] at hu
      rw [List.getElem?_set_self (by rw [← h.len]; exact hi)] at hl
      injection hu with hu
      injection hl with hl
      subst hu
      subst hl
      exact ho
    · rw [List.getElem?_set_ne (Ne.symm hj)] at hu hl
      refine Owns.grown (h.own j u l hu hl) hg ?_
      cases hu' : u.ownBlock with
      | none => exact .inl rfl
      | some g => exact .inr fun e => h.ap j i u v hj hu hv g hu' e.symm
  · by_cases hj : j = i
    · subst hj
      rw [List.getElem?_set_self hi] at ha
      rw [List.getElem?_set_ne hjk] at hb
      injection ha with ha
      subst ha
      exact old k b (Ne.symm hjk) hb g he hg'
    · rw [List.getElem?_set_ne (Ne.symm hj)] at ha
      by_cases hk : k = i
      · subst hk
        rw [List.getElem?_set_self hi] at hb
        injection hb with hb
        subst hb
        exact old j a hj ha g hg' he
      · rw [List.getElem?_set_ne (Ne.symm hk)] at hb
        exact h.ap j k a b hjk ha hb g hg' he
end

/-- The first row may be written over: the others stand. -/
theorem Fives.after {w w' : World} {base : Nat} {v : Value} {l : List ByteArray} {vs : List Value} {ls : List (List ByteArray)} (h : Fives w base (v :: vs) (l :: ls)) (hg : w.grownBy w' v.ownBlock) : Fives w' base vs ls := by
  refine ⟨by have := h.len; simpa using this, fun i u m hu hm => ?_, fun i j a b hij ha hb => h.ap (i + 1) (j + 1) a b (by omega) (by simpa using ha) (by simpa using hb)⟩
  refine Owns.grown (h.own (i + 1) u m (by simpa using hu) (by simpa using hm)) hg ?_
  cases hu' : u.ownBlock with
  | none => exact .inl rfl
  | some g => exact .inr fun e => h.ap (i + 1) 0 u v (by omega) (by simpa using hu) rfl g hu' e.symm
theorem Fives.aside {w w' : World} {base : Nat} {vs : List Value} {ls : List (List ByteArray)} {row : Option Nat} (h : Fives w base vs ls) (hg : w.grownBy w' row) (hr : ∀ g, row = some g → g < base) : Fives w' base vs ls :=
  ⟨h.len, fun i u m hu hm => by
    have ho := h.own i u m hu hm
    refine Owns.grown ho hg ?_
    cases hu' : u.ownBlock with
    | none => exact .inl rfl
    | some g => exact .inr fun e => by have h1 := hr g e.symm; have h2 := (Owns.within ho hu').1; omega, h.ap⟩
/-- Block b is a box of five slices. -/
def SpBox (T : TypeId) (w : World) (b : Nat) (v0 v1 v2 v3 v4 : Value) : Prop := w.heap[b]? = some (.cells #[v0, v1, v2, v3, v4] T)
section
variable {T : TypeId} {w w' : World} {b : Nat} {v0 v1 v2 v3 v4 : Value}
theorem SpBox.lt (h : SpBox T w b v0 v1 v2 v3 v4) : b < w.heap.size := (Array.getElem?_eq_some_iff.1 h).1
theorem SpBox.cells (h : SpBox T w b v0 v1 v2 v3 v4) : w.cell? ⟨b, 0, none⟩ = some v0 ∧ w.cell? ⟨b, 1, none⟩ = some v1 ∧ w.cell? ⟨b, 2, none⟩ = some v2 ∧ w.cell? ⟨b, 3, none⟩ = some v3 ∧ w.cell? ⟨b, 4, none⟩ = some v4 :=
  ⟨cell_of_row w b 0 _ _ _ h, cell_of_row w b 1 _ _ _ h, cell_of_row w b 2 _ _ _ h, cell_of_row w b 3 _ _ _ h, cell_of_row w b 4 _ _ _ h⟩
theorem SpBox.frozen (h : SpBox T w b v0 v1 v2 v3 v4) (o : Nat) : w.frozen? ⟨b, o, none⟩ = false := by
  unfold SpBox at h
  unfold World.frozen?
  simp [h]
theorem SpBox.block (h : SpBox T w b v0 v1 v2 v3 v4) (hb : w'.heap[b]? = w.heap[b]?) : SpBox T w' b v0 v1 v2 v3 v4 := hb.trans h
theorem SpBox.below {B : Nat} (h : SpBox T w b v0 v1 v2 v3 v4) (hB : b < B) (hb : Below B w w') : SpBox T w' b v0 v1 v2 v3 v4 := h.block (hb.block b hB)
theorem SpBox.grown {row : Option Nat} (h : SpBox T w b v0 v1 v2 v3 v4) (hg : w.grownBy w' row) (hne : row ≠ some b) : SpBox T w' b v0 v1 v2 v3 v4 := h.block (hg.block b h.lt (fun e => hne e.symm))
theorem SpBox.setOther (h : SpBox T w b v0 v1 v2 v3 v4) {b' o : Nat} (u : Value) (hne : b ≠ b') : SpBox T (w.setCell ⟨b', o, none⟩ u) b v0 v1 v2 v3 v4 := h.block (Go.Deep.blk_setCell_other _ _ _ _ hne)
theorem SpBox.alloc (h : SpBox T w b v0 v1 v2 v3 v4) (o : Obj) : SpBox T (w.alloc o) b v0 v1 v2 v3 v4 := h.block (Go.Deep.blk_alloc_lt _ _ _ h.lt)
theorem SpBox.new (T : TypeId) (w : World) (v0 v1 v2 v3 v4 : Value) : SpBox T (w.alloc (.cells #[v0, v1, v2, v3, v4] T)) w.heap.size v0 v1 v2 v3 v4 := heap_alloc_new w _
theorem SpBox.set0 (h : SpBox T w b v0 v1 v2 v3 v4) (u : Value) : SpBox T (w.setCell ⟨b, 0, none⟩ u) b u v1 v2 v3 v4 := (heap_setCell h u).trans rfl
theorem SpBox.set1 (h : SpBox T w b v0 v1 v2 v3 v4) (u : Value) : SpBox T (w.setCell ⟨b, 1, none⟩ u) b v0 u v2 v3 v4 := (heap_setCell h u).trans rfl
theorem SpBox.set2 (h : SpBox T w b v0 v1 v2 v3 v4) (u : Value) : SpBox T (w.setCell ⟨b, 2, none⟩ u) b v0 v1 u v3 v4 := (heap_setCell h u).trans rfl
theorem SpBox.set3 (h : SpBox T w b v0 v1 v2 v3 v4) (u : Value) : SpBox T (w.setCell ⟨b, 3, none⟩ u) b v0 v1 v2 u v4 := (heap_setCell h u).trans rfl
theorem SpBox.set4 (h : SpBox T w b v0 v1 v2 v3 v4) (u : Value) : SpBox T (w.setCell ⟨b, 4, none⟩ u) b v0 v1 v2 v3 u := (heap_setCell h u).trans rfl
theorem Owns.form3 {v : Value} {l : List ByteArray} {base : Nat} (h : strE.Own w base v l) : ∃ A m c, v = .slice A m c := by obtain ⟨A, c, e⟩ := Owns.form h; exact ⟨A, _, c, e⟩
theorem Owns.ne_box {v : Value} {l : List ByteArray} {base : Nat} (h : strE.Own w base v l) (hb : b < base) : v.ownBlock ≠ some b := fun e => by
  have := (Owns.within h e).1
  omega
end
end Go.Proofs.YtdhlmhkabckbaaaGreatDoor
