/-
  A box of five slices whose rows, and some more, are the call's own: how they stand through a drawn region that appends to one of them.
-/
import Derived.Test.YtcepdigeimedoaaFive
import Derived.Test.YtcepdigeimedoaaHeld
namespace Go.Proofs.Ytcepdigeimedoaa
open Go.RowKit

section
variable {w w' : World} {base : Nat} {vs : List Value} {ls : List (List ByteArray)} {v : Value} {l : List ByteArray}
/-- One more row, newly made. -/
theorem Fives.add (h : Fives w base vs ls) (hb : Below w.heap.size w w') (hB : base ≤ w.heap.size) (ho : strE.Own w' w.heap.size v l) : Fives w' base (vs ++ [v]) (ls ++ [l]) := by
  have h' := h.below hb
  have old : ∀ (i : Nat) (a : Value), vs[i]? = some a → ∀ g, a.ownBlock = some g → g < w.heap.size := fun i a ha g hg => by
    obtain ⟨l', hl⟩ := getElem_some (l := ls) (i := i) (by rw [← h.len]; exact (List.getElem?_eq_some_iff.1 ha).1)
    exact (Owns.within (h.own i a l' ha hl) hg).2
  refine ⟨by simp [h.len], fun i a l' ha hl => ?_, fun i j a b hij ha hb' g hg he => ?_⟩
  · rcases Nat.lt_or_ge i vs.length with hi | hi
    · rw [List.getElem?_append_left hi] at ha
      rw [List.getElem?_append_left (by rw [← h.len]; exact hi)] at hl
      exact h'.own i a l' ha hl
    · rw [List.getElem?_append_right hi] at ha
      rw [List.getElem?_append_right (by rw [← h.len]; exact hi), ← h.len] at hl
      cases hk : i - vs.length with
      | zero =>
        rw [hk] at ha hl
        simp at ha hl
        subst ha
        subst hl
        exact Owns.from ho hB
      | succ k => rw [hk] at ha; simp at ha
  · have new : ∀ (i : Nat) (a : Value), vs.length ≤ i → (vs ++ [v])[i]? = some a → a = v ∧ i = vs.length := fun i a hi ha => by
      rw [List.getElem?_append_right hi] at ha
      cases hk : i - vs.length with
      | zero => rw [hk] at ha; simp at ha; exact ⟨ha.symm, by omega⟩
      | succ k => rw [hk] at ha; simp at ha
    rcases Nat.lt_or_ge i vs.length with hi | hi <;> rcases Nat.lt_or_ge j vs.length with hj | hj
    · rw [List.getElem?_append_left hi] at ha
      rw [List.getElem?_append_left hj] at hb'
      exact h.ap i j a b hij ha hb' g hg he
    · rw [List.getElem?_append_left hi] at ha
      obtain ⟨rfl, _⟩ := new j b hj hb'
      have h1 := old i a ha g hg
      have h2 := (Owns.within ho he).1
      omega
    · rw [List.getElem?_append_left hj] at hb'
      obtain ⟨rfl, _⟩ := new i a hi ha
      have h1 := old j b hb' g he
      have h2 := (Owns.within ho hg).1
      omega
    · obtain ⟨_, e1⟩ := new i a hi ha
      obtain ⟨_, e2⟩ := new j b hj hb'
      omega
theorem Fives.part (h : Fives w base (vs ++ [v]) (ls ++ [l])) (hl : vs.length = ls.length) : Fives w base vs ls := by
  refine ⟨hl, fun i a l' ha hl' => ?_, fun i j a b hij ha hb => ?_⟩
  · exact h.own i a l' (by rw [List.getElem?_append_left (List.getElem?_eq_some_iff.1 ha).1]; exact ha) (by rw [List.getElem?_append_left (List.getElem?_eq_some_iff.1 hl').1]; exact hl')
  · exact h.ap i j a b hij (by rw [List.getElem?_append_left (List.getElem?_eq_some_iff.1 ha).1]; exact ha) (by rw [List.getElem?_append_left (List.getElem?_eq_some_iff.1 hb).1]; exact hb)
end

/-- Behind w0 only what lies from block b on is another: a box of five slices, and rows. -/
structure SF (T : TypeId) (w0 w : World) (b : Nat) (a0 a1 a2 a3 a4 : Value) (vs : List Value) (ls : List (List ByteArray)) : Prop where
  bx : SpBox T w b a0 a1 a2 a3 a4
  fv : Fives w (b + 1) vs ls
  hs : b + 1 ≤ w.heap.size
  below : Below b w0 w
section
variable {T : TypeId} {w0 w w' : World} {b : Nat} {a0 a1 a2 a3 a4 : Value} {vs : List Value} {ls : List (List ByteArray)} {v v' : Value} {l' : List ByteArray}
theorem SF.drew (h : SF T w0 w b a0 a1 a2 a3 a4 vs ls) : SF T w0 w.drew b a0 a1 a2 a3 a4 vs ls := ⟨h.bx, h.fv.keep fun _ _ ho => Owns.drew ho, h.hs, h.below.drew⟩
theorem SF.alloc (h : SF T w0 w b a0 a1 a2 a3 a4 vs ls) (o : Obj) : SF T w0 (w.alloc o) b a0 a1 a2 a3 a4 vs ls := ⟨h.bx.alloc o, h.fv.alloc o, by have := h.hs; simp; omega, h.below.alloc (by have := h.hs; omega) o⟩
theorem SF.to (h : SF T w0 w b a0 a1 a2 a3 a4 vs ls) (hb : Below w.heap.size w w') : SF T w0 w' b a0 a1 a2 a3 a4 vs ls :=
  ⟨SpBox.below h.bx h.bx.lt hb, h.fv.below hb, Nat.le_trans h.hs hb.size, h.below.trans (hb.mono (by have := h.hs; omega))⟩
theorem SF.own (h : SF T w0 w b a0 a1 a2 a3 a4 vs ls) (i : Nat) {l : List ByteArray} (hv : vs[i]? = some v) (hl : ls[i]? = some l) : strE.Own w (b + 1) v l := h.fv.own i v l hv hl
theorem SF.step (h : SF T w0 w b a0 a1 a2 a3 a4 vs ls) (i : Nat) (hv : vs[i]? = some v) (ho : strE.Own w' (b + 1) v' l') (hg : w.grownBy w' v.ownBlock) (hat : v'.ownBlock = v.ownBlock ∨ v'.ownBlock = some w.heap.size) :
    SF T w0 w' b a0 a1 a2 a3 a4 (vs.set i v') (ls.set i l') := by
  obtain ⟨l, hl⟩ := getElem_some (l := ls) (i := i) (by rw [← h.fv.len]; exact (List.getElem?_eq_some_iff.1 hv).1)
  have ho0 := h.fv.own i v l hv hl
  exact ⟨h.bx.grown hg (Owns.ne_box ho0 (by omega)), h.fv.step i hv ho hg hat, Nat.le_trans h.hs hg.size, h.below.grown hg (by have := h.hs; omega) (fun g hg => by have := (Owns.within ho0 hg).1; omega)⟩
theorem SF.set0 (h : SF T w0 w b a0 a1 a2 a3 a4 vs ls) (u : Value) : SF T w0 (w.setCell ⟨b, 0, none⟩ u) b u a1 a2 a3 a4 vs ls := ⟨h.bx.set0 u, h.fv.setOther u (by omega), by simpa using h.hs, h.below.setCell (Nat.le_refl _) u⟩
theorem SF.set1 (h : SF T w0 w b a0 a1 a2 a3 a4 vs ls) (u : Value) : SF T w0 (w.setCell ⟨b, 1, none⟩ u) b a0 u a2 a3 a4 vs ls := ⟨h.bx.set1 u, h.fv.setOther u (by omega), by simpa using h.hs, h.below.setCell (Nat.le_refl _) u⟩
theorem SF.set2 (h : SF T w0 w b a0 a1 a2 a3 a4 vs ls) (u : Value) : SF T w0 (w.setCell ⟨b, 2, none⟩ u) b a0 a1 u a3 a4 vs ls := ⟨h.bx.set2 u, h.fv.setOther u (by omega), by simpa using h.hs, h.below.setCell (Nat.le_refl _) u⟩
theorem SF.set3 (h : SF T w0 w b a0 a1 a2 a3 a4 vs ls) (u : Value) : SF T w0 (w.setCell ⟨b, 3, none⟩ u) b a0 a1 a2 u a4 vs ls := ⟨h.bx.set3 u, h.fv.setOther u (by omega), by simpa using h.hs, h.below.setCell (Nat.le_refl _) u⟩
theorem SF.set4 (h : SF T w0 w b a0 a1 a2 a3 a4 vs ls) (u : Value) : SF T w0 (w.setCell ⟨b, 4, none⟩ u) b a0 a1 a2 a3 u vs ls := ⟨h.bx.set4 u, h.fv.setOther u (by omega), by simpa using h.hs, h.below.setCell (Nat.le_refl _) u⟩
theorem SF.part6 {x0 x1 x2 x3 x4 x5 x6 : Value} {l0 l1 l2 l3 l4 l5 l6 : List ByteArray} (h : SF T w0 w b a0 a1 a2 a3 a4 [x0, x1, x2, x3, x4, x5, x6] [l0, l1, l2, l3, l4, l5, l6]) : SF T w0 w b a0 a1 a2 a3 a4 [x0, x1, x2, x3, x4, x5] [l0, l1, l2, l3, l4, l5] :=
  ⟨h.bx, Fives.part (vs := [x0, x1, x2, x3, x4, x5]) (ls := [l0, l1, l2, l3, l4, l5]) h.fv rfl, h.hs, h.below⟩
theorem SF.add (h : SF T w0 w b a0 a1 a2 a3 a4 vs ls) (hb : Below w.heap.size w w') {l : List ByteArray} (ho : strE.Own w' w.heap.size v l) : SF T w0 w' b a0 a1 a2 a3 a4 (vs ++ [v]) (ls ++ [l]) :=
  ⟨SpBox.below h.bx h.bx.lt hb, h.fv.add hb h.hs ho, Nat.le_trans h.hs hb.size, h.below.trans (hb.mono (by have := h.hs; omega))⟩
end
end Go.Proofs.Ytcepdigeimedoaa
