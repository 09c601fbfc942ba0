/-
  Two rows that grow side by side: of texts, of places.
-/
import Derived.Test.YtcepdigeimedoaaStBox
import Derived.Test.YtcepdigeimedoaaPlaceA
import Derived.Test.YtcepdigeimedoaaStrs
namespace Go.Proofs.Ytcepdigeimedoaa
open Go.RowKit

theorem ne_turn {a b : Option Nat} (h : a = none ∨ a ≠ b) : b = none ∨ b ≠ a := by
  rcases h with rfl | h
  · cases b with
    | none => exact .inl rfl
    | some x => exact .inr (by simp)
  · exact .inr (Ne.symm h)

/-- Two rows that grow side by side: of texts, of places. -/
structure Two (w0 w : World) (base : Nat) (v4 v5 : Value) (D : List ByteArray) (P : List Place) : Prop where
  o4 : strE.Own w base v4 D
  o5 : placeE.Own w base v5 P
  d : v4.ownBlock = none ∨ v4.ownBlock ≠ v5.ownBlock
  below : Below base w0 w
section
variable {w0 w w' : World} {base : Nat} {v4 v5 v' : Value} {D D' : List ByteArray} {P P' : List Place}
theorem Two.drew (h : Two w0 w base v4 v5 D P) : Two w0 w.drew base v4 v5 D P := ⟨h.o4, h.o5, h.d, h.below.drew⟩
theorem Two.drewN (h : Two w0 w base v4 v5 D P) (q : Nat) : Two w0 (w.drewN q) base v4 v5 D P := ⟨h.o4, h.o5, h.d, below_drewN h.below q⟩
theorem Two.alloc (h : Two w0 w base v4 v5 D P) (hb : base ≤ w.heap.size) (o : Obj) : Two w0 (w.alloc o) base v4 v5 D P := ⟨Owns.alloc h.o4 o, Owns.alloc h.o5 o, h.d, h.below.alloc hb o⟩
theorem Two.to (h : Two w0 w base v4 v5 D P) (hb0 : base ≤ w.heap.size) (hb : Below w.heap.size w w') : Two w0 w' base v4 v5 D P := ⟨h.o4.below hb, h.o5.below hb, h.d, h.below.trans (hb.mono hb0)⟩
theorem Two.grow4 (h : Two w0 w base v4 v5 D P) (hb0 : base ≤ w.heap.size) (ho : strE.Own w' base v' D') (hg : w.grownBy w' v4.ownBlock) (hat : v'.ownBlock = v4.ownBlock ∨ v'.ownBlock = some w.heap.size) : Two w0 w' base v' v5 D' P :=
  ⟨ho, h.o5.grown hg (ne_turn h.d), ne_turn (Owns.fresh_ne hat (ne_turn h.d) (fun i hi => (h.o5.within hi).2)), h.below.trans ((Below.refl _ _).grown hg hb0 (fun i hi => by have := (h.o4.within hi).1; omega))⟩
theorem Two.grow5 (h : Two w0 w base v4 v5 D P) (hb0 : base ≤ w.heap.size) (ho : placeE.Own w' base v' P') (hg : w.grownBy w' v5.ownBlock) (hat : v'.ownBlock = v5.ownBlock ∨ v'.ownBlock = some w.heap.size) : Two w0 w' base v4 v' D P' :=
  ⟨h.o4.grown hg h.d, ho, Owns.fresh_ne hat h.d (fun i hi => (h.o4.within hi).2), h.below.trans ((Below.refl _ _).grown hg hb0 (fun i hi => by have := (h.o5.within hi).1; omega))⟩
end
end Go.Proofs.Ytcepdigeimedoaa
