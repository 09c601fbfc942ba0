/-
  root.Read: what holds while it reads.
-/
import Derived.Test.YtbfephekkfieaaaReadA
import Derived.Test.YtbfephekkfieaaaParse
import Derived.Test.YtbfephekkfieaaaStBox
namespace Go.Proofs.Ytbfephekkfieaaa
open Go.RowKit
attribute [local go_sem ↓] Go.wp_at_zero Go.wp_at_succ

abbrev takeV (b4 b5 : Nat) : Value := .func (.func 29) #[] #[.pointer (some ⟨b4, 0, none⟩), .pointer (some ⟨b5, 0, none⟩)]
abbrev getV (b6 : Nat) : Value := .func (.func 30) #[] #[.pointer (some ⟨b6, 0, none⟩)]

section
variable {w w' : World} {b4 b5 : Nat} {p : Pst}
theorem RP.below (h : RP w b4 b5 p) {B : Nat} (hb : Below B w w') (hB : b5 < B) : RP w' b4 b5 p := by
  obtain ⟨⟨r1, r2⟩, r3, r4, ⟨A, n, c, r5, r6, r7, r8⟩, r9⟩ := h
  have hz := hb.size
  exact ⟨⟨r1, by omega⟩, (hb.cell (p := ⟨_, _, none⟩) hB).trans r3, (hb.frozen (p := ⟨_, _, none⟩) hB).trans r4,
    ⟨A, n, c, (hb.cell (p := ⟨_, _, none⟩) (show b4 < B by omega)).trans r5, r6.keep (fun q hq => hb.cell (by omega)), r7, r8⟩, (hb.frozen (p := ⟨_, _, none⟩) (show b4 < B by omega)).trans r9⟩
theorem RP.setBad (h : RP w b4 b5 p) (c : Bool) : RP (w.setCell ⟨b5, 0, none⟩ (.bool c)) b4 b5 (c, p.2) := by
  obtain ⟨⟨r1, r2⟩, r3, r4, ⟨A, n, cc, r5, r6, r7, r8⟩, r9⟩ := h
  have hne : b5 ≠ b4 := by omega
  have hne' : b4 ≠ b5 := by omega
  refine ⟨⟨r1, by simpa using r2⟩, by go_simp, by go_simp, ⟨A, n, cc, by go_simp, r6.keep (fun q hq => by rw [World.cell?_setCell_other]; rintro rfl; simp at hq; omega), r7, r8⟩, by go_simp⟩
end
theorem ne_back {a b : Option Nat} (h : a = none ∨ a ≠ b) : b = none ∨ b ≠ a := by
  cases b with
  | none => exact .inl rfl
  | some x =>
    refine .inr fun e => ?_
    rcases h with h | h
    · rw [h] at e
      cases e
    · exact h e.symm

/-- What holds while root.Read reads: the boxes b4 (the rest), b5 (bad), b6 (take), b8 (the state), and the result's, which is empty still. -/
structure RS (w0 w : World) (b4 b5 b6 b8 : Nat) (p : Pst) (k n x : Int) (v4 v5 v6 : Value) (sn : List Snap) (cs : List ByteArray) (ps : List Place) : Prop where
  rp : RP w b4 b5 p
  fn : w.cell? ⟨b6, 0, none⟩ = some (takeV b4 b5)
  z : BoxAt w w0.heap.size 0 0 0 (.slice none 0 0) (.slice none 0 0) (.slice none 0 0)
  bx : BoxAt w b8 k n x v4 v5 v6
  o4 : snapE.Own w (b8 + 1) v4 sn
  o5 : strE.Own w (b8 + 1) v5 cs
  o6 : placeE.Own w (b8 + 1) v6 ps
  d45 : v4.ownBlock = none ∨ v4.ownBlock ≠ v5.ownBlock
  d46 : v4.ownBlock = none ∨ v4.ownBlock ≠ v6.ownBlock
  d56 : v5.ownBlock = none ∨ v5.ownBlock ≠ v6.ownBlock
  lt : w0.heap.size < b4 ∧ b4 < b5 ∧ b5 < b6 ∧ b6 < b8
  below : Below w0.heap.size w0 w
section
variable {w0 w w' : World} {b4 b5 b6 b8 : Nat} {p p' : Pst} {k n x : Int} {v4 v5 v6 v' : Value} {sn sn' : List Snap} {cs cs' : List ByteArray} {ps ps' : List Place}
theorem RS.but (h : RS w0 w b4 b5 b6 b8 p k n x v4 v5 v6 sn cs ps) (hb : But b4 b5 w w') (hp : RP w' b4 b5 p') : RS w0 w' b4 b5 b6 b8 p' k n x v4 v5 v6 sn cs ps := by
  obtain ⟨rp, fn, z, bx, o4, o5, o6, d45, d46, d56, ⟨l1, l2, l3, l4⟩, below⟩ := h
  have hz := bx.lt
  have hz0 := z.lt
  exact ⟨hp, (hb.cell 0 (by omega) (by omega) (by omega)).trans fn, z.block (hb.block _ hz0 (by omega) (by omega)), bx.block (hb.block _ hz (by omega) (by omega)), hb.owns o4 (by omega) (by omega), hb.owns o5 (by omega) (by omega), hb.owns o6 (by omega) (by omega),
    d45, d46, d56, ⟨l1, l2, l3, l4⟩, below.trans (hb.below (by omega) (by omega) (by omega))⟩
theorem RS.drewN (h : RS w0 w b4 b5 b6 b8 p k n x v4 v5 v6 sn cs ps) (q : Nat) : RS w0 (w.drewN q) b4 b5 b6 b8 p k n x v4 v5 v6 sn cs ps := by
  obtain ⟨rp, fn, z, bx, o4, o5, o6, d45, d46, d56, l, below⟩ := h
  obtain ⟨r1, r3, r4, r5, r9⟩ := rp
  exact ⟨⟨r1, r3, r4, r5, r9⟩, fn, z, bx, o4, o5, o6, d45, d46, d56, l, below_drewN below q⟩
theorem RS.drew (h : RS w0 w b4 b5 b6 b8 p k n x v4 v5 v6 sn cs ps) : RS w0 w.drew b4 b5 b6 b8 p k n x v4 v5 v6 sn cs ps := by
  obtain ⟨rp, fn, z, bx, o4, o5, o6, d45, d46, d56, l, below⟩ := h
  obtain ⟨r1, r3, r4, r5, r9⟩ := rp
  exact ⟨⟨r1, r3, r4, r5, r9⟩, fn, z, bx, o4, o5, o6, d45, d46, d56, l, below.drew⟩
theorem RS.alloc (h : RS w0 w b4 b5 b6 b8 p k n x v4 v5 v6 sn cs ps) (o : Obj) : RS w0 (w.alloc o) b4 b5 b6 b8 p k n x v4 v5 v6 sn cs ps := by
  have hb : Below w.heap.size w (w.alloc o) := (Below.refl _ _).alloc (Nat.le_refl _) _
  exact h.but (But.of hb) (h.rp.below hb (by have := h.rp.lt; omega))
theorem RS.grow4 (h : RS w0 w b4 b5 b6 b8 p k n x v4 v5 v6 sn cs ps) (ho : snapE.Own w' (b8 + 1) v' sn') (hg : w.grownBy w' v4.ownBlock) (hat : v'.ownBlock = v4.ownBlock ∨ v'.ownBlock = some w.heap.size) :
    RS w0 (w'.setCell ⟨b8, 3, none⟩ v') b4 b5 b6 b8 p k n x v' v5 v6 sn' cs ps := by
  obtain ⟨rp, fn, z, bx, o4, o5, o6, d45, d46, d56, ⟨l1, l2, l3, l4⟩, below⟩ := h
  have hz := bx.lt
  have hz0 := z.lt
  have hgz := hg.size
  have hB : Below b8 w w' := (Below.refl _ _).grown hg (by omega) (fun i hi => by have := (o4.within hi).1; omega)
  have hB' : Below b8 w (w'.setCell ⟨b8, 3, none⟩ v') := hB.setCell (Nat.le_refl _) _
  have g5 := (o5.grown hg (ne_back d45)).setOther (b := b8) (o := 3) v' (by omega)
  have g6 := (o6.grown hg (ne_back d46)).setOther (b := b8) (o := 3) v' (by omega)
  exact ⟨rp.below hB' (by omega), (hB'.cell (p := ⟨_, _, none⟩) (by omega)).trans fn, z.block (hB'.block _ (by omega)), (bx.grown hg (o4.ne_some (by omega))).set3 _, ho.setOther _ (by omega), g5, g6,
    ne_back (Owns.fresh_ne hat (ne_back d45) (fun i hi => (o5.within hi).2)), ne_back (Owns.fresh_ne hat (ne_back d46) (fun i hi => (o6.within hi).2)), d56, ⟨l1, l2, l3, l4⟩, below.trans (hB'.mono (by omega))⟩
theorem RS.grow5 (h : RS w0 w b4 b5 b6 b8 p k n x v4 v5 v6 sn cs ps) (ho : strE.Own w' (b8 + 1) v' cs') (hg : w.grownBy w' v5.ownBlock) (hat : v'.ownBlock = v5.ownBlock ∨ v'.ownBlock = some w.heap.size) :
    RS w0 (w'.setCell ⟨b8, 4, none⟩ v') b4 b5 b6 b8 p k n x v4 v' v6 sn cs' ps := by
  obtain ⟨rp, fn, z, bx, o4, o5, o6, d45, d46, d56, ⟨l1, l2, l3, l4⟩, below⟩ := h
  have hz := bx.lt
  have hz0 := z.lt
  have hgz := hg.size
  have hB : Below b8 w w' := (Below.refl _ _).grown hg (by omega) (fun i hi => by have := (o5.within hi).1; omega)
  have hB' : Below b8 w (w'.setCell ⟨b8, 4, none⟩ v') := hB.setCell (Nat.le_refl _) _
  have g4 := (o4.grown hg d45).setOther (b := b8) (o := 4) v' (by omega)
  have g6 := (o6.grown hg (ne_back d56)).setOther (b := b8) (o := 4) v' (by omega)
  exact ⟨rp.below hB' (by omega), (hB'.cell (p := ⟨_, _, none⟩) (by omega)).trans fn, z.block (hB'.block _ (by omega)), (bx.grown hg (o5.ne_some (by omega))).set4 _, g4, ho.setOther _ (by omega), g6,
    Owns.fresh_ne hat d45 (fun i hi => (o4.within hi).2), d46, ne_back (Owns.fresh_ne hat (ne_back d56) (fun i hi => (o6.within hi).2)), ⟨l1, l2, l3, l4⟩, below.trans (hB'.mono (by omega))⟩
theorem RS.grow6 (h : RS w0 w b4 b5 b6 b8 p k n x v4 v5 v6 sn cs ps) (ho : placeE.Own w' (b8 + 1) v' ps') (hg : w.grownBy w' v6.ownBlock) (hat : v'.ownBlock = v6.ownBlock ∨ v'.ownBlock = some w.heap.size) :
    RS w0 (w'.setCell ⟨b8, 5, none⟩ v') b4 b5 b6 b8 p k n x v4 v5 v' sn cs ps' := by
  obtain ⟨rp, fn, z, bx, o4, o5, o6, d45, d46, d56, ⟨l1, l2, l3, l4⟩, below⟩ := h
  have hz := bx.lt
  have hz0 := z.lt
  have hgz := hg.size
  have hB : Below b8 w w' := (Below.refl _ _).grown hg (by omega) (fun i hi => by have := (o6.within hi).1; omega)
  have hB' : Below b8 w (w'.setCell ⟨b8, 5, none⟩ v') := hB.setCell (Nat.le_refl _) _
  have g4 := (o4.grown hg d46).setOther (b := b8) (o := 5) v' (by omega)
  have g5 := (o5.grown hg d56).setOther (b := b8) (o := 5) v' (by omega)
  exact ⟨rp.below hB' (by omega), (hB'.cell (p := ⟨_, _, none⟩) (by omega)).trans fn, z.block (hB'.block _ (by omega)), (bx.grown hg (o6.ne_some (by omega))).set5 _, g4, g5, ho.setOther _ (by omega),
    d45, Owns.fresh_ne hat d46 (fun i hi => (o4.within hi).2), Owns.fresh_ne hat d56 (fun i hi => (o5.within hi).2), ⟨l1, l2, l3, l4⟩, below.trans (hB'.mono (by omega))⟩
end
end Go.Proofs.Ytbfephekkfieaaa
