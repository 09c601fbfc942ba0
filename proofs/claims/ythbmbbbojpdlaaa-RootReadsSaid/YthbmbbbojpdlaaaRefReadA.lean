/-
  What holds while the reference's Read reads.
-/
import Derived.Test.YthbmbbbojpdlaaaRefAt
import Derived.Test.YthbmbbbojpdlaaaMakeB
import Derived.Test.YthbmbbbojpdlaaaReadC
import Derived.Test.YthbmbbbojpdlaaaRootCutW
import Derived.Test.YthbmbbbojpdlaaaHeldB
import Derived.Deep.DeepCutAuto
import Derived.Deep.CutBlock
namespace Go.Proofs.Ythbmbbbojpdlaaa
open Go.RowKit
attribute [local go_sem ↓] Go.wp_at_zero Go.wp_at_succ

/-- What holds while the reference reads: its state's box and its rows, and the result's box, which is empty still. -/
structure RQ (w0 w : World) (b8 : Nat) (k n x : Int) (v4 v5 v6 : Value) (sn : List Snap) (cs : List ByteArray) (ps : List Place) : Prop where
  z : BoxAt w w0.heap.size 0 0 0 (.slice none 0 0) (.slice none 0 0) (.slice none 0 0)
  bx : BoxAt w b8 k n x v4 v5 v6
  o4 : snapE.Own w (b8 + 1) v4 sn
  o5 : strE.Own w (b8 + 1) v5 cs
  o6 : placeE.Own w (b8 + 1) v6 ps
  d45 : v4.ownBlock = none ∨ v4.ownBlock ≠ v5.ownBlock
  d46 : v4.ownBlock = none ∨ v4.ownBlock ≠ v6.ownBlock
  d56 : v5.ownBlock = none ∨ v5.ownBlock ≠ v6.ownBlock
  lt : w0.heap.size < b8
  below : Below w0.heap.size w0 w
section
variable {w0 w w' : World} {b8 : Nat} {k n x : Int} {v4 v5 v6 v' : Value} {sn sn' : List Snap} {cs cs' : List ByteArray} {ps ps' : List Place}
theorem RQ.to (h : RQ w0 w b8 k n x v4 v5 v6 sn cs ps) (hb : Below w.heap.size w w') : RQ w0 w' b8 k n x v4 v5 v6 sn cs ps := by
  obtain ⟨z, bx, o4, o5, o6, d45, d46, d56, l1, below⟩ := h
  exact ⟨z.below hb, bx.below hb, o4.below hb, o5.below hb, o6.below hb, d45, d46, d56, l1, below.trans (hb.mono below.size)⟩
theorem RQ.drewN (h : RQ w0 w b8 k n x v4 v5 v6 sn cs ps) (q : Nat) : RQ w0 (w.drewN q) b8 k n x v4 v5 v6 sn cs ps := by
  obtain ⟨z, bx, o4, o5, o6, d45, d46, d56, l1, below⟩ := h
  exact ⟨z, bx, o4, o5, o6, d45, d46, d56, l1, below_drewN below q⟩
theorem RQ.drew (h : RQ w0 w b8 k n x v4 v5 v6 sn cs ps) : RQ w0 w.drew b8 k n x v4 v5 v6 sn cs ps := by
  obtain ⟨z, bx, o4, o5, o6, d45, d46, d56, l1, below⟩ := h
  exact ⟨z, bx, o4, o5, o6, d45, d46, d56, l1, below.drew⟩
theorem RQ.alloc (h : RQ w0 w b8 k n x v4 v5 v6 sn cs ps) (o : Obj) : RQ w0 (w.alloc o) b8 k n x v4 v5 v6 sn cs ps := h.to ((Below.refl _ _).alloc (Nat.le_refl _) _)
theorem RQ.grow4 (h : RQ w0 w b8 k n x v4 v5 v6 sn cs ps) (ho : snapE.Own w' (b8 + 1) v' sn') (hg : w.grownBy w' v4.ownBlock) (hat : v'.ownBlock = v4.ownBlock ∨ v'.ownBlock = some w.heap.size) :
    RQ w0 (w'.setCell ⟨b8, 3, none⟩ v') b8 k n x v' v5 v6 sn' cs ps := by
  obtain ⟨z, bx, o4, o5, o6, d45, d46, d56, l1, below⟩ := h
  have hz := bx.lt
  have hB : Below b8 w w' := (Below.refl _ _).grown hg (by omega) (fun i hi => by have := (o4.within hi).1; omega)
  have hB' : Below b8 w (w'.setCell ⟨b8, 3, none⟩ v') := hB.setCell (Nat.le_refl _) _
  exact ⟨z.block (hB'.block _ l1), (bx.grown hg (o4.ne_some (by omega))).set3 _, ho.setOther _ (by omega), (o5.grown hg (ne_back d45)).setOther _ (by omega), (o6.grown hg (ne_back d46)).setOther _ (by omega),
    ne_back (Owns.fresh_ne hat (ne_back d45) (fun i hi => (o5.within hi).2)), ne_back (Owns.fresh_ne hat (ne_back d46) (fun i hi => (o6.within hi).2)), d56, l1, below.trans (hB'.mono (by omega))⟩
theorem RQ.grow5 (h : RQ w0 w b8 k n x v4 v5 v6 sn cs ps) (ho : strE.Own w' (b8 + 1) v' cs') (hg : w.grownBy w' v5.ownBlock) (hat : v'.ownBlock = v5.ownBlock ∨ v'.ownBlock = some w.heap.size) :
    RQ w0 (w'.setCell ⟨b8, 4, none⟩ v') b8 k n x v4 v' v6 sn cs' ps := by
  obtain ⟨z, bx, o4, o5, o6, d45, d46, d56, l1, below⟩ := h
  have hz := bx.lt
  have hB : Below b8 w w' := (Below.refl _ _).grown hg (by omega) (fun i hi => by have := (o5.within hi).1; omega)
  have hB' : Below b8 w (w'.setCell ⟨b8, 4, none⟩ v') := hB.setCell (Nat.le_refl _) _
  exact ⟨z.block (hB'.block _ l1), (bx.grown hg (o5.ne_some (by omega))).set4 _, (o4.grown hg d45).setOther _ (by omega), ho.setOther _ (by omega), (o6.grown hg (ne_back d56)).setOther _ (by omega),
    Owns.fresh_ne hat d45 (fun i hi => (o4.within hi).2), d46, ne_back (Owns.fresh_ne hat (ne_back d56) (fun i hi => (o6.within hi).2)), l1, below.trans (hB'.mono (by omega))⟩
theorem RQ.grow6 (h : RQ w0 w b8 k n x v4 v5 v6 sn cs ps) (ho : placeE.Own w' (b8 + 1) v' ps') (hg : w.grownBy w' v6.ownBlock) (hat : v'.ownBlock = v6.ownBlock ∨ v'.ownBlock = some w.heap.size) :
    RQ w0 (w'.setCell ⟨b8, 5, none⟩ v') b8 k n x v4 v5 v' sn cs ps' := by
  obtain ⟨z, bx, o4, o5, o6, d45, d46, d56, l1, below⟩ := h
  have hz := bx.lt
  have hB : Below b8 w w' := (Below.refl _ _).grown hg (by omega) (fun i hi => by have := (o6.within hi).1; omega)
  have hB' : Below b8 w (w'.setCell ⟨b8, 5, none⟩ v') := hB.setCell (Nat.le_refl _) _
  exact ⟨z.block (hB'.block _ l1), (bx.grown hg (o6.ne_some (by omega))).set5 _, (o4.grown hg d46).setOther _ (by omega), (o5.grown hg d56).setOther _ (by omega), ho.setOther _ (by omega),
    d45, Owns.fresh_ne hat d46 (fun i hi => (o4.within hi).2), Owns.fresh_ne hat d56 (fun i hi => (o5.within hi).2), l1, below.trans (hB'.mono (by omega))⟩
end

theorem byte_val (c : UInt8) : Value.int .i64 (IntKind.i64.wrap (c.toNat : Int)) = Value.int .i64 c.toNat := by
  have h := c.toNat_lt
  congr 1
  simp [IntKind.wrap, IntKind.bits, IntKind.signed]
  split <;> omega
theorem svr_range (l : List UInt8) : -9223372036854775808 ≤ svr l ∧ svr l ≤ 9223372036854775807 := by
  unfold svr
  split <;> omega
theorem rfPlace_ok (p : List UInt8) : PlaceOk (rfPlace p) := by
  have h1 := svr_range ((p.drop 64).take 4)
  have h2 := svr_range ((p.drop 68).take 4)
  exact ⟨h1.1, h1.2, h2.1, h2.2⟩

section
variable {w0 w w1 : World} (k n x : Int)
theorem RQ.new1 (bz : BoxAt w w0.heap.size 0 0 0 (.slice none 0 0) (.slice none 0 0) (.slice none 0 0)) (fz : Below w0.heap.size w0 w) (hb0 : Below w.drew.heap.size w.drew w1) :
    RQ w0 (w1.alloc (.cells #[.int .i64 k, .int .i64 n, .int .i64 x, .slice none 0 0, .slice none 0 0, .slice none 0 0] 28)) w1.heap.size k n x (.slice none 0 0) (.slice none 0 0) (.slice none 0 0) [] [] [] := by
  have hz := bz.lt
  have hb : Below w.heap.size w w1 := ((Below.refl _ _).drew).trans hb0
  have hs := hb.size
  exact ⟨(bz.below hb).alloc _, BoxAt.new w1 _ _ _ _ _ _, Owns.nil_, Owns.nil_, Owns.nil_, .inl rfl, .inl rfl, .inl rfl, by omega, (fz.trans (hb.mono (by omega))).alloc (by omega) _⟩
theorem RQ.new2 (o : Obj) {k' n' x' : Int} {v4 v5 v6 : Value} (bz : BoxAt w w0.heap.size 0 0 0 (.slice none 0 0) (.slice none 0 0) (.slice none 0 0)) (fz : Below w0.heap.size w0 w) (hb : Below (w.alloc o).drew.heap.size (w.alloc o).drew w1) (bq : BoxAt w1 w.heap.size k' n' x' v4 v5 v6) :
    RQ w0 (set6 w1 w.heap.size k n x (.slice none 0 0) (.slice none 0 0) (.slice none 0 0)) w.heap.size k n x (.slice none 0 0) (.slice none 0 0) (.slice none 0 0) [] [] [] := by
  have hz := bz.lt
  have hb' : Below w.heap.size w w1 := (((Below.refl _ _).alloc (Nat.le_refl _) o).drew).trans (hb.mono (by simp))
  have hB : Below w.heap.size w (set6 w1 w.heap.size k n x (.slice none 0 0) (.slice none 0 0) (.slice none 0 0)) := below_set6 hb' (Nat.le_refl _) _ _ _ _ _ _
  exact ⟨bz.below hB, bq.set6 _ _ _ _ _ _, Owns.nil_, Owns.nil_, Owns.nil_, .inl rfl, .inl rfl, .inl rfl, hz, fz.trans (hB.mono (by omega))⟩
end

theorem rfSnaps_len : ∀ (c : Nat) (p : List UInt8) (l : List Snap), (rfSnaps c p l).length = l.length + c
  | 0, _, _ => rfl
  | c + 1, p, l => by
    rw [rfSnaps, rfSnaps_len]
    simp
    omega
theorem rfChunks_ok : ∀ {c : Nat} {p : List UInt8} {l : List ByteArray} {m : List Place}, (∀ q ∈ m, PlaceOk q) → ∀ q ∈ (rfChunks c p l m).2, PlaceOk q
  | 0, _, _, _, h => h
  | c + 1, p, l, m, h => by
    rw [rfChunks]
    refine rfChunks_ok fun q hq => ?_
    rcases List.mem_append.1 hq with h1 | h1
    · exact h q h1
    · rw [List.mem_singleton.1 h1]
      exact rfPlace_ok p
theorem extract_part (b : List UInt8) (i m : Nat) : (str b).extract i (i + m) = str ((b.drop i).take m) := by
  apply ByteArray.ext
  simp [str, ByteArray.data_extract]
theorem wrap_add {F k : Nat} (h : F + k < 9223372036854775808) : IntKind.i64.wrap ((F : Int) + (k : Int)) = ((F + k : Nat) : Int) := by
  rw [← wrap_i64 h, Int.natCast_add]
theorem slice_part0 {α : Type} {y : Int} {i j : Nat} (g : ByteArray → α) {p q : α} {b : List UInt8} {L m : Nat} {l : List UInt8} (hy : y = (j : Int)) (hj : j = i + m) (h2 : j ≤ L) (hl : l = (b.drop i).take m) :
    (if 0 ≤ y ∧ y ≤ (L : Int) then if (i : Int) ≤ y then g ((str b).extract i y.toNat) else p else q) = g (str l) := by
  subst hy
  subst hj
  subst hl
  rw [if_pos ⟨by omega, by omega⟩, if_pos (by omega), ← extract_part]
  rfl
/-- What slicing a string yields, bounds and all. -/
theorem slice_part {α : Type} {x y : Int} {i j : Nat} (g : ByteArray → α) {p q : α} {b : List UInt8} {L m : Nat} {l : List UInt8} (hx : x = (i : Int)) (hy : y = (j : Int)) (hj : j = i + m) (h2 : j ≤ L) (hl : l = (b.drop i).take m) :
    (if 0 ≤ y ∧ y ≤ (L : Int) then if 0 ≤ x ∧ x ≤ y then g ((str b).extract x.toNat y.toNat) else p else q) = g (str l) := by
  subst hx
  subst hy
  subst hj
  subst hl
  rw [if_pos ⟨by omega, by omega⟩, if_pos ⟨by omega, by omega⟩, ← extract_part]
  rfl
end Go.Proofs.Ythbmbbbojpdlaaa
