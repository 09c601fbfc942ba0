/-
  A state's box whose chunks and places are the call's own rows; the contract of index.own.
-/
import Derived.Test.YtbfephekkfieaaaHeld
import Derived.Test.YtbfephekkfieaaaCloneS
import Derived.Test.YtbfephekkfieaaaInsB
import Derived.Test.YtbfephekkfieaaaAddL
namespace Go.Proofs.Ytbfephekkfieaaa
open Go.RowKit
attribute [local go_sem ↓] Go.wp_at_zero Go.wp_at_succ

abbrev st6 (w : World) (b : Nat) (k n x : Int) (v4 v5 v6 : Value) : World :=
  (((((w.setCell ⟨b, 0, none⟩ (.int .i64 k)).setCell ⟨b, 1, none⟩ (.int .i64 n)).setCell ⟨b, 2, none⟩ (.int .i64 x)).setCell ⟨b, 3, none⟩ v4).setCell ⟨b, 4, none⟩ v5).setCell ⟨b, 5, none⟩ v6
theorem BoxAt.st6 {w : World} {b : Nat} {k n x : Int} {v4 v5 v6 : Value} (h : BoxAt w b k n x v4 v5 v6) (k' n' x' : Int) (v4' v5' v6' : Value) : BoxAt (st6 w b k' n' x' v4' v5' v6') b k' n' x' v4' v5' v6' :=
  (heap_setCell (heap_setCell (heap_setCell (heap_setCell (heap_setCell (heap_setCell h _) _) _) _) _) _).trans rfl
theorem Owns.st6 {α : Type} {c : Nat} {enc : α → List Value} {T : TypeId} {w : World} {base : Nat} {v : Value} {l : List α} (h : Owns c enc T w base v l) {b : Nat} (hb : b < base) (k n x : Int) (v4 v5 v6 : Value) : Owns c enc T (Go.Proofs.Ytbfephekkfieaaa.st6 w b k n x v4 v5 v6) base v l :=
  (((((h.setOther _ hb).setOther _ hb).setOther _ hb).setOther _ hb).setOther _ hb).setOther _ hb
theorem below_st6 {B : Nat} {w0 w : World} (h : Below B w0 w) {b : Nat} (hb : B ≤ b) (k n x : Int) (v4 v5 v6 : Value) : Below B w0 (Go.Proofs.Ytbfephekkfieaaa.st6 w b k n x v4 v5 v6) :=
  (((((h.setCell hb _).setCell hb _).setCell hb _).setCell hb _).setCell hb _).setCell hb _
theorem size_st6 (w : World) (b : Nat) (k n x : Int) (v4 v5 v6 : Value) : (st6 w b k n x v4 v5 v6).heap.size = w.heap.size := by simp [st6]

theorem ne_turn2 {a b : Option Nat} (h : a = none ∨ a ≠ b) : b = none ∨ b ≠ a := by
  rcases h with rfl | h
  · cases b with
    | none => exact .inl rfl
    | some x => exact .inr (by simp)
  · exact .inr (Ne.symm h)

/-- Block b is a state's box: c4, c5 are what it holds for chunks and places; v4, v5 are the call's own rows, which read as D and P; block b + 1 is the box of what is handed out, still zero. -/
structure AS (w0 w : World) (b base : Nat) (k nn next : Int) (s1 c4 c5 v4 v5 : Value) (D : List ByteArray) (P : List Place) : Prop where
  bx : BoxAt w b k nn next s1 c4 c5
  bz : BoxAt w (b + 1) 0 0 0 (.slice none 0 0) (.slice none 0 0) (.slice none 0 0)
  o4 : strE.Own w base v4 D
  o5 : placeE.Own w base v5 P
  d : v4.ownBlock = none ∨ v4.ownBlock ≠ v5.ownBlock
  hb : b + 1 < base
  hs : base ≤ w.heap.size
  below : Below b w0 w
section
variable {w0 w w' : World} {b base : Nat} {k nn next : Int} {s1 c4 c5 v4 v5 v' : Value} {D D' : List ByteArray} {P P' : List Place}
theorem AS.drew (h : AS w0 w b base k nn next s1 c4 c5 v4 v5 D P) : AS w0 w.drew b base k nn next s1 c4 c5 v4 v5 D P := ⟨h.bx, h.bz, h.o4, h.o5, h.d, h.hb, h.hs, h.below.drew⟩
theorem AS.drewN (h : AS w0 w b base k nn next s1 c4 c5 v4 v5 D P) (q : Nat) : AS w0 (w.drewN q) b base k nn next s1 c4 c5 v4 v5 D P := ⟨h.bx, h.bz, h.o4, h.o5, h.d, h.hb, h.hs, below_drewN h.below q⟩
theorem AS.alloc (h : AS w0 w b base k nn next s1 c4 c5 v4 v5 D P) (o : Obj) : AS w0 (w.alloc o) b base k nn next s1 c4 c5 v4 v5 D P :=
  ⟨h.bx.alloc o, h.bz.alloc o, Owns.alloc h.o4 o, Owns.alloc h.o5 o, h.d, h.hb, by have := h.hs; simp; omega, h.below.alloc (by have := h.hb; have := h.hs; omega) o⟩
theorem AS.to (h : AS w0 w b base k nn next s1 c4 c5 v4 v5 D P) (hb : Below w.heap.size w w') : AS w0 w' b base k nn next s1 c4 c5 v4 v5 D P :=
  ⟨h.bx.below hb, h.bz.below hb, h.o4.below hb, h.o5.below hb, h.d, h.hb, Nat.le_trans h.hs hb.size, h.below.trans (hb.mono (by have := h.hb; have := h.hs; omega))⟩
theorem AS.grow4 (h : AS w0 w b base k nn next s1 c4 c5 v4 v5 D P) (ho : strE.Own w' base v' D') (hg : w.grownBy w' v4.ownBlock) (hat : v'.ownBlock = v4.ownBlock ∨ v'.ownBlock = some w.heap.size) : AS w0 w' b base k nn next s1 c4 c5 v' v5 D' P :=
  ⟨h.bx.grown hg (h.o4.ne_some (by have := h.hb; omega)), h.bz.grown hg (h.o4.ne_some h.hb), ho, h.o5.grown hg (ne_turn2 h.d), ne_turn2 (Owns.fresh_ne hat (ne_turn2 h.d) (fun i hi => (h.o5.within hi).2)), h.hb, Nat.le_trans h.hs hg.size,
    h.below.grown hg (by have := h.hb; have := h.hs; omega) (fun i hi => by have := (h.o4.within hi).1; have := h.hb; omega)⟩
theorem AS.grow5 (h : AS w0 w b base k nn next s1 c4 c5 v4 v5 D P) (ho : placeE.Own w' base v' P') (hg : w.grownBy w' v5.ownBlock) (hat : v'.ownBlock = v5.ownBlock ∨ v'.ownBlock = some w.heap.size) : AS w0 w' b base k nn next s1 c4 c5 v4 v' D P' :=
  ⟨h.bx.grown hg (h.o5.ne_some (by have := h.hb; omega)), h.bz.grown hg (h.o5.ne_some h.hb), h.o4.grown hg h.d, ho, Owns.fresh_ne hat h.d (fun i hi => (h.o4.within hi).2), h.hb, Nat.le_trans h.hs hg.size,
    h.below.grown hg (by have := h.hb; have := h.hs; omega) (fun i hi => by have := (h.o5.within hi).1; have := h.hb; omega)⟩
theorem AS.set4 (h : AS w0 w b base k nn next s1 c4 c5 v4 v5 D P) (u : Value) : AS w0 (w.setCell ⟨b, 4, none⟩ u) b base k nn next s1 u c5 v4 v5 D P :=
  ⟨h.bx.set4 u, h.bz.setOther u (by omega), h.o4.setOther u (by have := h.hb; omega), h.o5.setOther u (by have := h.hb; omega), h.d, h.hb, by simpa using h.hs, h.below.setCell (Nat.le_refl _) u⟩
theorem AS.set5 (h : AS w0 w b base k nn next s1 c4 c5 v4 v5 D P) (u : Value) : AS w0 (w.setCell ⟨b, 5, none⟩ u) b base k nn next s1 c4 u v4 v5 D P :=
  ⟨h.bx.set5 u, h.bz.setOther u (by omega), h.o4.setOther u (by have := h.hb; omega), h.o5.setOther u (by have := h.hb; omega), h.d, h.hb, by simpa using h.hs, h.below.setCell (Nat.le_refl _) u⟩
end

set_option maxHeartbeats 2000000 in
theorem index_own (k nn next : Int) (A1 : Option Addr) (n1 c1 : Nat) (A2 : Option Addr) (n2 c2 : Nat) (A3 : Option Addr) (n3 c3 : Nat) (cs : List ByteArray) (ps : List Place) (w : World)
    (h2 : StrsAt w w.heap.size A2 n2 cs) (h3 : PlacesAt w w.heap.size A3 n3 ps) (hn2 : n2 ≤ 1000000) (hn3 : n3 ≤ 1000000) :
    Calls Try.prog 36 #[stv k nn next A1 n1 c1 A2 n2 c2 A3 n3 c3] w fun e w' => ∃ v4 v5, e = .returned (.agg #[.int .i64 k, .int .i64 nn, .int .i64 next, .slice A1 n1 c1, v4, v5]) ∧ strE.Own w' w.heap.size v4 cs ∧ placeE.Own w' w.heap.size v5 ps ∧
      (v4.ownBlock = none ∨ v4.ownBlock ≠ v5.ownBlock) ∧ Below w.heap.size w w' := by
  unfold stv
  have bx := Lib.hid ((BoxAt.new w k nn next (.slice A1 n1 c1) (.slice A2 n2 c2) (.slice A3 n3 c3)).alloc (.cells #[.int .i64 0, .int .i64 0, .int .i64 0, .slice none 0 0, .slice none 0 0, .slice none 0 0] 29))
  have bz : Hid (BoxAt ((w.alloc (.cells #[.int .i64 k, .int .i64 nn, .int .i64 next, .slice A1 n1 c1, .slice A2 n2 c2, .slice A3 n3 c3] 29)).alloc (.cells #[.int .i64 0, .int .i64 0, .int .i64 0, .slice none 0 0, .slice none 0 0, .slice none 0 0] 29)) (w.heap.size + 1) 0 0 0 (.slice none 0 0) (.slice none 0 0) (.slice none 0 0)) := by
    have := BoxAt.new (w.alloc (.cells #[.int .i64 k, .int .i64 nn, .int .i64 next, .slice A1 n1 c1, .slice A2 n2 c2, .slice A3 n3 c3] 29)) 0 0 0 (.slice none 0 0) (.slice none 0 0) (.slice none 0 0)
    exact Lib.hid (by simpa using this)
  have fb : Below w.heap.size w ((w.alloc (.cells #[.int .i64 k, .int .i64 nn, .int .i64 next, .slice A1 n1 c1, .slice A2 n2 c2, .slice A3 n3 c3] 29)).alloc (.cells #[.int .i64 0, .int .i64 0, .int .i64 0, .slice none 0 0, .slice none 0 0, .slice none 0 0] 29)) := ((Below.refl _ _).alloc (Nat.le_refl _) _).alloc (by simp) _
  have zz : Hid (((w.alloc (.cells #[.int .i64 k, .int .i64 nn, .int .i64 next, .slice A1 n1 c1, .slice A2 n2 c2, .slice A3 n3 c3] 29)).alloc (.cells #[.int .i64 0, .int .i64 0, .int .i64 0, .slice none 0 0, .slice none 0 0, .slice none 0 0] 29)).heap.size = w.heap.size + 2) := by unfold Hid; simp
  go_enter Try.func36, Try.ntmps36
  go_upto_region 1 with fail
  generalize (w.alloc (.cells #[.int .i64 k, .int .i64 nn, .int .i64 next, .slice A1 n1 c1, .slice A2 n2 c2, .slice A3 n3 c3] 29)).alloc (.cells #[.int .i64 0, .int .i64 0, .int .i64 0, .slice none 0 0, .slice none 0 0, .slice none 0 0] 29) = W0 at bx bz fb zz ⊢
  have z0 : W0.cell? ⟨w.heap.size, 4, none⟩ = some (.slice A2 n2 c2) ∧ W0.cell? ⟨w.heap.size, 5, none⟩ = some (.slice A3 n3 c3) := ⟨bx.out.cells.2.2.2.2.1, bx.out.cells.2.2.2.2.2⟩
  refine region_held_tail 7 (fun W : World => W.cell? ⟨w.heap.size, 4, none⟩ = some (.slice A2 n2 c2) ∧ W.cell? ⟨w.heap.size, 5, none⟩ = some (.slice A3 n3 c3)) (by kernel_rfl) (by kernel_rfl) ?_
  have hHeld : (fun W : World => W.cell? ⟨w.heap.size, 4, none⟩ = some (.slice A2 n2 c2) ∧ W.cell? ⟨w.heap.size, 5, none⟩ = some (.slice A3 n3 c3)) W0.drew := z0
  (refine HT.takeL (i := 0) (v := ?_) rfl (by kernel_rfl) (fun _ _ _ h => h) (Or.inl ⟨by rfl, ?_⟩) (by assumption) ?_
   rotate_left
   · (intro w hSw; (try dsimp only at hSw); go_simp; (try with_reducible rfl))
   try simp only [Act.put, List.setIfInBounds_toArray, List.set_cons_zero, List.set_cons_succ])
  (refine HT.takeL (i := 1) (v := ?_) rfl (by kernel_rfl) (fun _ _ _ h => h) (Or.inl ⟨by rfl, ?_⟩) (by assumption) ?_
   rotate_left
   · (intro w hSw; (try dsimp only at hSw); go_simp; (try with_reducible rfl))
   try simp only [Act.put, List.setIfInBounds_toArray, List.set_cons_zero, List.set_cons_succ])
  (refine HT.takeL (i := 3) (v := ?_) rfl (by kernel_rfl) (fun _ _ _ h => h) (Or.inl ⟨by rfl, ?_⟩) (by assumption) ?_
   rotate_left
   · (intro w hSw; (try dsimp only at hSw); go_simp; (try with_reducible rfl))
   try simp only [Act.put, List.setIfInBounds_toArray, List.set_cons_zero, List.set_cons_succ])
  (refine HT.takeL (i := 4) (v := ?_) rfl (by kernel_rfl) (fun _ _ _ h => h) (Or.inl ⟨by rfl, ?_⟩) (by assumption) ?_
   rotate_left
   · (intro w hSw; (try dsimp only at hSw); go_simp; (try with_reducible rfl))
   try simp only [Act.put, List.setIfInBounds_toArray, List.set_cons_zero, List.set_cons_succ])
  (refine HT.onlyL (i := 2) rfl (by kernel_rfl) (fun K hK => ?_)
   (go_simp; (refine (clone_strs A2 n2 c2 cs _ (h2.to fb.drew) hn2).mono ?_; rintro e w1 ⟨v4, rfl, o4, hb1⟩; have bx1 := bx.out.drew.below hb1; have hz1 := hb1.size))
   refine hK.out _ _ ?_ (fun hHeld => ?_)
   · (exact ⟨bx1.cells.2.2.2.2.1, bx1.cells.2.2.2.2.2⟩)
   clear hK K
   try simp only [Act.put, List.setIfInBounds_toArray, List.set_cons_zero, List.set_cons_succ])
  (refine HT.takeL (i := 6) (v := ?_) rfl (by kernel_rfl) (fun _ _ _ h => h) (Or.inl ⟨by rfl, ?_⟩) (by assumption) ?_
   rotate_left
   · (intro w hSw; (try dsimp only at hSw); go_simp; (try with_reducible rfl))
   try simp only [Act.put, List.setIfInBounds_toArray, List.set_cons_zero, List.set_cons_succ])
  (refine HT.onlyL (i := 5) rfl (by kernel_rfl) (fun K hK => ?_)
   (go_simp; (refine (clone_places A3 n3 c3 ps _ ((h3.to fb.drew).to hb1) hn3).mono ?_; rintro e w2 ⟨v5, rfl, o5, hb2⟩; have bx2 := bx1.below hb2; have hz2 := hb2.size))
   refine hK.out _ _ ?_ (fun hHeld => ?_)
   · (exact ⟨bx2.cells.2.2.2.2.1, bx2.cells.2.2.2.2.2⟩)
   clear hK K
   try simp only [Act.put, List.setIfInBounds_toArray, List.set_cons_zero, List.set_cons_succ])
  refine HT.tail (by kernel_rfl) ?_
  simp only [List.drop_succ_cons, List.drop_zero]
  have bz2 := ((bz.out.drew.below hb1).below hb2)
  obtain ⟨B4, m4, rfl⟩ := o4.form
  obtain ⟨B5, m5, rfl⟩ := o5.form
  have hd : (Value.slice B4 cs.length m4).ownBlock = none ∨ (Value.slice B4 cs.length m4).ownBlock ≠ (Value.slice B5 ps.length m5).ownBlock := by
    cases h4 : (Value.slice B4 cs.length m4).ownBlock with
    | none => exact .inl rfl
    | some i =>
      refine .inr fun e => ?_
      have h1 := (o4.within h4).2
      have h2 := (o5.within e.symm).1
      omega
  have hlt := zz.out
  have o4' := Lib.hid ((o4.below hb2).from (B' := w.heap.size + 2) (by simp; omega))
  have o5' := Lib.hid (o5.from (B' := w.heap.size + 2) (by simp at hz1; omega))
  have f2 : Below w.heap.size w w2 := (fb.drew.trans (hb1.mono (by simp; omega))).trans (hb2.mono (by simp at hz1; omega))
  have hw2 : w.heap.size + 1 < w2.heap.size := bz2.lt
  replace hd := Lib.hid hd
  clear hlt hb1 hb2 hz1 hz2 o4 o5 hHeld z0
  obtain ⟨x0, x1, x2, x3, x4, x5⟩ := bx2.cells
  have ex4 := bx2.frozen 4
  have ex5 := bx2.frozen 5
  (obtain ⟨g0, g1, g2, g3, g4, g5⟩ := (bz2).cells
   have e0 := (bz2).frozen 0
   have e1 := (bz2).frozen 1
   have e2 := (bz2).frozen 2
   have e3 := (bz2).frozen 3
   have e4 := (bz2).frozen 4
   have e5 := (bz2).frozen 5)
  have bx3 := (bx2.set4 (.slice B4 cs.length m4)).set5 (.slice B5 ps.length m5)
  have bz3 := ((bz2.setOther (.slice B4 cs.length m4) (b' := w.heap.size) (o := 4) (by omega)).setOther (.slice B5 ps.length m5) (b' := w.heap.size) (o := 5) (by omega)).st6 k nn next (.slice A1 n1 c1) (.slice B4 cs.length m4) (.slice B5 ps.length m5)
  have bz4 := Lib.hid bz3
  replace bx3 := Lib.hid bx3
  replace bx2 := Lib.hid bx2
  replace bz2 := Lib.hid bz2
  clear bz3 bx1
  have fin := Lib.hid (below_st6 ((f2.setCell (p := ⟨w.heap.size, 4, none⟩) (Nat.le_refl _) (.slice B4 cs.length m4)).setCell (p := ⟨w.heap.size, 5, none⟩) (Nat.le_refl _) (.slice B5 ps.length m5)) (b := w.heap.size + 1) (by omega) k nn next (.slice A1 n1 c1) (.slice B4 cs.length m4) (.slice B5 ps.length m5))
  have q4 := Lib.hid ((((o4'.out.setOther (.slice B4 cs.length m4) (b := w.heap.size) (o := 4) (by omega)).setOther (.slice B5 ps.length m5) (b := w.heap.size) (o := 5) (by omega)).st6 (b := w.heap.size + 1) (by omega) k nn next (.slice A1 n1 c1) (.slice B4 cs.length m4) (.slice B5 ps.length m5)).from (B' := w.heap.size) (by omega))
  have q5 := Lib.hid ((((o5'.out.setOther (.slice B4 cs.length m4) (b := w.heap.size) (o := 4) (by omega)).setOther (.slice B5 ps.length m5) (b := w.heap.size) (o := 5) (by omega)).st6 (b := w.heap.size + 1) (by omega) k nn next (.slice A1 n1 c1) (.slice B4 cs.length m4) (.slice B5 ps.length m5)).from (B' := w.heap.size) (by omega))
  go_wp2_with fail
  clear g0 g1 g2 g3 g4 g5 x0 x1 x2 x3 x4 x5
  obtain ⟨t0, t1, t2, t3, t4, t5⟩ := bz4.out.cells
  exact bodyPost_ret (v := .agg #[.int .i64 k, .int .i64 nn, .int .i64 next, .slice A1 n1 c1, .slice B4 cs.length m4, .slice B5 ps.length m5]) (by simp [results, Try.results36, go_sem, t0, t1, t2, t3, t4, t5]) rfl ⟨_, _, rfl, q4.out, q5.out, hd.out, fin.out⟩
end Go.Proofs.Ytbfephekkfieaaa
