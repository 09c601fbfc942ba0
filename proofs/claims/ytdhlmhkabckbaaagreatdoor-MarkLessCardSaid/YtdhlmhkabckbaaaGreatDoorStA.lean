/-
  States and where their rows lie.
-/
import Derived.Test.YtdhlmhkabckbaaaGreatDoorIndexA
import Derived.Test.YtdhlmhkabckbaaaGreatDoorMem
import Derived.Test.YtdhlmhkabckbaaaGreatDoorElem
import Derived.Deep.Heap
import Derived.Test.YtdhlmhkabckbaaaGreatDoorPlaceA
import Derived.Test.YtdhlmhkabckbaaaGreatDoorStrs
namespace Go.Proofs.YtdhlmhkabckbaaaGreatDoor
open Go.RowKit
attribute [local go_sem ↓] Go.wp_at_zero Go.wp_at_succ

/-- A state: its code, its next ID, its rows. -/
structure St where
  k : Int
  n : Int
  next : Int
  sn : List Snap
  cs : List ByteArray
  ps : List Place
/-- Where a state's rows lie. -/
structure Rws where
  A1 : Option Addr
  n1 : Nat
  c1 : Nat
  A2 : Option Addr
  n2 : Nat
  c2 : Nat
  A3 : Option Addr
  n3 : Nat
  c3 : Nat
abbrev Rws.val (v : Rws) (s : St) : Value := stv s.k s.n s.next v.A1 v.n1 v.c1 v.A2 v.n2 v.c2 v.A3 v.n3 v.c3
structure StAt (w : World) (B : Nat) (v : Rws) (s : St) : Prop where
  sn : SnapsAt w B v.A1 v.n1 s.sn
  cs : StrsAt w B v.A2 v.n2 s.cs
  ps : PlacesAt w B v.A3 v.n3 s.ps
  ok : ∀ p ∈ s.ps, PlaceOk p
theorem StAt.to {w w' : World} {v : Rws} {s : St} (h : StAt w w.heap.size v s) (hb : Below w.heap.size w w') : StAt w' w'.heap.size v s :=
  ⟨h.sn.to hb, h.cs.to hb, h.ps.to hb, h.ok⟩
end Go.Proofs.YtdhlmhkabckbaaaGreatDoor
/-
  append of one snapshot onto a slice of the call's own.
-/
namespace Go.Proofs.YtdhlmhkabckbaaaGreatDoor
open Go.RowKit

theorem Snap.info : (Tryz.prog.info? 63).map (fun i => (i.zero, i.size, i.bytes)) = some (some (.agg #[.int .i64 0, .int .i64 0, .string ⟨#[]⟩]), 3, 32) := by kernel_rfl
theorem Snap.len (s : Snap) : s.cells.length = 3 := rfl
abbrev SnapsOwn := Owns 3 Snap.cells 63

theorem cell_new (w : World) (cs : Array Value) (T : TypeId) (fz : Nat × Nat) (j : Nat) : (w.alloc (.cells cs T fz)).cell? ⟨w.heap.size, j, none⟩ = cs[j]? := cell_of_row _ _ j cs T fz (heap_alloc_new w _)
theorem info3 {P : Program} {e : TypeId} {z : Value} {a b : Nat} (h : (P.info? e).map (fun i => (i.zero, i.size, i.bytes)) = some (some z, a, b)) : ∃ i, P.info? e = some i ∧ i.zero = some z ∧ i.size = a ∧ i.bytes = b := by
  cases hi : P.info? e with
  | none => rw [hi] at h; simp at h
  | some i => rw [hi] at h; simp at h; exact ⟨i, rfl, h.1, h.2.1, h.2.2⟩

theorem step_append_snap {ops : Array Oper} {o : Oper} {a : Act} {w : World} {K : Act → World → Prop} {Q : Exit → Act → World → Prop} {E : Prop} (hgd : o.guard = none) (s x : Operand)
    (ho : o.op = .call { callee := .builtin .append, args := #[s, x], argTypes := #[22, 22] })
    (base : Nat) (v : Value) (l : List Snap) (hs : a.eval s = v) (g c : Nat) (y : Snap) (hx : a.eval x = .slice (some ⟨g, 0, none⟩) 1 c)
    (hown : SnapsOwn w base v l) (h0 : w.cell? ⟨g, 0, none⟩ = some (.int .i64 y.id)) (h1 : w.cell? ⟨g, 1, none⟩ = some (.int .i64 y.time)) (h2 : w.cell? ⟨g, 2, none⟩ = some (.string y.root))
    (hl : l.length ≤ 1000000000) (hbase : base ≤ w.heap.size)
    (h : ∀ v' w', SnapsOwn w' base v' (l ++ [y]) → w.grownBy w' v.ownBlock → (v'.ownBlock = v.ownBlock ∨ v'.ownBlock = some w.heap.size) → K (a.put o.dst v') w') :
    if Region.wanted o (yielded ops a.tmps) = true then Oper.wp Tryz.prog o a w K Q else E := by
  obtain ⟨i, hi, hz, hsz, hby⟩ := info3 Snap.info
  refine step_append_any w hgd s x _ ho base _ i _ 3 32 Tryz.underlying22 hi hz hsz hby rfl (by omega) v l.length _ hs hown (g + 1) _ 1 c y.cells hx ?_ ?_ (by simp only [maxLen]; omega) (by omega) hbase ?_
  · refine ⟨rfl, fun _ => ⟨_, rfl, by simp, fun j u hu => ?_⟩⟩
    rw [Addr.add_lit]
    match j, hu with
    | 0, hu => simp [Snap.cells] at hu; subst hu; exact h0
    | 1, hu => simp [Snap.cells] at hu; subst hu; exact h1
    | 2, hu => simp [Snap.cells] at hu; subst hu; exact h2
    | j + 3, hu => simp [Snap.cells] at hu
  · intro u hu
    simp [Snap.cells] at hu
    rcases hu with rfl | rfl | rfl <;> rfl
  · intro v' w' ho' hg hat
    refine h v' w' ?_ hg hat
    unfold SnapsOwn Owns
    rw [List.length_append, List.flatMap_append]
    simpa using ho'

theorem wpList_append_snap {ops : Array Oper} {rest : List Oper} {o : Oper} {a : Act} {w : World} {Q : Exit → Act → World → Prop} (hgd : o.guard = none) (s x : Operand)
    (ho : o.op = .call { callee := .builtin .append, args := #[s, x], argTypes := #[22, 22] })
    (base : Nat) (v : Value) (l : List Snap) (hs : a.eval s = v) (g c : Nat) (y : Snap) (hx : a.eval x = .slice (some ⟨g, 0, none⟩) 1 c)
    (hown : SnapsOwn w base v l) (h0 : w.cell? ⟨g, 0, none⟩ = some (.int .i64 y.id)) (h1 : w.cell? ⟨g, 1, none⟩ = some (.int .i64 y.time)) (h2 : w.cell? ⟨g, 2, none⟩ = some (.string y.root))
    (hl : l.length ≤ 1000000000) (hbase : base ≤ w.heap.size)
    (h : ∀ v' w', SnapsOwn w' base v' (l ++ [y]) → w.grownBy w' v.ownBlock → (v'.ownBlock = v.ownBlock ∨ v'.ownBlock = some w.heap.size) → wpList Tryz.prog ops Q rest (a.put o.dst v') w') : wpList Tryz.prog ops Q (o :: rest) a w := by
  obtain ⟨i, hi, hz, hsz, hby⟩ := info3 Snap.info
  refine wpList_append_any w hgd s x _ ho base _ i _ 3 32 Tryz.underlying22 hi hz hsz hby rfl (by omega) v l.length _ hs hown (g + 1) _ 1 c y.cells hx ?_ ?_ (by simp only [maxLen]; omega) (by omega) hbase ?_
  · refine ⟨rfl, fun _ => ⟨_, rfl, by simp, fun j u hu => ?_⟩⟩
    rw [Addr.add_lit]
    match j, hu with
    | 0, hu => simp [Snap.cells] at hu; subst hu; exact h0
    | 1, hu => simp [Snap.cells] at hu; subst hu; exact h1
    | 2, hu => simp [Snap.cells] at hu; subst hu; exact h2
    | j + 3, hu => simp [Snap.cells] at hu
  · intro u hu
    simp [Snap.cells] at hu
    rcases hu with rfl | rfl | rfl <;> rfl
  · intro v' w' ho' hg hat
    refine h v' w' ?_ hg hat
    unfold SnapsOwn Owns
    rw [List.length_append, List.flatMap_append]
    simpa using ho'
end Go.Proofs.YtdhlmhkabckbaaaGreatDoor

/-
  Snapshots as an element type.
-/
namespace Go.Proofs.YtdhlmhkabckbaaaGreatDoor
open Go.RowKit

def snapE : Elem Snap where
  T := 63
  S := 22
  k := 3
  bytes := 32
  enc := Snap.cells
  z := .agg #[.int .i64 0, .int .i64 0, .string ⟨#[]⟩]
  und := Tryz.underlying22
  info := Snap.info
  zc := rfl
  pos := by decide
  small := by decide
  len := Snap.len
  one := fun x u hu => by simp [Snap.cells] at hu; rcases hu with rfl | rfl | rfl <;> rfl

end Go.Proofs.YtdhlmhkabckbaaaGreatDoor

/-
  A state in a box of its own: what its cells hold; its rows while others change.
-/
namespace Go.Proofs.YtdhlmhkabckbaaaGreatDoor
open Go.RowKit

/-- Block b is a box of a state. -/
def BoxAt (w : World) (b : Nat) (k n x : Int) (v4 v5 v6 : Value) : Prop := w.heap[b]? = some (.cells #[.int .i64 k, .int .i64 n, .int .i64 x, v4, v5, v6] 57)
section
variable {w w' : World} {b : Nat} {k n x : Int} {v4 v5 v6 : Value}
theorem BoxAt.lt (h : BoxAt w b k n x v4 v5 v6) : b < w.heap.size := (Array.getElem?_eq_some_iff.1 h).1
theorem BoxAt.cells (h : BoxAt w b k n x v4 v5 v6) : w.cell? ⟨b, 0, none⟩ = some (.int .i64 k) ∧ w.cell? ⟨b, 1, none⟩ = some (.int .i64 n) ∧ w.cell? ⟨b, 2, none⟩ = some (.int .i64 x) ∧ w.cell? ⟨b, 3, none⟩ = some v4 ∧ w.cell? ⟨b, 4, none⟩ = some v5 ∧ w.cell? ⟨b, 5, none⟩ = some v6 :=
  ⟨cell_of_row w b 0 _ _ _ h, cell_of_row w b 1 _ _ _ h, cell_of_row w b 2 _ _ _ h, cell_of_row w b 3 _ _ _ h, cell_of_row w b 4 _ _ _ h, cell_of_row w b 5 _ _ _ h⟩
theorem BoxAt.frozen (h : BoxAt w b k n x v4 v5 v6) (o : Nat) : w.frozen? ⟨b, o, none⟩ = false := by
  unfold BoxAt at h
  unfold World.frozen?
  simp [h]
theorem BoxAt.block (h : BoxAt w b k n x v4 v5 v6) (hb : w'.heap[b]? = w.heap[b]?) : BoxAt w' b k n x v4 v5 v6 := hb.trans h
theorem BoxAt.below (h : BoxAt w b k n x v4 v5 v6) (hb : Below w.heap.size w w') : BoxAt w' b k n x v4 v5 v6 := h.block (hb.block b h.lt)
theorem BoxAt.grown {row : Option Nat} (h : BoxAt w b k n x v4 v5 v6) (hg : w.grownBy w' row) (hne : row ≠ some b) : BoxAt w' b k n x v4 v5 v6 := h.block (hg.block b h.lt (fun e => hne e.symm))
theorem BoxAt.setOther (h : BoxAt w b k n x v4 v5 v6) {b' o : Nat} (u : Value) (hne : b ≠ b') : BoxAt (w.setCell ⟨b', o, none⟩ u) b k n x v4 v5 v6 := h.block (Go.Deep.blk_setCell_other _ _ _ _ hne)
theorem BoxAt.alloc (h : BoxAt w b k n x v4 v5 v6) (o : Obj) : BoxAt (w.alloc o) b k n x v4 v5 v6 := h.block (Go.Deep.blk_alloc_lt _ _ _ h.lt)
theorem BoxAt.drewN (h : BoxAt w b k n x v4 v5 v6) (q : Nat) : BoxAt (w.drewN q) b k n x v4 v5 v6 := h
theorem BoxAt.drew (h : BoxAt w b k n x v4 v5 v6) : BoxAt w.drew b k n x v4 v5 v6 := h
theorem BoxAt.new (w : World) (k n x : Int) (v4 v5 v6 : Value) : BoxAt (w.alloc (.cells #[.int .i64 k, .int .i64 n, .int .i64 x, v4, v5, v6] 57)) w.heap.size k n x v4 v5 v6 := heap_alloc_new w _
theorem heap_setCell {w : World} {b o : Nat} {cs : Array Value} {T : TypeId} {fz : Nat × Nat} (h : w.heap[b]? = some (.cells cs T fz)) (u : Value) : (w.setCell ⟨b, o, none⟩ u).heap[b]? = some (.cells (cs.setIfInBounds o u) T fz) := by
  simp [World.setCell, Array.getElem?_modify, h]
theorem BoxAt.set3 (h : BoxAt w b k n x v4 v5 v6) (u : Value) : BoxAt (w.setCell ⟨b, 3, none⟩ u) b k n x u v5 v6 := (heap_setCell h u).trans rfl
theorem BoxAt.set4 (h : BoxAt w b k n x v4 v5 v6) (u : Value) : BoxAt (w.setCell ⟨b, 4, none⟩ u) b k n x v4 u v6 := (heap_setCell h u).trans rfl
theorem BoxAt.set5 (h : BoxAt w b k n x v4 v5 v6) (u : Value) : BoxAt (w.setCell ⟨b, 5, none⟩ u) b k n x v4 v5 u := (heap_setCell h u).trans rfl
end
section
variable {α : Type} {k : Nat} {enc : α → List Value} {T : TypeId} {w w' : World} {base : Nat} {v : Value} {l : List α}
theorem Owns.setOther (h : Owns k enc T w base v l) {b o : Nat} (u : Value) (hb : b < base) : Owns k enc T (w.setCell ⟨b, o, none⟩ u) base v l :=
  ⟨h.1, h.2.imp id fun ⟨g, cap, cur, e, hg, hh, r⟩ => ⟨g, cap, cur, e, hg, (Go.Deep.blk_setCell_other _ _ _ _ (by show g ≠ b; omega)).trans hh, r⟩⟩
theorem own_in {g n c i B : Nat} (h : (Value.slice (some ⟨g, 0, none⟩) n c).ownBlock = some i) (hB : B ≤ g) : B ≤ i := by
  cases h
  exact hB
theorem Owns.ne_new (h : Owns k enc T w base v l) {g n c : Nat} (hg : w.heap.size ≤ g) : v.ownBlock = none ∨ v.ownBlock ≠ (Value.slice (some ⟨g, 0, none⟩) n c).ownBlock := .inr fun e => by
  have := (h.within (i := g) e).2
  omega
theorem Owns.ne_some (h : Owns k enc T w base v l) {b : Nat} (hb : b < base) : v.ownBlock ≠ some b := fun e => by
  have := (h.within e).1
  omega
theorem Owns.fresh_ne {v' : Value} {w0 : World} (h : v'.ownBlock = v.ownBlock ∨ v'.ownBlock = some w0.heap.size) {u : Value} (h1 : u.ownBlock = none ∨ u.ownBlock ≠ v.ownBlock) (h2 : ∀ i, u.ownBlock = some i → i < w0.heap.size) : u.ownBlock = none ∨ u.ownBlock ≠ v'.ownBlock := by
  rcases h1 with h1 | h1
  · exact .inl h1
  · refine .inr fun e => ?_
    rcases h with h | h
    · exact h1 (e.trans h)
    · have := h2 _ (e.trans h)
      omega
end
end Go.Proofs.YtdhlmhkabckbaaaGreatDoor

/-
  Two rows that grow side by side: of texts, of places.
-/
namespace Go.Proofs.YtdhlmhkabckbaaaGreatDoor
open Go.RowKit

theorem ne_turn {a b : Option Nat} (h : a = none ∨ a ≠ b) : b = none ∨ b ≠ a := by
  rcases h with rfl | h
  · cases b with
    | none => exact .inl rfl
    | some x => exact .inr (by simp)
  · exact .inr (Ne.symm h)

/-- Two rows that grow side by side: of texts, of places. -/
structure Two (w0 w : World) (base : Nat) (v4 v5 : Value) (D : List ByteArray) (P : List Place) : Prop where
  o4 : strE.Own w base v4 D
  o5 : placeE.Own w base v5 P
  d : v4.ownBlock = none ∨ v4.ownBlock ≠ v5.ownBlock
  below : Below base w0 w
section
variable {w0 w w' : World} {base : Nat} {v4 v5 v' : Value} {D D' : List ByteArray} {P P' : List Place}
theorem Two.drew (h : Two w0 w base v4 v5 D P) : Two w0 w.drew base v4 v5 D P := ⟨h.o4, h.o5, h.d, h.below.drew⟩
theorem Two.drewN (h : Two w0 w base v4 v5 D P) (q : Nat) : Two w0 (w.drewN q) base v4 v5 D P := ⟨h.o4, h.o5, h.d, below_drewN h.below q⟩
theorem Two.alloc (h : Two w0 w base v4 v5 D P) (hb : base ≤ w.heap.size) (o : Obj) : Two w0 (w.alloc o) base v4 v5 D P := ⟨Owns.alloc h.o4 o, Owns.alloc h.o5 o, h.d, h.below.alloc hb o⟩
theorem Two.to (h : Two w0 w base v4 v5 D P) (hb0 : base ≤ w.heap.size) (hb : Below w.heap.size w w') : Two w0 w' base v4 v5 D P := ⟨h.o4.below hb, h.o5.below hb, h.d, h.below.trans (hb.mono hb0)⟩
theorem Two.grow4 (h : Two w0 w base v4 v5 D P) (hb0 : base ≤ w.heap.size) (ho : strE.Own w' base v' D') (hg : w.grownBy w' v4.ownBlock) (hat : v'.ownBlock = v4.ownBlock ∨ v'.ownBlock = some w.heap.size) : Two w0 w' base v' v5 D' P :=
  ⟨ho, h.o5.grown hg (ne_turn h.d), ne_turn (Owns.fresh_ne hat (ne_turn h.d) (fun i hi => (h.o5.within hi).2)), h.below.trans ((Below.refl _ _).grown hg hb0 (fun i hi => by have := (h.o4.within hi).1; omega))⟩
theorem Two.grow5 (h : Two w0 w base v4 v5 D P) (hb0 : base ≤ w.heap.size) (ho : placeE.Own w' base v' P') (hg : w.grownBy w' v5.ownBlock) (hat : v'.ownBlock = v5.ownBlock ∨ v'.ownBlock = some w.heap.size) : Two w0 w' base v4 v' D P' :=
  ⟨h.o4.grown hg h.d, ho, Owns.fresh_ne hat h.d (fun i hi => (h.o4.within hi).2), h.below.trans ((Below.refl _ _).grown hg hb0 (fun i hi => by have := (h.o5.within hi).1; omega))⟩
end
end Go.Proofs.YtdhlmhkabckbaaaGreatDoor
