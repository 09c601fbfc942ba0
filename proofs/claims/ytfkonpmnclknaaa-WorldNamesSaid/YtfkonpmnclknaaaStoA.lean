/-
  A store: what it is, how it lies in memory, what a call of it may change.
-/
import Derived.Test.YtfkonpmnclknaaaStoM
import Derived.Test.YtfkonpmnclknaaaElem
import Derived.Deep.Heap
namespace Go.Proofs.Ytfkonpmnclknaaa
open Go.RowKit

/-- A put, or a del. -/
structure Wr where
  name : ByteArray
  data : ByteArray
  del : Bool
def Wr.cells (x : Wr) : List Value := [.string x.name, .string x.data, .bool x.del]
def writeE : Elem Wr where
  T := 83
  S := 67
  k := 3
  bytes := 40
  enc := Wr.cells
  z := .agg #[.string ⟨#[]⟩, .string ⟨#[]⟩, .bool false]
  und := Try.underlying67
  info := by kernel_rfl
  zc := rfl
  pos := by decide
  small := by decide
  len := fun _ => rfl
  one := fun x u hu => by simp [Wr.cells] at hu; rcases hu with rfl | rfl | rfl <;> rfl

structure Sto where
  good : List Ob
  writes : List Wr
  seen : List Ob
  down : Bool
  refuse : Int
  room : Int

/-- Block b is a box of a store. -/
def SB (w : World) (b : Nat) (v0 v1 v2 v3 v4 v5 : Value) : Prop := w.heap[b]? = some (.cells #[v0, v1, v2, v3, v4, v5] 69)
section
variable {w w' : World} {b : Nat} {v0 v1 v2 v3 v4 v5 : Value}
theorem SB.lt (h : SB w b v0 v1 v2 v3 v4 v5) : b < w.heap.size := (Array.getElem?_eq_some_iff.1 h).1
theorem SB.cells (h : SB w b v0 v1 v2 v3 v4 v5) : w.cell? ⟨b, 0, none⟩ = some v0 ∧ w.cell? ⟨b, 1, none⟩ = some v1 ∧ w.cell? ⟨b, 2, none⟩ = some v2 ∧ w.cell? ⟨b, 3, none⟩ = some v3 ∧ w.cell? ⟨b, 4, none⟩ = some v4 ∧ w.cell? ⟨b, 5, none⟩ = some v5 :=
  ⟨cell_of_row w b 0 _ _ _ h, cell_of_row w b 1 _ _ _ h, cell_of_row w b 2 _ _ _ h, cell_of_row w b 3 _ _ _ h, cell_of_row w b 4 _ _ _ h, cell_of_row w b 5 _ _ _ h⟩
theorem SB.frozen (h : SB w b v0 v1 v2 v3 v4 v5) (o : Nat) : w.frozen? ⟨b, o, none⟩ = false := by
  unfold SB at h
  unfold World.frozen?
  simp [h]
theorem SB.block (h : SB w b v0 v1 v2 v3 v4 v5) (hb : w'.heap[b]? = w.heap[b]?) : SB w' b v0 v1 v2 v3 v4 v5 := hb.trans h
theorem SB.below {B : Nat} (h : SB w b v0 v1 v2 v3 v4 v5) (hB : b < B) (hb : Below B w w') : SB w' b v0 v1 v2 v3 v4 v5 := h.block (hb.block b hB)
theorem SB.grown {row : Option Nat} (h : SB w b v0 v1 v2 v3 v4 v5) (hg : w.grownBy w' row) (hne : row ≠ some b) : SB w' b v0 v1 v2 v3 v4 v5 := h.block (hg.block b h.lt (fun e => hne e.symm))
theorem SB.setOther (h : SB w b v0 v1 v2 v3 v4 v5) {b' o : Nat} (u : Value) (hne : b ≠ b') : SB (w.setCell ⟨b', o, none⟩ u) b v0 v1 v2 v3 v4 v5 := h.block (Go.Deep.blk_setCell_other _ _ _ _ hne)
theorem SB.alloc (h : SB w b v0 v1 v2 v3 v4 v5) (o : Obj) : SB (w.alloc o) b v0 v1 v2 v3 v4 v5 := h.block (Go.Deep.blk_alloc_lt _ _ _ h.lt)
theorem SB.drewN (h : SB w b v0 v1 v2 v3 v4 v5) (q : Nat) : SB (w.drewN q) b v0 v1 v2 v3 v4 v5 := h
theorem SB.drew (h : SB w b v0 v1 v2 v3 v4 v5) : SB w.drew b v0 v1 v2 v3 v4 v5 := h
theorem SB.new (w : World) (v0 v1 v2 v3 v4 v5 : Value) : SB (w.alloc (.cells #[v0, v1, v2, v3, v4, v5] 69)) w.heap.size v0 v1 v2 v3 v4 v5 := heap_alloc_new w _
theorem heap_setCellS {w : World} {b o : Nat} {cs : Array Value} {T : TypeId} {fz : Nat × Nat} (h : w.heap[b]? = some (.cells cs T fz)) (u : Value) : (w.setCell ⟨b, o, none⟩ u).heap[b]? = some (.cells (cs.setIfInBounds o u) T fz) := by
  simp [World.setCell, Array.getElem?_modify, h]
theorem SB.set0 (h : SB w b v0 v1 v2 v3 v4 v5) (u : Value) : SB (w.setCell ⟨b, 0, none⟩ u) b u v1 v2 v3 v4 v5 := (heap_setCellS h u).trans rfl
theorem SB.set1 (h : SB w b v0 v1 v2 v3 v4 v5) (u : Value) : SB (w.setCell ⟨b, 1, none⟩ u) b v0 u v2 v3 v4 v5 := (heap_setCellS h u).trans rfl
theorem SB.set2 (h : SB w b v0 v1 v2 v3 v4 v5) (u : Value) : SB (w.setCell ⟨b, 2, none⟩ u) b v0 v1 u v3 v4 v5 := (heap_setCellS h u).trans rfl
theorem SB.set3 (h : SB w b v0 v1 v2 v3 v4 v5) (u : Value) : SB (w.setCell ⟨b, 3, none⟩ u) b v0 v1 v2 u v4 v5 := (heap_setCellS h u).trans rfl
theorem SB.set4 (h : SB w b v0 v1 v2 v3 v4 v5) (u : Value) : SB (w.setCell ⟨b, 4, none⟩ u) b v0 v1 v2 v3 u v5 := (heap_setCellS h u).trans rfl
theorem SB.set5 (h : SB w b v0 v1 v2 v3 v4 v5) (u : Value) : SB (w.setCell ⟨b, 5, none⟩ u) b v0 v1 v2 v3 v4 u := (heap_setCellS h u).trans rfl
end

/-- All but the blocks F is as it was. -/
structure But (F : List Nat) (w w' : World) : Prop where
  os : w'.os = w.os
  tape : w'.tape = w.tape
  output : w'.output = w.output
  size : w.heap.size ≤ w'.heap.size
  block : ∀ i, i < w.heap.size → i ∉ F → w'.heap[i]? = w.heap[i]?
theorem But.refl (F : List Nat) (w : World) : But F w w := ⟨rfl, rfl, rfl, Nat.le_refl _, fun _ _ _ => rfl⟩
theorem But.drewN {F : List Nat} {w w' : World} (h : But F w w') (q : Nat) : But F w (w'.drewN q) := ⟨h.os, h.tape, h.output, h.size, h.block⟩
theorem But.drew {F : List Nat} {w w' : World} (h : But F w w') : But F w w'.drew := ⟨h.os, h.tape, h.output, h.size, h.block⟩
theorem But.trans {F G : List Nat} {w w1 w2 : World} (h : But F w w1) (k : But G w1 w2) (hG : ∀ i ∈ G, i ∈ F ∨ w.heap.size ≤ i) : But F w w2 :=
  ⟨k.os.trans h.os, k.tape.trans h.tape, k.output.trans h.output, Nat.le_trans h.size k.size, fun i hi hF => (k.block i (Nat.lt_of_lt_of_le hi h.size) fun hg => by
    rcases hG i hg with e | e
    · exact hF e
    · omega).trans (h.block i hi hF)⟩
theorem But.of_below {F : List Nat} {w w' : World} (h : Below w.heap.size w w') : But F w w' := ⟨h.os, h.tape, h.output, h.size, fun i hi _ => h.block i hi⟩
theorem But.of_grown {F : List Nat} {w w' : World} {row : Option Nat} (h : w.grownBy w' row) (hr : ∀ g, row = some g → g ∈ F) : But F w w' :=
  ⟨h.os, h.tape, h.output, h.size, fun i hi hF => h.block i hi fun e => hF (hr i e.symm)⟩
theorem But.of_set {F : List Nat} {w : World} {b o : Nat} (u : Value) (hb : b ∈ F) : But F w (w.setCell ⟨b, o, none⟩ u) := by
  refine ⟨rfl, rfl, rfl, by simp, fun i _ hF => Go.Deep.blk_setCell_other _ _ _ _ ?_⟩
  exact fun e => hF (by rw [show i = b from e]; exact hb)
theorem But.more {F G : List Nat} {w w' : World} (h : But F w w') (hG : ∀ i ∈ F, i ∈ G) : But G w w' := ⟨h.os, h.tape, h.output, h.size, fun i hi hF => h.block i hi fun e => hF (hG i e)⟩
theorem But.below {F : List Nat} {w w' : World} {B : Nat} (h : But F w w') (hB : B ≤ w.heap.size) (hF : ∀ i ∈ F, B ≤ i) : Below B w w' :=
  ⟨h.os, h.tape, h.output, h.size, fun i hi => h.block i (by omega) fun hf => by have := hF i hf; omega⟩

/-- A name and data that may be put. -/
def OkO (p : Ob) : Prop := p.1.size ≤ 80 ∧ p.2.size ≤ 65536

structure StoIn (w : World) (b gm sm : Nat) (V : Value) (N : Nat) (s : Sto) : Prop where
  box : SB w b (.map (some gm)) V (.map (some sm)) (.bool s.down) (.int .i64 s.refuse) (.int .i64 s.room)
  good : MapAt w gm N s.good
  seen : MapAt w sm N s.seen
  own : writeE.Own w 0 V s.writes
  ap : (b :: gm :: sm :: V.ownBlock.toList).Nodup
  ng : ∀ p ∈ s.good, OkO p
  ns : ∀ p ∈ s.seen, OkO p
  nw : ∀ x ∈ s.writes, OkO (x.name, x.data)
  len : s.good.length + s.writes.length ≤ N
  cap : N ≤ 1000000
  rf : -1 ≤ s.refuse
  rf9 : s.refuse ≤ 9223372036854775807
  rm9 : s.room ≤ 9223372036854775807
  rm : -1 ≤ s.room

/-- Block b is a box of the store s; F: its blocks. -/
def StoAt (w : World) (b : Nat) (F : List Nat) (N : Nat) (s : Sto) : Prop := ∃ gm sm V, F = b :: gm :: sm :: V.ownBlock.toList ∧ StoIn w b gm sm V N s

theorem StoIn.lt {w : World} {b gm sm N : Nat} {V : Value} {s : Sto} (h : StoIn w b gm sm V N s) : ∀ i ∈ b :: gm :: sm :: V.ownBlock.toList, i < w.heap.size := by
  intro i hi
  rcases List.mem_cons.1 hi with rfl | hi
  · exact h.box.lt
  rcases List.mem_cons.1 hi with rfl | hi
  · exact h.good.lt
  rcases List.mem_cons.1 hi with rfl | hi
  · exact h.seen.lt
  · have e : V.ownBlock = some i := by simpa using hi
    exact (h.own.within e).2
theorem StoAt.lt {w : World} {b N : Nat} {F : List Nat} {s : Sto} (h : StoAt w b F N s) : ∀ i ∈ F, i < w.heap.size := by
  obtain ⟨gm, sm, V, rfl, h⟩ := h
  exact h.lt
theorem Owns.blockS {α : Type} {k : Nat} {enc : α → List Value} {T : TypeId} {w w' : World} {base : Nat} {v : Value} {l : List α} (h : Owns k enc T w base v l) (hb : ∀ i, v.ownBlock = some i → w'.heap[i]? = w.heap[i]?) : Owns k enc T w' base v l :=
  ⟨h.1, h.2.imp id fun ⟨g, cap, cur, e, hg, hh, r⟩ => ⟨g, cap, cur, e, hg, (hb g (by subst e; rfl)).trans hh, r⟩⟩
theorem StoIn.block {w w' : World} {b gm sm N : Nat} {V : Value} {s : Sto} (h : StoIn w b gm sm V N s) (hb : ∀ i ∈ b :: gm :: sm :: V.ownBlock.toList, w'.heap[i]? = w.heap[i]?) : StoIn w' b gm sm V N s :=
  { h with
    box := h.box.block (hb _ (by simp))
    good := h.good.block (hb _ (by simp))
    seen := h.seen.block (hb _ (by simp))
    own := h.own.blockS fun i e => hb _ (by simp [e]) }
theorem StoAt.block {w w' : World} {b N : Nat} {F : List Nat} {s : Sto} (h : StoAt w b F N s) (hb : ∀ i ∈ F, w'.heap[i]? = w.heap[i]?) : StoAt w' b F N s := by
  obtain ⟨gm, sm, V, rfl, h⟩ := h
  exact ⟨gm, sm, V, rfl, h.block hb⟩
theorem StoAt.but {w w' : World} {b N : Nat} {F G : List Nat} {s : Sto} (h : StoAt w b F N s) (hb : But G w w') (hF : ∀ i ∈ F, i ∉ G) : StoAt w' b F N s := h.block fun i hi => hb.block i (h.lt i hi) (hF i hi)
theorem StoAt.below {w w' : World} {b N : Nat} {F : List Nat} {s : Sto} (h : StoAt w b F N s) (hb : Below w.heap.size w w') : StoAt w' b F N s := h.block fun i hi => hb.block i (h.lt i hi)
theorem StoAt.drewN {w : World} {b N : Nat} {F : List Nat} {s : Sto} (h : StoAt w b F N s) (q : Nat) : StoAt (w.drewN q) b F N s := h.block fun _ _ => rfl
theorem StoAt.more {w : World} {b N M : Nat} {F : List Nat} {s : Sto} (h : StoAt w b F N s) (hM : N ≤ M) (hc : M ≤ 1000000) : StoAt w b F M s := by
  obtain ⟨gm, sm, V, rfl, h⟩ := h
  exact ⟨gm, sm, V, rfl, { h with good := h.good.more hM (by omega), seen := h.seen.more hM (by omega), len := Nat.le_trans h.len hM, cap := hc }⟩

/-- What a call of a store leaves: the store s' at block b; but for its blocks, and new ones, all is as it was. -/
def StoTo (b : Nat) (F : List Nat) (N : Nat) (s' : Sto) (w w' : World) : Prop := ∃ F', StoAt w' b F' N s' ∧ But F w w' ∧ ∀ i ∈ F', i ∈ F ∨ w.heap.size ≤ i
end Go.Proofs.Ytfkonpmnclknaaa
