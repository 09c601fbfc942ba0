/-
  What Find tells of a state; boxes of places.
-/
import Derived.Test.YtbfephekkfieaaaPosL
import Derived.Test.YtbfephekkfieaaaStA
namespace Go.Proofs.Ytbfephekkfieaaa
open Go.RowKit
attribute [local go_sem ↓] Go.wp_at_zero Go.wp_at_succ

def Place.zero : Place := ⟨⟨#[]⟩, 0, 0⟩
/-- What Find tells of a state. -/
def findP (s : St) (d : ByteArray) : Place × Int :=
  if mayIdx s.cs s.ps then match posOf d s.cs with | some i => ((s.ps[i]?).getD Place.zero, 0) | none => (Place.zero, 5) else (Place.zero, 4)
theorem findP_form {s : St} {d : ByteArray} (h : mayIdx s.cs s.ps = false) : findP s d = (Place.zero, 4) := by simp [findP, h]
theorem findP_none {s : St} {d : ByteArray} (h : mayIdx s.cs s.ps = true) (hd : posOf d s.cs = none) : findP s d = (Place.zero, 5) := by simp [findP, h, hd]
theorem findP_some {s : St} {d : ByteArray} {i : Nat} {p : Place} (h : mayIdx s.cs s.ps = true) (hd : posOf d s.cs = some i) (hp : s.ps[i]? = some p) : findP s d = (p, 0) := by simp [findP, h, hd, hp]
theorem mayIdx_len {cs : List ByteArray} {ps : List Place} (h : mayIdx cs ps = true) : cs.length = ps.length ∧ cs.length ≤ 400 := by
  simp [mayIdx] at h
  exact ⟨h.1.1.1, h.1.1.2⟩

/-- Block b is a box of a place. -/
def PBox (w : World) (b : Nat) (p : Place) : Prop := w.heap[b]? = some (.cells #[.string p.pack, .int .i64 p.at_, .int .i64 p.len] 35)
section
variable {w w' : World} {b : Nat} {p : Place}
theorem PBox.lt (h : PBox w b p) : b < w.heap.size := (Array.getElem?_eq_some_iff.1 h).1
theorem PBox.cells (h : PBox w b p) : w.cell? ⟨b, 0, none⟩ = some (.string p.pack) ∧ w.cell? ⟨b, 1, none⟩ = some (.int .i64 p.at_) ∧ w.cell? ⟨b, 2, none⟩ = some (.int .i64 p.len) :=
  ⟨cell_of_row w b 0 _ _ _ h, cell_of_row w b 1 _ _ _ h, cell_of_row w b 2 _ _ _ h⟩
theorem PBox.frozen (h : PBox w b p) (o : Nat) : w.frozen? ⟨b, o, none⟩ = false := by
  unfold PBox at h
  unfold World.frozen?
  simp [h]
theorem PBox.below (h : PBox w b p) (hb : Below w.heap.size w w') : PBox w' b p := (hb.block b h.lt).trans h
theorem PBox.alloc (h : PBox w b p) (o : Obj) : PBox (w.alloc o) b p := (Go.Deep.blk_alloc_lt _ _ _ h.lt).trans h
theorem PBox.drewN (h : PBox w b p) (q : Nat) : PBox (w.drewN q) b p := h
theorem PBox.drew (h : PBox w b p) : PBox w.drew b p := h
theorem PBox.new (w : World) (p : Place) : PBox (w.alloc (.cells #[.string p.pack, .int .i64 p.at_, .int .i64 p.len] 35)) w.heap.size p := heap_alloc_new w _
end
abbrev set3 (w : World) (b : Nat) (p : Place) : World := ((w.setCell ⟨b, 0, none⟩ (.string p.pack)).setCell ⟨b, 1, none⟩ (.int .i64 p.at_)).setCell ⟨b, 2, none⟩ (.int .i64 p.len)
theorem PBox.set3 {w : World} {b : Nat} {p : Place} (h : PBox w b p) (q : Place) : PBox (set3 w b q) b q := (heap_setCell (heap_setCell (heap_setCell h _) _) _).trans rfl
theorem below_set3 {B : Nat} {w0 w : World} (h : Below B w0 w) {b : Nat} (hb : B ≤ b) (p : Place) : Below B w0 (Go.Proofs.Ytbfephekkfieaaa.set3 w b p) := ((h.setCell hb _).setCell hb _).setCell hb _
end Go.Proofs.Ytbfephekkfieaaa
