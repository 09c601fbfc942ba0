/-
  Arguments of a law that are snapshots: opened.
-/
import Derived.Test.YtdhlmhkabckbaaaGreatDoorLawA
namespace Go.Proofs.YtdhlmhkabckbaaaGreatDoor
open Go.ChangeShapes Go.WideShapes Go.ChangeAt Go.RowKit Go.Deep Go.Joins

section
variable {H : Type} {enc : TypeId × Value → H} {W : World} {base : Nat} {v : Value} {d : DataW H} {p : List MemPlace}

/-- A snapshot's numbers are numbers of their kinds. -/
def SnapOk (s : Snap) : Prop := -9223372036854775808 ≤ s.id ∧ s.id ≤ 9223372036854775807 ∧ -9223372036854775808 ≤ s.time ∧ s.time ≤ 9223372036854775807

set_option maxRecDepth 100000 in
theorem open_snaps (hv : Value.okWide Tryz.prog W .any base 22 v) (h : DataW.Trod enc Tryz.prog W 0 (fun _ => true) true 22 v d p) :
    ∃ A n c l, v = .slice A n c ∧ SnapsAt W W.heap.size A n l ∧ ∀ s ∈ l, SnapOk s := by
  obtain ⟨a0, len, cap, rfl⟩ := okWide_slice Tryz.underlying22 hv
  obtain ⟨fuel, hf⟩ := h
  rcases open_slice_fields Tryz.underlying22 Tryz.underlying63 (by kernel_rfl) (by kernel_rfl) hf with ⟨e, _⟩ | ⟨a, len', cap', m, D, Pl, e, _, hlc, hcm, hm, _, hi⟩
  · simp [Value.cells] at e
    obtain ⟨rfl, rfl, rfl⟩ := e
    exact ⟨_, _, _, [], rfl, RowAt.none_, by simp⟩
  · simp [Value.cells] at e
    obtain ⟨rfl, rfl, rfl⟩ := e
    obtain rfl : m = cap := by simpa using hm
    have key : ∀ i, i < len → ∃ s : Snap, (W.cell? (a.add (i * 3)) = some (.int .i64 s.id) ∧ W.cell? (a.add (i * 3 + 1)) = some (.int .i64 s.time) ∧ W.cell? (a.add (i * 3 + 2)) = some (.string s.root)) ∧ SnapOk s := by
      intro i hl
      obtain ⟨ys, n', _, _, _, hf⟩ := hi i (by omega)
      obtain ⟨v0, y0, c0, _, t0⟩ := hf 0 _ rfl
      obtain ⟨v1, y1, c1, _, t1⟩ := hf 1 _ rfl
      obtain ⟨v2, y2, c2, _, t2⟩ := hf 2 _ rfl
      obtain ⟨x0, e0, _, w0⟩ := DataW.trod_int Tryz.underlying3 t0
      obtain ⟨x1, e1, _, w1⟩ := DataW.trod_int Tryz.underlying2 t1
      obtain ⟨x2, e2, _⟩ := DataW.trod_string Tryz.underlying9 t2
      simp at e0 e1 e2
      subst e0 e1 e2
      exact ⟨⟨x0, x1, x2⟩, ⟨c0, c1, c2⟩, by simp [Lit.wf, IntKind.min, IntKind.max, IntKind.signed, IntKind.bits] at w0 w1; simp [SnapOk]; omega⟩
    obtain ⟨l, hl, hP⟩ := list_of len key
    refine ⟨_, _, _, l, rfl, ⟨hl, by simp only [maxLen] at hcm; omega, fun hn => ?_⟩, ?_⟩
    · obtain ⟨s, ⟨c0, _, _⟩, _⟩ := key 0 hn
      have ha := addr_form c0
      simp [Addr.add] at ha
      have hb := World.block_lt_of_cell? W _ c0
      simp [Addr.add] at hb
      refine ⟨a.block, a.off, by rw [← ha], hb, fun i x hx j u hu => ?_⟩
      obtain ⟨⟨q0, q1, q2⟩, _⟩ := hP i x hx
      rw [ha] at q0 q1 q2
      simp only [Addr.add_lit] at q0 q1 q2
      match j, hu with
      | 0, hu => simp [Snap.cells] at hu; subst hu; exact q0
      | 1, hu => simp [Snap.cells] at hu; subst hu; exact q1
      | 2, hu => simp [Snap.cells] at hu; subst hu; exact q2
      | j + 3, hu => simp [Snap.cells] at hu
    · intro s hs
      obtain ⟨i, hi⟩ := List.getElem?_of_mem hs
      exact (hP i s hi).2

set_option maxRecDepth 100000 in
theorem open_snap (hv : Value.okWide Tryz.prog W .any base 63 v) (h : DataW.Trod enc Tryz.prog W 0 (fun _ => true) true 63 v d p) :
    ∃ s : Snap, v = s.agg ∧ SnapOk s := by
  obtain ⟨c0, c1, c2, y0, y1, y2, m, rfl, rfl, rfl, hy0, hy1, hy2⟩ := open_agg3 Tryz.underlying63 (by kernel_rfl) (by kernel_rfl) hv h
  obtain ⟨a0, e0, rfl, w0⟩ := DataW.trod_int Tryz.underlying3 hy0
  obtain ⟨a1, e1, rfl, w1⟩ := DataW.trod_int Tryz.underlying2 hy1
  obtain ⟨a2, e2, _⟩ := DataW.trod_string Tryz.underlying9 hy2
  simp at e0 e1 e2
  subst e0 e1 e2
  exact ⟨⟨a0, a1, a2⟩, rfl, (wf_i64 w0).1, (wf_i64 w0).2, (wf_i64 w1).1, (wf_i64 w1).2⟩
end
end Go.Proofs.YtdhlmhkabckbaaaGreatDoor
