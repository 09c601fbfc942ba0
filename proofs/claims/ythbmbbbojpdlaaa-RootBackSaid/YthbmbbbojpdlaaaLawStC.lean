/-
  A state that is handed in: its slices' lengths and capacities.
-/
import Derived.Test.YthbmbbbojpdlaaaLawSt
namespace Go.Proofs.Ythbmbbbojpdlaaa
open Go.ChangeShapes Go.WideShapes Go.ChangeAt Go.RowKit Go.Deep Go.Joins

section
variable {H : Type} {enc : TypeId × Value → H} {W : World} {base fuel : Nat} {d : DataW H} {p : List MemPlace} {x : DataW H × List MemPlace}
theorem slice_cap {P : Program} {t e : TypeId} {A : Option Addr} {n c : Nat} (ht : P.underlying t = some (.slice e)) (h : DataW.trod enc P W 0 (fun _ => true) true fuel t [.slice A n c] = some x) : n ≤ c := by
  rcases DataW.trod_slice ht h with ⟨e, _⟩ | ⟨a, len, cap, _, _, _, _, e, _, _, hl, _⟩
  · simp at e
    omega
  · simp at e
    omega
set_option maxRecDepth 100000 in
theorem state_caps (r : Rws) (s : St) (hv : Value.okWide Try.prog W .any base 28 (r.val s)) (h : DataW.Trod enc Try.prog W 0 (fun _ => true) true 28 (r.val s) d p) : r.n1 ≤ r.c1 ∧ r.n2 ≤ r.c2 ∧ r.n3 ≤ r.c3 := by
  obtain ⟨c0, c1, c2, c3, c4, c5, y0, y1, y2, y3, y4, n, he, t0, t1, t2, t3, t4, _⟩ := open_agg_state Try.underlying28 ⟨rfl, by kernel_rfl⟩ ⟨rfl, by kernel_rfl⟩ ⟨rfl, by kernel_rfl⟩ ⟨rfl, by kernel_rfl⟩ ⟨rfl, by kernel_rfl⟩ (by kernel_rfl) hv h
  simp [Rws.val, stv] at he
  obtain ⟨rfl, rfl, rfl, rfl, rfl, rfl⟩ := he
  exact ⟨slice_cap Try.underlying24 t2, slice_cap Try.underlying25 t3, slice_cap Try.underlying26 t4⟩
end
end Go.Proofs.Ythbmbbbojpdlaaa
