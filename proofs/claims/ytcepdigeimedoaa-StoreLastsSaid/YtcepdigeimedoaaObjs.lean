/-
  Arguments that are slices of objects, and slices of numbers: what they read as.
-/
import Derived.Test.YtcepdigeimedoaaActsL
namespace Go.Proofs.Ytcepdigeimedoaa
open Go.ChangeShapes Go.WideShapes Go.ChangeAt Go.RowKit Go.Deep

section
variable {H : Type} {enc : TypeId × Value → H} {W : World} {base fuel : Nat} {v : Value} {d : DataW H} {p : List MemPlace} {x : DataW H × List MemPlace}
set_option maxRecDepth 100000 in
theorem objsT (hf : DataW.trod enc Try.prog W 0 (fun _ => true) true fuel 22 [v] = some x) :
    ∃ A n c l, v = .slice A n c ∧ ObsAt W W.heap.size A n l ∧ ((∀ q ∈ x.1.weights Try.prog 22, q ≤ reachBytes) → n ≤ reachBytes ∧ ∀ o ∈ l, o.1.size ≤ reachBytes ∧ o.2.size ≤ reachBytes) := by
  rcases open_slice_fields Try.underlying22 Try.underlying30 (by kernel_rfl) (by kernel_rfl) hf with ⟨e, _⟩ | ⟨a, len', cap', m, D, Pl, e, _, hlc, hcm, hm, hx, hi⟩
  · simp at e
    subst e
    exact ⟨_, _, _, [], rfl, RowAt.none_, fun _ => ⟨Nat.zero_le _, by simp⟩⟩
  · simp at e
    subst e
    obtain rfl : m = cap' := by simpa using hm
    have key : ∀ i, i < len' → ∃ s : Ob, (W.cell? (a.add (i * 2)) = some (.string s.1) ∧ W.cell? (a.add (i * 2 + 1)) = some (.string s.2)) ∧ ((∀ q ∈ (D i).weights Try.prog 30, q ≤ reachBytes) → s.1.size ≤ reachBytes ∧ s.2.size ≤ reachBytes) := by
      intro i hl
      obtain ⟨ys, n', hD, _, _, hf⟩ := hi i (by omega)
      obtain ⟨v0, y0, c0, e0, t0⟩ := hf 0 _ rfl
      obtain ⟨v1, y1, c1, e1, t1⟩ := hf 1 _ rfl
      obtain ⟨s0, rfl, w0⟩ := strW t0
      obtain ⟨s1, rfl, w1⟩ := strW t1
      have ho : ∀ (j : Nat) (y : DataW H × List MemPlace), j < 2 → ys[j]? = some y → ∀ q ∈ y.1.weights Try.prog 9, q ∈ (D i).weights Try.prog 30 := fun j y hj h2 q h3 => by
        rw [hD, DataW.weights, Try.underlying30]
        refine DataW.weights_mem_each (j := j) (t := 9) (d := y.1) ?_ (by rw [List.getElem?_map, h2]; rfl) q h3
        match j, hj with
        | 0, _ => rfl
        | 1, _ => rfl
      exact ⟨(s0, s1), ⟨c0, c1⟩, fun hq => ⟨hq _ (ho 0 y0 (by omega) e0 _ w0), hq _ (ho 1 y1 (by omega) e1 _ w1)⟩⟩
    obtain ⟨l, hl, hP⟩ := list_of len' key
    have hw := slice_weight (D' := fun j => D (len' + j)) hx Try.underlying22 (by kernel_rfl)
    refine ⟨_, _, _, l, rfl, ⟨hl, by simp only [maxLen] at hcm; omega, fun hn => ?_⟩, fun hq => ⟨hw hq, ?_⟩⟩
    · obtain ⟨s, ⟨c0, _⟩, _⟩ := key 0 hn
      have ha := addr_form c0
      simp [Addr.add] at ha
      have hb := World.block_lt_of_cell? W _ c0
      simp [Addr.add] at hb
      refine ⟨a.block, a.off, by rw [← ha], hb, fun i x hx j u hu => ?_⟩
      obtain ⟨⟨q0, q1⟩, _⟩ := hP i x hx
      rw [ha] at q0 q1
      simp only [Addr.add_lit] at q0 q1
      match j, hu with
      | 0, hu => simp [obCells] at hu; subst hu; exact q0
      | 1, hu => simp [obCells] at hu; subst hu; exact q1
      | j + 2, hu => simp [obCells] at hu
    · intro s hs
      obtain ⟨i, hi⟩ := List.getElem?_of_mem hs
      refine (hP i s hi).2 fun q h => hq q ?_
      have hil : i < len' := by rw [← hl]; exact (List.getElem?_eq_some_iff.1 hi).1
      rw [(Prod.mk.inj (show (x.1, x.2) = _ from hx)).1, DataW.weights, Try.underlying22]
      refine List.mem_cons_of_mem _ (List.mem_append_left _ (weightsAll_mem (List.mem_map.2 ⟨i, List.mem_range.2 hil, rfl⟩) q h))
set_option maxRecDepth 100000 in
theorem open_objs (hv : Value.okWide Try.prog W .any base 22 v) (h : DataW.Trod enc Try.prog W 0 (fun _ => true) true 22 v d p) :
    ∃ A n c l, v = .slice A n c ∧ ObsAt W W.heap.size A n l ∧ ((∀ q ∈ d.weights Try.prog 22, q ≤ reachBytes) → n ≤ reachBytes ∧ ∀ o ∈ l, o.1.size ≤ reachBytes ∧ o.2.size ≤ reachBytes) := by
  obtain ⟨a0, len, cap, rfl⟩ := okWide_slice Try.underlying22 hv
  obtain ⟨fuel, hf⟩ := h
  rw [show (Value.slice a0 len cap).cells.toList = [.slice a0 len cap] by simp [Value.cells]] at hf
  exact objsT hf
set_option maxRecDepth 100000 in
theorem open_ints (hv : Value.okWide Try.prog W .any base 24 v) (h : DataW.Trod enc Try.prog W 0 (fun _ => true) true 24 v d p) :
    ∃ A n c l, v = .slice A n c ∧ IntsAt W W.heap.size A n l := by
  obtain ⟨a0, len, cap, rfl⟩ := okWide_slice Try.underlying24 hv
  obtain ⟨fuel, hf⟩ := h
  rw [show (Value.slice a0 len cap).cells.toList = [.slice a0 len cap] by simp [Value.cells]] at hf
  obtain ⟨A, n, c, l, e, h1, _⟩ := intsT hf
  exact ⟨A, n, c, l, e, h1⟩
end
end Go.Proofs.Ytcepdigeimedoaa
