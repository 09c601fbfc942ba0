/-
  Arguments of a law: numbers, texts, slices of numbers, opened.
-/
import Derived.Test.YtfkonpmnclknaaaLawZ
import Derived.Test.YtfkonpmnclknaaaStoH
namespace Go.Proofs.Ytfkonpmnclknaaa
open Go.ChangeShapes Go.WideShapes Go.ChangeAt Go.RowKit Go.Deep

section
variable {H : Type} {enc : TypeId × Value → H} {W : World} {base fuel : Nat} {v : Value} {d : DataW H} {p : List MemPlace} {x : DataW H × List MemPlace}

theorem weightsAll_mem {P : Program} {e : TypeId} : ∀ {l : List (DataW H)} {d : DataW H}, d ∈ l → ∀ n ∈ d.weights P e, n ∈ DataW.weightsAll P e l
  | d0 :: l, d, hd, n, hn => by
    rcases List.mem_cons.1 hd with rfl | hd
    · simp [DataW.weightsAll, hn]
    · simp [DataW.weightsAll, weightsAll_mem hd n hn]

set_option maxRecDepth 100000 in
theorem intsT (hf : DataW.trod enc Try.prog W 0 (fun _ => true) true fuel 31 [v] = some x) :
    ∃ A n c l, v = .slice A n c ∧ IntsAt W W.heap.size A n l ∧ (∀ k ∈ l, -9223372036854775808 ≤ k ∧ k ≤ 9223372036854775807) ∧ ((∀ q ∈ x.1.weights Try.prog 31, q ≤ reachBytes) → n ≤ reachBytes) := by
  rcases open_slice Try.underlying31 hf with ⟨e, _⟩ | ⟨a, len', cap', m, n', D, Pl, e, _, hlc, hcm, hm, hx, hi⟩
  · simp at e
    subst e
    exact ⟨_, _, _, [], rfl, RowAt.none_, by simp, fun _ => Nat.zero_le _⟩
  · simp at e
    subst e
    obtain rfl : m = cap' := by simpa using hm
    have hC : Try.prog.cellsOf 3 = 1 := by kernel_rfl
    have key : ∀ i, i < len' → ∃ s : Int, W.cell? (a.add (i * 1)) = some (.int .i64 s) ∧ (-9223372036854775808 ≤ s ∧ s ≤ 9223372036854775807) := by
      intro i hl
      obtain ⟨cs', hc, ht'⟩ := hi i (by omega)
      rw [hC] at hc
      obtain ⟨_, hcl, hat⟩ := World.cells?_some hc
      match cs', hcl with
      | [c0], _ =>
        obtain ⟨x0, e0, _, w0⟩ := DataW.trod_int Try.underlying3 ht'
        simp at e0
        subst e0
        have := hat 0 (by omega)
        rw [Go.Deep.add_add] at this
        exact ⟨x0, by simpa using this, wf_i64 w0⟩
    obtain ⟨l, hl, hP⟩ := list_of len' key
    refine ⟨_, _, _, l, rfl, ⟨hl, by simp only [maxLen] at hcm; omega, fun hn => ?_⟩, ?_, slice_weight (D' := fun j => D (len' + j)) hx Try.underlying31 (by kernel_rfl)⟩
    · obtain ⟨s, c0, _⟩ := key 0 hn
      have ha := addr_form c0
      simp [Addr.add] at ha
      have hb := World.block_lt_of_cell? W _ c0
      simp [Addr.add] at hb
      refine ⟨a.block, a.off, by rw [← ha], hb, fun i x hx j u hu => ?_⟩
      have q0 := (hP i x hx).1
      rw [ha] at q0
      simp only [Addr.add_lit] at q0
      match j, hu with
      | 0, hu => simp [intCell] at hu; subst hu; exact q0
      | j + 1, hu => simp [intCell] at hu
    · intro s hs
      obtain ⟨i, hi⟩ := List.getElem?_of_mem hs
      exact (hP i s hi).2

theorem strW {n : Nat} {v : Value} {y : DataW H × List MemPlace} (h : DataW.trod enc Try.prog W 0 (fun _ => true) true n 9 [v] = some y) : ∃ s : ByteArray, v = .string s ∧ (s.size ∈ y.1.weights Try.prog 9) := by
  obtain ⟨s, e, hy, _⟩ := DataW.trod_string Try.underlying9 h
  cases e
  refine ⟨s, rfl, ?_⟩
  rw [hy]
  simp only [DataW.weights, List.mem_singleton]
  exact Array.length_toList.symm
theorem u8W {n : Nat} {v : Value} {y : DataW H × List MemPlace} (h : DataW.trod enc Try.prog W 0 (fun _ => true) true n 5 [v] = some y) : ∃ z : Int, v = .int .u8 z ∧ 0 ≤ z ∧ z ≤ 255 := by
  obtain ⟨z, e, _, hw⟩ := DataW.trod_int Try.underlying5 h
  cases e
  simp [Lit.wf, IntKind.min, IntKind.max, IntKind.signed, IntKind.bits] at hw
  exact ⟨z, rfl, by omega, by omega⟩
theorem i64W {n : Nat} {v : Value} {y : DataW H × List MemPlace} (h : DataW.trod enc Try.prog W 0 (fun _ => true) true n 3 [v] = some y) : ∃ z : Int, v = .int .i64 z ∧ -9223372036854775808 ≤ z ∧ z ≤ 9223372036854775807 := by
  obtain ⟨z, e, _, hw⟩ := DataW.trod_int Try.underlying3 h
  cases e
  exact ⟨z, rfl, wf_i64 hw⟩
end
end Go.Proofs.Ytfkonpmnclknaaa
