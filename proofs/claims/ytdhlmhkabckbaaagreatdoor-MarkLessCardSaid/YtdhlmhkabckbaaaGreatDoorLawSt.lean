/-
  Arguments of a law that are states: opened.
-/
import Derived.Test.YtdhlmhkabckbaaaGreatDoorStA
import Derived.Test.YtdhlmhkabckbaaaGreatDoorLaw
import Derived.Test.YtdhlmhkabckbaaaGreatDoorLawZ
import Derived.Deep.Strs
import Derived.SizedLaws
namespace Go.Proofs.YtdhlmhkabckbaaaGreatDoor
open Go.ChangeShapes Go.WideShapes Go.ChangeAt Go.RowKit Go.Deep Go.Joins

section
variable {H : Type} {enc : TypeId × Value → H} {W : World} {base fuel : Nat} {v : Value} {d : DataW H} {p : List MemPlace} {x : DataW H × List MemPlace}

set_option maxRecDepth 100000 in
theorem snapsT (hf : DataW.trod enc Tryz.prog W 0 (fun _ => true) true fuel 22 [v] = some x) :
    ∃ A n c l, v = .slice A n c ∧ SnapsAt W W.heap.size A n l ∧ (∀ s ∈ l, SnapOk s) ∧ ((∀ q ∈ x.1.weights Tryz.prog 22, q ≤ reachBytes) → n ≤ reachBytes) := by
  rcases open_slice_fields Tryz.underlying22 Tryz.underlying63 (by kernel_rfl) (by kernel_rfl) hf with ⟨e, _⟩ | ⟨a, len', cap', m, D, Pl, e, _, hlc, hcm, hm, hx, hi⟩
  · simp at e
    subst e
    exact ⟨_, _, _, [], rfl, RowAt.none_, by simp, fun _ => Nat.zero_le _⟩
  · simp at e
    subst e
    obtain rfl : m = cap' := by simpa using hm
    have key : ∀ i, i < len' → ∃ s : Snap, (W.cell? (a.add (i * 3)) = some (.int .i64 s.id) ∧ W.cell? (a.add (i * 3 + 1)) = some (.int .i64 s.time) ∧ W.cell? (a.add (i * 3 + 2)) = some (.string s.root)) ∧ SnapOk s := by
      intro i hl
      obtain ⟨ys, n', _, _, _, hf⟩ := hi i (by omega)
      obtain ⟨v0, y0, c0, _, t0⟩ := hf 0 _ rfl
      obtain ⟨v1, y1, c1, _, t1⟩ := hf 1 _ rfl
      obtain ⟨v2, y2, c2, _, t2⟩ := hf 2 _ rfl
      obtain ⟨x0, e0, _, w0⟩ := DataW.trod_int Tryz.underlying3 t0
      obtain ⟨x1, e1, _, w1⟩ := DataW.trod_int Tryz.underlying2 t1
      obtain ⟨x2, e2, _⟩ := DataW.trod_string Tryz.underlying9 t2
      simp at e0 e1 e2
      subst e0 e1 e2
      exact ⟨⟨x0, x1, x2⟩, ⟨c0, c1, c2⟩, by simp [Lit.wf, IntKind.min, IntKind.max, IntKind.signed, IntKind.bits] at w0 w1; simp [SnapOk]; omega⟩
    obtain ⟨l, hl, hP⟩ := list_of len' key
    refine ⟨_, _, _, l, rfl, ⟨hl, by simp only [maxLen] at hcm; omega, fun hn => ?_⟩, ?_, ?_⟩
    · obtain ⟨s, ⟨c0, _, _⟩, _⟩ := key 0 hn
      have ha := addr_form c0
      simp [Addr.add] at ha
      have hb := World.block_lt_of_cell? W _ c0
      simp [Addr.add] at hb
      refine ⟨a.block, a.off, by rw [← ha], hb, fun i x hx j u hu => ?_⟩
      obtain ⟨⟨q0, q1, q2⟩, _⟩ := hP i x hx
      rw [ha] at q0 q1 q2
      simp only [Addr.add_lit] at q0 q1 q2
      match j, hu with
      | 0, hu => simp [Snap.cells] at hu; subst hu; exact q0
      | 1, hu => simp [Snap.cells] at hu; subst hu; exact q1
      | 2, hu => simp [Snap.cells] at hu; subst hu; exact q2
      | j + 3, hu => simp [Snap.cells] at hu
    · intro s hs
      obtain ⟨i, hi⟩ := List.getElem?_of_mem hs
      exact (hP i s hi).2
    · exact slice_weight hx Tryz.underlying22 (by kernel_rfl)

set_option maxRecDepth 100000 in
theorem placesT (hf : DataW.trod enc Tryz.prog W 0 (fun _ => true) true fuel 55 [v] = some x) :
    ∃ A n c l, v = .slice A n c ∧ PlacesAt W W.heap.size A n l ∧ (∀ s ∈ l, PlaceOk s) ∧ ((∀ q ∈ x.1.weights Tryz.prog 55, q ≤ reachBytes) → n ≤ reachBytes) := by
  rcases open_slice_fields Tryz.underlying55 Tryz.underlying98 (by kernel_rfl) (by kernel_rfl) hf with ⟨e, _⟩ | ⟨a, len', cap', m, D, Pl, e, _, hlc, hcm, hm, hx, hi⟩
  · simp at e
    subst e
    exact ⟨_, _, _, [], rfl, RowAt.none_, by simp, fun _ => Nat.zero_le _⟩
  · simp at e
    subst e
    obtain rfl : m = cap' := by simpa using hm
    have key : ∀ i, i < len' → ∃ s : Place, (W.cell? (a.add (i * 3)) = some (.string s.pack) ∧ W.cell? (a.add (i * 3 + 1)) = some (.int .i64 s.at_) ∧ W.cell? (a.add (i * 3 + 2)) = some (.int .i64 s.len)) ∧ PlaceOk s := by
      intro i hl
      obtain ⟨ys, n', _, _, _, hf⟩ := hi i (by omega)
      obtain ⟨v0, y0, c0, _, t0⟩ := hf 0 _ rfl
      obtain ⟨v1, y1, c1, _, t1⟩ := hf 1 _ rfl
      obtain ⟨v2, y2, c2, _, t2⟩ := hf 2 _ rfl
      obtain ⟨x0, e0, _⟩ := DataW.trod_string Tryz.underlying9 t0
      obtain ⟨x1, e1, _, w1⟩ := DataW.trod_int Tryz.underlying3 t1
      obtain ⟨x2, e2, _, w2⟩ := DataW.trod_int Tryz.underlying3 t2
      simp at e0 e1 e2
      subst e0 e1 e2
      exact ⟨⟨x0, x1, x2⟩, ⟨c0, c1, c2⟩, (wf_i64 w1).1, (wf_i64 w1).2, (wf_i64 w2).1, (wf_i64 w2).2⟩
    obtain ⟨l, hl, hP⟩ := list_of len' key
    refine ⟨_, _, _, l, rfl, ⟨hl, by simp only [maxLen] at hcm; omega, fun hn => ?_⟩, ?_, ?_⟩
    · obtain ⟨s, ⟨c0, _, _⟩, _⟩ := key 0 hn
      have ha := addr_form c0
      simp [Addr.add] at ha
      have hb := World.block_lt_of_cell? W _ c0
      simp [Addr.add] at hb
      refine ⟨a.block, a.off, by rw [← ha], hb, fun i x hx j u hu => ?_⟩
      obtain ⟨⟨q0, q1, q2⟩, _⟩ := hP i x hx
      rw [ha] at q0 q1 q2
      simp only [Addr.add_lit] at q0 q1 q2
      match j, hu with
      | 0, hu => simp [Place.cells] at hu; subst hu; exact q0
      | 1, hu => simp [Place.cells] at hu; subst hu; exact q1
      | 2, hu => simp [Place.cells] at hu; subst hu; exact q2
      | j + 3, hu => simp [Place.cells] at hu
    · intro s hs
      obtain ⟨i, hi⟩ := List.getElem?_of_mem hs
      exact (hP i s hi).2
    · exact slice_weight hx Tryz.underlying55 (by kernel_rfl)

set_option maxRecDepth 100000 in
theorem strsT (hf : DataW.trod enc Tryz.prog W 0 (fun _ => true) true fuel 23 [v] = some x) : ∃ A n c l, v = .slice A n c ∧ StrsAt W W.heap.size A n l ∧ ((∀ q ∈ x.1.weights Tryz.prog 23, q ≤ reachBytes) → n ≤ reachBytes) := by
  rcases open_strs Tryz.underlying23 Tryz.underlying9 (by kernel_rfl) hf with ⟨e, _⟩ | ⟨a, len', cap', m, Sx, e, _, hlc, hcm, hm, hx, hi⟩
  · simp at e
    subst e
    exact ⟨_, _, _, [], rfl, RowAt.none_, fun _ => Nat.zero_le _⟩
  · simp at e
    subst e
    obtain rfl : m = cap' := by simpa using hm
    refine ⟨_, _, _, (List.range len').map Sx, rfl, ⟨by simp, by simp only [maxLen] at hcm; omega, fun hn => ?_⟩, slice_weight hx Tryz.underlying23 (by kernel_rfl)⟩
    have c0 := (hi 0 (by omega)).1
    have ha := addr_form c0
    simp [Addr.add] at ha
    have hb := World.block_lt_of_cell? W _ c0
    simp [Addr.add] at hb
    refine ⟨a.block, a.off, by rw [← ha], hb, fun i x hx j u hu => ?_⟩
    have hil : i < len' := by simpa using (List.getElem?_eq_some_iff.1 hx).1
    rw [List.getElem?_map, List.getElem?_range hil] at hx
    simp at hx
    subst hx
    have q0 := (hi i (by omega)).1
    rw [ha] at q0
    simp only [Addr.add_lit] at q0
    match j, hu with
    | 0, hu => simp [strCell] at hu; subst hu; simpa using q0
    | j + 1, hu => simp [strCell] at hu

/-- A state's numbers are numbers of their kinds. -/
structure StOk (s : St) : Prop where
  k : -9223372036854775808 ≤ s.k ∧ s.k ≤ 9223372036854775807
  n : -9223372036854775808 ≤ s.n ∧ s.n ≤ 9223372036854775807
  next : -9223372036854775808 ≤ s.next ∧ s.next ≤ 9223372036854775807
  sn : ∀ x ∈ s.sn, SnapOk x

theorem array6 {α : Type} {a : Array α} (h : a.size = 6) : ∃ x0 x1 x2 x3 x4 x5, a = #[x0, x1, x2, x3, x4, x5] := by
  obtain ⟨l⟩ := a
  match l, h with
  | [x0, x1, x2, x3, x4, x5], _ => exact ⟨x0, x1, x2, x3, x4, x5, rfl⟩
theorem open_agg_state {P : Program} {t : TypeId} {f0 f1 f2 f3 f4 : Field} (hs : P.underlying t = some (.struct #[f0, f1, f2, f3, f4])) (o0 : f0.offset = 0 ∧ P.cellsOf f0.type = 2) (o1 : f1.offset = 2 ∧ P.cellsOf f1.type = 1)
    (o2 : f2.offset = 3 ∧ P.cellsOf f2.type = 1) (o3 : f3.offset = 4 ∧ P.cellsOf f3.type = 1) (o4 : f4.offset = 5 ∧ P.cellsOf f4.type = 1) (hC : P.cellsOf t = 6)
    (hv : Value.okWide P W .any base t v) (h : DataW.Trod enc P W 0 (fun _ => true) true t v d p) :
    ∃ (c0 c1 c2 c3 c4 c5 : Value) (y0 y1 y2 y3 y4 : DataW H × List MemPlace) (n : Nat), v = .agg #[c0, c1, c2, c3, c4, c5] ∧ DataW.trod enc P W 0 (fun _ => true) true n f0.type [c0, c1] = some y0 ∧ DataW.trod enc P W 0 (fun _ => true) true n f1.type [c2] = some y1 ∧
      DataW.trod enc P W 0 (fun _ => true) true n f2.type [c3] = some y2 ∧ DataW.trod enc P W 0 (fun _ => true) true n f3.type [c4] = some y3 ∧ DataW.trod enc P W 0 (fun _ => true) true n f4.type [c5] = some y4 ∧
      ∀ q, (q ∈ y2.1.weights P f2.type ∨ q ∈ y3.1.weights P f3.type ∨ q ∈ y4.1.weights P f4.type) → q ∈ d.weights P t := by
  obtain ⟨cs, rfl, hsz⟩ := okWide_struct hs hv
  obtain ⟨c0, c1, c2, c3, c4, c5, rfl⟩ := array6 (hsz.trans hC)
  obtain ⟨fuel, hf⟩ := h
  obtain ⟨xs, n, _, hxe, _, hxl, hfd⟩ := DataW.trod_struct hs hf
  have hxl' : xs.length = 5 := hxl
  have g : ∀ i, i < 5 → ∃ y, xs[i]? = some y := fun i hi => ⟨_, List.getElem?_eq_getElem (by omega)⟩
  obtain ⟨y0, e0⟩ := g 0 (by omega)
  obtain ⟨y1, e1⟩ := g 1 (by omega)
  obtain ⟨y2, e2⟩ := g 2 (by omega)
  obtain ⟨y3, e3⟩ := g 3 (by omega)
  obtain ⟨y4, e4⟩ := g 4 (by omega)
  have t0 := (hfd 0 f0 rfl).trans e0
  have t1 := (hfd 1 f1 rfl).trans e1
  have t2 := (hfd 2 f2 rfl).trans e2
  have t3 := (hfd 3 f3 rfl).trans e3
  have t4 := (hfd 4 f4 rfl).trans e4
  rw [o0.1, o0.2] at t0
  rw [o1.1, o1.2] at t1
  rw [o2.1, o2.2] at t2
  rw [o3.1, o3.2] at t3
  rw [o4.1, o4.2] at t4
  refine ⟨c0, c1, c2, c3, c4, c5, y0, y1, y2, y3, y4, n, rfl, by simpa [Value.cells] using t0, by simpa [Value.cells] using t1, by simpa [Value.cells] using t2, by simpa [Value.cells] using t3, by simpa [Value.cells] using t4, fun q hq => ?_⟩
  simp only [Prod.mk.injEq] at hxe
  rw [hxe.1, DataW.weights, hs]
  have hm : ∀ {i : Nat} {f : Field} {y : DataW H × List MemPlace}, #[f0, f1, f2, f3, f4][i]? = some f → xs[i]? = some y → q ∈ y.1.weights P f.type → q ∈ DataW.weightsEach P (#[f0, f1, f2, f3, f4].toList.map (·.type)) (xs.map (·.1)) := fun {i f y} h1 h2 h3 => by
    refine DataW.weights_mem_each (j := i) (t := f.type) (d := y.1) ?_ ?_ q h3
    · rw [List.getElem?_map]
      have : #[f0, f1, f2, f3, f4].toList[i]? = some f := by simpa using h1
      rw [this]
      rfl
    · rw [List.getElem?_map, h2]
      rfl
  rcases hq with hq | hq | hq
  · exact hm (i := 2) rfl e2 hq
  · exact hm (i := 3) rfl e3 hq
  · exact hm (i := 4) rfl e4 hq
theorem open_pair {P : Program} {t : TypeId} {f0 f1 : Field} {c0 c1 : Value} (hs : P.underlying t = some (.struct #[f0, f1])) (o0 : f0.offset = 0 ∧ P.cellsOf f0.type = 1) (o1 : f1.offset = 1 ∧ P.cellsOf f1.type = 1)
    (h : DataW.trod enc P W 0 (fun _ => true) true fuel t [c0, c1] = some x) :
    ∃ (y0 y1 : DataW H × List MemPlace) (n : Nat), DataW.trod enc P W 0 (fun _ => true) true n f0.type [c0] = some y0 ∧ DataW.trod enc P W 0 (fun _ => true) true n f1.type [c1] = some y1 := by
  obtain ⟨y0, y1, n, _, _, h0, h1⟩ := trod_struct2 hs h
  rw [o0.1, o0.2] at h0
  rw [o1.1, o1.2] at h1
  exact ⟨y0, y1, n, by simpa using h0, by simpa using h1⟩

set_option maxRecDepth 100000 in
theorem open_state (hv : Value.okWide Tryz.prog W .any base 57 v) (h : DataW.Trod enc Tryz.prog W 0 (fun _ => true) true 57 v d p) :
    ∃ (r : Rws) (s : St), v = r.val s ∧ StAt W W.heap.size r s ∧ StOk s ∧ ((∀ q ∈ d.weights Tryz.prog 57, q ≤ reachBytes) → r.n1 ≤ reachBytes ∧ r.n2 ≤ reachBytes ∧ r.n3 ≤ reachBytes) := by
  obtain ⟨c0, c1, c2, c3, c4, c5, y0, y1, y2, y3, y4, n, rfl, t0, t1, t2, t3, t4, hwt⟩ := open_agg_state Tryz.underlying57 ⟨rfl, by kernel_rfl⟩ ⟨rfl, by kernel_rfl⟩ ⟨rfl, by kernel_rfl⟩ ⟨rfl, by kernel_rfl⟩ ⟨rfl, by kernel_rfl⟩ (by kernel_rfl) hv h
  obtain ⟨z0, z1, m, u0, u1⟩ := open_pair Tryz.underlying54 ⟨rfl, by kernel_rfl⟩ ⟨rfl, by kernel_rfl⟩ t0
  obtain ⟨a0, f0, _, w0⟩ := DataW.trod_int Tryz.underlying3 u0
  obtain ⟨a1, f1, _, w1⟩ := DataW.trod_int Tryz.underlying3 u1
  obtain ⟨a2, f2, _, w2⟩ := DataW.trod_int Tryz.underlying3 t1
  obtain ⟨A1, n1, q1, l1, rfl, h1, ok1, b1⟩ := snapsT t2
  obtain ⟨A2, n2, q2, l2, rfl, h2, b2⟩ := strsT t3
  obtain ⟨A3, n3, q3, l3, rfl, h3, ok3, b3⟩ := placesT t4
  simp at f0 f1 f2
  subst f0 f1 f2
  exact ⟨⟨A1, n1, q1, A2, n2, q2, A3, n3, q3⟩, ⟨a0, a1, a2, l1, l2, l3⟩, rfl, ⟨h1, h2, h3, ok3⟩, ⟨wf_i64 w0, wf_i64 w1, wf_i64 w2, ok1⟩, fun hq => ⟨b1 fun q h => hq q (hwt q (.inl h)), b2 fun q h => hq q (hwt q (.inr (.inl h))), b3 fun q h => hq q (hwt q (.inr (.inr h)))⟩⟩
end

end Go.Proofs.YtdhlmhkabckbaaaGreatDoor
