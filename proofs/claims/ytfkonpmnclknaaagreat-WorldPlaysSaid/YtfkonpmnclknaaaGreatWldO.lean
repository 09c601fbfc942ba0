/-
  Arguments that are slices of steps: what they read as; long.
-/
import Derived.Test.YtfkonpmnclknaaaGreatOpenA
import Derived.Test.YtfkonpmnclknaaaGreatWldM
namespace Go.Proofs.YtfkonpmnclknaaaGreat
open Go.ChangeShapes Go.WideShapes Go.ChangeAt Go.RowKit Go.Deep
attribute [local go_sem ↓] Go.wp_at_zero Go.wp_at_succ

/-- A step as it lies in an argument. -/
structure StepIn (W : World) (B : Nat) (a : Stepx) : Prop where
  kind : 0 ≤ a.kind ∧ a.kind ≤ 255
  ib : -9223372036854775808 ≤ a.i ∧ a.i ≤ 9223372036854775807
  row : SurvsAt W B a.A a.n a.keeps
  keep : ∀ x ∈ a.keeps, IntsAt W B x.A x.n x.keep
  fk : 0 ≤ a.f.kind ∧ a.f.kind ≤ 255
  fs : -9223372036854775808 ≤ a.f.store ∧ a.f.store ≤ 9223372036854775807
  fn : -9223372036854775808 ≤ a.f.n ∧ a.f.n ≤ 9223372036854775807
  fa : -9223372036854775808 ≤ a.f.at_ ∧ a.f.at_ ≤ 9223372036854775807
  fc : -9223372036854775808 ≤ a.f.c ∧ a.f.c ≤ 9223372036854775807
abbrev StepsAt := RowAt 10 Stepx.cells
def Shrt (l : List Stepx) : Prop := l.length ≤ 60 ∧ ∀ a ∈ l, a.name.size ≤ 200 ∧ a.data.size ≤ 70000 ∧ a.n ≤ 50
theorem StepIn.ok {W : World} {B : Nat} {a : Stepx} (h : StepIn W B a) (h1 : a.name.size ≤ 200) (h2 : a.data.size ≤ 70000) : StepOk W B a :=
  { kind := h.kind, ib := h.ib, row := h.row, keep := h.keep, fk := h.fk, fs := h.fs, fn := h.fn, fa := h.fa, fc := h.fc, nm := Nat.le_trans h1 (by decide), dt := Nat.le_trans h2 (by decide) }
theorem StepIn.below {W W' : World} {B : Nat} {a : Stepx} (h : StepIn W B a) (hb : Below B W W') : StepIn W' B a := { h with row := h.row.below hb, keep := fun x hx => (h.keep x hx).below hb }

section
variable {H : Type} {enc : TypeId × Value → H} {W : World} {base fuel : Nat} {v : Value} {d : DataW H} {p : List MemPlace} {x : DataW H × List MemPlace}
set_option maxRecDepth 100000 in
theorem survsT (hf : DataW.trod enc Tryz.prog W 0 (fun _ => true) true fuel 25 [v] = some x) :
    ∃ A n c l, v = .slice A n c ∧ SurvsAt W W.heap.size A n l ∧ (∀ a ∈ l, IntsAt W W.heap.size a.A a.n a.keep) := by
  rcases open_slice Tryz.underlying25 hf with ⟨e, _⟩ | ⟨a, len', cap', m, n', D, Pl, e, _, hlc, hcm, hm, hx, hi⟩
  · simp at e
    subst e
    exact ⟨_, _, _, [], rfl, RowAt.none_, by simp⟩
  · simp at e
    subst e
    obtain rfl : m = cap' := by simpa using hm
    have hC : Tryz.prog.cellsOf 30 = 1 := by kernel_rfl
    have hC2 : Tryz.prog.cellsOf 28 = 1 := by kernel_rfl
    have key : ∀ i, i < len' → ∃ s : Surv, W.cell? (a.add (i * 1)) = some (.slice s.A s.n s.c) ∧ IntsAt W W.heap.size s.A s.n s.keep := by
      intro i hl
      obtain ⟨cs', hc, ht'⟩ := hi i (by omega)
      rw [hC] at hc
      obtain ⟨ys, n2, _, hy, _, hyl, hfd⟩ := DataW.trod_struct Tryz.underlying30 ht'
      obtain ⟨_, hcl, hat⟩ := World.cells?_some hc
      match cs', hcl with
      | [c0], _ =>
        obtain ⟨y0, e0⟩ : ∃ y, ys[0]? = some y := ⟨_, List.getElem?_eq_getElem (by rw [hyl]; exact Nat.zero_lt_one)⟩
        have t0 : DataW.trod enc Tryz.prog W 0 (fun _ => true) true n2 28 (([c0].drop 0).take (Tryz.prog.cellsOf 28)) = some y0 := (hfd 0 _ rfl).trans e0
        rw [hC2] at t0
        replace t0 : DataW.trod enc Tryz.prog W 0 (fun _ => true) true n2 28 [c0] = some y0 := t0
        obtain ⟨kA, kn, kc, ks, rfl, hks, _, _⟩ := intsT t0
        have := hat 0 (by omega)
        rw [Go.Deep.add_add] at this
        exact ⟨⟨kA, kn, kc, ks⟩, by simpa using this, hks⟩
    obtain ⟨l, hl, hP⟩ := list_of len' key
    refine ⟨_, _, _, l, rfl, ⟨hl, by simp only [maxLen] at hcm; omega, fun hn => ?_⟩, ?_⟩
    · obtain ⟨s, c0, _⟩ := key 0 hn
      have ha := addr_form c0
      simp [Addr.add] at ha
      have hb := World.block_lt_of_cell? W _ c0
      simp [Addr.add] at hb
      refine ⟨a.block, a.off, by rw [← ha], hb, fun i x hx j u hu => ?_⟩
      have q0 := (hP i x hx).1
      rw [ha] at q0
      simp only [Addr.add_lit] at q0
      match j, hu with
      | 0, hu => simp [survCells] at hu; subst hu; exact q0
      | j + 1, hu => simp [survCells] at hu
    · intro s hs
      obtain ⟨i, hi⟩ := List.getElem?_of_mem hs
      exact (hP i s hi).2

set_option maxRecDepth 100000 in
theorem stepsT (hf : DataW.trod enc Tryz.prog W 0 (fun _ => true) true fuel 22 [v] = some x) :
    ∃ A n c l, v = .slice A n c ∧ StepsAt W W.heap.size A n l ∧ (∀ a ∈ l, StepIn W W.heap.size a) := by
  rcases open_slice Tryz.underlying22 hf with ⟨e, _⟩ | ⟨a, len', cap', m, n', D, Pl, e, _, hlc, hcm, hm, hx, hi⟩
  · simp at e
    subst e
    exact ⟨_, _, _, [], rfl, RowAt.none_, by simp⟩
  · simp at e
    subst e
    obtain rfl : m = cap' := by simpa using hm
    have hC : Tryz.prog.cellsOf 41 = 10 := by kernel_rfl
    have hC0 : Tryz.prog.cellsOf 5 = 1 := by kernel_rfl
    have hC1 : Tryz.prog.cellsOf 24 = 2 := by kernel_rfl
    have hC2 : Tryz.prog.cellsOf 25 = 1 := by kernel_rfl
    have hC3 : Tryz.prog.cellsOf 39 = 5 := by kernel_rfl
    have hC4 : Tryz.prog.cellsOf 9 = 1 := by kernel_rfl
    have hC5 : Tryz.prog.cellsOf 3 = 1 := by kernel_rfl
    have key : ∀ i, i < len' → ∃ s : Stepx, (∀ j u, s.cells[j]? = some u → W.cell? (a.add (i * 10 + j)) = some u) ∧ StepIn W W.heap.size s := by
      intro i hl
      obtain ⟨cs', hc, ht'⟩ := hi i (by omega)
      rw [hC] at hc
      obtain ⟨ys, n2, _, hy, _, hyl, hfd⟩ := DataW.trod_struct Tryz.underlying41 ht'
      obtain ⟨_, hcl, hat⟩ := World.cells?_some hc
      match cs', hcl with
      | [c0, c1, c2, c3, c4, c5, c6, c7, c8, c9], _ =>
        have g : ∀ i, i < 5 → ∃ y, ys[i]? = some y := fun i hi => ⟨_, List.getElem?_eq_getElem (by rw [hyl]; exact hi)⟩
        obtain ⟨y0, e0⟩ := g 0 (by omega)
        obtain ⟨y1, e1⟩ := g 1 (by omega)
        obtain ⟨y2, e2⟩ := g 2 (by omega)
        obtain ⟨y3, e3⟩ := g 3 (by omega)
        obtain ⟨y4, e4⟩ := g 4 (by omega)
        have t0 : DataW.trod enc Tryz.prog W 0 (fun _ => true) true n2 5 (([c0, c1, c2, c3, c4, c5, c6, c7, c8, c9].drop 0).take (Tryz.prog.cellsOf 5)) = some y0 := (hfd 0 _ rfl).trans e0
        rw [hC0] at t0
        replace t0 : DataW.trod enc Tryz.prog W 0 (fun _ => true) true n2 5 [c0] = some y0 := t0
        have t1 : DataW.trod enc Tryz.prog W 0 (fun _ => true) true n2 3 (([c0, c1, c2, c3, c4, c5, c6, c7, c8, c9].drop 1).take (Tryz.prog.cellsOf 3)) = some y1 := (hfd 1 _ rfl).trans e1
        rw [hC5] at t1
        replace t1 : DataW.trod enc Tryz.prog W 0 (fun _ => true) true n2 3 [c1] = some y1 := t1
        have t2 : DataW.trod enc Tryz.prog W 0 (fun _ => true) true n2 24 (([c0, c1, c2, c3, c4, c5, c6, c7, c8, c9].drop 2).take (Tryz.prog.cellsOf 24)) = some y2 := (hfd 2 _ rfl).trans e2
        rw [hC1] at t2
        replace t2 : DataW.trod enc Tryz.prog W 0 (fun _ => true) true n2 24 [c2, c3] = some y2 := t2
        have t3 : DataW.trod enc Tryz.prog W 0 (fun _ => true) true n2 25 (([c0, c1, c2, c3, c4, c5, c6, c7, c8, c9].drop 4).take (Tryz.prog.cellsOf 25)) = some y3 := (hfd 3 _ rfl).trans e3
        rw [hC2] at t3
        replace t3 : DataW.trod enc Tryz.prog W 0 (fun _ => true) true n2 25 [c4] = some y3 := t3
        have t4 : DataW.trod enc Tryz.prog W 0 (fun _ => true) true n2 39 (([c0, c1, c2, c3, c4, c5, c6, c7, c8, c9].drop 5).take (Tryz.prog.cellsOf 39)) = some y4 := (hfd 4 _ rfl).trans e4
        rw [hC3] at t4
        replace t4 : DataW.trod enc Tryz.prog W 0 (fun _ => true) true n2 39 [c5, c6, c7, c8, c9] = some y4 := t4
        obtain ⟨os, n3, _, hoe, _, hol, hfo⟩ := DataW.trod_struct Tryz.underlying24 t2
        have g2 : ∀ i, i < 2 → ∃ y, os[i]? = some y := fun i hi => ⟨_, List.getElem?_eq_getElem (by rw [hol]; exact hi)⟩
        obtain ⟨z0, f0⟩ := g2 0 (by omega)
        obtain ⟨z1, f1⟩ := g2 1 (by omega)
        have u0 : DataW.trod enc Tryz.prog W 0 (fun _ => true) true n3 9 (([c2, c3].drop 0).take (Tryz.prog.cellsOf 9)) = some z0 := (hfo 0 _ rfl).trans f0
        rw [hC4] at u0
        replace u0 : DataW.trod enc Tryz.prog W 0 (fun _ => true) true n3 9 [c2] = some z0 := u0
        have u1 : DataW.trod enc Tryz.prog W 0 (fun _ => true) true n3 9 (([c2, c3].drop 1).take (Tryz.prog.cellsOf 9)) = some z1 := (hfo 1 _ rfl).trans f1
        rw [hC4] at u1
        replace u1 : DataW.trod enc Tryz.prog W 0 (fun _ => true) true n3 9 [c3] = some z1 := u1
        obtain ⟨fs, n4, _, hfe, _, hfl, hff⟩ := DataW.trod_struct Tryz.underlying39 t4
        have g5 : ∀ i, i < 5 → ∃ y, fs[i]? = some y := fun i hi => ⟨_, List.getElem?_eq_getElem (by rw [hfl]; exact hi)⟩
        obtain ⟨x0, q0⟩ := g5 0 (by omega)
        obtain ⟨x1, q1⟩ := g5 1 (by omega)
        obtain ⟨x2, q2⟩ := g5 2 (by omega)
        obtain ⟨x3, q3⟩ := g5 3 (by omega)
        obtain ⟨x4, q4⟩ := g5 4 (by omega)
        have v0 : DataW.trod enc Tryz.prog W 0 (fun _ => true) true n4 5 (([c5, c6, c7, c8, c9].drop 0).take (Tryz.prog.cellsOf 5)) = some x0 := (hff 0 _ rfl).trans q0
        rw [hC0] at v0
        replace v0 : DataW.trod enc Tryz.prog W 0 (fun _ => true) true n4 5 [c5] = some x0 := v0
        have v1 : DataW.trod enc Tryz.prog W 0 (fun _ => true) true n4 3 (([c5, c6, c7, c8, c9].drop 1).take (Tryz.prog.cellsOf 3)) = some x1 := (hff 1 _ rfl).trans q1
        rw [hC5] at v1
        replace v1 : DataW.trod enc Tryz.prog W 0 (fun _ => true) true n4 3 [c6] = some x1 := v1
        have v2 : DataW.trod enc Tryz.prog W 0 (fun _ => true) true n4 3 (([c5, c6, c7, c8, c9].drop 2).take (Tryz.prog.cellsOf 3)) = some x2 := (hff 2 _ rfl).trans q2
        rw [hC5] at v2
        replace v2 : DataW.trod enc Tryz.prog W 0 (fun _ => true) true n4 3 [c7] = some x2 := v2
        have v3 : DataW.trod enc Tryz.prog W 0 (fun _ => true) true n4 3 (([c5, c6, c7, c8, c9].drop 3).take (Tryz.prog.cellsOf 3)) = some x3 := (hff 3 _ rfl).trans q3
        rw [hC5] at v3
        replace v3 : DataW.trod enc Tryz.prog W 0 (fun _ => true) true n4 3 [c8] = some x3 := v3
        have v4 : DataW.trod enc Tryz.prog W 0 (fun _ => true) true n4 3 (([c5, c6, c7, c8, c9].drop 4).take (Tryz.prog.cellsOf 3)) = some x4 := (hff 4 _ rfl).trans q4
        rw [hC5] at v4
        replace v4 : DataW.trod enc Tryz.prog W 0 (fun _ => true) true n4 3 [c9] = some x4 := v4
        obtain ⟨kd, rfl, k1, k2⟩ := u8W t0
        obtain ⟨si, rfl, s1, s2⟩ := i64W t1
        obtain ⟨nm, rfl, _⟩ := strW u0
        obtain ⟨da, rfl, _⟩ := strW u1
        obtain ⟨kA, kn, kc, ks, rfl, hks, hki⟩ := survsT t3
        obtain ⟨fk, rfl, fk1, fk2⟩ := u8W v0
        obtain ⟨fs', rfl, fs1, fs2⟩ := i64W v1
        obtain ⟨fn, rfl, fn1, fn2⟩ := i64W v2
        obtain ⟨fa, rfl, fa1, fa2⟩ := i64W v3
        obtain ⟨fc, rfl, fc1, fc2⟩ := i64W v4
        refine ⟨⟨kd, si, nm, da, kA, kn, kc, ⟨fk, fs', fn, fa, fc⟩, ks⟩, fun j u hu => ?_, ⟨⟨k1, k2⟩, ⟨s1, s2⟩, hks, hki, ⟨fk1, fk2⟩, ⟨fs1, fs2⟩, ⟨fn1, fn2⟩, ⟨fa1, fa2⟩, ⟨fc1, fc2⟩⟩⟩
        have hj : j < 10 := (List.getElem?_eq_some_iff.1 hu).1
        rw [← Go.Deep.add_add, hat j hj]
        exact hu
    obtain ⟨l, hl, hP⟩ := list_of len' key
    refine ⟨_, _, _, l, rfl, ⟨hl, by simp only [maxLen] at hcm; omega, fun hn => ?_⟩, ?_⟩
    · obtain ⟨s, c0, _⟩ := key 0 hn
      have c0 := c0 0 _ rfl
      have ha := addr_form c0
      simp [Addr.add] at ha
      have hb := World.block_lt_of_cell? W _ c0
      simp [Addr.add] at hb
      refine ⟨a.block, a.off, by rw [← ha], hb, fun i x hx j u hu => ?_⟩
      have q0 := (hP i x hx).1 j u hu
      rw [ha] at q0
      simp only [Addr.add_lit] at q0
      rw [Nat.add_assoc]
      exact q0
    · intro s hs
      obtain ⟨i, hi⟩ := List.getElem?_of_mem hs
      exact (hP i s hi).2

set_option maxRecDepth 100000 in
theorem open_steps (hv : Value.okWide Tryz.prog W .any base 22 v) (h : DataW.Trod enc Tryz.prog W 0 (fun _ => true) true 22 v d p) :
    ∃ A n c l, v = .slice A n c ∧ StepsAt W W.heap.size A n l ∧ (∀ a ∈ l, StepIn W W.heap.size a) := by
  obtain ⟨a0, len, cap, rfl⟩ := okWide_slice Tryz.underlying22 hv
  obtain ⟨fuel, hf⟩ := h
  rw [show (Value.slice a0 len cap).cells.toList = [.slice a0 len cap] by simp [Value.cells]] at hf
  exact stepsT hf
set_option maxRecDepth 100000 in
theorem open_survs (hv : Value.okWide Tryz.prog W .any base 25 v) (h : DataW.Trod enc Tryz.prog W 0 (fun _ => true) true 25 v d p) :
    ∃ A n c l, v = .slice A n c ∧ SurvsAt W W.heap.size A n l ∧ (∀ a ∈ l, IntsAt W W.heap.size a.A a.n a.keep) := by
  obtain ⟨a0, len, cap, rfl⟩ := okWide_slice Tryz.underlying25 hv
  obtain ⟨fuel, hf⟩ := h
  rw [show (Value.slice a0 len cap).cells.toList = [.slice a0 len cap] by simp [Value.cells]] at hf
  exact survsT hf
end

theorem RowAt.stp {w : World} {B n : Nat} {A : Option Addr} {l : List Stepx} (h : StepsAt w B A n l) {i : Nat} (hi : i < n) : ∃ b off x, A = some ⟨b, off, none⟩ ∧ b < B ∧ l[i]? = some x ∧
    w.cell? ⟨b, off + i * 10, none⟩ = some (.int .u8 x.kind) ∧ w.cell? ⟨b, off + i * 10 + 1, none⟩ = some (.int .i64 x.i) ∧ w.cell? ⟨b, off + i * 10 + 2, none⟩ = some (.string x.name) ∧ w.cell? ⟨b, off + i * 10 + 3, none⟩ = some (.string x.data) ∧ w.cell? ⟨b, off + i * 10 + 4, none⟩ = some (.slice x.A x.n x.c) ∧
    w.cell? ⟨b, off + i * 10 + 5, none⟩ = some (.int .u8 x.f.kind) ∧ w.cell? ⟨b, off + i * 10 + 6, none⟩ = some (.int .i64 x.f.store) ∧ w.cell? ⟨b, off + i * 10 + 7, none⟩ = some (.int .i64 x.f.n) ∧ w.cell? ⟨b, off + i * 10 + 8, none⟩ = some (.int .i64 x.f.at_) ∧ w.cell? ⟨b, off + i * 10 + 9, none⟩ = some (.int .i64 x.f.c) := by
  obtain ⟨hl, _, hc⟩ := h
  obtain ⟨b, off, e, hb, hc⟩ := hc (by omega)
  have hx : l[i]? = some (l[i]'(by omega)) := List.getElem?_eq_getElem (by omega)
  exact ⟨b, off, _, e, hb, hx, hc i _ hx 0 _ rfl, hc i _ hx 1 _ rfl, hc i _ hx 2 _ rfl, hc i _ hx 3 _ rfl, hc i _ hx 4 _ rfl, hc i _ hx 5 _ rfl, hc i _ hx 6 _ rfl, hc i _ hx 7 _ rfl, hc i _ hx 8 _ rfl, hc i _ hx 9 _ rfl⟩

set_option maxHeartbeats 4000000 in
set_option maxRecDepth 100000 in
theorem law08_long (A : Option Addr) (n c : Nat) (l : List Stepx) (w : World) (h : StepsAt w w.heap.size A n l) (ho : ∀ a ∈ l, StepIn w w.heap.size a) :
    Calls Tryz.prog 9 #[.slice A n c] w fun e w' => ((e = .returned (.bool false) ∧ Shrt l) ∨ e = .returned (.bool true)) ∧ w' = w := by
  have hl := Lib.hid h.1
  have hn9 := h.2.1
  replace ho := Lib.hid ho
  by_cases hbig : 60 < n
  · go_enter Tryz.func9, Tryz.ntmps9
    go_wp2_with fail
    go_ret
    exact ⟨.inr rfl, rfl⟩
  · have hn60 : n ≤ 60 := by omega
    go_enter Tryz.func9, Tryz.ntmps9
    go_wp2_with fail
    go_loopw [3, 4, 5] (fun ts ti _ wr => ∃ j u : Nat, j ≤ n ∧ ti = .int .i64 j ∧ ts = .int .i64 u ∧ u ≤ j * 70000 ∧ Hid (∀ a ∈ l.take j, a.name.size ≤ 200 ∧ a.data.size ≤ 70000 ∧ a.n ≤ 50) ∧ w = wr) (fun _ ti _ _ => n - (intOf ti).toNat)
    case atStart => exact ⟨0, 0, Nat.zero_le _, rfl, rfl, by omega, by unfold Hid; simp, rfl⟩
    case round =>
      obtain ⟨j, u, hj, rfl, rfl, hu, hall, rfl⟩ := hrel
      by_cases hlt : j < n
      · obtain ⟨b0, off, x, rfl, hb0, hx, q0, q1, q2, q3, q4, q5, q6, q7, q8, q9⟩ := h.stp hlt
        have hox := ho.out x (List.mem_of_getElem? hx)
        have hrow := hox.row
        have hr9 := hrow.2.1
        have hall2 : Hid (x.name.size ≤ 200 → x.data.size ≤ 70000 → x.n ≤ 50 → ∀ a ∈ l.take (j + 1), a.name.size ≤ 200 ∧ a.data.size ≤ 70000 ∧ a.n ≤ 50) := by
          unfold Hid
          intro g1 g2 g3 a ha
          rw [List.take_add_one, hx] at ha
          rcases List.mem_append.1 ha with ha | ha
          · exact hall.out a ha
          · simp at ha; subst ha; exact ⟨g1, g2, g3⟩
        replace hx := Lib.hid hx
        replace hox := Lib.hid hox
        clear hall
        by_cases g1 : 200 < x.name.size
        · go_wp2_with fail
          go_ret
          exact ⟨.inr rfl, rfl⟩
        by_cases g2 : 70000 < x.data.size
        · go_wp2_with fail
          go_ret
          exact ⟨.inr rfl, rfl⟩
        by_cases g3 : 50 < x.n
        · go_wp2_with fail
          go_ret
          exact ⟨.inr rfl, rfl⟩
        have hdat : x.data.size ≤ 70000 := by omega
        have hx50 : x.n ≤ 50 := by omega
        replace hall2 := Lib.hid (hall2.out (by omega) hdat hx50)
        go_wp2_with fail
        go_loopw [5] (fun tk wr => ∃ k : Nat, k ≤ x.n ∧ tk = .int .i64 k ∧ w = wr) (fun tk _ => x.n - (intOf tk).toNat)
        case atStart => exact ⟨0, Nat.zero_le _, rfl, rfl⟩
        case round =>
          obtain ⟨k, hk, rfl, rfl⟩ := hrel
          by_cases hkl : k < x.n
          · obtain ⟨b1, off1, y, e1, hb1, hy, r0⟩ := hrow.surv hkl
            rw [e1] at q4
            replace hy := Lib.hid hy
            replace e1 := Lib.hid e1
            by_cases g4 : 100 < y.n
            · go_wp2_with fail
              go_ret
              exact ⟨.inr rfl, rfl⟩
            · go_wp2_with fail
              go_roundw
              case rel => exact ⟨k + 1, by omega, by go_num, trivial⟩
              case measure => simp [intOf]; omega
          · obtain hkn : k = x.n := by omega
            replace hkn := Lib.hid hkn
            have hkl2 : ¬ ((k : Int) < (x.n : Int)) := by omega
            go_wp2_with fail
            go_roundw
            case rel => exact ⟨j + 1, u + x.data.size, by omega, by go_num, by go_num, by omega, hall2, trivial⟩
            case measure => simp [intOf]; omega
      · obtain rfl : j = n := by omega
        have hsh : Hid (Shrt l) := by
          refine ⟨by rw [hl.out]; exact hn60, fun a ha => ?_⟩
          exact hall.out a (by rw [List.take_of_length_le (by have := hl.out; omega)]; exact ha)
        clear hall
        by_cases g5 : 200000 < u
        · go_wp2_with fail
          go_ret
          exact ⟨.inr (by simp; omega), rfl⟩
        · go_wp2_with fail
          go_ret
          exact ⟨.inl ⟨by simp; omega, hsh.out⟩, rfl⟩
end Go.Proofs.YtfkonpmnclknaaaGreat
