/-
  Arguments that are slices of acts: what they read as.
-/
import Derived.Test.YtfkonpmnclknaaaOpenA
import Derived.Test.YtfkonpmnclknaaaStoK
namespace Go.Proofs.Ytfkonpmnclknaaa
open Go.ChangeShapes Go.WideShapes Go.ChangeAt Go.RowKit Go.Deep

/-- A thing done to a store; its third part is a slice of numbers. -/
structure Actx where
  kind : Int
  name : ByteArray
  data : ByteArray
  kA : Option Addr
  kn : Nat
  kc : Nat
  f : Flt
  keep : List Int
def Actx.cells (a : Actx) : List Value := [.int .u8 a.kind, .string a.name, .string a.data, .slice a.kA a.kn a.kc, .int .u8 a.f.kind, .int .i64 a.f.store, .int .i64 a.f.n, .int .i64 a.f.at_, .int .i64 a.f.c]
structure ActOk (W : World) (a : Actx) : Prop where
  kind : 0 ≤ a.kind ∧ a.kind ≤ 255
  keep : IntsAt W W.heap.size a.kA a.kn a.keep
  fk : 0 ≤ a.f.kind ∧ a.f.kind ≤ 255
  fs : -9223372036854775808 ≤ a.f.store ∧ a.f.store ≤ 9223372036854775807
  fn : -9223372036854775808 ≤ a.f.n ∧ a.f.n ≤ 9223372036854775807
  fa : -9223372036854775808 ≤ a.f.at_ ∧ a.f.at_ ≤ 9223372036854775807
  fc : -9223372036854775808 ≤ a.f.c ∧ a.f.c ≤ 9223372036854775807
  ki : ∀ k ∈ a.keep, -9223372036854775808 ≤ k ∧ k ≤ 9223372036854775807
/-- It reaches no further than a machine. -/
def ActFit (a : Actx) : Prop := a.name.size ≤ reachBytes ∧ a.data.size ≤ reachBytes ∧ a.kn ≤ reachBytes

section
variable {H : Type} {enc : TypeId × Value → H} {W : World} {base fuel : Nat} {v : Value} {d : DataW H} {p : List MemPlace} {x : DataW H × List MemPlace}

set_option maxRecDepth 100000 in
theorem actsT (hf : DataW.trod enc Try.prog W 0 (fun _ => true) true fuel 22 [v] = some x) :
    ∃ A n c l, v = .slice A n c ∧ RowAt 9 Actx.cells W W.heap.size A n l ∧ (∀ a ∈ l, ActOk W a) ∧ ((∀ q ∈ x.1.weights Try.prog 22, q ≤ reachBytes) → n ≤ reachBytes ∧ ∀ a ∈ l, ActFit a) := by
  rcases open_slice Try.underlying22 hf with ⟨e, _⟩ | ⟨a, len', cap', m, n', D, Pl, e, _, hlc, hcm, hm, hx, hi⟩
  · simp at e
    subst e
    exact ⟨_, _, _, [], rfl, RowAt.none_, by simp, fun _ => ⟨Nat.zero_le _, by simp⟩⟩
  · simp at e
    subst e
    obtain rfl : m = cap' := by simpa using hm
    have hC : Try.prog.cellsOf 35 = 9 := by kernel_rfl
    have hC0 : Try.prog.cellsOf 5 = 1 := by kernel_rfl
    have hC1 : Try.prog.cellsOf 30 = 2 := by kernel_rfl
    have hC2 : Try.prog.cellsOf 31 = 1 := by kernel_rfl
    have hC3 : Try.prog.cellsOf 33 = 5 := by kernel_rfl
    have hC4 : Try.prog.cellsOf 9 = 1 := by kernel_rfl
    have hC5 : Try.prog.cellsOf 3 = 1 := by kernel_rfl
    have key : ∀ i, i < len' → ∃ s : Actx, (∀ j u, s.cells[j]? = some u → W.cell? (a.add (i * 9 + j)) = some u) ∧ ActOk W s ∧ ((∀ q ∈ (D i).weights Try.prog 35, q ≤ reachBytes) → ActFit s) := by
      intro i hl
      obtain ⟨cs', hc, ht'⟩ := hi i (by omega)
      rw [hC] at hc
      obtain ⟨ys, n2, _, hy, _, hyl, hfd⟩ := DataW.trod_struct Try.underlying35 ht'
      obtain ⟨_, hcl, hat⟩ := World.cells?_some hc
      match cs', hcl with
      | [c0, c1, c2, c3, c4, c5, c6, c7, c8], _ =>
        have g : ∀ i, i < 4 → ∃ y, ys[i]? = some y := fun i hi => ⟨_, List.getElem?_eq_getElem (by rw [hyl]; exact hi)⟩
        obtain ⟨y0, e0⟩ := g 0 (by omega)
        obtain ⟨y1, e1⟩ := g 1 (by omega)
        obtain ⟨y2, e2⟩ := g 2 (by omega)
        obtain ⟨y3, e3⟩ := g 3 (by omega)
        have t0 : DataW.trod enc Try.prog W 0 (fun _ => true) true n2 5 (([c0, c1, c2, c3, c4, c5, c6, c7, c8].drop 0).take (Try.prog.cellsOf 5)) = some y0 := (hfd 0 _ rfl).trans e0
        rw [hC0] at t0
        replace t0 : DataW.trod enc Try.prog W 0 (fun _ => true) true n2 5 [c0] = some y0 := t0
        have t1 : DataW.trod enc Try.prog W 0 (fun _ => true) true n2 30 (([c0, c1, c2, c3, c4, c5, c6, c7, c8].drop 1).take (Try.prog.cellsOf 30)) = some y1 := (hfd 1 _ rfl).trans e1
        rw [hC1] at t1
        replace t1 : DataW.trod enc Try.prog W 0 (fun _ => true) true n2 30 [c1, c2] = some y1 := t1
        have t2 : DataW.trod enc Try.prog W 0 (fun _ => true) true n2 31 (([c0, c1, c2, c3, c4, c5, c6, c7, c8].drop 3).take (Try.prog.cellsOf 31)) = some y2 := (hfd 2 _ rfl).trans e2
        rw [hC2] at t2
        replace t2 : DataW.trod enc Try.prog W 0 (fun _ => true) true n2 31 [c3] = some y2 := t2
        have t3 : DataW.trod enc Try.prog W 0 (fun _ => true) true n2 33 (([c0, c1, c2, c3, c4, c5, c6, c7, c8].drop 4).take (Try.prog.cellsOf 33)) = some y3 := (hfd 3 _ rfl).trans e3
        rw [hC3] at t3
        replace t3 : DataW.trod enc Try.prog W 0 (fun _ => true) true n2 33 [c4, c5, c6, c7, c8] = some y3 := t3
        obtain ⟨os, n3, _, hoe, _, hol, hfo⟩ := DataW.trod_struct Try.underlying30 t1
        have g2 : ∀ i, i < 2 → ∃ y, os[i]? = some y := fun i hi => ⟨_, List.getElem?_eq_getElem (by rw [hol]; exact hi)⟩
        obtain ⟨z0, f0⟩ := g2 0 (by omega)
        obtain ⟨z1, f1⟩ := g2 1 (by omega)
        have u0 : DataW.trod enc Try.prog W 0 (fun _ => true) true n3 9 (([c1, c2].drop 0).take (Try.prog.cellsOf 9)) = some z0 := (hfo 0 _ rfl).trans f0
        rw [hC4] at u0
        replace u0 : DataW.trod enc Try.prog W 0 (fun _ => true) true n3 9 [c1] = some z0 := u0
        have u1 : DataW.trod enc Try.prog W 0 (fun _ => true) true n3 9 (([c1, c2].drop 1).take (Try.prog.cellsOf 9)) = some z1 := (hfo 1 _ rfl).trans f1
        rw [hC4] at u1
        replace u1 : DataW.trod enc Try.prog W 0 (fun _ => true) true n3 9 [c2] = some z1 := u1
        obtain ⟨fs, n4, _, hfe, _, hfl, hff⟩ := DataW.trod_struct Try.underlying33 t3
        have g5 : ∀ i, i < 5 → ∃ y, fs[i]? = some y := fun i hi => ⟨_, List.getElem?_eq_getElem (by rw [hfl]; exact hi)⟩
        obtain ⟨x0, q0⟩ := g5 0 (by omega)
        obtain ⟨x1, q1⟩ := g5 1 (by omega)
        obtain ⟨x2, q2⟩ := g5 2 (by omega)
        obtain ⟨x3, q3⟩ := g5 3 (by omega)
        obtain ⟨x4, q4⟩ := g5 4 (by omega)
        have v0 : DataW.trod enc Try.prog W 0 (fun _ => true) true n4 5 (([c4, c5, c6, c7, c8].drop 0).take (Try.prog.cellsOf 5)) = some x0 := (hff 0 _ rfl).trans q0
        rw [hC0] at v0
        replace v0 : DataW.trod enc Try.prog W 0 (fun _ => true) true n4 5 [c4] = some x0 := v0
        have v1 : DataW.trod enc Try.prog W 0 (fun _ => true) true n4 3 (([c4, c5, c6, c7, c8].drop 1).take (Try.prog.cellsOf 3)) = some x1 := (hff 1 _ rfl).trans q1
        rw [hC5] at v1
        replace v1 : DataW.trod enc Try.prog W 0 (fun _ => true) true n4 3 [c5] = some x1 := v1
        have v2 : DataW.trod enc Try.prog W 0 (fun _ => true) true n4 3 (([c4, c5, c6, c7, c8].drop 2).take (Try.prog.cellsOf 3)) = some x2 := (hff 2 _ rfl).trans q2
        rw [hC5] at v2
        replace v2 : DataW.trod enc Try.prog W 0 (fun _ => true) true n4 3 [c6] = some x2 := v2
        have v3 : DataW.trod enc Try.prog W 0 (fun _ => true) true n4 3 (([c4, c5, c6, c7, c8].drop 3).take (Try.prog.cellsOf 3)) = some x3 := (hff 3 _ rfl).trans q3
        rw [hC5] at v3
        replace v3 : DataW.trod enc Try.prog W 0 (fun _ => true) true n4 3 [c7] = some x3 := v3
        have v4 : DataW.trod enc Try.prog W 0 (fun _ => true) true n4 3 (([c4, c5, c6, c7, c8].drop 4).take (Try.prog.cellsOf 3)) = some x4 := (hff 4 _ rfl).trans q4
        rw [hC5] at v4
        replace v4 : DataW.trod enc Try.prog W 0 (fun _ => true) true n4 3 [c8] = some x4 := v4
        obtain ⟨kd, rfl, k1, k2⟩ := u8W t0
        obtain ⟨nm, rfl, wn⟩ := strW u0
        obtain ⟨da, rfl, wd⟩ := strW u1
        obtain ⟨kA, kn, kc, ks, rfl, hks, hki, hkw⟩ := intsT t2
        obtain ⟨fk, rfl, fk1, fk2⟩ := u8W v0
        obtain ⟨fs', rfl, fs1, fs2⟩ := i64W v1
        obtain ⟨fn, rfl, fn1, fn2⟩ := i64W v2
        obtain ⟨fa, rfl, fa1, fa2⟩ := i64W v3
        obtain ⟨fc, rfl, fc1, fc2⟩ := i64W v4
        refine ⟨⟨kd, nm, da, kA, kn, kc, ⟨fk, fs', fn, fa, fc⟩, ks⟩, fun j u hu => ?_, ⟨⟨k1, k2⟩, hks, ⟨fk1, fk2⟩, ⟨fs1, fs2⟩, ⟨fn1, fn2⟩, ⟨fa1, fa2⟩, ⟨fc1, fc2⟩, hki⟩, fun hq => ?_⟩
        · have hj : j < 9 := (List.getElem?_eq_some_iff.1 hu).1
          rw [← Go.Deep.add_add, hat j hj]
          exact hu
        · have e9 : D i = .agg (ys.map (·.1)) := (Prod.mk.inj hy).1
          have ha : ∀ (j : Nat) (t : TypeId) (y : DataW H × List MemPlace), (#[5, 30, 31, 33].toList)[j]? = some t → ys[j]? = some y → ∀ q ∈ y.1.weights Try.prog t, q ∈ (D i).weights Try.prog 35 := fun j t y h1 h2 q h3 => by
            rw [e9, DataW.weights, Try.underlying35]
            exact DataW.weights_mem_each (j := j) (t := t) (d := y.1) h1 (by rw [List.getElem?_map, h2]; rfl) q h3
          have e8 : y1.1 = .agg (os.map (·.1)) := (Prod.mk.inj (show (y1.1, y1.2) = _ from hoe)).1
          have ho : ∀ (j : Nat) (y : DataW H × List MemPlace), j < 2 → os[j]? = some y → ∀ q ∈ y.1.weights Try.prog 9, q ∈ y1.1.weights Try.prog 30 := fun j y hj h2 q h3 => by
            rw [e8, DataW.weights, Try.underlying30]
            refine DataW.weights_mem_each (j := j) (t := 9) (d := y.1) ?_ (by rw [List.getElem?_map, h2]; rfl) q h3
            match j, hj with
            | 0, _ => rfl
            | 1, _ => rfl
          exact ⟨hq _ (ha 1 _ y1 rfl e1 _ (ho 0 z0 (by omega) f0 _ wn)), hq _ (ha 1 _ y1 rfl e1 _ (ho 1 z1 (by omega) f1 _ wd)), hkw fun q h => hq q (ha 2 _ y2 rfl e2 q h)⟩
    obtain ⟨l, hl, hP⟩ := list_of len' key
    have hw := slice_weight (D' := fun j => D (len' + j)) hx Try.underlying22 (by kernel_rfl)
    refine ⟨_, _, _, l, rfl, ⟨hl, by simp only [maxLen] at hcm; omega, fun hn => ?_⟩, ?_, fun hq => ⟨hw hq, ?_⟩⟩
    · obtain ⟨s, c0, _⟩ := key 0 hn
      have c0 := c0 0 _ rfl
      have ha := addr_form c0
      simp [Addr.add] at ha
      have hb := World.block_lt_of_cell? W _ c0
      simp [Addr.add] at hb
      refine ⟨a.block, a.off, by rw [← ha], hb, fun i x hx j u hu => ?_⟩
      have q0 := (hP i x hx).1 j u hu
      rw [ha] at q0
      simp only [Addr.add_lit] at q0
      rw [Nat.add_assoc]
      exact q0
    · intro s hs
      obtain ⟨i, hi⟩ := List.getElem?_of_mem hs
      exact (hP i s hi).2.1
    · intro s hs
      obtain ⟨i, hi⟩ := List.getElem?_of_mem hs
      refine (hP i s hi).2.2 fun q h => hq q ?_
      have hil : i < len' := by rw [← hl]; exact (List.getElem?_eq_some_iff.1 hi).1
      rw [(Prod.mk.inj (show (x.1, x.2) = _ from hx)).1, DataW.weights, Try.underlying22]
      refine List.mem_cons_of_mem _ (List.mem_append_left _ (weightsAll_mem (List.mem_map.2 ⟨i, List.mem_range.2 hil, rfl⟩) q h))

set_option maxRecDepth 100000 in
theorem open_acts (hv : Value.okWide Try.prog W .any base 22 v) (h : DataW.Trod enc Try.prog W 0 (fun _ => true) true 22 v d p) :
    ∃ A n c l, v = .slice A n c ∧ RowAt 9 Actx.cells W W.heap.size A n l ∧ (∀ a ∈ l, ActOk W a) ∧ ((∀ q ∈ d.weights Try.prog 22, q ≤ reachBytes) → n ≤ reachBytes ∧ ∀ a ∈ l, ActFit a) := by
  obtain ⟨a0, len, cap, rfl⟩ := okWide_slice Try.underlying22 hv
  obtain ⟨fuel, hf⟩ := h
  rw [show (Value.slice a0 len cap).cells.toList = [.slice a0 len cap] by simp [Value.cells]] at hf
  exact actsT hf
end
end Go.Proofs.Ytfkonpmnclknaaa
