/-
  The two worlds of any number of stores, from a base on; beside a copy of both.
-/
import Derived.Test.YtfkonpmnclknaaaGreatWldP
namespace Go.Proofs.YtfkonpmnclknaaaGreat
open Go.RowKit
attribute [local go_sem ↓] Go.wp_at_zero Go.wp_at_succ

/-- The two worlds, in blocks that came to be behind a base. -/
def Duo (B : Nat) (w wr : World) (b N c : Nat) (m : Wld) : Prop := ∃ X Y, WTwo wr b X N c Y m m ∧ (∀ i ∈ X ++ Y, B ≤ i) ∧ Below B w wr
/-- The copy of the first one is made. -/
def Half (B : Nat) (w wr : World) (b N c : Nat) (m : Wld) (cb : Nat) : Prop := ∃ X Y Z, WTwo wr b X N c Y m m ∧ (∀ i ∈ X ++ Y, B ≤ i) ∧ Below B w wr ∧ WldAt wr cb Z N m ∧ ∀ i ∈ X ++ Y, i ∉ Z
/-- The two worlds, and two others. -/
def Quad (B : Nat) (w wr : World) (b N c : Nat) (m : Wld) (cb M c2 : Nat) (mc : Wld) : Prop :=
  ∃ X Y Z Y2, WTwo wr b X N c Y m m ∧ (∀ i ∈ X ++ Y, B ≤ i) ∧ Below B w wr ∧ WTwo wr cb Z M c2 Y2 mc mc ∧ ∀ i ∈ X ++ Y, i ∉ Z ++ Y2
section
variable {B b N M c cb c2 : Nat} {m mc : Wld} {w wr w' w1 w2 w3 : World}
theorem Duo.bel (h : Duo B w wr b N c m) : Below B w wr := by
  obtain ⟨X, Y, h1, h2, h3⟩ := h
  exact h3
theorem Duo.new {X Y : List Nat} {n : Nat} (hn : 0 < n) (hb : Below B w w1) (hB : B ≤ w1.heap.size) (h1 : WldAt w2 b X 0 (Wld.new n)) (h2 : ∀ i ∈ X, w1.heap.size ≤ i) (h3 : Below w1.heap.size w1 w2) (k1 : RWAt w3 c Y (Wld.new n)) (k2 : ∀ i ∈ Y, w2.heap.size ≤ i) (k3 : Below w2.heap.size w2 w3) : Duo B w w3 b 0 c (Wld.new n) := by
  have y2 := h3.size
  refine ⟨X, Y, ⟨h1.below k3, k1, wok_new n, fun i hi hf => ?_, Nat.le_refl _, Nat.le_refl _, by rw [wnew_len]; exact hn, by rw [wnew_len]; exact hn⟩, fun i hi => ?_, (hb.trans (h3.mono hB)).trans (k3.mono (by omega))⟩
  · have := h1.lt i hi
    have := k2 i hf
    omega
  · rcases List.mem_append.1 hi with hi | hi
    · have := h2 i hi; omega
    · have := k2 i hi; omega
theorem Duo.copied (h : Duo B w wr b N c m) (hB : B ≤ w.heap.size) :
    Calls Tryz.prog 28 #[.pointer (some ⟨b, 0, none⟩)] wr fun e w' => ∃ cb, e = .returned (.pointer (some ⟨cb, 0, none⟩)) ∧ Half B w w' b N c m cb := by
  obtain ⟨X, Y, h1, h2, h3⟩ := h
  refine (world_Copy b N X m wr h1.p h1.nm).mono ?_
  rintro e w' ⟨rfl, Z, k1, k2, k3⟩
  exact ⟨_, rfl, X, Y, Z, h1.below k2, h2, h3.trans (k2.mono (Nat.le_trans hB h3.size)), k1, fun i hi hf => by have := k3 i hf; have := h1.lt i hi; omega⟩
theorem Half.copied (h : Half B w wr b N c m cb) (hB : B ≤ w.heap.size) :
    Calls Tryz.prog 24 #[.pointer (some ⟨c, 0, none⟩)] wr fun e w' => ∃ c2, e = .returned (.pointer (some ⟨c2, 0, none⟩)) ∧ Quad B w w' b N c m cb N c2 m := by
  obtain ⟨X, Y, Z, h1, h2, h3, h4, h5⟩ := h
  refine (ref08_Copy c N Y m wr h1.r h1.ok h1.nx).mono ?_
  rintro e w' ⟨c2, Y2, rfl, k1, k2, k3⟩
  refine ⟨c2, rfl, X, Y, Z, Y2, h1.below k2, h2, h3.trans (k2.mono (Nat.le_trans hB h3.size)), ⟨h4.below k2, k1, h1.ok, fun i hi hf => ?_, h1.cm, h1.cx, h1.nm, h1.nx⟩, fun i hi hf => ?_⟩
  · have := h4.lt i hi
    have := k3 i hf
    omega
  · rcases List.mem_append.1 hf with hf | hf
    · exact h5 i hi hf
    · have := k3 i hf
      have := h1.lt i hi
      omega
theorem Quad.below (h : Quad B w wr b N c m cb M c2 mc) (hB : B ≤ w.heap.size) (hb : Below wr.heap.size wr w') : Quad B w w' b N c m cb M c2 mc := by
  obtain ⟨X, Y, Z, Y2, h1, h2, h3, h4, h5⟩ := h
  exact ⟨X, Y, Z, Y2, h1.below hb, h2, h3.trans (hb.mono (Nat.le_trans hB h3.size)), h4.below hb, h5⟩
theorem Quad.duo (h : Quad B w wr b N c m cb M c2 mc) : Duo B w wr b N c m := by
  obtain ⟨X, Y, Z, Y2, h1, h2, h3, h4, h5⟩ := h
  exact ⟨X, Y, h1, h2, h3⟩
theorem Quad.bel (h : Quad B w wr b N c m cb M c2 mc) : Below B w wr := h.duo.bel
theorem Quad.do_ {a : Stepx} (h : Quad B w wr b N c m cb M c2 mc) (hB : B ≤ w.heap.size) (ha : StepOk wr B a) (hN : N + 1 ≤ 1000000) :
    Calls Tryz.prog 13 #[a.agg, .pointer (some ⟨b, 0, none⟩), .pointer (some ⟨c, 0, none⟩)] wr fun e w' => e = .returned (.bool true) ∧ Quad B w w' b (N + 1) c (m.step a) cb M c2 mc := by
  obtain ⟨X, Y, Z, Y2, h1, h2, h3, h4, h5⟩ := h
  refine (law08_do b N c X Y m m a B wr hN h1 ha (Nat.le_trans hB h3.size) h2).mono ?_
  rintro e w' ⟨R, rfl, k1, k2⟩
  obtain rfl := k1 rfl
  obtain ⟨X1, Y1, j1, j2, j3, j4, j5⟩ := WTo.step h2 k2 (Nat.le_trans hB h3.size)
  refine ⟨rfl, X1, Y1, Z, Y2, j1, j2, h3.trans j3, h4.but j4 fun i hi hf => h5 i hf hi, fun i hi hf => ?_⟩
  rcases j5 i hi with e | e
  · exact h5 i e hf
  · have := h4.lt i hf
    omega
end
end Go.Proofs.YtfkonpmnclknaaaGreat
