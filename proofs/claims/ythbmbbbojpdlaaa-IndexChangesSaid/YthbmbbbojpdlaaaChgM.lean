/-
  What comes of adding and dropping has as many places as chunks; rows that may be written over, while all else stands.
-/
import Derived.Test.YthbmbbbojpdlaaaDropA
import Derived.Test.YthbmbbbojpdlaaaWrit
namespace Go.Proofs.Ythbmbbbojpdlaaa
open Go.RowKit

theorem insAt_same {α β : Type} {i : Nat} {x : α} {y : β} {l : List α} {m : List β} (h : l.length = m.length) : (insAt i x l).length = (insAt i y m).length := by
  simp [insAt, h]
theorem addGo_lens : ∀ {ds : List ByteArray} {qs : List Place} {cs : List ByteArray} {ps : List Place} {cs' : List ByteArray} {ps' : List Place}, cs.length = ps.length → addGo ds qs cs ps = some (cs', ps') → cs'.length = ps'.length
  | [], _, cs, ps, cs', ps', h, e => by
    simp only [addGo, Option.some.injEq, Prod.mk.injEq] at e
    obtain ⟨rfl, rfl⟩ := e
    exact h
  | d :: ds, [], cs, ps, cs', ps', h, e => by
    simp only [addGo, Option.some.injEq, Prod.mk.injEq] at e
    obtain ⟨rfl, rfl⟩ := e
    exact h
  | d :: ds, q :: qs, cs, ps, cs', ps', h, e => by
    simp only [addGo] at e
    split at e
    · cases e
    · exact addGo_lens (insAt_same h) e
theorem addIdx_lens (s : St) (ds : List ByteArray) (qs : List Place) : (addIdx s ds qs).1.cs.length = (addIdx s ds qs).1.ps.length := by
  unfold addIdx
  split
  · rename_i hm
    split
    · cases hg : addGo ds qs s.cs s.ps with
      | none => rfl
      | some x =>
        obtain ⟨cs', ps'⟩ := x
        dsimp only
        split
        · rfl
        · split
          · exact addGo_lens (mayIdx_len hm).1 hg
          · rfl
    · rfl
  · rfl
theorem dropGo_lens (ds : List ByteArray) : ∀ (cs : List ByteArray) (ps : List Place), (dropGo ds cs ps).1.length = (dropGo ds cs ps).2.length
  | [], _ => by simp [dropGo]
  | _ :: _, [] => by simp [dropGo]
  | a :: cs, q :: ps => by
    have ih := dropGo_lens ds cs ps
    simp only [dropGo]
    split
    · exact ih
    · simp only [List.length_cons, ih]
theorem dropIdx_lens (s : St) (ds : List ByteArray) : (dropIdx s ds).1.cs.length = (dropIdx s ds).1.ps.length := by
  unfold dropIdx
  split
  · split
    · exact dropGo_lens _ _ _
    · rfl
  · rfl

/-- Only blocks from lo on and below hi are other ones, and new ones. -/
def Out (lo hi : Nat) (w w' : World) : Prop := Below lo w w' ∧ ∀ i, hi ≤ i → i < w.heap.size → w'.heap[i]? = w.heap[i]?
section
variable {lo hi lo' hi' k n : Nat} {w w' : World} {A : Option Addr}
theorem Out.refl (lo hi : Nat) (w : World) : Out lo hi w w := ⟨Below.refl _ _, fun _ _ _ => rfl⟩
theorem Out.setCell (h : Out lo hi w w') {p : Addr} (h1 : lo ≤ p.block) (h2 : p.block < hi) (u : Value) : Out lo hi w (w'.setCell p u) :=
  ⟨h.1.setCell h1 u, fun i hi1 hi2 => (Go.Deep.blk_setCell_other _ _ _ _ (by omega)).trans (h.2 i hi1 hi2)⟩
theorem BoxAt.out {b : Nat} {k' n' x : Int} {v4 v5 v6 : Value} (h : BoxAt w b k' n' x v4 v5 v6) (ho : Out lo hi w w') (hb : b < lo ∨ hi ≤ b) : BoxAt w' b k' n' x v4 v5 v6 :=
  h.block (by rcases hb with hb | hb; exact ho.1.block b hb; exact ho.2 b hb h.lt)

theorem cell_block {b o : Nat} (h : w'.heap[b]? = w.heap[b]?) : w'.cell? ⟨b, o, none⟩ = w.cell? ⟨b, o, none⟩ := by simp only [World.cell?, h]
theorem frozen_block {b o : Nat} (h : w'.heap[b]? = w.heap[b]?) : w'.frozen? ⟨b, o, none⟩ = w.frozen? ⟨b, o, none⟩ := by simp only [World.frozen?, h]

/-- The cells of a slice of n elements of k cells each lie in a block from lo on and below hi, are there, and may be written. -/
def Wrt (k : Nat) (w : World) (lo hi : Nat) (A : Option Addr) (n : Nat) : Prop :=
  0 < n → ∃ b off, A = some ⟨b, off, none⟩ ∧ lo ≤ b ∧ b < hi ∧ ∀ j, j < n * k → (w.cell? ⟨b, off + j, none⟩).isSome = true ∧ w.frozen? ⟨b, off + j, none⟩ = false
theorem Owns.wrt {α : Type} {enc : α → List Value} {T : TypeId} {base c : Nat} {l : List α} (h : Owns k enc T w base (.slice A n c) l) (hk : 0 < k) : Wrt k w base w.heap.size A n := by
  intro hn
  obtain ⟨b, off, e, hb, hc⟩ := Owns.writ h hn
  obtain ⟨u, hu⟩ := Option.isSome_iff_exists.1 (hc 0 (Nat.mul_pos hn hk)).1
  exact ⟨b, off, e, hb, World.block_lt_of_cell? w _ hu, hc⟩
theorem Wrt.keep (h : Wrt k w lo hi A n) (hk : ∀ b, lo ≤ b → b < hi → b < w.heap.size → w'.heap[b]? = w.heap[b]?) : Wrt k w' lo hi A n := by
  intro hn
  obtain ⟨b, off, e, h1, h2, hc⟩ := h hn
  refine ⟨b, off, e, h1, h2, fun j hj => ?_⟩
  obtain ⟨u, hu⟩ := Option.isSome_iff_exists.1 (hc j hj).1
  have hb := hk b h1 h2 (World.block_lt_of_cell? w _ hu)
  rw [cell_block hb, frozen_block hb]
  exact hc j hj
theorem Wrt.below (h : Wrt k w lo hi A n) (hb : Below w.heap.size w w') : Wrt k w' lo hi A n := h.keep fun b _ _ h3 => hb.block b h3
theorem Wrt.out (h : Wrt k w lo hi A n) (ho : Out lo' hi' w w') (hb : hi' ≤ lo) : Wrt k w' lo hi A n := h.keep fun b h1 _ h3 => ho.2 b (by omega) h3
theorem Wrt.setCell (h : Wrt k w lo hi A n) (p : Addr) (v : Value) : Wrt k (w.setCell p v) lo hi A n := by
  intro hn
  obtain ⟨b, off, e, h1, h2, hc⟩ := h hn
  refine ⟨b, off, e, h1, h2, fun j hj => ⟨?_, by rw [World.frozen?_setCell]; exact (hc j hj).2⟩⟩
  obtain ⟨u, hu⟩ := Option.isSome_iff_exists.1 (hc j hj).1
  obtain ⟨v', hv⟩ := cell?_setCell_some (p := p) (x := v) hu
  rw [hv]
  rfl
theorem Wrt.at_ (h : Wrt k w lo hi A n) {i : Nat} (hin : i < n) {j : Nat} (hj : j < k) : ∃ b off u, A = some ⟨b, off, none⟩ ∧ lo ≤ b ∧ b < hi ∧ w.cell? ⟨b, off + (i * k + j), none⟩ = some u ∧ w.frozen? ⟨b, off + (i * k + j), none⟩ = false := by
  obtain ⟨b, off, e, h1, h2, hc⟩ := h (by omega)
  have hj : i * k + j < n * k := by
    have : (i + 1) * k ≤ n * k := Nat.mul_le_mul_right k hin
    rw [Nat.add_mul] at this
    omega
  obtain ⟨u, hu⟩ := Option.isSome_iff_exists.1 (hc _ hj).1
  exact ⟨b, off, u, e, h1, h2, hu, (hc _ hj).2⟩
end
end Go.Proofs.Ythbmbbbojpdlaaa
