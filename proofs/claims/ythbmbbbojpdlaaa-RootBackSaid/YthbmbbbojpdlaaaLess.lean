/-
  A state that may be may be without one of its snapshots, and without one of its chunks. No program in sight.
-/
import Derived.Test.YthbmbbbojpdlaaaMakeA
namespace Go.Proofs.Ythbmbbbojpdlaaa
open Go.RowKit

theorem lastOf_lt {l : List Snap} {x : Int} (h : ∀ s ∈ l, s.id < x) (h0 : 0 < x) : lastOf l l.length < x := by
  rcases Nat.eq_zero_or_pos l.length with h1 | h1
  · rw [h1]
    exact h0
  · obtain ⟨s, hs⟩ := getElem_some (l := l) (i := l.length - 1) (by omega)
    have := lastOf_succ hs
    rw [Nat.sub_add_cancel h1] at this
    rw [this]
    exact h s (List.mem_of_getElem? hs)
theorem less_snap {s : St} (h : mayState s = true) (k : Nat) : mayState ⟨s.k, s.n, s.next, s.sn.eraseIdx k, s.cs, s.ps⟩ = true := by
  have hg := mayState_good h
  simp only [mayState, Bool.and_eq_true, decide_eq_true_eq] at h ⊢
  obtain ⟨⟨⟨⟨⟨a, b⟩, c⟩, d⟩, e⟩, _⟩ := h
  refine ⟨⟨⟨⟨⟨a, ?_⟩, c⟩, d⟩, e⟩, lastOf_lt (fun x hx => hg.last x (List.mem_of_mem_eraseIdx hx)) (by omega)⟩
  simp only [mayL, Bool.and_eq_true, decide_eq_true_eq] at b ⊢
  exact ⟨rising_sub (List.eraseIdx_sublist _ _) b.1, Nat.le_trans (List.length_eraseIdx_le _ _) b.2⟩
theorem chk_mono {cs : List ByteArray} {ps : List Place} {prev : Option ByteArray} {c : ByteArray} (hp : prevOk prev c = true) (h : chk (some c) cs ps = true) : chk prev cs ps = true := by
  cases cs with
  | nil => simp [chk]
  | cons d cs =>
    cases ps with
    | nil => simp [chk] at h
    | cons p ps =>
      simp only [chk, Bool.and_eq_true] at h ⊢
      obtain ⟨⟨⟨h1, h2⟩, h3⟩, h4⟩ := h
      refine ⟨⟨⟨h1, ?_⟩, h3⟩, h4⟩
      cases prev with
      | none => rfl
      | some b => exact sLt_trans (show sLt b c = true from hp) (show sLt c d = true from h2)
theorem chk_less : ∀ {cs : List ByteArray} {ps : List Place} {prev : Option ByteArray} (k : Nat), chk prev cs ps = true → chk prev (cs.eraseIdx k) (ps.eraseIdx k) = true
  | [], _, _, _, _ => by simp [chk]
  | _ :: _, [], _, _, h => by simp [chk] at h
  | c :: cs, p :: ps, prev, 0, h => by
    simp only [chk, Bool.and_eq_true] at h
    simp only [List.eraseIdx_cons_zero]
    exact chk_mono h.1.1.2 h.2
  | c :: cs, p :: ps, prev, k + 1, h => by
    simp only [chk, Bool.and_eq_true] at h
    simp only [List.eraseIdx_cons_succ, chk, Bool.and_eq_true]
    exact ⟨h.1, chk_less k h.2⟩
theorem less_chunk {s : St} (h : mayState s = true) (k : Nat) : mayState ⟨s.k, s.n, s.next, s.sn, s.cs.eraseIdx k, s.ps.eraseIdx k⟩ = true := by
  simp only [mayState, Bool.and_eq_true, decide_eq_true_eq] at h ⊢
  obtain ⟨⟨⟨⟨⟨a, b⟩, c⟩, d⟩, e⟩, f⟩ := h
  refine ⟨⟨⟨⟨⟨a, b⟩, ?_⟩, d⟩, e⟩, f⟩
  simp only [mayIdx, Bool.and_eq_true, decide_eq_true_eq] at c ⊢
  obtain ⟨⟨⟨c1, c2⟩, c3⟩, c4⟩ := c
  refine ⟨⟨⟨by simp [List.length_eraseIdx, c1], Nat.le_trans (List.length_eraseIdx_le _ _) c2⟩, chk_less k c3⟩, ?_⟩
  rw [apartB_iff] at c4 ⊢
  exact c4.sublist (List.eraseIdx_sublist _ _)
theorem erase_cut {α : Type} (l : List α) (k : Nat) : l.eraseIdx k = l.take k ++ l.drop (k + 1) := List.eraseIdx_eq_take_drop_succ l k

/-- A row, cut at its head and at its tail. -/
theorem RowAt.headRow {α : Type} {k : Nat} {enc : α → List Value} {w : World} {B : Nat} {A : Option Addr} {m : Nat} {l : List α} (h : RowAt k enc w B A m l) {n : Nat} (hn : n ≤ m) : RowAt k enc w B A n (l.take n) := by
  refine ⟨by simp [h.1, hn], by have := h.2.1; omega, fun h0 => ?_⟩
  obtain ⟨b, off, e, hb, hcl⟩ := h.2.2 (by omega)
  refine ⟨b, off, e, hb, fun i x hx j v hv => ?_⟩
  rw [List.getElem?_take] at hx
  split at hx
  · exact hcl i x hx j v hv
  · cases hx
theorem RowAt.tailRow {α : Type} {k : Nat} {enc : α → List Value} {w : World} {B b off m : Nat} {l : List α} (h : RowAt k enc w B (some ⟨b, off, none⟩) m l) {n : Nat} (hn : n ≤ m) : RowAt k enc w B (some ⟨b, off + n * k, none⟩) (m - n) (l.drop n) := by
  refine ⟨by simp [h.1], by have := h.2.1; omega, fun h0 => ?_⟩
  obtain ⟨b', off', e, hb, hcl⟩ := h.2.2 (by omega)
  simp only [Option.some.injEq, Addr.mk.injEq] at e
  obtain ⟨rfl, rfl, _⟩ := e
  refine ⟨b, off + n * k, rfl, hb, fun i x hx j v hv => ?_⟩
  rw [List.getElem?_drop] at hx
  have := hcl _ x hx j v hv
  rw [show off + n * k + i * k + j = off + (n + i) * k + j by rw [Nat.add_mul]; omega]
  exact this
theorem RowAt.tailIf {α : Type} {k : Nat} {enc : α → List Value} {w : World} {B b off m c : Nat} {l : List α} (h : RowAt k enc w B (some ⟨b, off, none⟩) m l) {n : Nat} (hn : n ≤ m) (hm : m ≤ c) : RowAt k enc w B (if c = n then some ⟨b, off, none⟩ else some ⟨b, off + n * k, none⟩) (m - n) (l.drop n) := by
  split
  · have h1 : m - n = 0 := by omega
    have h2 : l.drop n = [] := List.drop_eq_nil_of_le (by rw [h.1]; omega)
    rw [h1, h2]
    exact RowAt.none_
  · exact h.tailRow hn
end Go.Proofs.Ythbmbbbojpdlaaa
