/-
  Two rows without repeats that have the same have as many.
-/
import Derived.Test.YtcepdigeimedoaaBase
namespace Go.Proofs.Ytcepdigeimedoaa

theorem nodup_len {α : Type} [DecidableEq α] : ∀ {l m : List α}, l.Nodup → m.Nodup → (∀ x, x ∈ l ↔ x ∈ m) → l.length = m.length
  | [], m, _, _, h => by
    cases m with
    | nil => rfl
    | cons y m => exact absurd ((h y).2 List.mem_cons_self) List.not_mem_nil
  | x :: l, m, h1, h2, h => by
    have hx := List.nodup_cons.1 h1
    have hm : x ∈ m := (h x).1 List.mem_cons_self
    have ih := nodup_len (l := l) (m := m.erase x) hx.2 (h2.erase x) fun y => by
      rw [h2.mem_erase_iff]
      constructor
      · intro hy
        exact ⟨fun e => hx.1 (e ▸ hy), (h y).1 (List.mem_cons_of_mem _ hy)⟩
      · rintro ⟨hne, hy⟩
        exact (List.mem_cons.1 ((h y).2 hy)).resolve_left hne
    rw [List.length_cons, ih, List.length_erase_of_mem hm]
    have : 0 < m.length := List.length_pos_of_mem hm
    omega
end Go.Proofs.Ytcepdigeimedoaa
