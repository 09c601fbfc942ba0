/-
  Plain laws of what is left behind a crash, and of what all writes make.
-/
import Derived.Test.YtfkonpmnclknaaaButA
namespace Go.Proofs.Ytfkonpmnclknaaa
open Go.RowKit

def fullO (g : List Ob) (x : Wr) : List Ob := if x.del = true then delO g x.name else putO g (x.name, x.data)
def fullGo (ws : List Wr) (g : List Ob) : List Ob := ws.foldl fullO g
theorem cutB_big {d : ByteArray} (h : d.size ≤ 65536) : cutB d 65536 = d := by
  unfold cutB
  rw [show (min (65536 : Int) (d.size : Int)).toNat = d.size by omega]
  exact ByteArray.extract_zero_size
theorem keptO_big {g : List Ob} {x : Wr} (h : x.data.size ≤ 65536) : keptO g x 65536 = fullO g x := by
  unfold keptO fullO
  rw [if_neg (by decide), cutB_big h]
theorem crashGo_big : ∀ (ws : List Wr) (m : Nat) (g : List Ob), (∀ x ∈ ws, x.data.size ≤ 65536) → ws.length ≤ m → crashGo ws (List.replicate m 65536) g = fullGo ws g
  | [], _, _, _, _ => rfl
  | x :: ws, 0, _, _, h => by simp at h
  | x :: ws, m + 1, g, hx, h => by
    rw [List.replicate_succ]
    simp only [crashGo, fullGo, List.foldl_cons]
    rw [keptO_big (hx x List.mem_cons_self)]
    exact crashGo_big ws m _ (fun y hy => hx y (List.mem_cons_of_mem _ hy)) (by simpa using h)
theorem keptO_mem {g : List Ob} {x : Wr} {k : Int} {p : Ob} (h : p ∈ keptO g x k) : p ∈ g ∨ (x.del = false ∧ x.name = p.1 ∧ p.2 = cutB x.data k) := by
  unfold keptO at h
  split at h
  · exact .inl h
  · split at h
    · exact .inl (delO_mem.1 h).1
    · rename_i hd
      rcases putO_mem.1 h with rfl | ⟨h, _⟩
      · exact .inr ⟨by simpa using hd, rfl, rfl⟩
      · exact .inl h
theorem crashGo_mem : ∀ {ws : List Wr} {ks : List Int} {g : List Ob} {p : Ob}, p ∈ crashGo ws ks g → p ∈ g ∨ ∃ x ∈ ws, x.del = false ∧ x.name = p.1 ∧ ∃ k, p.2 = cutB x.data k
  | [], _, _, _, h => .inl h
  | _ :: _, [], _, _, h => .inl h
  | x :: ws, k :: ks, g, p, h => by
    rcases crashGo_mem (ws := ws) (ks := ks) h with h | ⟨y, hy, hh⟩
    · rcases keptO_mem h with h | ⟨h1, h2, h3⟩
      · exact .inl h
      · exact .inr ⟨x, List.mem_cons_self, h1, h2, k, h3⟩
    · exact .inr ⟨y, List.mem_cons_of_mem _ hy, hh⟩
theorem keptO_gone {g : List Ob} {x : Wr} {k : Int} {n : ByteArray} (h : ∃ q ∈ g, q.1 = n) : (∃ q ∈ keptO g x k, q.1 = n) ∨ (x.del = true ∧ x.name = n) := by
  obtain ⟨q, hq, rfl⟩ := h
  unfold keptO
  split
  · exact .inl ⟨q, hq, rfl⟩
  · split
    · rename_i hd
      by_cases e : x.name = q.1
      · exact .inr ⟨hd, e⟩
      · exact .inl ⟨q, delO_mem.2 ⟨hq, fun e' => e e'.symm⟩, rfl⟩
    · by_cases e : x.name = q.1
      · exact .inl ⟨_, putO_mem.2 (.inl rfl), e⟩
      · exact .inl ⟨q, putO_mem.2 (.inr ⟨hq, fun e' => e e'.symm⟩), rfl⟩
theorem crashGo_gone : ∀ {ws : List Wr} {ks : List Int} {g : List Ob} {n : ByteArray}, (∃ q ∈ g, q.1 = n) → (∃ q ∈ crashGo ws ks g, q.1 = n) ∨ ∃ x ∈ ws, x.del = true ∧ x.name = n
  | [], _, _, _, h => .inl h
  | _ :: _, [], _, _, h => .inl h
  | x :: ws, k :: ks, g, n, h => by
    rcases keptO_gone (x := x) (k := k) h with h | h
    · rcases crashGo_gone (ws := ws) (ks := ks) h with h | ⟨y, hy, hh⟩
      · exact .inl h
      · exact .inr ⟨y, List.mem_cons_of_mem _ hy, hh⟩
    · exact .inr ⟨x, List.mem_cons_self, h⟩
theorem cutB_ext (d : ByteArray) (k : Int) : d.extract 0 (cutB d k).size = cutB d k := by
  have h : (cutB d k).size = (min k (d.size : Int)).toNat := by
    unfold cutB
    rw [ByteArray.size_extract]
    omega
  rw [h]
  rfl

theorem fullGo_snoc (ws : List Wr) (x : Wr) (g : List Ob) : fullGo (ws ++ [x]) g = fullO (fullGo ws g) x := by simp [fullGo, List.foldl_append]
/-- What is seen is what all writes make of what stands for good. -/
abbrev Coh (s : Sto) : Prop := s.seen = fullGo s.writes s.good
end Go.Proofs.Ytfkonpmnclknaaa
