/-
  Plain laws of what Find and Drop answer behind Add and Drop.
-/
import Derived.Test.YtbhbkllclookhaaSnapF
namespace Go.Proofs.Ytbhbkllclookhaa
open Go.RowKit

theorem wantMore_may {l : List Snap} {s : Snap} (h : wantMore l s = true) : mayL (l ++ [s]) = true ∧ mayL l = true := by
  refine ⟨by rw [mayL_snoc]; exact h, ?_⟩
  unfold wantMore at h
  simp at h
  exact h.1.1.1
theorem find_last {l : List Snap} {s : Snap} (h : wantMore l s = true) : findRes (l ++ [s]) s.id = (s, 0) :=
  find_of_at (m := l.length) (wantMore_may h).1 (by simp)
theorem drop_last {l : List Snap} {s : Snap} (h : wantMore l s = true) : dropRes (l ++ [s]) s.id = (l, 0) := by
  rw [drop_of_at (m := l.length) (wantMore_may h).1 (by simp), List.eraseIdx_append_of_length_le (Nat.le_refl _)]
  simp
theorem find_more {l : List Snap} {s t : Snap} {i : Nat} (h : wantMore l s = true) (ht : l[i]? = some t) : findRes (l ++ [s]) t.id = (t, 0) :=
  find_of_at (m := i) (wantMore_may h).1 (by rw [List.getElem?_append_left (List.getElem?_eq_some_iff.1 ht).1]; exact ht)

def without (l : List Snap) (id : Int) : List Snap := l.filter fun s => s.id != id
theorem without_may {l : List Snap} (id : Int) (h : mayL l = true) : mayL (without l id) = true := mayL_sub List.filter_sublist h
theorem drop_there {l : List Snap} {t : Snap} {i : Nat} (h : mayL l = true) (ht : l[i]? = some t) : dropRes l t.id = (without l t.id, 0) := by
  have ha : l.any (fun s => s.id == t.id) = true := by
    rw [List.any_eq_true]
    exact ⟨t, List.mem_of_getElem? ht, by simp⟩
  simp [dropRes, h, ha, without]
theorem without_len {l : List Snap} {t : Snap} {i : Nat} (h : mayL l = true) (ht : l[i]? = some t) : (without l t.id).length + 1 = l.length := by
  have h1 := (List.getElem?_eq_some_iff.1 ht).1
  unfold without
  rw [← erase_filter (mayL_rising h) ht, List.length_eraseIdx, if_pos h1]
  omega
theorem find_without {l : List Snap} (id : Int) (h : mayL l = true) : findRes (without l id) id = (Snap.zero, 5) := by
  refine find_none (without_may id h) fun s hs => ?_
  simp [without] at hs
  exact hs.2
theorem drop_two {l : List Snap} {t : Snap} {i : Nat} {id : Int} (h : mayL l = true) (ht : l[i]? = some t) (hne : id ≠ t.id) : dropRes (without l id) t.id = (without (without l id) t.id, 0) := by
  have hm : t ∈ without l id := by
    simp [without]
    exact ⟨List.mem_of_getElem? ht, fun e => hne e.symm⟩
  obtain ⟨k, hk⟩ := List.getElem?_of_mem hm
  exact drop_there (without_may id h) hk
theorem without_swap (l : List Snap) (a b : Int) : without (without l a) b = without (without l b) a := by
  unfold without
  rw [List.filter_filter, List.filter_filter]
  congr 1
  funext s
  exact Bool.and_comm _ _

/-- 'int(uint(a) % uint(n))' is below n. -/
theorem umod_lt (a : Int) (n : Nat) (h0 : 0 < n) (hn : n ≤ 9223372036854775807) : ∃ q : Nat, q < n ∧ wrap64 ((IntKind.u64.wrap a).tmod n) = (q : Int) := by
  have h1 : 0 ≤ IntKind.u64.wrap a := by
    unfold IntKind.wrap
    simp [IntKind.signed, IntKind.bits]
    omega
  have h2 : (IntKind.u64.wrap a).tmod n = (IntKind.u64.wrap a) % n := Int.tmod_eq_emod_of_nonneg h1
  have h3 : 0 ≤ (IntKind.u64.wrap a) % n := Int.emod_nonneg _ (by omega)
  have h4 : (IntKind.u64.wrap a) % n < n := Int.emod_lt_of_pos _ (by omega)
  refine ⟨((IntKind.u64.wrap a) % n).toNat, by omega, ?_⟩
  rw [h2, IntWalk.wrap64_in _ (by omega)]
  omega
end Go.Proofs.Ytbhbkllclookhaa
