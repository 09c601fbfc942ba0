/-
  A map from digests to chunks that are at hand (a struct of one string).
-/
import Derived.Test.YtmclniekloljcaaGreatDoorCntA
namespace Go.Proofs.YtmclniekloljcaaGreatDoor
open Go.RowKit Go.Maps Go.Sort Go.Shelf Go.ChangeMaps

abbrev kpd (s : ByteArray) : DataW Unit := .agg [.lit (.string (bl s))]
def keptElem (v : Value) : Option (DataW Unit × List MemPlace) := match v with
  | .agg a => match a.toList with
    | [.string s] => if s.size ≤ maxLen then some (kpd s, []) else none
    | _ => none
  | _ => none
theorem keptElem_mk {s : ByteArray} (hs : s.size ≤ maxLen) : keptElem (.agg #[.string s]) = some (kpd s, []) := by
  simp only [keptElem]
  rw [if_pos hs]
theorem keptElem_inv {v : Value} {z : DataW Unit × List MemPlace} (h : keptElem v = some z) : ∃ s : ByteArray, v = .agg #[.string s] ∧ z = (kpd s, []) ∧ s.size ≤ maxLen := by
  unfold keptElem at h
  split at h
  · rename_i a
    split at h
    · rename_i s e
      split at h
      · rename_i hs
        cases h
        obtain ⟨l⟩ := a
        simp at e
        subst e
        exact ⟨s, rfl, rfl, hs⟩
      · cases h
    · cases h
  · cases h
theorem zeroKept (w : World) : (zeroValue 82).run Tryz.prog w = .ok (.agg #[.string ⟨#[]⟩]) w := by kernel_rfl

theorem kept_empty {w : World} {b : Nat} (h : w.heap[b]? = some (.map #[] 0)) (s : ByteArray) (hs : s.size ≤ maxLen) :
    (Instr.lookup 65 (.map (some b)) (.string s) true).run Tryz.prog w = .ok (.tuple #[.agg #[.string ⟨#[]⟩], .bool false]) w := by
  have h2 : w.ownsMap Tryz.prog 9 keptElem b 0 (.map [] : DataW Unit) := by
    obtain ⟨es, clock, h3, h4⟩ := World.ownsMap_made w Tryz.prog 9 keptElem
    rw [heap_alloc_new] at h3
    cases h3
    exact ⟨_, _, h, h4⟩
  obtain ⟨v, ps, hrun, hv⟩ := World.ownsMap.look_ok (w := w) h2 strKeyed Tryz.underlying65 (z := .agg #[.string ⟨#[]⟩]) (zeroKept _) (zd := kpd ⟨#[]⟩) (zp := []) (keptElem_mk (by decide)) (Go.WideMaps.keyOf_string_mk Tryz.underlying9 hs)
  obtain ⟨x, rfl, hx, _⟩ := keptElem_inv hv
  simp only [Prod.mk.injEq] at hx
  have e := hx.1
  simp only [DataW.atKey] at e
  have : x = ⟨#[]⟩ := bl_inj (by simpa [kpd] using e.symm)
  rw [hrun, this]
  simp [Maps.has]
end Go.Proofs.YtmclniekloljcaaGreatDoor
