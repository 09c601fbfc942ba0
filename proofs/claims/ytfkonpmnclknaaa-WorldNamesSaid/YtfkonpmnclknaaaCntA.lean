/-
  Strings as keys of maps; what is sorted rises.
-/
import Derived.Test.YtfkonpmnclknaaaStr
import Derived.Test.YtfkonpmnclknaaaMem
import Derived.Test.YtfkonpmnclknaaaLayG
import Derived.Maps.OwnOps
import Derived.Maps.OwnSet
import Derived.Shelf.SlIter.Nil
import Derived.Shelf.SortM.Plain
import Derived.Shelf.SortM.SortNone
namespace Go.Proofs.Ytfkonpmnclknaaa
open Go.RowKit Go.Maps Go.Sort Go.Shelf

theorem strKeyed : Keyed Try.prog 9 := string_keyed Try.underlying9
abbrev skey (s : ByteArray) : Lit := .string s.data.toList
theorem skey_ne {a b : ByteArray} (h : a ≠ b) : skey a ≠ skey b := fun e => h (bl_inj (by simpa [skey] using e))
theorem skey_lit (s : ByteArray) : WideAt.IsKeyLit (skey s) := trivial

theorem sorts_in (m : Nat) : AnyZ.SortsIn Try.prog Try.sortedS_ren Fence.wide m :=
  ⟨fun blk off cap ss W hH hblk hsz => callsIn_wide.2 (AnyM.slices_Sort_string Try.sortS blk off cap ss W hH hblk hsz),
   fun p cap W => callsIn_wide.2 (AnyM.slices_Sort_string_none Try.sortS p cap W)⟩

/-- The strings of bytes l. -/
abbrev ofBytes (l : List UInt8) : ByteArray := ⟨l.toArray⟩
theorem bl_ofBytes (l : List UInt8) : bl (ofBytes l) = l := by simp [bl, ofBytes]
theorem rise_of_sorted {ss : List (List UInt8)} (hn : ss.Nodup) : RiseS ((ss.mergeSort (fun x y => decide (x ≤ y))).map ofBytes) := by
  have tr : ∀ a b c : List UInt8, decide (a ≤ b) = true → decide (b ≤ c) = true → decide (a ≤ c) = true := fun a b c h1 h2 => by simp only [decide_eq_true_eq] at *; exact List.le_trans h1 h2
  have to : ∀ a b : List UInt8, (decide (a ≤ b) || decide (b ≤ a)) = true := fun a b => by simp only [Bool.or_eq_true, decide_eq_true_eq]; exact List.le_total a b
  have h1 := List.pairwise_mergeSort tr to ss
  have h2 : (ss.mergeSort (fun x y => decide (x ≤ y))).Nodup := (List.mergeSort_perm ss _).nodup_iff.2 hn
  refine List.pairwise_map.2 ((h1.and h2).imp fun {a b} hab => ?_)
  rw [sLt_iff, bl_ofBytes, bl_ofBytes]
  have hle : a ≤ b := by simpa using hab.1
  by_cases h : a < b
  · exact h
  · exact absurd (List.le_antisymm hle (List.not_lt.1 h)) hab.2

end Go.Proofs.Ytfkonpmnclknaaa
