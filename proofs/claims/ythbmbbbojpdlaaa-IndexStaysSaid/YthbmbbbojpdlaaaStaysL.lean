/-
  What stays behind adding, and behind dropping. No program in sight.
-/
import Derived.Test.YthbmbbbojpdlaaaStepL
namespace Go.Proofs.Ythbmbbbojpdlaaa
open Go.RowKit

section
variable {s : St} {D : List ByteArray} {P : List Place} {cs' : List ByteArray} {ps' : List Place} {c : ByteArray} {p : Place} {i : Nat}
/-- What was added is found. -/
theorem AddOk.finds (h : AddOk s D P cs' ps') (hc : D[i]? = some c) (hp : P[i]? = some p) : findP ⟨s.k, s.n, s.next, s.sn, cs', ps'⟩ c = (p, 0) :=
  stands_findP (s := ⟨s.k, s.n, s.next, s.sn, cs', ps'⟩) h.res ((h.added.stands c p).2 (.inl ⟨i, hc, hp⟩))
/-- All others stand where they stood. -/
theorem AddOk.stays (h : AddOk s D P cs' ps') (hc : s.cs[i]? = some c) (hp : s.ps[i]? = some p) : findP ⟨s.k, s.n, s.next, s.sn, cs', ps'⟩ c = (p, 0) :=
  stands_findP (s := ⟨s.k, s.n, s.next, s.sn, cs', ps'⟩) h.res ((h.added.stands c p).2 (.inr ⟨i, hc, hp⟩))
theorem AddOk.undone (h : AddOk s D P cs' ps') : dropIdx ⟨s.k, s.n, s.next, s.sn, cs', ps'⟩ D = (s, 0) := by
  rw [dropIdx_ok (s := ⟨s.k, s.n, s.next, s.sn, cs', ps'⟩) h.res rfl (fun i c _ hi => h.mem.2 (.inl (List.mem_of_getElem? hi)))]
  dsimp only
  rw [h.back (D := D) (fun c => Iff.rfl)]
/-- What was dropped is not found. -/
theorem drop_gone (hm : mayIdx s.cs s.ps = true) (hc : c ∈ D) : findP ⟨s.k, s.n, s.next, s.sn, (dropGo D s.cs s.ps).1, (dropGo D s.cs s.ps).2⟩ c = (Place.zero, 5) := by
  refine findP_out (s := ⟨s.k, s.n, s.next, s.sn, (dropGo D s.cs s.ps).1, (dropGo D s.cs s.ps).2⟩) (mayIdx_drop hm) (fun hin => ?_)
  obtain ⟨p, hp⟩ := stands_of_mem (dropGo_lens D s.cs s.ps) hin
  exact (dropGo_stands.1 hp).2 hc
theorem drop_stays (hm : mayIdx s.cs s.ps = true) (h : c ∉ D) (hc : s.cs[i]? = some c) (hp : s.ps[i]? = some p) :
    findP ⟨s.k, s.n, s.next, s.sn, (dropGo D s.cs s.ps).1, (dropGo D s.cs s.ps).2⟩ c = (p, 0) :=
  stands_findP (s := ⟨s.k, s.n, s.next, s.sn, (dropGo D s.cs s.ps).1, (dropGo D s.cs s.ps).2⟩) (mayIdx_drop hm) (dropGo_stands.2 ⟨⟨i, hc, hp⟩, h⟩)
end
end Go.Proofs.Ythbmbbbojpdlaaa
