/-
  Snapshots as an element type.
-/
import Derived.Test.YthbmbbbojpdlaaaElem
import Derived.Test.YthbmbbbojpdlaaaSnapMem
namespace Go.Proofs.Ythbmbbbojpdlaaa
open Go.RowKit

def snapE : Elem Snap where
  T := 36
  S := 24
  k := 3
  bytes := 32
  enc := Snap.cells
  z := .agg #[.int .i64 0, .int .i64 0, .string ⟨#[]⟩]
  und := Try.underlying24
  info := Snap.info
  zc := rfl
  pos := by decide
  small := by decide
  len := Snap.len
  one := fun x u hu => by simp [Snap.cells] at hu; rcases hu with rfl | rfl | rfl <;> rfl

end Go.Proofs.Ythbmbbbojpdlaaa
