/-
  Snapshots as an element type.
-/
import Derived.Test.YtbfephekkfieaaaElem
import Derived.Test.YtbfephekkfieaaaSnapMem
namespace Go.Proofs.Ytbfephekkfieaaa
open Go.RowKit

def snapE : Elem Snap where
  T := 33
  S := 25
  k := 3
  bytes := 32
  enc := Snap.cells
  z := .agg #[.int .i64 0, .int .i64 0, .string ⟨#[]⟩]
  und := Try.underlying25
  info := Snap.info
  zc := rfl
  pos := by decide
  small := by decide
  len := Snap.len
  one := fun x u hu => by simp [Snap.cells] at hu; rcases hu with rfl | rfl | rfl <;> rfl

end Go.Proofs.Ytbfephekkfieaaa
