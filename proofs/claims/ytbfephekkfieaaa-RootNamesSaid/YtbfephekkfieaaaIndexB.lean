/-
  Which states may be: the contract of the reference's May.
-/
import Derived.Test.YtbfephekkfieaaaIndexA
namespace Go.Proofs.Ytbfephekkfieaaa
open Go.RowKit
attribute [local go_sem ↓] Go.wp_at_zero Go.wp_at_succ

end Go.Proofs.Ytbfephekkfieaaa
