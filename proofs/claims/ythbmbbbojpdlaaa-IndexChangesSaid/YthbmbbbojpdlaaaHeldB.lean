/-
  The steps through a drawn region that keeps a condition, with the operation written out.
-/
import Derived.Test.YthbmbbbojpdlaaaHeld
namespace Go.Proofs.Ythbmbbbojpdlaaa
open Go Go.RowKit

section
variable {P : Program} {Q : Exit → Act → World → Prop} {S : World → Prop} {l : List Oper} {n f : Nat} {listed : Array Bool} {a : Act} {w : World}
theorem HT.takeL {i : Nat} {oi : Oper} {v : Value} (hi : l[i]? = some oi) (hB : (Region.noSelect l.toArray && Region.sinkB .any l.toArray n && Region.chainB .any l.toArray n && decide (n < l.toArray.size) && decide (i < n) && Region.free .any l.toArray listed i && (Region.ready .any l.toArray listed).contains i) = true)
    (hQ : ∀ c a w, Q (.panic c) (a.put oi.dst v) w → Q (.panic c) a w) (hy : YieldsIf P l.toArray S oi v a) (hS : S w) (h : HT P l Q S n f (listed.setIfInBounds i true) (a.put oi.dst v) w) : HT P l Q S n (f + 1) listed a w :=
  HT.take (by simpa using hi) hB hQ hy hS h
theorem HT.onlyL {i : Nat} {o : Oper} (hi : l[i]? = some o) (hB : (decide (i < n) && (Region.ready .any l.toArray listed == [i])) = true)
    (h : ∀ K : Act → World → Prop, Shut (∀ a' w', S w' → (S w' → HT P l Q S n f (listed.setIfInBounds i true) a' w') → K a' w') → if Region.wanted o (yielded l.toArray a.tmps) = true then o.wp P a w K Q else K (a.put o.dst undef) w) :
    HT P l Q S n (f + 1) listed a w := HT.only (by simpa using hi) hB h
end
end Go.Proofs.Ythbmbbbojpdlaaa
