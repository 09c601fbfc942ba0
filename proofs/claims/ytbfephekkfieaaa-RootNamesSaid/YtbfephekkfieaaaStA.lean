/-
  States and where their rows lie.
-/
import Derived.Test.YtbfephekkfieaaaIndexB
namespace Go.Proofs.Ytbfephekkfieaaa
open Go.RowKit
attribute [local go_sem ↓] Go.wp_at_zero Go.wp_at_succ

/-- A state: its code, its next ID, its rows. -/
structure St where
  k : Int
  n : Int
  next : Int
  sn : List Snap
  cs : List ByteArray
  ps : List Place
/-- Where a state's rows lie. -/
structure Rws where
  A1 : Option Addr
  n1 : Nat
  c1 : Nat
  A2 : Option Addr
  n2 : Nat
  c2 : Nat
  A3 : Option Addr
  n3 : Nat
  c3 : Nat
abbrev Rws.val (v : Rws) (s : St) : Value := stv s.k s.n s.next v.A1 v.n1 v.c1 v.A2 v.n2 v.c2 v.A3 v.n3 v.c3
structure StAt (w : World) (B : Nat) (v : Rws) (s : St) : Prop where
  sn : SnapsAt w B v.A1 v.n1 s.sn
  cs : StrsAt w B v.A2 v.n2 s.cs
  ps : PlacesAt w B v.A3 v.n3 s.ps
  ok : ∀ p ∈ s.ps, PlaceOk p
theorem StAt.to {w w' : World} {v : Rws} {s : St} (h : StAt w w.heap.size v s) (hb : Below w.heap.size w w') : StAt w' w'.heap.size v s :=
  ⟨h.sn.to hb, h.cs.to hb, h.ps.to hb, h.ok⟩
end Go.Proofs.Ytbfephekkfieaaa
