/-
  Words for memory, used by all proofs of this seat: a slice value that reads as a list of elements of k cells each.
-/
import Derived.Test.YtdhlmhkabckbaaaGreatDoorRows
import Derived.WalkKit
import Derived.WalkSpells
import Derived.WalkLawsBesides
import Derived.Deep.QuietTactic
import Derived.BigQuiet
import Derived.Lib.Hide
import Derived.Deep.Draws
import Derived.Deep.OwnRows
import Derived.OwnWalk
import Derived.Maps.AppendAt
import Derived.Deep.AppendLies
import Derived.RegionTactic
import Derived.Deep.RegionWith
import Derived.Deep.RegionHeld3
import Derived.Deep.RegionLaw
namespace Go.Proofs.YtdhlmhkabckbaaaGreatDoor
open Go.RowKit

theorem below_drewN {B : Nat} {a w : World} (h : Below B a w) (n : Nat) : Below B a (w.drewN n) := ⟨h.os, h.tape, h.output, h.size, h.block⟩
theorem bcell {W w1 : World} (hb : Below W.heap.size W w1) : (∀ b o, b < W.heap.size → w1.cell? ⟨b, o, none⟩ = W.cell? ⟨b, o, none⟩) ∧ (∀ b o, b < W.heap.size → w1.frozen? ⟨b, o, none⟩ = W.frozen? ⟨b, o, none⟩) :=
  ⟨fun b o h => hb.cell (p := ⟨b, o, none⟩) h, fun b o h => hb.frozen (p := ⟨b, o, none⟩) h⟩
theorem ret_eq {a b : Value} (h : a = b) : Ending.returned a = .returned b := by rw [h]
theorem ret_bool {a b : Bool} (h : a = b) : Ending.returned (.bool a) = .returned (.bool b) := by rw [h]
theorem ret_int {k : IntKind} {a b : Int} (h : a = b) : Ending.returned (.int k a) = .returned (.int k b) := by rw [h]
theorem drop_cons {α : Type} {l : List α} {k : Nat} {x : α} (h : l[k]? = some x) : l.drop k = x :: l.drop (k + 1) := by
  obtain ⟨hk, rfl⟩ := List.getElem?_eq_some_iff.1 h
  exact List.drop_eq_getElem_cons hk

/-! A region that draws its order, whose operations read what lay below B, or call what only makes memory: one walk of the text's order serves (the class of worlds of the kit's wp_region_quiet: those of which 'Below B w' is known). -/
structure Ext (B : Nat) (w : World) where
  world : World
  below : Below B w world
instance Ext.nonempty (B : Nat) (w : World) : Nonempty (Ext B w) := ⟨⟨w, Below.refl _ _⟩⟩
@[go_sem] theorem Ext.cell {B : Nat} {w : World} (u : Ext B w) (b o : Nat) (h : b < B) : u.world.cell? ⟨b, o, none⟩ = w.cell? ⟨b, o, none⟩ := u.below.cell (p := ⟨b, o, none⟩) h
theorem wp_region_ext {P : Program} (B : Nat) {id : Nat} {Q : Exit → Act → World → Prop} {a : Act} {w : World} {l : List Oper} (hm : P.follows .mixedOrders = true) (hB : Region.lexB .any l.toArray = true)
    (h : wpQuiet P l.toArray (fun w' => ∃ u : Ext B w, w' = u.world) (fun a' => ∀ w', (∃ u : Ext B w, w' = u.world) → Q .normal a' w') l a) : (Code.region id l.toArray true).wp P Q a w :=
  wp_region_quiet (C := fun w' => ∃ u : Ext B w, w' = u.world) hm hB ⟨⟨w.drew, (Below.refl _ _).drew⟩, rfl⟩ (by simpa using h)
theorem Ext.of {B : Nat} {w w' : World} (h : ∃ u : Ext B w, w' = u.world) : Below B w w' := by obtain ⟨u, rfl⟩ := h; exact u.below
theorem Calls.ext {P : Program} {f : FuncId} {args : Array Value} {B : Nat} {w : World} {u : Ext B w} {v : Value} (hB : B ≤ w.heap.size)
    (h : Calls P f args u.world fun e w' => e = .returned v ∧ Below u.world.heap.size u.world w') : Calls P f args u.world fun e w'' => e = .returned v ∧ ∃ u' : Ext B w, w'' = u'.world :=
  h.mono fun _ w' ⟨he, hb⟩ => ⟨he, ⟨w', u.below.trans (hb.mono (Nat.le_trans hB u.below.size))⟩, rfl⟩

/-- The slice value '.slice A n c' reads as the list l, each element k cells, below block B. -/
def RowAt {α : Type} (k : Nat) (enc : α → List Value) (w : World) (B : Nat) (A : Option Addr) (n : Nat) (l : List α) : Prop :=
  l.length = n ∧ n ≤ 9223372036854775807 ∧ (0 < n → ∃ b off, A = some ⟨b, off, none⟩ ∧ b < B ∧ ∀ i x, l[i]? = some x → ∀ j v, (enc x)[j]? = some v → w.cell? ⟨b, off + i * k + j, none⟩ = some v)

section
variable {α : Type} {k : Nat} {enc : α → List Value} {w w' : World} {B B' n : Nat} {A : Option Addr} {l : List α}
theorem RowAt.keep (h : RowAt k enc w B A n l) (hk : ∀ p : Addr, p.block < B → w'.cell? p = w.cell? p) : RowAt k enc w' B A n l :=
  ⟨h.1, h.2.1, fun hn => by
    obtain ⟨b, off, e, hb, hc⟩ := h.2.2 hn
    exact ⟨b, off, e, hb, fun i x hx j v hv => (hk _ hb).trans (hc i x hx j v hv)⟩⟩
theorem RowAt.more (h : RowAt k enc w B A n l) (hB : B ≤ B') : RowAt k enc w B' A n l :=
  ⟨h.1, h.2.1, fun hn => by
    obtain ⟨b, off, e, hb, hc⟩ := h.2.2 hn
    exact ⟨b, off, e, by omega, hc⟩⟩
theorem RowAt.below (h : RowAt k enc w B A n l) (hb : Below B w w') : RowAt k enc w' B A n l := h.keep fun _ hp => hb.cell hp
theorem RowAt.to (h : RowAt k enc w w.heap.size A n l) (hb : Below w.heap.size w w') : RowAt k enc w' w'.heap.size A n l := (h.below hb).more hb.size
theorem RowAt.drew (h : RowAt k enc w B A n l) : RowAt k enc w.drew B A n l := h
theorem RowAt.drewN (h : RowAt k enc w B A n l) (m : Nat) : RowAt k enc (w.drewN m) B A n l := h
theorem RowAt.alloc (h : RowAt k enc w B A n l) (hB : B ≤ w.heap.size) (o : Obj) : RowAt k enc (w.alloc o) B A n l := h.keep fun p hp => World.cell?_alloc_lt w o p (by omega)
theorem RowAt.none_ : RowAt k enc w B A 0 [] := ⟨rfl, by omega, fun h => absurd h (by omega)⟩
end

structure Snap where
  id : Int
  time : Int
  root : ByteArray

instance : DecidableEq Snap := fun a b => decidable_of_iff (a.id = b.id ∧ a.time = b.time ∧ a.root = b.root) (by cases a; cases b; simp)

def Snap.cells (s : Snap) : List Value := [.int .i64 s.id, .int .i64 s.time, .string s.root]
def Snap.agg (s : Snap) : Value := .agg #[.int .i64 s.id, .int .i64 s.time, .string s.root]
def Snap.same (a b : Snap) : Bool := decide (a = b)
theorem Snap.same_iff {a b : Snap} : a.same b = true ↔ a = b := by simp [Snap.same]

abbrev SnapsAt := RowAt 3 Snap.cells

theorem RowAt.snap {w : World} {B n : Nat} {A : Option Addr} {l : List Snap} (h : SnapsAt w B A n l) {i : Nat} (hi : i < n) :
    ∃ b off s, A = some ⟨b, off, none⟩ ∧ b < B ∧ l[i]? = some s ∧ w.cell? ⟨b, off + i * 3, none⟩ = some (.int .i64 s.id) ∧ w.cell? ⟨b, off + i * 3 + 1, none⟩ = some (.int .i64 s.time) ∧
      w.cell? ⟨b, off + i * 3 + 2, none⟩ = some (.string s.root) := by
  obtain ⟨hl, _, hc⟩ := h
  obtain ⟨b, off, e, hb, hc⟩ := hc (by omega)
  have hx : l[i]? = some (l[i]'(by omega)) := List.getElem?_eq_getElem (by omega)
  exact ⟨b, off, _, e, hb, hx, hc i _ hx 0 _ rfl, hc i _ hx 1 _ rfl, hc i _ hx 2 _ rfl⟩
theorem RowAt.snapAt {w : World} {B n b off : Nat} {l : List Snap} (h : SnapsAt w B (some ⟨b, off, none⟩) n l) {i : Nat} (hi : i < n) :
    ∃ s, l[i]? = some s ∧ w.cell? ⟨b, off + i * 3, none⟩ = some (.int .i64 s.id) ∧ w.cell? ⟨b, off + i * 3 + 1, none⟩ = some (.int .i64 s.time) ∧
      w.cell? ⟨b, off + i * 3 + 2, none⟩ = some (.string s.root) := by
  obtain ⟨b', off', s, e, _, hx, h0, h1, h2⟩ := h.snap hi
  simp only [Option.some.injEq, Addr.mk.injEq] at e
  obtain ⟨rfl, rfl, _⟩ := e
  exact ⟨s, hx, h0, h1, h2⟩

theorem getElem_some {α : Type} {l : List α} {i : Nat} (h : i < l.length) : ∃ x, l[i]? = some x := ⟨l[i], List.getElem?_eq_getElem h⟩
theorem RowAt.snapEx {w : World} {B n b off : Nat} {l : List Snap} (h : SnapsAt w B (some ⟨b, off, none⟩) n l) {i : Nat} {s : Snap} (hx : l[i]? = some s) :
    w.cell? ⟨b, off + i * 3, none⟩ = some (.int .i64 s.id) ∧ w.cell? ⟨b, off + i * 3 + 1, none⟩ = some (.int .i64 s.time) ∧ w.cell? ⟨b, off + i * 3 + 2, none⟩ = some (.string s.root) := by
  obtain ⟨s', hx', q⟩ := h.snapAt (i := i) (by have := h.1; have := (List.getElem?_eq_some_iff.1 hx).1; omega)
  rw [hx] at hx'
  injection hx' with hx'
  subst hx'
  exact q
theorem RowAt.addr {w : World} {B n i : Nat} {A : Option Addr} {l : List Snap} (h : SnapsAt w B A n l) (hi : i < n) : ∃ b off, A = some ⟨b, off, none⟩ ∧ b < B := by
  obtain ⟨b, off, e, hb, _⟩ := h.2.2 (by omega)
  exact ⟨b, off, e, hb⟩
end Go.Proofs.YtdhlmhkabckbaaaGreatDoor
