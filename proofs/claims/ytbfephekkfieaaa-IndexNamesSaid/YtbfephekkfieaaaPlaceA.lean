/-
  Places: what a slice of places reads as; the contracts of mayPlace, of the reference's MayPlace; cmp.Compare, cmp.Or and byPack in worlds that only draw and grow.
-/
import Derived.Test.YtbfephekkfieaaaStrs
import Derived.Shelf.SlSortCmp.QuietGrown
import Derived.Deep.DrawnRows
namespace Go.Proofs.Ytbfephekkfieaaa
open Go.RowKit Go.Sort
attribute [local go_sem ↓] Go.wp_at_zero Go.wp_at_succ

structure Place where
  pack : ByteArray
  at_ : Int
  len : Int
instance : DecidableEq Place := fun a b => decidable_of_iff (a.pack = b.pack ∧ a.at_ = b.at_ ∧ a.len = b.len) (by cases a; cases b; simp)
instance : Inhabited Place := ⟨⟨⟨#[]⟩, 0, 0⟩⟩
def Place.cells (p : Place) : List Value := [.string p.pack, .int .i64 p.at_, .int .i64 p.len]
def Place.agg (p : Place) : Value := .agg #[.string p.pack, .int .i64 p.at_, .int .i64 p.len]
theorem Place.cells_len (p : Place) : p.cells.length = 3 := rfl
abbrev PlacesAt := RowAt 3 Place.cells
def placeE : Elem Place where
  T := 35
  S := 27
  k := 3
  bytes := 32
  enc := Place.cells
  z := .agg #[.string ⟨#[]⟩, .int .i64 0, .int .i64 0]
  und := Try.underlying27
  info := by kernel_rfl
  zc := rfl
  pos := by decide
  small := by decide
  len := Place.cells_len
  one := fun x u hu => by simp [Place.cells] at hu; rcases hu with rfl | rfl | rfl <;> rfl

theorem RowAt.placeAt {w : World} {B n b off : Nat} {l : List Place} (h : PlacesAt w B (some ⟨b, off, none⟩) n l) {i : Nat} {p : Place} (hx : l[i]? = some p) :
    w.cell? ⟨b, off + i * 3, none⟩ = some (.string p.pack) ∧ w.cell? ⟨b, off + i * 3 + 1, none⟩ = some (.int .i64 p.at_) ∧ w.cell? ⟨b, off + i * 3 + 2, none⟩ = some (.int .i64 p.len) := by
  have hi : i < n := by have := h.1; have := (List.getElem?_eq_some_iff.1 hx).1; omega
  obtain ⟨b', off', e, _, hc⟩ := h.2.2 (by omega)
  simp only [Option.some.injEq, Addr.mk.injEq] at e
  obtain ⟨rfl, rfl, _⟩ := e
  exact ⟨hc i _ hx 0 _ rfl, hc i _ hx 1 _ rfl, hc i _ hx 2 _ rfl⟩
theorem RowAt.place {w : World} {B n : Nat} {A : Option Addr} {l : List Place} (h : PlacesAt w B A n l) {i : Nat} (hi : i < n) :
    ∃ b off p, A = some ⟨b, off, none⟩ ∧ b < B ∧ l[i]? = some p ∧ w.cell? ⟨b, off + i * 3, none⟩ = some (.string p.pack) ∧ w.cell? ⟨b, off + i * 3 + 1, none⟩ = some (.int .i64 p.at_) ∧ w.cell? ⟨b, off + i * 3 + 2, none⟩ = some (.int .i64 p.len) := by
  obtain ⟨b, off, rfl, hb⟩ := h.addrOf hi
  obtain ⟨p, hp⟩ := getElem_some (l := l) (i := i) (by have := h.1; omega)
  obtain ⟨h0, h1, h2⟩ := h.placeAt hp
  exact ⟨b, off, p, rfl, hb, hp, h0, h1, h2⟩

def mayPlace (p : Place) : Bool := decide (p.pack.size = 32) && decide (0 ≤ p.at_) && decide (p.at_ ≤ 32768) && decide (1 ≤ p.len) && decide (p.len ≤ 16384) && decide (p.at_ + p.len ≤ 32768)

set_option maxHeartbeats 1000000 in
theorem index_mayPlace (p : Place) (w : World) (hb : -9223372036854775808 ≤ p.at_ ∧ p.at_ ≤ 9223372036854775807 ∧ -9223372036854775808 ≤ p.len ∧ p.len ≤ 9223372036854775807) :
    Calls Try.prog 35 #[p.agg] w fun e w' => e = .returned (.bool (mayPlace p)) ∧ Below w.heap.size w w' := by
  unfold Place.agg
  obtain ⟨b1, b2, b3, b4⟩ := hb
  go_enter Try.func35, Try.ntmps35
  go_wp2
  all_goals
    go_ret
    exact ⟨ret_bool (by rw [Bool.eq_iff_iff]; simp [mayPlace]; omega), (by repeat (first | exact Below.refl _ _ | assumption | refine Below.drew ?_ | refine below_drewN ?_ _ | refine Below.alloc ?_ (by first | omega | (simp; try omega)) _ | refine Below.setCell ?_ (by first | omega | (simp; try omega)) _ | (refine Below.trans ?_ (Below.mono (by assumption) (by first | omega | (simp; try omega))))))⟩

/-- Worlds that only draw and grow. -/
def Gr (w w' : World) : Prop := ∃ q os, w' = grow (w.drewN q) os
theorem Gr.refl (w : World) : Gr w w := ⟨0, #[], by rw [grow_empty]; rfl⟩
theorem Gr.trans {a b c : World} (h : Gr a b) (h' : Gr b c) : Gr a c := by
  obtain ⟨q, os, rfl⟩ := h
  obtain ⟨q', os', rfl⟩ := h'
  refine ⟨q + q', os ++ os', ?_⟩
  show grow (grow ((a.drewN q).drewN q') os) os' = _
  rw [grow_grow, World.drewN_drewN]
theorem Gr.alloc {a b : World} (h : Gr a b) (o : Obj) : Gr a (b.alloc o) := h.trans ⟨0, #[o], by rw [alloc_eq_grow]; rfl⟩
theorem Gr.drew {a b : World} (h : Gr a b) : Gr a b.drew := h.trans ⟨1, #[], by rw [grow_empty]; rfl⟩
theorem Gr.drewN {a b : World} (h : Gr a b) (n : Nat) : Gr a (b.drewN n) := h.trans ⟨n, #[], by rw [grow_empty]⟩
end Go.Proofs.Ytbfephekkfieaaa
