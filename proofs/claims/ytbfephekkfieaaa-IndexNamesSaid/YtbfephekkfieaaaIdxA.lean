/-
  Where a chunk stands: the contracts of index.find and the reference's at.
-/
import Derived.Test.YtbfephekkfieaaaPosL
import Derived.Test.YtbfephekkfieaaaRootA
import Derived.Test.YtbfephekkfieaaaFn
namespace Go.Proofs.Ytbfephekkfieaaa
open Go.RowKit
attribute [local go_sem ↓] Go.wp_at_zero Go.wp_at_succ

set_option maxHeartbeats 1000000 in
theorem index_find1 (A : Option Addr) (n c : Nat) (cs : List ByteArray) (w : World) (h : StrsAt w w.heap.size A n cs) (d : ByteArray) (b1 b2 i : Nat) (hi : i < n)
    (h1 : w.cell? ⟨b1, 4, none⟩ = some (.slice A n c)) (h2 : w.cell? ⟨b2, 0, none⟩ = some (.string d)) :
    Calls Try.prog 53 #[.int .i64 i, .pointer (some ⟨b1, 0, none⟩), .pointer (some ⟨b2, 0, none⟩)] w fun e w' => e = .returned (.bool (geAt cs d i)) ∧ Below w.heap.size w w' := by
  have hn := h.2.1
  obtain ⟨b, off, x, rfl, hb1, hx, q0⟩ := h.str hi
  have e : Hid (geAt cs d i = !sLt x d) := geAt_eq hx
  obtain ⟨lt, hlt⟩ : ∃ z, z = sLt x d := ⟨_, rfl⟩
  have hcmp : Op.bytesLess x.toList d.toList = lt := hlt.symm
  rw [← hlt] at e
  replace hlt := Lib.hid hlt
  clear hx
  cases lt
  all_goals
    go_enter Try.func53, Try.ntmps53
    go_wp2
    go_quiet (fail)
    go_wp2
    go_ret
    exact ⟨ret_bool (by rw [e.out]; rfl), (by repeat (first | exact Below.refl _ _ | assumption | refine Below.drew ?_ | refine below_drewN ?_ _ | refine Below.alloc ?_ (by first | omega | (simp; try omega)) _ | refine Below.setCell ?_ (by first | omega | (simp; try omega)) _ | (refine Below.trans ?_ (Below.mono (by assumption) (by first | omega | (simp; try omega))))))⟩

theorem isFn_find1 : IsFn 53 := fun args w => by go_simp
theorem goesFn_find (A : Option Addr) (n c : Nat) (cs : List ByteArray) (w : World) (h : StrsAt w w.heap.size A n cs) (d : ByteArray) (b1 b2 : Nat)
    (h1 : w.cell? ⟨b1, 4, none⟩ = some (.slice A n c)) (h2 : w.cell? ⟨b2, 0, none⟩ = some (.string d)) (hb1 : b1 < w.heap.size) (hb2 : b2 < w.heap.size) :
    GoesFn w (.func (.func 53) #[] #[.pointer (some ⟨b1, 0, none⟩), .pointer (some ⟨b2, 0, none⟩)]) n (geAt cs d) :=
  ⟨_, _, rfl, isFn_find1, fun w1 hb i hi => index_find1 A n c cs w1 ((h.below hb).more hb.size) d b1 b2 i hi ((hb.cell (p := ⟨b1, 4, none⟩) hb1).trans h1) ((hb.cell (p := ⟨b2, 0, none⟩) hb2).trans h2)⟩

set_option maxHeartbeats 2000000 in
theorem index_find (k n next : Int) (A1 : Option Addr) (n1 c1 : Nat) (A2 : Option Addr) (n2 c2 : Nat) (A3 : Option Addr) (n3 c3 : Nat) (cs : List ByteArray) (d : ByteArray) (w : World)
    (h : StrsAt w w.heap.size A2 n2 cs) (hr : RiseS cs) (hn : n2 ≤ 1000000) :
    Calls Try.prog 37 #[stv k n next A1 n1 c1 A2 n2 c2 A3 n3 c3, .string d] w fun e w' => ∃ (m : Nat) (ok : Bool), e = .returned (.tuple #[.int .i64 m, .bool ok]) ∧ m ≤ n2 ∧ (ok = true ↔ cs[m]? = some d) ∧
      (∀ j, j < m → geAt cs d j = false) ∧ (∀ j, m ≤ j → j < n2 → geAt cs d j = true) ∧ Below w.heap.size w w' := by
  have hl := Lib.hid h.1
  have hmono : Hid (∀ a b, a ≤ b → b < n2 → geAt cs d a = true → geAt cs d b = true) := fun a b hab hb ha => geAt_mono hr hab (by have := hl.out; omega) ha
  replace hr := Lib.hid hr
  unfold stv
  go_enter Try.func37, Try.ntmps37
  go_wp2_with fail
  refine (sort_Search n2 _ _ _ (by omega) (goesFn_find A2 n2 c2 cs _ (h.to (by repeat (first | exact Below.refl _ _ | assumption | refine Below.drew ?_ | refine below_drewN ?_ _ | refine Below.alloc ?_ (by first | omega | (simp; try omega)) _ | refine Below.setCell ?_ (by first | omega | (simp; try omega)) _ | (refine Below.trans ?_ (Below.mono (by assumption) (by first | omega | (simp; try omega))))))) d w.heap.size (w.heap.size + 1) (by go_simp) (by go_simp) (by simp; omega) (by simp)) hmono.out).mono ?_
  rintro e w2 ⟨m, rfl, hmn, hlo, hhi, hbw2⟩
  have hz2 := hbw2.size
  simp at hz2
  replace hlo := Lib.hid hlo
  replace hhi := Lib.hid hhi
  have hb2 : Below w.heap.size w w2 := (by repeat (first | exact Below.refl _ _ | assumption | refine Below.drew ?_ | refine below_drewN ?_ _ | refine Below.alloc ?_ (by first | omega | (simp; try omega)) _ | refine Below.setCell ?_ (by first | omega | (simp; try omega)) _ | (refine Below.trans ?_ (Below.mono (by assumption) (by first | omega | (simp; try omega))))))
  have x3 : w2.cell? ⟨w.heap.size, 4, none⟩ = some (.slice A2 n2 c2) := by rw [hbw2.cell (by simp; omega)]; go_simp
  have x6 : w2.cell? ⟨w.heap.size + 1, 0, none⟩ = some (.string d) := by rw [hbw2.cell (by simp)]; go_simp
  clear hbw2
  by_cases hlt : m < n2
  · obtain ⟨b, off, c, rfl, hb1, hx, q0⟩ := (h.to hb2).str hlt
    replace hx := Lib.hid hx
    by_cases hc : c = d
    · have hq := str_eq hc
      replace hc := Lib.hid hc
      go_wp2
      go_quiet (fail)
      go_wp2
      go_ret2
      exact ⟨m, true, rfl, hmn, by simp [hx.out, hc.out], hlo.out, hhi.out, (by repeat (first | exact Below.refl _ _ | assumption | refine Below.drew ?_ | refine below_drewN ?_ _ | refine Below.alloc ?_ (by first | omega | (simp; try omega)) _ | refine Below.setCell ?_ (by first | omega | (simp; try omega)) _ | (refine Below.trans ?_ (Below.mono (by assumption) (by first | omega | (simp; try omega))))))⟩
    · have hq := str_ne hc
      replace hc := Lib.hid hc
      go_wp2
      go_quiet (fail)
      go_wp2
      go_ret2
      exact ⟨m, false, rfl, hmn, by simp [hx.out, hc.out], hlo.out, hhi.out, (by repeat (first | exact Below.refl _ _ | assumption | refine Below.drew ?_ | refine below_drewN ?_ _ | refine Below.alloc ?_ (by first | omega | (simp; try omega)) _ | refine Below.setCell ?_ (by first | omega | (simp; try omega)) _ | (refine Below.trans ?_ (Below.mono (by assumption) (by first | omega | (simp; try omega))))))⟩
  · have hno : Hid (cs[m]? = none) := List.getElem?_eq_none (by have := hl.out; omega)
    go_wp2
    go_quiet (fail)
    go_wp2
    go_ret2
    exact ⟨m, false, rfl, hmn, by simp [hno.out], hlo.out, hhi.out, (by repeat (first | exact Below.refl _ _ | assumption | refine Below.drew ?_ | refine below_drewN ?_ _ | refine Below.alloc ?_ (by first | omega | (simp; try omega)) _ | refine Below.setCell ?_ (by first | omega | (simp; try omega)) _ | (refine Below.trans ?_ (Below.mono (by assumption) (by first | omega | (simp; try omega))))))⟩

/-- The place as the reference tells it. -/
def atI (d : ByteArray) (l : List ByteArray) : Int := match posOf d l with | some i => (i : Int) | none => -1
theorem posOf_drop {d : ByteArray} {l : List ByteArray} {k : Nat} (h : ∀ j, j < k → l[j]? ≠ some d) : posOf d l = (posOf d (l.drop k)).map (· + k) := by
  induction l generalizing k with
  | nil => simp [posOf]
  | cons c l ih =>
    cases k with
    | zero => simp
    | succ k =>
      have hc : c ≠ d := fun e => h 0 (by omega) (by simp [e])
      rw [posOf, if_neg hc, ih (k := k) (fun j hj => by have := h (j + 1) (by omega); simpa using this), List.drop_succ_cons, Option.map_map]
      rfl
theorem atI_here {d : ByteArray} {l : List ByteArray} {k : Nat} (h : ∀ j, j < k → l[j]? ≠ some d) (hk : l[k]? = some d) : atI d l = (k : Int) := by
  obtain ⟨h1, h2⟩ := List.getElem?_eq_some_iff.1 hk
  unfold atI
  rw [posOf_drop h, List.drop_eq_getElem_cons h1, h2, posOf, if_pos rfl]
  simp
theorem atI_none {d : ByteArray} {l : List ByteArray} (h : ∀ j, j < l.length → l[j]? ≠ some d) : atI d l = -1 := by
  unfold atI
  rw [posOf_none.2 (fun hm => by obtain ⟨j, hj⟩ := List.getElem?_of_mem hm; exact h j (List.getElem?_eq_some_iff.1 hj).1 hj)]

end Go.Proofs.Ytbfephekkfieaaa
