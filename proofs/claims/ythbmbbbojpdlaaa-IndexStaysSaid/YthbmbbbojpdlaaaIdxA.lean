/-
  Where a chunk stands: the contracts of index.find and the reference's at.
-/
import Derived.Test.YthbmbbbojpdlaaaRootA
import Derived.Test.YthbmbbbojpdlaaaFn
namespace Go.Proofs.Ythbmbbbojpdlaaa
open Go.RowKit
attribute [local go_sem ↓] Go.wp_at_zero Go.wp_at_succ

/-- Where a text stands in a row first. -/
def posOf (d : ByteArray) : List ByteArray → Option Nat
  | [] => none
  | c :: l => if c = d then some 0 else (posOf d l).map (· + 1)
theorem posOf_none {d : ByteArray} : ∀ {l : List ByteArray}, posOf d l = none ↔ d ∉ l
  | [] => by simp [posOf]
  | c :: l => by
    rw [posOf]
    by_cases h : c = d
    · simp [h]
    · rw [if_neg h, Option.map_eq_none_iff, posOf_none]
      simp [Ne.symm h]
theorem posOf_at {d : ByteArray} : ∀ {l : List ByteArray} {i : Nat}, posOf d l = some i → l[i]? = some d
  | [], _, h => by simp [posOf] at h
  | c :: l, i, h => by
    rw [posOf] at h
    by_cases hc : c = d
    · rw [if_pos hc] at h
      injection h with h
      subst h
      simp [hc]
    · rw [if_neg hc, Option.map_eq_some_iff] at h
      obtain ⟨j, hj, rfl⟩ := h
      simpa using posOf_at hj
theorem rise_inj {l : List ByteArray} (h : RiseS l) {i j : Nat} {d : ByteArray} (hi : l[i]? = some d) (hj : l[j]? = some d) : i = j := by
  have key : ∀ {a b : Nat}, l[a]? = some d → l[b]? = some d → ¬ a < b := fun {a b} ha hb hab => by
    obtain ⟨h1, h2⟩ := List.getElem?_eq_some_iff.1 ha
    obtain ⟨h3, h4⟩ := List.getElem?_eq_some_iff.1 hb
    have := List.pairwise_iff_getElem.1 h a b h1 h3 hab
    rw [h2, h4, sLt_irrefl] at this
    cases this
  have h1 := key hi hj
  have h2 := key hj hi
  omega
theorem posOf_of_at {l : List ByteArray} (h : RiseS l) {i : Nat} {d : ByteArray} (hi : l[i]? = some d) : posOf d l = some i := by
  cases hp : posOf d l with
  | none => exact absurd (List.mem_of_getElem? hi) (posOf_none.1 hp)
  | some j => rw [rise_inj h (posOf_at hp) hi]
theorem chk_rise : ∀ {cs : List ByteArray} {ps : List Place} {prev : Option ByteArray}, cs.length = ps.length → chk prev cs ps = true → RiseS cs ∧ ∀ b, prev = some b → ∀ c ∈ cs, sLt b c = true
  | [], _, _, _, _ => ⟨List.Pairwise.nil, fun _ _ _ h => absurd h List.not_mem_nil⟩
  | c :: cs, [], _, hl, _ => by simp at hl
  | c :: cs, p :: ps, prev, hl, h => by
    simp [chk] at h
    obtain ⟨h1, h2⟩ := chk_rise (by simpa using hl) h.2
    have h3 := h2 c rfl
    refine ⟨List.pairwise_cons.2 ⟨fun x hx => h3 x hx, h1⟩, fun b hb x hx => ?_⟩
    subst hb
    have hbc : sLt b c = true := by
      have := h.1.1.2
      simpa [prevOk] using this
    rcases List.mem_cons.1 hx with rfl | hx
    · exact hbc
    · exact sLt_trans hbc (h3 x hx)
theorem mayIdx_rise {cs : List ByteArray} {ps : List Place} (h : mayIdx cs ps = true) : RiseS cs := by
  simp [mayIdx] at h
  exact (chk_rise h.1.1.1 h.1.2).1

/-- What the search asks at a place. -/
def geAt (cs : List ByteArray) (d : ByteArray) (i : Nat) : Bool := match cs[i]? with | some c => !sLt c d | none => false
theorem geAt_eq {cs : List ByteArray} {d c : ByteArray} {i : Nat} (h : cs[i]? = some c) : geAt cs d i = !sLt c d := by unfold geAt; rw [h]
theorem geAt_mono {cs : List ByteArray} {d : ByteArray} (hr : RiseS cs) {a b : Nat} (hab : a ≤ b) (hb : b < cs.length) (h : geAt cs d a = true) : geAt cs d b = true := by
  have xa : cs[a]? = some (cs[a]'(by omega)) := List.getElem?_eq_getElem (by omega)
  have xb : cs[b]? = some (cs[b]'(by omega)) := List.getElem?_eq_getElem (by omega)
  rcases Nat.lt_or_ge a b with h' | h'
  · rw [geAt_eq xa] at h
    rw [geAt_eq xb]
    have := List.pairwise_iff_getElem.1 hr a b (by omega) (by omega) h'
    cases hlt : sLt cs[b] d
    · rfl
    · rw [sLt_trans this hlt] at h
      cases h
  · have : a = b := by omega
    subst this
    exact h

set_option maxHeartbeats 1000000 in
theorem index_find1 (A : Option Addr) (n c : Nat) (cs : List ByteArray) (w : World) (h : StrsAt w w.heap.size A n cs) (d : ByteArray) (b1 b2 i : Nat) (hi : i < n)
    (h1 : w.cell? ⟨b1, 4, none⟩ = some (.slice A n c)) (h2 : w.cell? ⟨b2, 0, none⟩ = some (.string d)) :
    Calls Try.prog 84 #[.int .i64 i, .pointer (some ⟨b1, 0, none⟩), .pointer (some ⟨b2, 0, none⟩)] w fun e w' => e = .returned (.bool (geAt cs d i)) ∧ Below w.heap.size w w' := by
  have hn := h.2.1
  obtain ⟨b, off, x, rfl, hb1, hx, q0⟩ := h.str hi
  have e : Hid (geAt cs d i = !sLt x d) := geAt_eq hx
  obtain ⟨lt, hlt⟩ : ∃ z, z = sLt x d := ⟨_, rfl⟩
  have hcmp : Op.bytesLess x.toList d.toList = lt := hlt.symm
  rw [← hlt] at e
  replace hlt := Lib.hid hlt
  clear hx
  cases lt
  all_goals
    go_enter Try.func84, Try.ntmps84
    go_wp2
    go_quiet (fail)
    go_wp2
    go_ret
    exact ⟨ret_bool (by rw [e.out]; rfl), (by repeat (first | exact Below.refl _ _ | assumption | refine Below.drew ?_ | refine below_drewN ?_ _ | refine Below.alloc ?_ (by first | omega | (simp; try omega)) _ | refine Below.setCell ?_ (by first | omega | (simp; try omega)) _ | (refine Below.trans ?_ (Below.mono (by assumption) (by first | omega | (simp; try omega))))))⟩

theorem isFn_find1 : IsFn 84 := fun args w => by go_simp
theorem goesFn_find (A : Option Addr) (n c : Nat) (cs : List ByteArray) (w : World) (h : StrsAt w w.heap.size A n cs) (d : ByteArray) (b1 b2 : Nat)
    (h1 : w.cell? ⟨b1, 4, none⟩ = some (.slice A n c)) (h2 : w.cell? ⟨b2, 0, none⟩ = some (.string d)) (hb1 : b1 < w.heap.size) (hb2 : b2 < w.heap.size) :
    GoesFn w (.func (.func 84) #[] #[.pointer (some ⟨b1, 0, none⟩), .pointer (some ⟨b2, 0, none⟩)]) n (geAt cs d) :=
  ⟨_, _, rfl, isFn_find1, fun w1 hb i hi => index_find1 A n c cs w1 ((h.below hb).more hb.size) d b1 b2 i hi ((hb.cell (p := ⟨b1, 4, none⟩) hb1).trans h1) ((hb.cell (p := ⟨b2, 0, none⟩) hb2).trans h2)⟩

set_option maxHeartbeats 2000000 in
theorem index_find (k n next : Int) (A1 : Option Addr) (n1 c1 : Nat) (A2 : Option Addr) (n2 c2 : Nat) (A3 : Option Addr) (n3 c3 : Nat) (cs : List ByteArray) (d : ByteArray) (w : World)
    (h : StrsAt w w.heap.size A2 n2 cs) (hr : RiseS cs) (hn : n2 ≤ 1000000) :
    Calls Try.prog 64 #[stv k n next A1 n1 c1 A2 n2 c2 A3 n3 c3, .string d] w fun e w' => ∃ (m : Nat) (ok : Bool), e = .returned (.tuple #[.int .i64 m, .bool ok]) ∧ m ≤ n2 ∧ (ok = true ↔ cs[m]? = some d) ∧
      (∀ j, j < m → geAt cs d j = false) ∧ (∀ j, m ≤ j → j < n2 → geAt cs d j = true) ∧ Below w.heap.size w w' := by
  have hl := Lib.hid h.1
  have hmono : Hid (∀ a b, a ≤ b → b < n2 → geAt cs d a = true → geAt cs d b = true) := fun a b hab hb ha => geAt_mono hr hab (by have := hl.out; omega) ha
  replace hr := Lib.hid hr
  unfold stv
  go_enter Try.func64, Try.ntmps64
  go_wp2_with fail
  refine (sort_Search n2 _ _ _ (by omega) (goesFn_find A2 n2 c2 cs _ (h.to (by repeat (first | exact Below.refl _ _ | assumption | refine Below.drew ?_ | refine below_drewN ?_ _ | refine Below.alloc ?_ (by first | omega | (simp; try omega)) _ | refine Below.setCell ?_ (by first | omega | (simp; try omega)) _ | (refine Below.trans ?_ (Below.mono (by assumption) (by first | omega | (simp; try omega))))))) d w.heap.size (w.heap.size + 1) (by go_simp) (by go_simp) (by simp; omega) (by simp)) hmono.out).mono ?_
  rintro e w2 ⟨m, rfl, hmn, hlo, hhi, hbw2⟩
  have hz2 := hbw2.size
  simp at hz2
  replace hlo := Lib.hid hlo
  replace hhi := Lib.hid hhi
  have hb2 : Below w.heap.size w w2 := (by repeat (first | exact Below.refl _ _ | assumption | refine Below.drew ?_ | refine below_drewN ?_ _ | refine Below.alloc ?_ (by first | omega | (simp; try omega)) _ | refine Below.setCell ?_ (by first | omega | (simp; try omega)) _ | (refine Below.trans ?_ (Below.mono (by assumption) (by first | omega | (simp; try omega))))))
  have x3 : w2.cell? ⟨w.heap.size, 4, none⟩ = some (.slice A2 n2 c2) := by rw [hbw2.cell (by simp; omega)]; go_simp
  have x6 : w2.cell? ⟨w.heap.size + 1, 0, none⟩ = some (.string d) := by rw [hbw2.cell (by simp)]; go_simp
  clear hbw2
  by_cases hlt : m < n2
  · obtain ⟨b, off, c, rfl, hb1, hx, q0⟩ := (h.to hb2).str hlt
    replace hx := Lib.hid hx
    by_cases hc : c = d
    · have hq := str_eq hc
      replace hc := Lib.hid hc
      go_wp2
      go_quiet (fail)
      go_wp2
      go_ret2
      exact ⟨m, true, rfl, hmn, by simp [hx.out, hc.out], hlo.out, hhi.out, (by repeat (first | exact Below.refl _ _ | assumption | refine Below.drew ?_ | refine below_drewN ?_ _ | refine Below.alloc ?_ (by first | omega | (simp; try omega)) _ | refine Below.setCell ?_ (by first | omega | (simp; try omega)) _ | (refine Below.trans ?_ (Below.mono (by assumption) (by first | omega | (simp; try omega))))))⟩
    · have hq := str_ne hc
      replace hc := Lib.hid hc
      go_wp2
      go_quiet (fail)
      go_wp2
      go_ret2
      exact ⟨m, false, rfl, hmn, by simp [hx.out, hc.out], hlo.out, hhi.out, (by repeat (first | exact Below.refl _ _ | assumption | refine Below.drew ?_ | refine below_drewN ?_ _ | refine Below.alloc ?_ (by first | omega | (simp; try omega)) _ | refine Below.setCell ?_ (by first | omega | (simp; try omega)) _ | (refine Below.trans ?_ (Below.mono (by assumption) (by first | omega | (simp; try omega))))))⟩
  · have hno : Hid (cs[m]? = none) := List.getElem?_eq_none (by have := hl.out; omega)
    go_wp2
    go_quiet (fail)
    go_wp2
    go_ret2
    exact ⟨m, false, rfl, hmn, by simp [hno.out], hlo.out, hhi.out, (by repeat (first | exact Below.refl _ _ | assumption | refine Below.drew ?_ | refine below_drewN ?_ _ | refine Below.alloc ?_ (by first | omega | (simp; try omega)) _ | refine Below.setCell ?_ (by first | omega | (simp; try omega)) _ | (refine Below.trans ?_ (Below.mono (by assumption) (by first | omega | (simp; try omega))))))⟩

/-- The place as the reference tells it. -/
def atI (d : ByteArray) (l : List ByteArray) : Int := match posOf d l with | some i => (i : Int) | none => -1
theorem posOf_drop {d : ByteArray} {l : List ByteArray} {k : Nat} (h : ∀ j, j < k → l[j]? ≠ some d) : posOf d l = (posOf d (l.drop k)).map (· + k) := by
  induction l generalizing k with
  | nil => simp [posOf]
  | cons c l ih =>
    cases k with
    | zero => simp
    | succ k =>
      have hc : c ≠ d := fun e => h 0 (by omega) (by simp [e])
      rw [posOf, if_neg hc, ih (k := k) (fun j hj => by have := h (j + 1) (by omega); simpa using this), List.drop_succ_cons, Option.map_map]
      rfl
theorem atI_here {d : ByteArray} {l : List ByteArray} {k : Nat} (h : ∀ j, j < k → l[j]? ≠ some d) (hk : l[k]? = some d) : atI d l = (k : Int) := by
  obtain ⟨h1, h2⟩ := List.getElem?_eq_some_iff.1 hk
  unfold atI
  rw [posOf_drop h, List.drop_eq_getElem_cons h1, h2, posOf, if_pos rfl]
  simp
theorem atI_none {d : ByteArray} {l : List ByteArray} (h : ∀ j, j < l.length → l[j]? ≠ some d) : atI d l = -1 := by
  unfold atI
  rw [posOf_none.2 (fun hm => by obtain ⟨j, hj⟩ := List.getElem?_of_mem hm; exact h j (List.getElem?_eq_some_iff.1 hj).1 hj)]

set_option maxHeartbeats 1000000 in
theorem ref17_at (A : Option Addr) (n c : Nat) (l : List ByteArray) (d : ByteArray) (w : World) (h : StrsAt w w.heap.size A n l) :
    Calls Try.prog 65 #[.slice A n c, .string d] w fun e w' => e = .returned (.int .i64 (atI d l)) ∧ Below w.heap.size w w' := by
  have hn := h.2.1
  have hl := Lib.hid h.1
  go_enter Try.func65, Try.ntmps65
  go_wp2
  go_loopw [5] (fun i wr => ∃ j : Nat, j ≤ n ∧ i = .int .i64 j ∧ Hid (∀ q, q < j → l[q]? ≠ some d) ∧ Below w.heap.size w wr) (fun i _ => n - (intOf i).toNat)
  case atStart => exact ⟨0, Nat.zero_le _, rfl, fun q hq => absurd hq (by omega), Below.refl _ _⟩
  case round =>
    obtain ⟨j, hj, rfl, hno, hbr⟩ := hrel
    by_cases hlt : j < n
    · obtain ⟨b, off, x, rfl, hb1, hx, q0⟩ := (h.to hbr).str hlt
      replace hx := Lib.hid hx
      by_cases hc : x = d
      · have hq := str_eq hc
        have hres : Hid (atI d l = (j : Int)) := atI_here hno.out (by rw [hx.out, hc])
        replace hc := Lib.hid hc
        go_wp2
        go_ret
        exact ⟨by rw [hres.out]; rfl, hbr⟩
      · have hq := str_ne hc
        have hno' : Hid (∀ q, q < j + 1 → l[q]? ≠ some d) := fun q hq he => by
          rcases Nat.lt_or_ge q j with h' | h'
          · exact hno.out q h' he
          · have : q = j := by omega
            subst this
            have := hx.out
            rw [he] at this
            injection this with this
            exact hc this.symm
        replace hc := Lib.hid hc
        go_wp2
        go_roundw
        case rel => exact ⟨j + 1, by omega, by go_num, hno', hbr⟩
        case measure => simp [intOf]; omega
    · have hres : Hid (atI d l = -1) := atI_none fun q hq => hno.out q (by have := hl.out; omega)
      go_wp2
      go_ret
      exact ⟨by rw [hres.out]; rfl, hbr⟩
end Go.Proofs.Ythbmbbbojpdlaaa
