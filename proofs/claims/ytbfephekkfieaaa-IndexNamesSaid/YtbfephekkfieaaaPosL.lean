/-
  Where a text stands in a row.
-/
import Derived.Test.YtbfephekkfieaaaStA
namespace Go.Proofs.Ytbfephekkfieaaa
open Go.RowKit
attribute [local go_sem ↓] Go.wp_at_zero Go.wp_at_succ

/-- Where a text stands in a row first. -/
def posOf (d : ByteArray) : List ByteArray → Option Nat
  | [] => none
  | c :: l => if c = d then some 0 else (posOf d l).map (· + 1)
theorem posOf_none {d : ByteArray} : ∀ {l : List ByteArray}, posOf d l = none ↔ d ∉ l
  | [] => by simp [posOf]
  | c :: l => by
    rw [posOf]
    by_cases h : c = d
    · simp [h]
    · rw [if_neg h, Option.map_eq_none_iff, posOf_none]
      simp [Ne.symm h]
theorem posOf_at {d : ByteArray} : ∀ {l : List ByteArray} {i : Nat}, posOf d l = some i → l[i]? = some d
  | [], _, h => by simp [posOf] at h
  | c :: l, i, h => by
    rw [posOf] at h
    by_cases hc : c = d
    · rw [if_pos hc] at h
      injection h with h
      subst h
      simp [hc]
    · rw [if_neg hc, Option.map_eq_some_iff] at h
      obtain ⟨j, hj, rfl⟩ := h
      simpa using posOf_at hj
theorem rise_inj {l : List ByteArray} (h : RiseS l) {i j : Nat} {d : ByteArray} (hi : l[i]? = some d) (hj : l[j]? = some d) : i = j := by
  have key : ∀ {a b : Nat}, l[a]? = some d → l[b]? = some d → ¬ a < b := fun {a b} ha hb hab => by
    obtain ⟨h1, h2⟩ := List.getElem?_eq_some_iff.1 ha
    obtain ⟨h3, h4⟩ := List.getElem?_eq_some_iff.1 hb
    have := List.pairwise_iff_getElem.1 h a b h1 h3 hab
    rw [h2, h4, sLt_irrefl] at this
    cases this
  have h1 := key hi hj
  have h2 := key hj hi
  omega
theorem posOf_of_at {l : List ByteArray} (h : RiseS l) {i : Nat} {d : ByteArray} (hi : l[i]? = some d) : posOf d l = some i := by
  cases hp : posOf d l with
  | none => exact absurd (List.mem_of_getElem? hi) (posOf_none.1 hp)
  | some j => rw [rise_inj h (posOf_at hp) hi]
theorem chk_rise : ∀ {cs : List ByteArray} {ps : List Place} {prev : Option ByteArray}, cs.length = ps.length → chk prev cs ps = true → RiseS cs ∧ ∀ b, prev = some b → ∀ c ∈ cs, sLt b c = true
  | [], _, _, _, _ => ⟨List.Pairwise.nil, fun _ _ _ h => absurd h List.not_mem_nil⟩
  | c :: cs, [], _, hl, _ => by simp at hl
  | c :: cs, p :: ps, prev, hl, h => by
    simp [chk] at h
    obtain ⟨h1, h2⟩ := chk_rise (by simpa using hl) h.2
    have h3 := h2 c rfl
    refine ⟨List.pairwise_cons.2 ⟨fun x hx => h3 x hx, h1⟩, fun b hb x hx => ?_⟩
    subst hb
    have hbc : sLt b c = true := by
      have := h.1.1.2
      simpa [prevOk] using this
    rcases List.mem_cons.1 hx with rfl | hx
    · exact hbc
    · exact sLt_trans hbc (h3 x hx)
theorem mayIdx_rise {cs : List ByteArray} {ps : List Place} (h : mayIdx cs ps = true) : RiseS cs := by
  simp [mayIdx] at h
  exact (chk_rise h.1.1.1 h.1.2).1
theorem chk_size32 : ∀ {cs : List ByteArray} {ps : List Place} {prev : Option ByteArray}, chk prev cs ps = true → ∀ c ∈ cs, c.size = 32
  | [], _, _, _ => by simp
  | c :: cs, [], _, h => by simp [chk] at h
  | c :: cs, p :: ps, prev, h => by
    simp [chk] at h
    intro d hd
    simp at hd
    rcases hd with rfl | hd
    · exact h.1.1.1
    · exact chk_size32 h.2 d hd
theorem mayIdx_size {cs : List ByteArray} {ps : List Place} (h : mayIdx cs ps = true) : ∀ c ∈ cs, c.size = 32 := by
  simp [mayIdx] at h
  exact chk_size32 h.1.2

/-- What the search asks at a place. -/
def geAt (cs : List ByteArray) (d : ByteArray) (i : Nat) : Bool := match cs[i]? with | some c => !sLt c d | none => false
theorem geAt_eq {cs : List ByteArray} {d c : ByteArray} {i : Nat} (h : cs[i]? = some c) : geAt cs d i = !sLt c d := by unfold geAt; rw [h]
theorem geAt_mono {cs : List ByteArray} {d : ByteArray} (hr : RiseS cs) {a b : Nat} (hab : a ≤ b) (hb : b < cs.length) (h : geAt cs d a = true) : geAt cs d b = true := by
  have xa : cs[a]? = some (cs[a]'(by omega)) := List.getElem?_eq_getElem (by omega)
  have xb : cs[b]? = some (cs[b]'(by omega)) := List.getElem?_eq_getElem (by omega)
  rcases Nat.lt_or_ge a b with h' | h'
  · rw [geAt_eq xa] at h
    rw [geAt_eq xb]
    have := List.pairwise_iff_getElem.1 hr a b (by omega) (by omega) h'
    cases hlt : sLt cs[b] d
    · rfl
    · rw [sLt_trans this hlt] at h
      cases h
  · have : a = b := by omega
    subst this
    exact h
end Go.Proofs.Ytbfephekkfieaaa
