/-
  Strings, their order, rising rows of strings, and the row with one string more, each once. No program in sight (but for the words).
-/
import Derived.Test.YtdhlmhkabckbaaaGreatDoorBase
import Derived.Sort.KeysCollected
import Derived.Sort.Walk0
namespace Go.Proofs.YtdhlmhkabckbaaaGreatDoor
open Go.RowKit

theorem bytes_beq (a b : ByteArray) : (a == b) = true ↔ a = b := by
  obtain ⟨x⟩ := a
  obtain ⟨y⟩ := b
  show ByteArray.beq ⟨x⟩ ⟨y⟩ = true ↔ _
  unfold ByteArray.beq
  simp
instance lawfulBytes : LawfulBEq ByteArray where
  eq_of_beq {a b} h := (bytes_beq a b).1 h
  rfl {a} := (bytes_beq a a).2 rfl

def strCell (s : ByteArray) : List Value := [.string s]
theorem strCell_len (s : ByteArray) : (strCell s).length = 1 := rfl
abbrev StrsAt := RowAt 1 strCell
abbrev bl (s : ByteArray) : List UInt8 := s.data.toList
theorem bl_inj {a b : ByteArray} (h : bl a = bl b) : a = b := by
  obtain ⟨⟨x⟩⟩ := a
  obtain ⟨⟨y⟩⟩ := b
  simp [bl] at h
  rw [h]
theorem toList_bl (a : ByteArray) : a.toList = bl a := by
  rw [ByteArray.toList_eq]
/-- Go's '<' on strings. -/
def sLt (a b : ByteArray) : Bool := Op.bytesLess a.toList b.toList
theorem sLt_iff {a b : ByteArray} : sLt a b = true ↔ bl a < bl b := by
  unfold sLt
  rw [bytesLess_eq, toList_bl, toList_bl]
  simp
theorem sLt_irrefl (a : ByteArray) : sLt a a = false := by
  cases h : sLt a a
  · rfl
  · exact absurd (sLt_iff.1 h) (List.lt_irrefl _)
theorem sLt_trans {a b c : ByteArray} (h : sLt a b = true) (h' : sLt b c = true) : sLt a c = true := sLt_iff.2 (List.lt_trans (sLt_iff.1 h) (sLt_iff.1 h'))
theorem sLt_tri (a b : ByteArray) : sLt a b = true ∨ a = b ∨ sLt b a = true := by
  by_cases h : bl a < bl b
  · exact .inl (sLt_iff.2 h)
  · by_cases h' : bl b < bl a
    · exact .inr (.inr (sLt_iff.2 h'))
    · exact .inr (.inl (bl_inj (List.le_antisymm (List.not_lt.1 h') (List.not_lt.1 h))))
theorem sLt_asymm {a b : ByteArray} (h : sLt a b = true) : sLt b a = false := by
  cases h' : sLt b a
  · rfl
  · have := sLt_trans h h'
    rw [sLt_irrefl] at this
    cases this
theorem sLt_ne {a b : ByteArray} (h : sLt a b = true) : a ≠ b := by
  rintro rfl
  rw [sLt_irrefl] at h
  cases h

theorem str_eq {a b : ByteArray} (h : a = b) : (a.toList == b.toList) = true := by rw [h]; simp
theorem str_ne {a b : ByteArray} (h : a ≠ b) : (a.toList == b.toList) = false := by
  rw [toList_bl, toList_bl]
  simpa using fun e => h (bl_inj e)

/-- A row that rises, each once. -/
abbrev RiseS (l : List ByteArray) : Prop := l.Pairwise fun a b => sLt a b = true
theorem rise_unique : ∀ {l l' : List ByteArray}, RiseS l → RiseS l' → (∀ x, x ∈ l ↔ x ∈ l') → l = l'
  | [], [], _, _, _ => rfl
  | [], b :: s, _, _, h => by have := (h b).2 (by simp); simp at this
  | a :: r, [], _, _, h => by have := (h a).1 (by simp); simp at this
  | a :: r, b :: s, h1, h2, h => by
    obtain ⟨a1, a2⟩ := List.pairwise_cons.1 h1
    obtain ⟨b1, b2⟩ := List.pairwise_cons.1 h2
    have hab : a = b := by
      rcases List.mem_cons.1 ((h a).1 (by simp)) with e | ha
      · exact e
      · rcases List.mem_cons.1 ((h b).2 (by simp)) with e | hb
        · exact e.symm
        · exact absurd (sLt_trans (a1 b hb) (b1 a ha)) (by rw [sLt_irrefl]; simp)
    subst hab
    rw [rise_unique a2 b2 (fun p => ⟨fun hp => by
      rcases List.mem_cons.1 ((h p).1 (by simp [hp])) with e | hp'
      · have := a1 p hp
        rw [e, sLt_irrefl] at this
        cases this
      · exact hp', fun hp => by
      rcases List.mem_cons.1 ((h p).2 (by simp [hp])) with e | hp'
      · have := b1 p hp
        rw [e, sLt_irrefl] at this
        cases this
      · exact hp'⟩)]

/-- A rising row with one more, each once: as the reference puts it, from the k-th on. -/
def putGo (x : ByteArray) : Bool → List ByteArray → List ByteArray
  | done, [] => if done then [] else [x]
  | done, y :: l => (if !done && !sLt y x then [x] else []) ++ (if y = x then [] else [y]) ++ putGo x (done || !sLt y x) l
def putS (l : List ByteArray) (x : ByteArray) : List ByteArray := putGo x false l

theorem putGo_done (x : ByteArray) : ∀ {l : List ByteArray}, (∀ y ∈ l, sLt x y = true) → putGo x true l = l
  | [], _ => rfl
  | y :: l, h => by
    have hy := h y (by simp)
    have hne : y ≠ x := (sLt_ne hy).symm
    rw [putGo, Bool.true_or, putGo_done x (fun z hz => h z (by simp [hz]))]
    simp [hne]
theorem putGo_mem (x : ByteArray) : ∀ (l : List ByteArray) (d : Bool) (z : ByteArray), z ∈ putGo x d l ↔ ((d = false ∧ z = x) ∨ (z ∈ l ∧ z ≠ x))
  | [], d, z => by cases d <;> simp [putGo]
  | y :: l, d, z => by
    rw [putGo, List.mem_append, List.mem_append, putGo_mem x l]
    cases d <;> by_cases hy : sLt y x = true <;> by_cases he : y = x <;> simp [hy, he] <;> grind
theorem putS_mem (l : List ByteArray) (x z : ByteArray) : z ∈ putS l x ↔ z = x ∨ z ∈ l := by
  unfold putS
  rw [putGo_mem]
  by_cases h : z = x <;> simp [h]
theorem putS_rise : ∀ {l : List ByteArray} (x : ByteArray), RiseS l → RiseS (putS l x)
  | [], x, _ => by simp [putS, putGo]
  | y :: l, x, h => by
    obtain ⟨h1, h2⟩ := List.pairwise_cons.1 h
    unfold putS
    rw [putGo]
    rcases sLt_tri y x with hy | rfl | hy
    · have hne : y ≠ x := sLt_ne hy
      have ih := putS_rise x h2
      unfold putS at ih
      simp only [hy, hne, Bool.not_true, Bool.and_false, Bool.false_eq_true, if_false, List.nil_append, Bool.or_false, List.singleton_append]
      refine List.pairwise_cons.2 ⟨fun z hz => ?_, ih⟩
      rcases (putS_mem l x z).1 hz with rfl | hz
      · exact hy
      · exact h1 z hz
    · rw [sLt_irrefl]
      simp only [Bool.not_false, Bool.and_self, if_true, Bool.or_true, List.append_nil, List.singleton_append]
      rw [putGo_done y h1]
      exact h
    · have hn : sLt y x = false := sLt_asymm hy
      have hne : y ≠ x := (sLt_ne hy).symm
      simp only [hn, hne, Bool.not_false, Bool.and_self, if_true, if_false, Bool.or_true, List.cons_append, List.nil_append]
      rw [putGo_done x (fun z hz => sLt_trans hy (h1 z hz))]
      refine List.pairwise_cons.2 ⟨fun z hz => ?_, h⟩
      simp at hz
      rcases hz with rfl | hz
      · exact hy
      · exact sLt_trans hy (h1 z hz)

/-- All of a list, rising, each once. -/
def setS (l : List ByteArray) : List ByteArray := l.foldl putS []
theorem foldS (l : List ByteArray) : ∀ (m : List ByteArray), RiseS m → RiseS (l.foldl putS m) ∧ ∀ z, z ∈ l.foldl putS m ↔ z ∈ m ∨ z ∈ l := by
  induction l with
  | nil => intro m h; exact ⟨h, by simp⟩
  | cons x l ih =>
    intro m h
    obtain ⟨h1, h2⟩ := ih (putS m x) (putS_rise x h)
    refine ⟨h1, fun z => ?_⟩
    rw [List.foldl_cons, h2, putS_mem, List.mem_cons]
    grind
theorem putGo_len (x : ByteArray) : ∀ (l : List ByteArray) (d : Bool), (putGo x d l).length ≤ l.length + (if d then 0 else 1)
  | [], d => by cases d <;> simp [putGo]
  | y :: l, d => by
    rw [putGo, List.length_append, List.length_append]
    have h0 := putGo_len x l false
    have h1 := putGo_len x l true
    generalize sLt y x = b
    simp only [if_true, Bool.false_eq_true, if_false] at h0 h1
    cases d <;> cases b <;> by_cases h : y = x <;> simp [h] <;> omega
theorem foldS_len (l : List ByteArray) : ∀ (m : List ByteArray), (l.foldl putS m).length ≤ m.length + l.length := by
  induction l with
  | nil => intro m; simp
  | cons x l ih =>
    intro m
    have h1 := ih (putS m x)
    have h2 : (putS m x).length ≤ m.length + 1 := putGo_len x m false
    rw [List.foldl_cons, List.length_cons]
    omega
theorem setS_len (l : List ByteArray) : (setS l).length ≤ l.length := by
  have := foldS_len l []
  simpa [setS] using this
theorem setS_rise (l : List ByteArray) : RiseS (setS l) := (foldS l [] List.Pairwise.nil).1
theorem setS_mem (l : List ByteArray) (z : ByteArray) : z ∈ setS l ↔ z ∈ l := by
  have := (foldS l [] List.Pairwise.nil).2 z
  simpa [setS] using this
theorem setS_snoc (l : List ByteArray) (x : ByteArray) : setS (l ++ [x]) = putS (setS l) x := by simp [setS, List.foldl_append]
theorem setS_unique {l m : List ByteArray} (h : RiseS m) (hm : ∀ z, z ∈ m ↔ z ∈ l) : m = setS l := rise_unique h (setS_rise l) fun z => by rw [hm, setS_mem]
end Go.Proofs.YtdhlmhkabckbaaaGreatDoor
