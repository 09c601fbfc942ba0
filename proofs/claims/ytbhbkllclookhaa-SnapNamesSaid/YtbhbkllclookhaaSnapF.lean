/-
  Plain laws of lists of snapshots: one more behind a list; an open step for append of a row.
-/
import Derived.Test.YtbhbkllclookhaaSnapE
import Derived.Deep.DeepCutAuto
namespace Go.Proofs.Ytbhbkllclookhaa
open Go.RowKit

def above (l : List Snap) (s : Snap) : Bool := decide (l.length = 0) || decide (lastOf l l.length < s.id)
def wantMore (l : List Snap) (s : Snap) : Bool := mayL l && mayOne s && above l s && decide (l.length < 32)

theorem rising_snoc (s : Snap) : ∀ (l : List Snap) (y : Int), rising y (l ++ [s]) = (rising y l && mayOne s && decide ((match l.getLast? with | some t => t.id | none => y) < s.id))
  | [], y => by simp [rising]; rfl
  | x :: l, y => by
    rw [List.cons_append, rising, rising, rising_snoc s l x.id]
    cases l with
    | nil => simp [Bool.and_assoc]; rfl
    | cons t l => simp [List.getLast?_cons, Bool.and_assoc]
theorem last_getLast (l : List Snap) : lastOf l l.length = (match l.getLast? with | some t => t.id | none => 0) := by
  cases l with
  | nil => rfl
  | cons x l =>
    rw [List.getLast?_eq_getElem?]
    simp [lastOf]
theorem mayL_snoc (l : List Snap) (s : Snap) : mayL (l ++ [s]) = wantMore l s := by
  unfold mayL wantMore above
  rw [rising_snoc, ← last_getLast, mayL, List.length_append]
  rw [Bool.eq_iff_iff]
  simp
  constructor
  · rintro ⟨⟨⟨h1, h2⟩, h3⟩, h4⟩
    exact ⟨⟨⟨⟨h1, by omega⟩, h2⟩, .inr h3⟩, by omega⟩
  · rintro ⟨⟨⟨⟨h1, _⟩, h2⟩, h3⟩, h4⟩
    refine ⟨⟨⟨h1, h2⟩, ?_⟩, by omega⟩
    rcases h3 with h3 | h3
    · subst h3
      have := mayOne_pos h2
      simp [lastOf]; exact this
    · exact h3
theorem add_more {l : List Snap} {s : Snap} (h : wantMore l s = true) : addRes l s = (l ++ [s], 0) := by
  unfold wantMore above at h
  simp at h
  obtain ⟨⟨⟨h1, h2⟩, h3⟩, h4⟩ := h
  unfold addRes
  rw [if_pos h1, if_pos, if_neg (by omega)]
  rw [h2]
  rcases h3 with h3 | h3
  · subst h3
    have := mayOne_pos h2
    exact decide_eq_true this
  · simpa using h3
theorem add_less {l : List Snap} {s : Snap} (h : wantMore l s = false) : ∃ z, addRes l s = ([], z) ∧ z ≠ 0 := by
  unfold addRes
  split
  · rename_i h1
    split
    · rename_i h2
      split
      · exact ⟨_, rfl, by decide⟩
      · rename_i h3
        exfalso
        simp at h2
        have hl : l.length ≤ 32 := by simp [mayL] at h1; exact h1.2
        simp [wantMore, above, h1, h2] at h
        omega
    · exact ⟨_, rfl, by decide⟩
  · exact ⟨_, rfl, by decide⟩

theorem step_append_snaps {ops : Array Oper} {o : Oper} {a : Act} {w : World} {K : Act → World → Prop} {Q : Exit → Act → World → Prop} {E : Prop} (hgd : o.guard = none) (s x : Operand)
    (ho : o.op = .call { callee := .builtin .append, args := #[s, x], argTypes := #[22, 22] })
    (base : Nat) (v : Value) (l : List Snap) (hs : a.eval s = v) (A : Option Addr) (n c : Nat) (l' : List Snap) (hx : a.eval x = .slice A n c)
    (hown : SnapsOwn w base v l) (B : Nat) (hr : SnapsAt w B A n l')
    (hl : l.length + n ≤ 1000000000) (hbase : base ≤ w.heap.size)
    (h : ∀ v' w', SnapsOwn w' base v' (l ++ l') → w.grownBy w' v.ownBlock → (v'.ownBlock = v.ownBlock ∨ v'.ownBlock = some w.heap.size) → K (a.put o.dst v') w') :
    if Region.wanted o (yielded ops a.tmps) = true then Oper.wp Try.prog o a w K Q else E := by
  obtain ⟨i, hi, hz, hsz, hby⟩ := info3 Snap.info
  refine step_append_any w hgd s x _ ho base _ i _ 3 32 Try.underlying22 hi hz hsz hby rfl (by omega) v l.length _ hs hown B A n c (l'.flatMap Snap.cells) hx (hr.reads Snap.len (by omega)) (snap_cells_one l') (by simp only [maxLen]; omega) (by omega) hbase ?_
  intro v' w' ho' hg hat
  refine h v' w' ?_ hg hat
  unfold SnapsOwn Owns
  rw [List.length_append, List.flatMap_append, hr.1]
  exact ho'
end Go.Proofs.Ytbhbkllclookhaa
