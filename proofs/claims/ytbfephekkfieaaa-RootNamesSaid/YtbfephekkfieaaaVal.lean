/-
  Numbers of bytes; what is read so far, and what is taken from it. No program in sight.
-/
import Derived.Test.YtbfephekkfieaaaNum
namespace Go.Proofs.Ytbfephekkfieaaa
open Go.RowKit

theorem be_succ (n m : Nat) : be n (m + 1) = be (n / 256) m ++ [UInt8.ofNat n] := by
  unfold be
  rw [List.range_succ, List.map_append]
  congr 1
  · apply List.map_congr_left
    intro i hi
    rw [List.mem_range] at hi
    rw [show m + 1 - 1 - i = (m - 1 - i) + 1 by omega, Nat.pow_succ, Nat.mul_comm, ← Nat.div_div_eq_div_mul]
  · simp
/-- The number of some bytes, the highest first. -/
def val (l : List UInt8) : Nat := l.foldl (fun n c => n * 256 + c.toNat) 0
theorem val_snoc (l : List UInt8) (c : UInt8) : val (l ++ [c]) = val l * 256 + c.toNat := by simp [val]
theorem val_take {l : List UInt8} {k : Nat} {c : UInt8} (h : l[k]? = some c) : val (l.take (k + 1)) = val (l.take k) * 256 + c.toNat := by
  rw [List.take_add_one, h]
  exact val_snoc _ _
theorem be_val_len : ∀ (m : Nat) (l : List UInt8), l.length = m → be (val l) m = l ∧ val l < 256 ^ m
  | 0, l, h => by
    have : l = [] := List.eq_nil_of_length_eq_zero h
    subst this
    simp [be, val]
  | m + 1, l, h => by
    have hne : l ≠ [] := by intro h0; subst h0; simp at h
    have hl := List.dropLast_concat_getLast hne
    obtain ⟨ih, hv⟩ := be_val_len m l.dropLast (by simp [h])
    have hc := (l.getLast hne).toNat_lt
    rw [← hl, be_succ, val_snoc]
    refine ⟨?_, ?_⟩
    · rw [show (val l.dropLast * 256 + (l.getLast hne).toNat) / 256 = val l.dropLast by omega, ih]
      congr 2
      apply UInt8.toNat_inj.1
      rw [UInt8.toNat_ofNat']
      omega
    · rw [Nat.pow_succ]
      omega
theorem be_val (l : List UInt8) : be (val l) l.length = l := (be_val_len _ l rfl).1
theorem val_lt (l : List UInt8) : val l < 256 ^ l.length := (be_val_len _ l rfl).2
theorem val_be : ∀ {m n : Nat}, n < 256 ^ m → val (be n m) = n
  | 0, n, h => by
    have : n = 0 := by simpa using h
    subst this
    rfl
  | m + 1, n, h => by
    rw [be_succ, val_snoc, val_be (by rw [Nat.pow_succ] at h; exact Nat.div_lt_of_lt_mul (by omega)), UInt8.toNat_ofNat']
    omega
theorem be_inj {m n n' : Nat} (h : n < 256 ^ m) (h' : n' < 256 ^ m) (e : be n m = be n' m) : n = n' := by
  rw [← val_be h, ← val_be h', e]

/-- The number of eight bytes, as a number with a sign. -/
def sval (l : List UInt8) : Int := if val l < 9223372036854775808 then (val l : Int) else (val l : Int) - 18446744073709551616

/-- What is read so far: was something bad, and what is left. -/
abbrev Pst := Bool × List UInt8
def tk (n : Nat) (p : Pst) : List UInt8 × Pst := if n ≤ p.2.length then (p.2.take n, (p.1, p.2.drop n)) else ([], (true, []))
def gt (n : Nat) (p : Pst) : Int × Pst := (sval (tk n p).1, (tk n p).2)

theorem sval_small {l : List UInt8} (h : l.length ≤ 4) : sval l = (val l : Int) := by
  have h1 := val_lt l
  have h2 : 256 ^ l.length ≤ 256 ^ 4 := Nat.pow_le_pow_right (by omega) h
  unfold sval
  rw [if_pos (by omega)]
theorem sval_pos {l : List UInt8} (h : 0 ≤ sval l) (hl : l.length ≤ 8) : sval l = (val l : Int) := by
  have h1 := val_lt l
  have h2 : 256 ^ l.length ≤ 256 ^ 8 := Nat.pow_le_pow_right (by omega) hl
  unfold sval at h ⊢
  by_cases h3 : val l < 9223372036854775808
  · rw [if_pos h3]
  · rw [if_neg h3] at h
    omega
theorem be_sval {l : List UInt8} {m : Nat} (hl : l.length = m) (h : m ≤ 4 ∨ (m ≤ 8 ∧ 0 ≤ sval l)) : be (sval l).toNat m = l := by
  have : sval l = (val l : Int) := by
    rcases h with h | ⟨h, h'⟩
    · exact sval_small (by omega)
    · exact sval_pos h' (by omega)
  rw [this, Int.toNat_natCast, ← hl]
  exact be_val l
theorem tk_sound {n : Nat} {p : Pst} (h : (tk n p).2.1 = false) : p.1 = false ∧ p.2 = (tk n p).1 ++ (tk n p).2.2 ∧ (tk n p).1.length = n := by
  unfold tk at h ⊢
  by_cases hn : n ≤ p.2.length
  · rw [if_pos hn] at h ⊢
    exact ⟨h, (List.take_append_drop n p.2).symm, by simp; omega⟩
  · rw [if_neg hn] at h
    cases h
theorem tk_of {l r : List UInt8} {n : Nat} (h : l.length = n) (b : Bool) : tk n (b, l ++ r) = (l, (b, r)) := by
  unfold tk
  subst h
  rw [if_pos (by simp)]
  simp
theorem tk_stay {n : Nat} {p : Pst} (h : p.1 = true) : (tk n p).2.1 = true := by
  unfold tk
  split
  · exact h
  · rfl


theorem sval_be {n : Int} {m : Nat} (h0 : 0 ≤ n) (h : n.toNat < 256 ^ m) (h' : n < 9223372036854775808) : sval (be n.toNat m) = n := by
  unfold sval
  rw [val_be h, if_pos (by omega)]
  omega
theorem gt_of {n : Int} {m : Nat} (h0 : 0 ≤ n) (h : n.toNat < 256 ^ m) (h' : n < 9223372036854775808) (r : List UInt8) (b : Bool) : gt m (b, be n.toNat m ++ r) = (n, (b, r)) := by
  unfold gt
  rw [tk_of (be_len _ _), sval_be h0 h h']
end Go.Proofs.Ytbfephekkfieaaa
