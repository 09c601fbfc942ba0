/-
  A number as an unsigned one, its rest by a small one, and back.
-/
import Derived.Test.YtdhlmhkabckbaaaGreatDoorBase
namespace Go.Proofs.YtdhlmhkabckbaaaGreatDoor
open Go.RowKit
theorem wrap_u64 {m : Nat} (h : m < 18446744073709551616) : IntKind.u64.wrap (m : Int) = (m : Int) := by
  simp [IntKind.wrap, IntKind.bits, IntKind.signed]
  omega
theorem wrap_i64 {m : Nat} (h : m < 9223372036854775808) : IntKind.i64.wrap (m : Int) = (m : Int) := by
  simp [IntKind.wrap, IntKind.bits, IntKind.signed]
  split <;> omega
theorem uint_mod (n : Int) {m : Nat} (hm : 0 < m) (hn : -9223372036854775808 ≤ n ∧ n ≤ 9223372036854775807) : ∃ u q : Nat, IntKind.u64.wrap n = (u : Int) ∧ ((u : Int).tmod (m : Int) = (q : Int)) ∧ q < m := by
  have h : IntKind.u64.wrap n = n % 18446744073709551616 := by simp [IntKind.wrap, IntKind.bits, IntKind.signed]
  obtain ⟨u, hu⟩ : ∃ u : Nat, n % 18446744073709551616 = (u : Int) := ⟨(n % 18446744073709551616).toNat, by omega⟩
  refine ⟨u, u % m, h.trans hu, ?_, Nat.mod_lt _ hm⟩
  rw [Int.tmod_eq_emod_of_nonneg (by omega)]
  omega
theorem uint_vals (n : Int) {m : Nat} (hm : 0 < m) (hm2 : m < 9223372036854775808) (hn : -9223372036854775808 ≤ n ∧ n ≤ 9223372036854775807) : ∃ u q : Nat, q < m ∧ Value.int .u64 (IntKind.u64.wrap n) = Value.int .u64 u ∧ Value.int .u64 (IntKind.u64.wrap (m : Int)) = Value.int .u64 m ∧
    Value.int .u64 ((u : Int).tmod (m : Int)) = Value.int .u64 q ∧ Value.int .i64 (IntKind.i64.wrap (q : Int)) = Value.int .i64 q ∧ Value.int .i64 (wrap64 (q : Int)) = Value.int .i64 q := by
  obtain ⟨u, q, h1, h2, h3⟩ := uint_mod n hm hn
  refine ⟨u, q, h3, by rw [h1], by rw [wrap_u64 (by omega)], by rw [h2], by rw [wrap_i64 (by omega)], ?_⟩
  rw [show wrap64 (q : Int) = q by unfold wrap64; omega]

end Go.Proofs.YtdhlmhkabckbaaaGreatDoor
