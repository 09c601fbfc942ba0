/-
  Function values: what they answer, now and later. sort.Search.
-/
import Derived.Test.YtbfephekkfieaaaBase
namespace Go.Proofs.Ytbfephekkfieaaa
open Go.RowKit

/-- Function number f is Go text. -/
def IsFn (f : Nat) : Prop := ∀ (args : Array Value) (w : World), (callFunc f args).run Try.prog w = .ok (.enter f args) w

/-- v is a function value that answers g below n, now and later. -/
def GoesFn (w : World) (v : Value) (n : Nat) (g : Nat → Bool) : Prop :=
  ∃ f caps, v = .func (.func f) #[] caps ∧ IsFn f ∧ ∀ w1, Below w.heap.size w w1 → ∀ i : Nat, i < n →
    Calls Try.prog f (#[.int .i64 i] ++ caps) w1 fun e w2 => e = .returned (.bool (g i)) ∧ Below w1.heap.size w1 w2

set_option maxHeartbeats 1000000 in
theorem sort_Search (n : Nat) (v : Value) (g : Nat → Bool) (w : World) (hn : n ≤ 4611686018427387903) (hg : GoesFn w v n g) (hmono : ∀ a b, a ≤ b → b < n → g a = true → g b = true) :
    Calls Try.prog 52 #[.int .i64 n, v] w fun e w' => ∃ m : Nat, e = .returned (.int .i64 m) ∧ m ≤ n ∧ (∀ k, k < m → g k = false) ∧ (∀ k, m ≤ k → k < n → g k = true) ∧ Below w.heap.size w w' := by
  obtain ⟨f, caps, rfl, hf, hg⟩ := hg
  unfold IsFn at hf
  replace hg := Lib.hid hg
  replace hmono := Lib.hid hmono
  go_enter Try.func52, Try.ntmps52
  go_wp2
  go_loopw [5, 6] (fun vi vj wr => ∃ i j : Nat, vi = .int .i64 i ∧ vj = .int .i64 j ∧ i ≤ j ∧ j ≤ n ∧ Hid (∀ k, k < i → g k = false) ∧ Hid (∀ k, j ≤ k → k < n → g k = true) ∧ Below w.heap.size w wr) (fun vi vj _ => (intOf vj).toNat - (intOf vi).toNat)
  case atStart => exact ⟨0, n, rfl, rfl, Nat.zero_le _, Nat.le_refl _, fun k h => absurd h (by omega), fun k h h' => absurd h (by omega), Below.refl _ _⟩
  case round =>
    obtain ⟨i, j, rfl, rfl, hij, hj, h1, h2, hbw⟩ := hrel
    by_cases hlt : i < j
    · obtain ⟨m, hm⟩ : ∃ m : Nat, (i + j) / 2 = m := ⟨_, rfl⟩
      have hm1 : i ≤ m := by omega
      have hm2 : m < j := by omega
      have hmi : ((i : Int) + (j : Int)) / 2 = (m : Int) := by omega
      clear hm
      cases hq : g m
      · go_wp2_with fail
        refine (hg.out wr hbw m (by omega)).mono ?_
        rw [hq]
        rintro e w1 ⟨rfl, hb1⟩
        have hz1 := hb1.size
        have hz2 := hbw.size
        go_wp2
        go_roundw
        case rel => exact ⟨m + 1, j, by go_num, rfl, by omega, by omega, (fun k hk => by rcases Nat.lt_or_ge k i with h | h; exact h1.out k h; cases hgk : g k; rfl; have := hmono.out k m (by omega) (by omega) hgk; rw [hq] at this; cases this), h2, (by repeat (first | exact Below.refl _ _ | assumption | refine Below.drew ?_ | refine below_drewN ?_ _ | refine Below.alloc ?_ (by first | omega | (simp; try omega)) _ | refine Below.setCell ?_ (by first | omega | (simp; try omega)) _ | (refine Below.trans ?_ (Below.mono (by assumption) (by first | omega | (simp; try omega))))))⟩
        case measure => simp [intOf]; omega
      · go_wp2_with fail
        refine (hg.out wr hbw m (by omega)).mono ?_
        rw [hq]
        rintro e w1 ⟨rfl, hb1⟩
        have hz1 := hb1.size
        have hz2 := hbw.size
        go_wp2
        go_roundw
        case rel => exact ⟨i, m, rfl, rfl, by omega, by omega, h1, (fun k hk hk' => hmono.out m k hk hk' hq), (by repeat (first | exact Below.refl _ _ | assumption | refine Below.drew ?_ | refine below_drewN ?_ _ | refine Below.alloc ?_ (by first | omega | (simp; try omega)) _ | refine Below.setCell ?_ (by first | omega | (simp; try omega)) _ | (refine Below.trans ?_ (Below.mono (by assumption) (by first | omega | (simp; try omega))))))⟩
        case measure => simp [intOf]; omega
    · obtain rfl : i = j := by omega
      go_wp2
      go_ret
      exact ⟨i, rfl, hj, h1.out, h2.out, hbw⟩
end Go.Proofs.Ytbfephekkfieaaa
