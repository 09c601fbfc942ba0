/-
  Package sha, first part: numbers' bits turned, roots, primes.
-/
import Derived.Test.YtdhlmhkabckbaaaGreatDoorLayS
import Derived.Test.YtdhlmhkabckbaaaGreatDoorElem
import Derived.Deep.DeepCutAuto
import Derived.Test.YtdhlmhkabckbaaaGreatDoorKrip
import Derived.Test.YtdhlmhkabckbaaaGreatDoorHeld
import Derived.Deep.Heap
import Derived.Test.YtdhlmhkabckbaaaGreatDoorTail
import Derived.Test.YtdhlmhkabckbaaaGreatDoorBytes
import Derived.Laws.Tables
import Derived.Laws.Rows
import Derived.ArgAppend
import Derived.Test.YtdhlmhkabckbaaaGreatDoorStr
import Derived.Lib.ConvBytes
namespace Go.Proofs.YtdhlmhkabckbaaaGreatDoor
open Go.RowKit

def rotN (n : Nat) (x : Int) : Int := bits .or .u32 (x * 2 ^ (32 - n) % 4294967296) (x / 2 ^ n)
theorem rot_s : ∀ n : Nat, n ≤ 31 → 1 ≤ n → bits .and .u64 (IntKind.u64.wrap (-(n : Int))) 31 = ((32 - n : Nat) : Int) := by decide +kernel

set_option maxRecDepth 10000 in
theorem bits_rot (n : Nat) (h1 : 1 ≤ n) (h2 : n ≤ 31) (x : Int) (w : World) :
    Calls Tryz.prog 206 #[.int .u32 x, .int .i64 (-(n : Int))] w fun e w' => e = .returned (.int .u32 (rotN n x)) ∧ w' = w := by
  have hs := rot_s n h2 h1
  go_enter Tryz.func206, Tryz.ntmps206
  go_upto_region 2 with fail
  obtain ⟨s, hs1, hs2, hs3⟩ : ∃ s : Nat, 32 - n = s ∧ s ≤ 31 ∧ 1 ≤ s := ⟨_, rfl, by omega, by omega⟩
  rw [hs1]
  clear hs
  obtain rfl : n = 32 - s := by omega
  clear hs1
  go_wp2_with fail
  go_ret
  have e : rotN (32 - s) x = bits .or .u32 (x * 2 ^ s % 4294967296) (x / 2 ^ (32 - s)) := by
    unfold rotN
    rw [show 32 - (32 - s) = s by omega]
  rw [e]
  exact ⟨rfl, rfl⟩
set_option maxRecDepth 10000 in
set_option maxHeartbeats 1000000 in
theorem sha_turn (n : Nat) (h1 : 1 ≤ n) (h2 : n ≤ 31) (x : Int) (w : World) :
    Calls Tryz.prog 177 #[.int .u32 x, .int .i64 n] w fun e w' => e = .returned (.int .u32 (rotN n x)) ∧ w' = w := by
  have hr := bits_rot n h1 h2 x
  generalize rotN n x = r at hr ⊢
  go_enter Tryz.func177, Tryz.ntmps177
  go_wp2_with fail
  refine (hr _).mono ?_
  rintro e w1 ⟨rfl, rfl⟩
  go_wp2_with fail
  go_ret
  exact ⟨rfl, rfl⟩

theorem mul64 (x y : Nat) (hx : x < 18446744073709551616) (hy : y < 18446744073709551616) (w : World) :
    Calls Tryz.prog 175 #[.int .u64 x, .int .u64 y] w fun e w' => e = .returned (.tuple #[.int .u64 ((x : Int) * y / 18446744073709551616), .int .u64 ((x : Int) * y % 18446744073709551616)]) ∧ w' = w := by
  have h := Any.bits_Mul64 Tryz.mul64 x y hx hy w
  rw [Int.natCast_ediv, Int.natCast_emod, Int.natCast_mul] at h
  exact h

theorem mod_nat (a : Int) : ∃ z : Nat, (z : Int) = a % 18446744073709551616 ∧ z < 18446744073709551616 :=
  ⟨(a % 18446744073709551616).toNat, Int.toNat_of_nonneg (Int.emod_nonneg _ (by decide)), by omega⟩
/-- Is x squared (cubed) above n shifted by 64 (96) bits? -/
def overF (x n : Nat) (c : Bool) : Bool :=
  if c = false then
    decide ((n : Int) < (x * x : Int) / 18446744073709551616) || (decide ((x * x : Int) / 18446744073709551616 = n) && decide (0 < (x * x : Int) % 18446744073709551616))
  else
    decide ((n : Int) * 4294967296 < IntKind.u64.wrap ((x * x : Int) % 18446744073709551616 * x / 18446744073709551616 + IntKind.u64.wrap ((x * x : Int) / 18446744073709551616 * x))) ||
      (decide (IntKind.u64.wrap ((x * x : Int) % 18446744073709551616 * x / 18446744073709551616 + IntKind.u64.wrap ((x * x : Int) / 18446744073709551616 * x)) = (n : Int) * 4294967296) && decide (0 < (x * x : Int) % 18446744073709551616 * x % 18446744073709551616))
set_option maxRecDepth 10000 in
set_option maxHeartbeats 1000000 in
theorem sha_over0 (x n : Nat) (hx : x < 68719476736) (hn : n ≤ 1000) (w : World) :
    Calls Tryz.prog 123 #[.int .u64 x, .int .u64 n, .bool false] w fun e w' => e = .returned (.bool (overF x n false)) ∧ w' = w := by
  have hm := mul64 x x (by omega) (by omega)
  unfold overF
  generalize (x : Int) * x / 18446744073709551616 = X at hm ⊢
  generalize (x : Int) * x % 18446744073709551616 = L at hm ⊢
  go_enter Tryz.func123, Tryz.ntmps123
  go_wp2_with fail
  refine (hm _).mono ?_
  clear hm
  rintro e w1 ⟨rfl, rfl⟩
  go_wp2_with fail
  all_goals
    go_ret
    refine ⟨ret_bool ?_, rfl⟩
    simp [*]
set_option maxRecDepth 10000 in
set_option maxHeartbeats 1000000 in
theorem sha_over1 (x n : Nat) (hx : x < 68719476736) (hn : n ≤ 1000) (w : World) :
    Calls Tryz.prog 123 #[.int .u64 x, .int .u64 n, .bool true] w fun e w' => e = .returned (.bool (overF x n true)) ∧ w' = w := by
  have hm := mul64 x x (by omega) (by omega)
  obtain ⟨z, hz, hzl⟩ := mod_nat ((x : Int) * x)
  have hm2 := mul64 z x hzl (by omega)
  rw [← hz] at hm
  unfold overF
  rw [← hz]
  clear hz
  obtain ⟨X, hX⟩ : ∃ X, X = (x : Int) * x / 18446744073709551616 := ⟨_, rfl⟩
  obtain ⟨Z, hZ⟩ : ∃ Z, Z = (z : Int) * x / 18446744073709551616 := ⟨_, rfl⟩
  obtain ⟨L, hL⟩ : ∃ L, L = (z : Int) * x % 18446744073709551616 := ⟨_, rfl⟩
  rw [← hX, ← hZ, ← hL]
  rw [← hX] at hm
  rw [← hZ, ← hL] at hm2
  clear hX hZ hL
  go_enter Tryz.func123, Tryz.ntmps123
  go_wp2_with fail
  refine (hm _).mono ?_
  clear hm
  rintro e w1 ⟨rfl, rfl⟩
  go_wp2_with fail
  refine (hm2 _).mono ?_
  clear hm2
  rintro e w1 ⟨rfl, rfl⟩
  go_wp2_with fail
  all_goals
    go_ret
    refine ⟨ret_bool ?_, rfl⟩
    simp [*]
theorem sha_over (x n : Nat) (c : Bool) (hx : x < 68719476736) (hn : n ≤ 1000) (w : World) :
    Calls Tryz.prog 123 #[.int .u64 x, .int .u64 n, .bool c] w fun e w' => e = .returned (.bool (overF x n c)) ∧ w' = w := by
  cases c
  · exact sha_over0 x n hx hn w
  · exact sha_over1 x n hx hn w

/-- The bits of a root: from bit b down. -/
def rootGo (n : Nat) (c : Bool) : Nat → Nat → Nat
  | 0, x => x
  | b + 1, x => rootGo n c b (if overF (x ||| 2 ^ b) n c then x else x ||| 2 ^ b)
def rootF (n : Nat) (c : Bool) : Int := (rootGo n c 36 0 : Int) % 4294967296
theorem or_pow {x b : Nat} (hx : x < 68719476736) (hb : b < 36) : x ||| 2 ^ b < 68719476736 := by
  have h2 : (2 : Nat) ^ b < 2 ^ 36 := Nat.pow_lt_pow_right (by omega) hb
  exact Nat.or_lt_two_pow (n := 36) (by simpa using hx) h2
theorem bits_or_nat (x y : Nat) (hx : x < 18446744073709551616) (hy : y < 18446744073709551616) : bits .or .u64 (x : Int) (y : Int) = ((x ||| y : Nat) : Int) := by
  have hxy : x ||| y < 18446744073709551616 := Nat.or_lt_two_pow (n := 64) (by simpa using hx) (by simpa using hy)
  unfold bits
  simp only [BitVec.toNat_or]
  rw [IntKind.wrap_u64]
  simp [IntKind.bits, BitVec.toNat_ofInt, Nat.mod_eq_of_lt hx, Nat.mod_eq_of_lt hy]
  omega
set_option maxRecDepth 10000 in
set_option maxHeartbeats 1000000 in
theorem sha_rootBits (n : Nat) (c : Bool) (hn : n ≤ 1000) (w : World) :
    Calls Tryz.prog 87 #[.int .u64 n, .bool c] w fun e w' => e = .returned (.int .u32 (rootF n c)) ∧ w' = w := by
  go_enter Tryz.func87, Tryz.ntmps87
  go_wp2_with fail
  go_loopw [5, 6, 7] (fun xv bv _ wr => ∃ (x b : Nat), b ≤ 36 ∧ x < 68719476736 ∧ xv = .int .u64 x ∧ bv = .int .i64 ((b : Int) - 1) ∧ Hid (rootGo n c 36 0 = rootGo n c b x) ∧ wr = w) (fun _ bv _ _ => (intOf bv + 1).toNat)
  case atStart => exact ⟨0, 36, by omega, by omega, rfl, rfl, Lib.hid rfl, rfl⟩
  obtain ⟨x, b, hb, hx, rfl, rfl, hgo, rfl⟩ := hrel
  cases b with
  | zero =>
    go_wp2_with fail
    go_ret
    refine ⟨?_, rfl⟩
    unfold rootF
    rw [hgo.out]
    rfl
  | succ b =>
    have e1 : ((b + 1 : Nat) : Int) - 1 = b := by omega
    rw [e1]
    have hp : (2 : Nat) ^ b < 68719476736 := by
      have h2 : (2 : Nat) ^ b < 2 ^ 36 := Nat.pow_lt_pow_right (by omega) (by omega)
      simpa using h2
    have hw : IntKind.u64.wrap (2 ^ b) = ((2 ^ b : Nat) : Int) := by
      have e2 : (2 : Int) ^ b = ((2 ^ b : Nat) : Int) := by simp
      rw [IntKind.wrap_u64, e2]
      generalize (2 : Nat) ^ b = p at hp ⊢
      omega
    obtain ⟨y, hy⟩ : ∃ y : Nat, y = x ||| 2 ^ b := ⟨_, rfl⟩
    have hyl : y < 68719476736 := hy ▸ or_pow hx (by omega)
    have he : bits .or .u64 (x : Int) (IntKind.u64.wrap (2 ^ b)) = (y : Int) := by rw [hw, bits_or_nat _ _ (by omega) (by omega), hy]
    replace hp := Lib.hid hp
    clear hw
    replace hy := Lib.hid hy
    go_wp2_with fail
    refine (sha_over y n c hyl hn _).mono ?_
    obtain ⟨r, hr⟩ : ∃ r, r = overF y n c := ⟨_, rfl⟩
    rw [← hr]
    rintro e w1 ⟨rfl, rfl⟩
    replace hgo : Hid (rootGo n c 36 0 = rootGo n c b (if r then x else y)) := Lib.hid (by rw [hgo.out, rootGo, ← hy.out, ← hr])
    clear hr hy he
    cases r with
    | true =>
      go_wp2_with fail
      go_roundw
      case rel => exact ⟨x, b, by omega, hx, rfl, by go_num, hgo, trivial⟩
      case measure => simp [intOf]
    | false =>
      go_wp2_with fail
      go_roundw
      case rel => exact ⟨y, b, by omega, hyl, rfl, by go_num, hgo, trivial⟩
      case measure => simp [intOf]

/-- Is a number a prime? From d on. -/
def primeGo (n : Nat) : Nat → Nat → Bool
  | 0, _ => true
  | f + 1, d => if n < d * d then true else if n % d = 0 then false else primeGo n f (d + 1)
def primeB (n : Nat) : Bool := primeGo n 40 2
set_option maxRecDepth 10000 in
set_option maxHeartbeats 1000000 in
theorem sha_prime (n : Nat) (hn : n ≤ 1000) (w : World) : Calls Tryz.prog 122 #[.int .u64 n] w fun e w' => e = .returned (.bool (primeB n)) ∧ w' = w := by
  go_enter Tryz.func122, Tryz.ntmps122
  go_wp2_with fail
  go_loopw [3] (fun dv wr => ∃ (d f : Nat), d + f = 42 ∧ 2 ≤ d ∧ dv = .int .u64 d ∧ Hid (primeB n = primeGo n f d) ∧ wr = w) (fun dv _ => 42 - (intOf dv).toNat)
  case atStart => exact ⟨2, 40, by omega, by omega, rfl, Lib.hid rfl, rfl⟩
  obtain ⟨d, f, hdf, hd, rfl, hgo, rfl⟩ := hrel
  have hdd : d * d ≤ 1764 := Nat.mul_le_mul (show d ≤ 42 by omega) (show d ≤ 42 by omega)
  have hci : ((d * d : Nat) : Int) = (d : Int) * d := Int.natCast_mul d d
  have hII : (d : Int) * d ≤ 1764 := by omega
  have hI0 : 0 ≤ (d : Int) * d := by omega
  by_cases h1 : n < d * d
  · have i1 : ¬ ((d : Int) * d ≤ n) := by omega
    have hr : primeB n = true := by
      rw [hgo.out]
      cases f with
      | zero => rfl
      | succ f => rw [primeGo, if_pos h1]
    clear hgo h1 hci hdd
    go_wp2_with fail
    go_ret
    exact ⟨ret_bool (by simp [hr]), rfl⟩
  · have i1 : (d : Int) * d ≤ n := by omega
    cases f with
    | zero =>
      exfalso
      obtain rfl : d = 42 := by omega
      omega
    | succ f =>
      have hcm : ((n % d : Nat) : Int) = (n : Int) % d := Int.natCast_emod n d
      have hd0 : (d : Int) ≠ 0 := by omega
      by_cases h2 : n % d = 0
      · have i2 : (n : Int) % d = 0 := by omega
        have hr : primeB n = false := by rw [hgo.out, primeGo, if_neg h1, if_pos h2]
        clear hgo h1 h2 hci hcm hdd
        go_wp2_with fail
        go_ret
        exact ⟨ret_bool (by simp [hr]), rfl⟩
      · have i2 : ¬ ((n : Int) % d = 0) := by omega
        replace hgo : Hid (primeB n = primeGo n f (d + 1)) := Lib.hid (by rw [hgo.out, primeGo, if_neg h1, if_neg h2])
        clear h1 h2 hci hcm hdd
        go_wp2_with fail
        go_roundw
        case rel => exact ⟨d + 1, f, by omega, by omega, by go_num, hgo, trivial⟩
        case measure => simp [intOf]; omega
end Go.Proofs.YtdhlmhkabckbaaaGreatDoor
/-
  Package sha: the first primes.
-/
namespace Go.Proofs.YtdhlmhkabckbaaaGreatDoor
open Go.RowKit

def u64Cell (x : Nat) : List Value := [.int .u64 x]
def u64E : Elem Nat where
  T := 125
  S := 130
  k := 1
  bytes := 8
  enc := u64Cell
  z := .int .u64 0
  und := Tryz.underlying130
  info := by kernel_rfl
  zc := rfl
  pos := by decide
  small := by decide
  len := fun _ => rfl
  one := fun x u hu => by simp [u64Cell] at hu; subst hu; rfl
def u32Cell (x : Int) : List Value := [.int .u32 x]
def u32E : Elem Int where
  T := 123
  S := 118
  k := 1
  bytes := 4
  enc := u32Cell
  z := .int .u32 0
  und := Tryz.underlying118
  info := by kernel_rfl
  zc := rfl
  pos := by decide
  small := by decide
  len := fun _ => rfl
  one := fun x u hu => by simp [u32Cell] at hu; subst hu; rfl

/-- The primes among 2 .. k + 1. -/
def pl : Nat → List Nat
  | 0 => []
  | k + 1 => if primeB (k + 2) then pl k ++ [k + 2] else pl k
theorem pl_up (k : Nat) : (pl k).length ≤ (pl (k + 1)).length := by
  rw [pl]
  split <;> simp
theorem pl_mono {j k : Nat} (h : j ≤ k) : (pl j).length ≤ (pl k).length := by
  induction k with
  | zero => obtain rfl : j = 0 := by omega
            exact Nat.le_refl _
  | succ k ih =>
    rcases Nat.lt_or_ge j (k + 1) with h1 | h1
    · exact Nat.le_trans (ih (by omega)) (pl_up k)
    · obtain rfl : j = k + 1 := by omega
      exact Nat.le_refl _
theorem pl_309 : (pl 309).length = 63 := by decide +kernel
theorem pl_310 : (pl 310).length = 64 := by decide +kernel
theorem pl_more {k : Nat} (h : k < 310) : (pl k).length < 64 := by
  have := pl_mono (show k ≤ 309 by omega)
  rw [pl_309] at this
  omega
theorem pl_le (k : Nat) (h : k ≤ 310) : (pl k).length ≤ 64 := by
  have := pl_mono h
  rwa [pl_310] at this
theorem pl_small {k x : Nat} (h : x ∈ pl k) : x ≤ k + 1 := by
  induction k with
  | zero => cases h
  | succ k ih =>
    rw [pl] at h
    split at h
    · rcases List.mem_append.1 h with h | h
      · exact Nat.le_succ_of_le (ih h)
      · simp at h; omega
    · exact Nat.le_succ_of_le (ih h)

set_option maxRecDepth 100000 in
set_option maxHeartbeats 2000000 in
theorem sha_primes (w : World) : Calls Tryz.prog 86 #[.int .i64 64] w fun e w' => ∃ v, e = .returned v ∧ u64E.Own w' w.heap.size v (pl 310) ∧ Below w.heap.size w w' := by
  go_enter Tryz.func86, Tryz.ntmps86
  go_wp2_with fail
  go_loopw [3, 4] (fun v ti wr => ∃ k : Nat, k ≤ 310 ∧ ti = .int .u64 ((k + 2 : Nat) : Int) ∧ u64E.Own wr w.heap.size v (pl k) ∧ Below w.heap.size w wr) (fun _ ti _ => 312 - (intOf ti).toNat)
  case atStart => exact ⟨0, Nat.zero_le _, rfl, Owns.nil_, Below.refl _ _⟩
  obtain ⟨k, hk, rfl, ho, hbr⟩ := hrel
  obtain ⟨wp, rfl⟩ : ∃ x : World, x = wr := ⟨_, rfl⟩
  have hzw := hbr.size
  obtain ⟨A9, c9, e9⟩ := Owns.form ho
  subst e9
  by_cases hlt : k < 310
  · have hll := pl_more hlt
    have hli : ((pl k).length : Int) < 64 := by omega
    have hl1 := Lib.hid hll
    go_wp2_with fail
    refine (sha_prime (k + 2) (by omega) _).mono ?_
    obtain ⟨r, hr⟩ : ∃ r, r = primeB (k + 2) := ⟨_, rfl⟩
    rw [← hr]
    rintro e w1 ⟨rfl, rfl⟩
    cases r with
    | false =>
      have hs2 : Hid (pl (k + 1) = pl k) := Lib.hid (by rw [pl, ← hr]; rfl)
      replace hr := Lib.hid hr
      go_wp2_with fail
      go_roundw
      case rel => exact ⟨k + 1, by omega, by go_num, by rw [hs2.out]; exact ho, (by repeat (first | exact Below.refl _ _ | assumption | refine Below.drew ?_ | refine below_drewN ?_ _ | refine Below.alloc ?_ (by first | omega | (simp; try omega)) _ | refine Below.setCell ?_ (by first | omega | (simp; try omega)) _ | (refine Below.trans ?_ (Below.mono (by assumption) (by first | omega | (simp; try omega))))))⟩
      case measure => simp [intOf]; omega
    | true =>
      have hs2 : Hid (pl (k + 1) = pl k ++ [k + 2]) := Lib.hid (by rw [pl, ← hr]; rfl)
      replace hr := Lib.hid hr
      go_wp2_with (at_builtin; go_must (refine Elem.wpList_one u64E rfl (.tmp 13) (.tmp 15) rfl w.heap.size _ (pl k) rfl _ _ (k + 2) rfl (Owns.alloc ho _) (fun j u hu => by rcases j with _ | _ | _ | j <;> simp [u64E, u64Cell] at hu <;> subst hu <;> go_simp) (by first | omega | (simp; omega)) (by first | omega | (simp; try omega)) ?_); intro v9 w9 hown9 hg9 hat9; have hbb9 : Below w.heap.size w w9 := Below.grownOwn (by repeat (first | exact Below.refl _ _ | assumption | refine Below.drew ?_ | refine below_drewN ?_ _ | refine Below.alloc ?_ (by first | omega | (simp; try omega)) _ | refine Below.setCell ?_ (by first | omega | (simp; try omega)) _ | (refine Below.trans ?_ (Below.mono (by assumption) (by first | omega | (simp; try omega)))))) (Owns.alloc ho _) (Nat.le_refl _) (by first | omega | (simp; try omega)) hg9; have hzz9 := hbb9.size)
      go_roundw
      case rel => exact ⟨k + 1, by omega, by go_num, by rw [hs2.out]; exact hown9, (by repeat (first | exact Below.refl _ _ | assumption | refine Below.drew ?_ | refine below_drewN ?_ _ | refine Below.alloc ?_ (by first | omega | (simp; try omega)) _ | refine Below.setCell ?_ (by first | omega | (simp; try omega)) _ | (refine Below.trans ?_ (Below.mono (by assumption) (by first | omega | (simp; try omega))))))⟩
      case measure => simp [intOf]; omega
  · obtain rfl : k = 310 := by omega
    have hli : ((pl 310).length : Int) = 64 := by rw [pl_310]; rfl
    replace ho := Lib.hid ho
    go_wp2_with fail
    go_ret
    exact ⟨_, rfl, ho.out, hbr⟩
end Go.Proofs.YtdhlmhkabckbaaaGreatDoor

/-
  Package sha: a hash in memory; New.
-/
namespace Go.Proofs.YtdhlmhkabckbaaaGreatDoor
open Go.RowKit

theorem hset {w : World} {b o : Nat} {cs : Array Value} {T : TypeId} {fz : Nat × Nat} (h : w.heap[b]? = some (.cells cs T fz)) (u : Value) : (w.setCell ⟨b, o, none⟩ u).heap[b]? = some (.cells (cs.setIfInBounds o u) T fz) := by
  simp [World.setCell, Array.getElem?_modify, h]
theorem Owns.setAway {α : Type} {k : Nat} {enc : α → List Value} {T : TypeId} {w : World} {base : Nat} {v : Value} {l : List α} (h : Owns k enc T w base v l) {b o : Nat} (u : Value) (hb : b < base) : Owns k enc T (w.setCell ⟨b, o, none⟩ u) base v l :=
  ⟨h.1, h.2.imp id fun ⟨g, cap, cur, e, hg, hh, r⟩ => ⟨g, cap, cur, e, hg, (Go.Deep.blk_setCell_other _ _ _ _ (by show g ≠ b; omega)).trans hh, r⟩⟩
theorem halloc {w : World} {b : Nat} {x : Obj} (o : Obj) (h : w.heap[b]? = some x) : (w.alloc o).heap[b]? = some x := by
  have hb := (Array.getElem?_eq_some_iff.1 h).1
  exact (((Below.refl w.heap.size w).alloc (Nat.le_refl _) o).block b hb).trans h
/-- The cells of a hash: eight numbers, the rest, the total, the roots. -/
def hCells (now : List Int) (r : Value) (t : Int) (q : Value) : Array Value := (now.map (Value.int .u32) ++ [r, .int .i64 t, q]).toArray
def hObj (now : List Int) (r : Value) (t : Int) (q : Value) : Obj := .cells (hCells now r t q) 129
theorem hCells_now {now : List Int} {r : Value} {t : Int} {q : Value} {i : Nat} (h : i < now.length) : (hCells now r t q)[i]? = some (.int .u32 now[i]) := by
  unfold hCells
  simp only [List.getElem?_toArray]
  rw [List.getElem?_append_left (by simpa using h)]
  simp [h]
theorem hCells_tail {now : List Int} {r : Value} {t : Int} {q : Value} (h : now.length = 8) : (hCells now r t q)[8]? = some r ∧ (hCells now r t q)[9]? = some (.int .i64 t) ∧ (hCells now r t q)[10]? = some q := by
  unfold hCells
  simp only [List.getElem?_toArray]
  refine ⟨?_, ?_, ?_⟩ <;> rw [List.getElem?_append_right (by simp [h])] <;> simp [h]
theorem hCells_set {now : List Int} {r : Value} {t : Int} {q : Value} {i : Nat} (h : i < now.length) (v : Int) : (hCells now r t q).setIfInBounds i (.int .u32 v) = hCells (now.set i v) r t q := by
  unfold hCells
  simp only [List.setIfInBounds_toArray]
  rw [List.set_append_left _ _ (by simpa using h), List.map_set]
theorem hCells_setT {now : List Int} {r : Value} {t : Int} {q : Value} (h : now.length = 8) (u : Value) : (hCells now r t q).setIfInBounds 8 u = hCells now u t q ∧ (hCells now r t q).setIfInBounds 10 u = hCells now r t u ∧ ∀ n, (hCells now r t q).setIfInBounds 9 (.int .i64 n) = hCells now r n q := by
  unfold hCells
  simp only [List.setIfInBounds_toArray]
  refine ⟨?_, ?_, fun n => ?_⟩ <;> rw [List.set_append_right _ _ (by simp [h])] <;> simp [h]

/-- The first numbers of a hash, as far as they are laid in. -/
def now0 (k : Nat) : List Int := (List.range 8).map fun i => if i < k then rootF ((pl 310).getD i 0) false else 0
def roots0 (k : Nat) : List Int := ((pl 310).take k).map (rootF · true)
theorem now0_len (k : Nat) : (now0 k).length = 8 := by simp [now0]

theorem now0_zero : now0 0 = [0, 0, 0, 0, 0, 0, 0, 0] := by simp [now0, List.range_succ]
theorem now0_set {k : Nat} (h : k < 8) : (now0 k).set k (rootF ((pl 310).getD k 0) false) = now0 (k + 1) := by
  apply List.ext_getElem
  · simp [now0]
  · intro i h1 h2
    simp only [now0, List.length_set, List.length_map, List.length_range] at h1
    rw [List.getElem_set]
    simp only [now0, List.getElem_map, List.getElem_range]
    by_cases e : k = i
    · subst e; simp
    · rw [if_neg e]
      by_cases hi : i < k
      · rw [if_pos hi, if_pos (by omega)]
      · rw [if_neg hi, if_neg (by omega)]
theorem now0_stay {k : Nat} (h : 8 ≤ k) : now0 (k + 1) = now0 k := by
  unfold now0
  refine List.map_congr_left fun i hi => ?_
  have := List.mem_range.1 hi
  rw [if_pos (by omega), if_pos (by omega)]
theorem roots0_succ {k p : Nat} (h : (pl 310)[k]? = some p) : roots0 (k + 1) = roots0 k ++ [rootF p true] := by
  unfold roots0
  rw [List.take_add_one, h]
  simp
theorem roots0_len {k : Nat} (h : k ≤ 64) : (roots0 k).length = k := by
  unfold roots0
  rw [List.length_map, List.length_take, pl_310]
  omega

theorem RowAt.u64 {w : World} {B n : Nat} {A : Option Addr} {l : List Nat} (h : RowAt 1 u64Cell w B A n l) {i : Nat} (hi : i < n) :
    ∃ b off x, A = some ⟨b, off, none⟩ ∧ b < B ∧ l[i]? = some x ∧ w.cell? ⟨b, off + i, none⟩ = some (.int .u64 x) := by
  obtain ⟨hl, _, hc⟩ := h
  obtain ⟨b, off, e, hb, hc⟩ := hc (by omega)
  have hx : l[i]? = some (l[i]'(by omega)) := List.getElem?_eq_getElem (by omega)
  refine ⟨b, off, _, e, hb, hx, ?_⟩
  have := hc i _ hx 0 _ rfl
  simpa using this
theorem hObj_now {w : World} {b : Nat} {now : List Int} {r : Value} {t : Int} {q : Value} (h : w.heap[b]? = some (hObj now r t q)) (h8 : now.length = 8) {i : Nat} (hi : i < 8) : ∃ x, now[i]? = some x ∧ w.cell? ⟨b, i, none⟩ = some (.int .u32 x) :=
  ⟨now[i]'(by omega), List.getElem?_eq_getElem (by omega), (cell_of_row w b i _ _ _ h).trans (hCells_now (by omega))⟩
theorem hObj_tail {w : World} {b : Nat} {now : List Int} {r : Value} {t : Int} {q : Value} (h : w.heap[b]? = some (hObj now r t q)) (h8 : now.length = 8) : b < w.heap.size ∧ w.cell? ⟨b, 8, none⟩ = some r ∧ w.cell? ⟨b, 9, none⟩ = some (.int .i64 t) ∧ w.cell? ⟨b, 10, none⟩ = some q ∧ ∀ o, w.frozen? ⟨b, o, none⟩ = false :=
  ⟨(Array.getElem?_eq_some_iff.1 h).1, (cell_of_row w b 8 _ _ _ h).trans (hCells_tail h8).1, (cell_of_row w b 9 _ _ _ h).trans (hCells_tail h8).2.1, (cell_of_row w b 10 _ _ _ h).trans (hCells_tail h8).2.2, fun o => by unfold World.frozen?; simp [h, hObj]⟩

/-- A hash's box while its row of roots grows. -/
theorem hq9_of {wp w9 : World} {B b : Nat} {now : List Int} {r : Value} {t : Int} {q v : Value} {l : List Int} {o : Obj} (hq : wp.heap[b]? = some (hObj now r t q)) (ho : u32E.Own wp B v l) (hg : (wp.alloc o).drew.grownBy w9 v.ownBlock) : w9.heap[b]? = some (hObj now r t q) := by
  have hb := (Array.getElem?_eq_some_iff.1 hq).1
  have h1 : (wp.alloc o).drew.heap[b]? = some (hObj now r t q) := halloc o hq
  refine (hg.block b (Array.getElem?_eq_some_iff.1 h1).1 (fun e => ?_)).trans h1
  obtain ⟨cs, fz, h2⟩ := Owns.at_type ho e.symm
  rw [hq] at h2
  simp [hObj, u32E] at h2
set_option maxRecDepth 100000 in
set_option maxHeartbeats 4000000 in
theorem sha_New (w : World) : Calls Tryz.prog 47 #[] w fun e w' => ∃ b v, e = .returned (.pointer (some ⟨b, 0, none⟩)) ∧ w.heap.size ≤ b ∧ w'.heap[b]? = some (hObj (now0 64) (.slice none 0 0) 0 v) ∧ u32E.Own w' w.heap.size v (roots0 64) ∧ Below w.heap.size w w' := by
  go_enter Tryz.func47, Tryz.ntmps47
  have hq := heap_alloc_new w (.cells #[.int .u32 0, .int .u32 0, .int .u32 0, .int .u32 0, .int .u32 0, .int .u32 0, .int .u32 0, .int .u32 0, .slice none 0 0, .int .i64 0, .slice none 0 0] 129)
  have hb0 : Below w.heap.size w (w.alloc (.cells #[.int .u32 0, .int .u32 0, .int .u32 0, .int .u32 0, .int .u32 0, .int .u32 0, .int .u32 0, .int .u32 0, .slice none 0 0, .int .i64 0, .slice none 0 0] 129)) := (Below.refl _ w).alloc (Nat.le_refl _) _
  have hsz : (w.alloc (.cells #[.int .u32 0, .int .u32 0, .int .u32 0, .int .u32 0, .int .u32 0, .int .u32 0, .int .u32 0, .int .u32 0, .slice none 0 0, .int .i64 0, .slice none 0 0] 129)).heap.size = w.heap.size + 1 := by simp
  go_wp2_with fail
  refine (sha_primes _).mono ?_
  rintro e w2 ⟨vP, rfl, hoP, hb2⟩
  rw [hsz] at hoP
  have hq2 : w2.heap[w.heap.size]? = some (hObj (now0 0) (.slice none 0 0) 0 (.slice none 0 0)) := by
    rw [now0_zero]
    exact (hb2.block _ (by rw [hsz]; omega)).trans hq
  have hbw : Below w.heap.size w w2 := hb0.trans (hb2.mono hb0.size)
  clear hq hb0 hsz hb2
  obtain ⟨AP, cP, eP⟩ := Owns.form hoP
  rw [pl_310] at eP
  subst eP
  have hrP := Owns.row (k := 1) (enc := u64Cell) (fun _ => rfl) hoP
  have hP2 := hbw.size
  obtain ⟨b, hb⟩ : ∃ b, b = w.heap.size := ⟨_, rfl⟩
  rw [← hb] at hq2 hoP ⊢
  go_wp2_with fail
  go_loopw [2, 3, 8] (fun _ _ ti wr => ∃ (k : Nat) (v : Value), k ≤ 64 ∧ ti = .int .i64 k ∧ wr.heap[b]? = some (hObj (now0 k) (.slice none 0 0) 0 v) ∧ u32E.Own wr (b + 1) v (roots0 k) ∧ u64E.Own wr (b + 1) (.slice AP 64 cP) (pl 310) ∧ Below w.heap.size w wr) (fun _ _ ti _ => 64 - (intOf ti).toNat)
  case atStart => exact ⟨0, _, Nat.zero_le _, rfl, hq2, Owns.nil_, hoP, hbw⟩
  clear hq2 hoP hbw hrP hP2
  subst hb
  obtain ⟨k, v, hk, rfl, hq, hoR, hoP, hbr⟩ := hrel
  obtain ⟨wp, rfl⟩ : ∃ x : World, x = wr := ⟨_, rfl⟩
  by_cases hlt : k < 64
  · obtain ⟨bp, off, p, rfl, hbp, hp, cp⟩ := (Owns.row (k := 1) (enc := u64Cell) (fun _ => rfl) hoP).u64 hlt
    have hpl := pl_small (List.mem_of_getElem? hp)
    obtain ⟨lb, z8, z9, z10, zf⟩ := hObj_tail hq (now0_len k)
    have hzs := hbr.size
    by_cases h8 : k < 8
    · obtain ⟨x, hx, zk⟩ := hObj_now hq (now0_len k) h8
      have hs6 : Hid ((now0 k).set k (rootF p false) = now0 (k + 1)) := Lib.hid (by rw [← now0_set h8]; rw [List.getD_eq_getElem?_getD, hp]; rfl)
      go_upto_region 6 with fail
      refine region_held_tail 6 (fun _ : World => True) (by kernel_rfl) (by kernel_rfl) ?_
      have hHeld : (fun _ : World => True) wp.drew := trivial
      (refine HT.takeL (i := 0) (v := ?_) rfl (by kernel_rfl) (fun _ _ _ h => h) (Or.inl ⟨by rfl, ?_⟩) (by assumption) ?_
       rotate_left
       · (intro w hSw; (try dsimp only at hSw); go_simp; (try with_reducible rfl))
       try simp only [Act.put, List.setIfInBounds_toArray, List.set_cons_zero, List.set_cons_succ])
      (refine HT.takeL (i := 1) (v := ?_) rfl (by kernel_rfl) (fun _ _ _ h => h) (Or.inl ⟨by rfl, ?_⟩) (by assumption) ?_
       rotate_left
       · (intro w hSw; (try dsimp only at hSw); go_simp; (try with_reducible rfl))
       try simp only [Act.put, List.setIfInBounds_toArray, List.set_cons_zero, List.set_cons_succ])
      (refine HT.takeL (i := 2) (v := ?_) rfl (by kernel_rfl) (fun _ _ _ h => h) (Or.inl ⟨by rfl, ?_⟩) (by assumption) ?_
       rotate_left
       · (intro w hSw; (try dsimp only at hSw); go_simp; (try with_reducible rfl))
       try simp only [Act.put, List.setIfInBounds_toArray, List.set_cons_zero, List.set_cons_succ])
      (refine HT.takeL (i := 4) (v := ?_) rfl (by kernel_rfl) (fun _ _ _ h => h) (Or.inl ⟨by rfl, ?_⟩) (by assumption) ?_
       rotate_left
       · (intro w hSw; (try dsimp only at hSw); go_simp; (try with_reducible rfl))
       try simp only [Act.put, List.setIfInBounds_toArray, List.set_cons_zero, List.set_cons_succ])
      (refine HT.takeL (i := 5) (v := ?_) rfl (by kernel_rfl) (fun _ _ _ h => h) (Or.inl ⟨by rfl, ?_⟩) (by assumption) ?_
       rotate_left
       · (intro w hSw; (try dsimp only at hSw); go_simp; (try with_reducible rfl))
       try simp only [Act.put, List.setIfInBounds_toArray, List.set_cons_zero, List.set_cons_succ])
      (refine HT.onlyL (i := 3) rfl (by kernel_rfl) (fun K hK => ?_)
       (go_simp; refine (sha_rootBits p false (by omega) _).mono ?_; rintro e m3 ⟨rfl, rfl⟩)
       refine hK.out _ _ ?_ (fun hHeld => ?_)
       · (exact trivial)
       clear hK K
       try simp only [Act.put, List.setIfInBounds_toArray, List.set_cons_zero, List.set_cons_succ])
      refine HT.tail (by kernel_rfl) ?_
      simp only [List.drop_succ_cons, List.drop_zero]
      have fk := zf k
      go_upto_region 7 with fail
      have hq4 : ((wp.setCell ⟨w.heap.size, k, none⟩ (.int .u32 (rootF p false))).drew).heap[w.heap.size]? = some (hObj (now0 (k + 1)) (.slice none 0 0) 0 v) := by
        rw [← hs6.out]
        exact (hset hq _).trans (congrArg (fun c => some (Obj.cells c 129)) (hCells_set (by rw [now0_len]; exact h8) _))
      have hoR4 := (Owns.setAway hoR (b := w.heap.size) (o := k) (.int .u32 (rootF p false)) (Nat.lt_succ_self _)).drew
      have hoP4 := (Owns.setAway hoP (b := w.heap.size) (o := k) (.int .u32 (rootF p false)) (Nat.lt_succ_self _)).drew
      have hbr4 := (hbr.setCell (p := ⟨w.heap.size, k, none⟩) (Nat.le_refl _) (.int .u32 (rootF p false))).drew
      clear hq hoR hoP hbr z8 z9 z10 zf fk hHeld lb hx zk cp hbp hzs
      generalize (wp.setCell ⟨w.heap.size, k, none⟩ (.int .u32 (rootF p false))).drew = w4 at hq4 hoR4 hoP4 hbr4 ⊢
      have hq := hq4
      have hoR := hoR4
      have hoP := hoP4
      have hbr := hbr4
      clear hq4 hoR4 hoP4 hbr4 hs6
      have hs7 : Hid (roots0 (k + 1) = roots0 k ++ [rootF p true]) := Lib.hid (roots0_succ hp)
      have hl7 := roots0_len (k := k) (by omega)
      replace hp := Lib.hid hp
      obtain ⟨lb, z8, z9, z10, zf⟩ := hObj_tail hq (now0_len _)
      refine region_held_tail 9 (fun W : World => W.cell? ⟨w.heap.size, 10, none⟩ = some v) (by kernel_rfl) (by kernel_rfl) ?_
      have hHeld : (fun W : World => W.cell? ⟨w.heap.size, 10, none⟩ = some v) w4.drew := z10
      (refine HT.takeL (i := 0) (v := ?_) rfl (by kernel_rfl) (fun _ _ _ h => h) (Or.inl ⟨by rfl, ?_⟩) (by assumption) ?_
       rotate_left
       · (intro w hSw; (try dsimp only at hSw); go_simp; (try with_reducible rfl))
       try simp only [Act.put, List.setIfInBounds_toArray, List.set_cons_zero, List.set_cons_succ])
      (refine HT.takeL (i := 1) (v := ?_) rfl (by kernel_rfl) (fun _ _ _ h => h) (Or.inl ⟨by rfl, ?_⟩) (by assumption) ?_
       rotate_left
       · (intro w hSw; (try dsimp only at hSw); go_simp; (try with_reducible rfl))
       try simp only [Act.put, List.setIfInBounds_toArray, List.set_cons_zero, List.set_cons_succ])
      (refine HT.takeL (i := 2) (v := ?_) rfl (by kernel_rfl) (fun _ _ _ h => h) (Or.inl ⟨by rfl, ?_⟩) (by assumption) ?_
       rotate_left
       · (intro w hSw; (try dsimp only at hSw); go_simp; (try with_reducible rfl))
       try simp only [Act.put, List.setIfInBounds_toArray, List.set_cons_zero, List.set_cons_succ])
      (refine HT.takeL (i := 3) (v := ?_) rfl (by kernel_rfl) (fun _ _ _ h => h) (Or.inl ⟨by rfl, ?_⟩) (by assumption) ?_
       rotate_left
       · (intro w hSw; (try dsimp only at hSw); go_simp; (try with_reducible rfl))
       try simp only [Act.put, List.setIfInBounds_toArray, List.set_cons_zero, List.set_cons_succ])
      (refine HT.takeL (i := 4) (v := ?_) rfl (by kernel_rfl) (fun _ _ _ h => h) (Or.inl ⟨by rfl, ?_⟩) (by assumption) ?_
       rotate_left
       · (intro w hSw; (try dsimp only at hSw); go_simp; (try with_reducible rfl))
       try simp only [Act.put, List.setIfInBounds_toArray, List.set_cons_zero, List.set_cons_succ])
      (refine HT.takeL (i := 5) (v := ?_) rfl (by kernel_rfl) (fun _ _ _ h => h) (Or.inl ⟨by rfl, ?_⟩) (by assumption) ?_
       rotate_left
       · (intro w hSw; (try dsimp only at hSw); go_simp; (try with_reducible rfl))
       try simp only [Act.put, List.setIfInBounds_toArray, List.set_cons_zero, List.set_cons_succ])
      (refine HT.onlyL (i := 6) rfl (by kernel_rfl) (fun K hK => ?_)
       (go_simp; refine (sha_rootBits p true (by omega) _).mono ?_; rintro e m6 ⟨rfl, rfl⟩)
       refine hK.out _ _ ?_ (fun hHeld => ?_)
       · (exact hHeld)
       clear hK K
       try simp only [Act.put, List.setIfInBounds_toArray, List.set_cons_zero, List.set_cons_succ])
      (refine HT.onlyL (i := 7) rfl (by kernel_rfl) (fun K hK => ?_)
       go_simp
       refine hK.out _ _ ?_ (fun hHeld => ?_)
       · (exact (World.cell?_alloc_lt _ _ _ (by exact lb)).trans z10)
       clear hK K
       try simp only [Act.put, List.setIfInBounds_toArray, List.set_cons_zero, List.set_cons_succ])
      (refine HT.onlyL (i := 8) rfl (by kernel_rfl) (fun K hK => ?_)
       ((apply Elem.step_one u32E (s := .tmp 26) (x := .tmp 29) (base := w.heap.size + 1) (l := (roots0 k)) (y := (rootF p true)); (case' hgd => rfl); (case' ho => rfl); (case' hs => rfl); (case' hx => rfl); (case' hown => exact ((hoR.drew.alloc _))); (case' hy => exact (fun j u hu => by rcases j with _ | j <;> simp [u32E, u32Cell] at hu; subst hu; first | (go_simp; done) | exact newCell _ _ _ _ _)); (case' hl => exact (by rw [hl7]; omega)); (case' hbase => exact (by first | omega | (simp; try omega)))); intro v9 w9 hown9 hg9 hat9; replace hg9 : (w4.alloc (.cells #[.int .u32 (rootF p true)] 123)).drew.grownBy w9 v.ownBlock := hg9; have hq9 := hq9_of hq hoR hg9; have z109 := (hObj_tail hq9 (now0_len _)).2.2.2.1)
       refine hK.out _ _ ?_ (fun hHeld => ?_)
       · (exact z109)
       clear hK K
       try simp only [Act.put, List.setIfInBounds_toArray, List.set_cons_zero, List.set_cons_succ])
      refine HT.tail (by kernel_rfl) ?_
      simp only [List.drop_succ_cons, List.drop_zero]
      have hb9 : Below w.heap.size w w9 := Below.grownOwn (hbr.alloc hbr.size (.cells #[.int .u32 (rootF p true)] 123)).drew (hoR.alloc _).drew (Nat.le_succ _) (by simp; have := hbr.size; omega) hg9
      have hoP9 := Owns.grownT (hoP.alloc (.cells #[.int .u32 (rootF p true)] 123)).drew (hoR.alloc _).drew hg9 (by decide)
      obtain ⟨lb9, -, -, -, zf9⟩ := hObj_tail hq9 (now0_len _)
      obtain ⟨A9, c9, e9⟩ := Owns.form hown9
      subst e9
      have hl9 : (roots0 k ++ [rootF p true]).length = k + 1 := by simp [hl7]
      rw [hl9] at hown9 ⊢
      have f10 := zf9 10
      clear z8 z9 z10 zf zf9 hHeld hg9 hat9 hq hoR hoP hbr
      have hqn := Lib.hid ((hset (o := 10) hq9 (.slice A9 (k + 1) c9)).trans (congrArg (fun c => some (Obj.cells c 129)) (hCells_setT (now0_len _) _).2.1))
      have hoRn := Lib.hid (Owns.setAway hown9 (b := w.heap.size) (o := 10) (.slice A9 (k + 1) c9) (Nat.lt_succ_self _))
      have hoPn := Lib.hid (Owns.setAway hoP9 (b := w.heap.size) (o := 10) (.slice A9 (k + 1) c9) (Nat.lt_succ_self _))
      have hbn := Lib.hid (hb9.setCell (p := ⟨w.heap.size, 10, none⟩) (Nat.le_refl _) (.slice A9 (k + 1) c9))
      replace hown9 := Lib.hid hown9
      replace hoP9 := Lib.hid hoP9
      replace hq9 := Lib.hid hq9
      replace hb9 := Lib.hid hb9
      go_wp2_with fail
      go_roundw
      case rel => exact ⟨k + 1, _, by omega, by go_num, hqn.out, by rw [hs7.out]; exact hoRn.out, hoPn.out, hbn.out⟩
      case measure => simp [intOf]; omega
    · have hs6 : now0 (k + 1) = now0 k := now0_stay (by omega)
      go_upto_region 7 with fail
      rw [← hs6] at hq
      clear z8 z9 z10 zf lb cp hbp hzs hs6
      obtain ⟨w4, rfl⟩ : ∃ x : World, x = wp := ⟨_, rfl⟩
      have hs7 : Hid (roots0 (k + 1) = roots0 k ++ [rootF p true]) := Lib.hid (roots0_succ hp)
      have hl7 := roots0_len (k := k) (by omega)
      replace hp := Lib.hid hp
      obtain ⟨lb, z8, z9, z10, zf⟩ := hObj_tail hq (now0_len _)
      refine region_held_tail 9 (fun W : World => W.cell? ⟨w.heap.size, 10, none⟩ = some v) (by kernel_rfl) (by kernel_rfl) ?_
      have hHeld : (fun W : World => W.cell? ⟨w.heap.size, 10, none⟩ = some v) w4.drew := z10
      (refine HT.takeL (i := 0) (v := ?_) rfl (by kernel_rfl) (fun _ _ _ h => h) (Or.inl ⟨by rfl, ?_⟩) (by assumption) ?_
       rotate_left
       · (intro w hSw; (try dsimp only at hSw); go_simp; (try with_reducible rfl))
       try simp only [Act.put, List.setIfInBounds_toArray, List.set_cons_zero, List.set_cons_succ])
      (refine HT.takeL (i := 1) (v := ?_) rfl (by kernel_rfl) (fun _ _ _ h => h) (Or.inl ⟨by rfl, ?_⟩) (by assumption) ?_
       rotate_left
       · (intro w hSw; (try dsimp only at hSw); go_simp; (try with_reducible rfl))
       try simp only [Act.put, List.setIfInBounds_toArray, List.set_cons_zero, List.set_cons_succ])
      (refine HT.takeL (i := 2) (v := ?_) rfl (by kernel_rfl) (fun _ _ _ h => h) (Or.inl ⟨by rfl, ?_⟩) (by assumption) ?_
       rotate_left
       · (intro w hSw; (try dsimp only at hSw); go_simp; (try with_reducible rfl))
       try simp only [Act.put, List.setIfInBounds_toArray, List.set_cons_zero, List.set_cons_succ])
      (refine HT.takeL (i := 3) (v := ?_) rfl (by kernel_rfl) (fun _ _ _ h => h) (Or.inl ⟨by rfl, ?_⟩) (by assumption) ?_
       rotate_left
       · (intro w hSw; (try dsimp only at hSw); go_simp; (try with_reducible rfl))
       try simp only [Act.put, List.setIfInBounds_toArray, List.set_cons_zero, List.set_cons_succ])
      (refine HT.takeL (i := 4) (v := ?_) rfl (by kernel_rfl) (fun _ _ _ h => h) (Or.inl ⟨by rfl, ?_⟩) (by assumption) ?_
       rotate_left
       · (intro w hSw; (try dsimp only at hSw); go_simp; (try with_reducible rfl))
       try simp only [Act.put, List.setIfInBounds_toArray, List.set_cons_zero, List.set_cons_succ])
      (refine HT.takeL (i := 5) (v := ?_) rfl (by kernel_rfl) (fun _ _ _ h => h) (Or.inl ⟨by rfl, ?_⟩) (by assumption) ?_
       rotate_left
       · (intro w hSw; (try dsimp only at hSw); go_simp; (try with_reducible rfl))
       try simp only [Act.put, List.setIfInBounds_toArray, List.set_cons_zero, List.set_cons_succ])
      (refine HT.onlyL (i := 6) rfl (by kernel_rfl) (fun K hK => ?_)
       (go_simp; refine (sha_rootBits p true (by omega) _).mono ?_; rintro e m6 ⟨rfl, rfl⟩)
       refine hK.out _ _ ?_ (fun hHeld => ?_)
       · (exact hHeld)
       clear hK K
       try simp only [Act.put, List.setIfInBounds_toArray, List.set_cons_zero, List.set_cons_succ])
      (refine HT.onlyL (i := 7) rfl (by kernel_rfl) (fun K hK => ?_)
       go_simp
       refine hK.out _ _ ?_ (fun hHeld => ?_)
       · (exact (World.cell?_alloc_lt _ _ _ (by exact lb)).trans z10)
       clear hK K
       try simp only [Act.put, List.setIfInBounds_toArray, List.set_cons_zero, List.set_cons_succ])
      (refine HT.onlyL (i := 8) rfl (by kernel_rfl) (fun K hK => ?_)
       ((apply Elem.step_one u32E (s := .tmp 26) (x := .tmp 29) (base := w.heap.size + 1) (l := (roots0 k)) (y := (rootF p true)); (case' hgd => rfl); (case' ho => rfl); (case' hs => rfl); (case' hx => rfl); (case' hown => exact ((hoR.drew.alloc _))); (case' hy => exact (fun j u hu => by rcases j with _ | j <;> simp [u32E, u32Cell] at hu; subst hu; first | (go_simp; done) | exact newCell _ _ _ _ _)); (case' hl => exact (by rw [hl7]; omega)); (case' hbase => exact (by first | omega | (simp; try omega)))); intro v9 w9 hown9 hg9 hat9; replace hg9 : (w4.alloc (.cells #[.int .u32 (rootF p true)] 123)).drew.grownBy w9 v.ownBlock := hg9; have hq9 := hq9_of hq hoR hg9; have z109 := (hObj_tail hq9 (now0_len _)).2.2.2.1)
       refine hK.out _ _ ?_ (fun hHeld => ?_)
       · (exact z109)
       clear hK K
       try simp only [Act.put, List.setIfInBounds_toArray, List.set_cons_zero, List.set_cons_succ])
      refine HT.tail (by kernel_rfl) ?_
      simp only [List.drop_succ_cons, List.drop_zero]
      have hb9 : Below w.heap.size w w9 := Below.grownOwn (hbr.alloc hbr.size (.cells #[.int .u32 (rootF p true)] 123)).drew (hoR.alloc _).drew (Nat.le_succ _) (by simp; have := hbr.size; omega) hg9
      have hoP9 := Owns.grownT (hoP.alloc (.cells #[.int .u32 (rootF p true)] 123)).drew (hoR.alloc _).drew hg9 (by decide)
      obtain ⟨lb9, -, -, -, zf9⟩ := hObj_tail hq9 (now0_len _)
      obtain ⟨A9, c9, e9⟩ := Owns.form hown9
      subst e9
      have hl9 : (roots0 k ++ [rootF p true]).length = k + 1 := by simp [hl7]
      rw [hl9] at hown9 ⊢
      have f10 := zf9 10
      clear z8 z9 z10 zf zf9 hHeld hg9 hat9 hq hoR hoP hbr
      have hqn := Lib.hid ((hset (o := 10) hq9 (.slice A9 (k + 1) c9)).trans (congrArg (fun c => some (Obj.cells c 129)) (hCells_setT (now0_len _) _).2.1))
      have hoRn := Lib.hid (Owns.setAway hown9 (b := w.heap.size) (o := 10) (.slice A9 (k + 1) c9) (Nat.lt_succ_self _))
      have hoPn := Lib.hid (Owns.setAway hoP9 (b := w.heap.size) (o := 10) (.slice A9 (k + 1) c9) (Nat.lt_succ_self _))
      have hbn := Lib.hid (hb9.setCell (p := ⟨w.heap.size, 10, none⟩) (Nat.le_refl _) (.slice A9 (k + 1) c9))
      replace hown9 := Lib.hid hown9
      replace hoP9 := Lib.hid hoP9
      replace hq9 := Lib.hid hq9
      replace hb9 := Lib.hid hb9
      go_wp2_with fail
      go_roundw
      case rel => exact ⟨k + 1, _, by omega, by go_num, hqn.out, by rw [hs7.out]; exact hoRn.out, hoPn.out, hbn.out⟩
      case measure => simp [intOf]; omega
  · obtain rfl : k = 64 := by omega
    replace hoP := Lib.hid hoP
    replace hoR := Lib.hid hoR
    replace hq := Lib.hid hq
    go_wp2_with fail
    go_ret
    exact ⟨_, _, rfl, Nat.le_refl _, hq.out, hoR.out.from (by omega), hbr⟩
end Go.Proofs.YtdhlmhkabckbaaaGreatDoor

/-
  A notebook of blocks behind a base: what they hold, call by call.
-/
namespace Go.Proofs.YtdhlmhkabckbaaaGreatDoor
open Go.RowKit

/-- Behind a base: some blocks that hold what is told of them. -/
structure Nb (w wr : World) (l : List (Nat × Obj)) : Prop where
  bel : Below w.heap.size w wr
  at_ : ∀ p ∈ l, wr.heap[p.1]? = some p.2 ∧ w.heap.size ≤ p.1
section
variable {w wr w' : World} {l : List (Nat × Obj)} {q : Nat} {o : Obj} {cs : Array Value} {T : TypeId}
theorem Nb.lt (h : Nb w wr l) {p : Nat × Obj} (hp : p ∈ l) : p.1 < wr.heap.size := (Array.getElem?_eq_some_iff.1 (h.at_ p hp).1).1
theorem Nb.below (h : Nb w wr l) (hb : Below wr.heap.size wr w') : Nb w w' l := ⟨h.bel.trans (hb.mono h.bel.size), fun p hp => ⟨(hb.block _ (h.lt hp)).trans (h.at_ p hp).1, (h.at_ p hp).2⟩⟩
theorem Nb.start (h : Below w.heap.size w wr) : Nb w wr [] := ⟨h, by simp⟩
theorem Nb.alloc (h : Nb w wr l) (o : Obj) : Nb w (wr.alloc o) ((wr.heap.size, o) :: l) := by
  have hq := h.below ((Below.refl _ wr).alloc (Nat.le_refl _) o)
  refine ⟨hq.bel, fun p hp => ?_⟩
  rcases List.mem_cons.1 hp with rfl | hp
  · exact ⟨heap_alloc_new _ _, h.bel.size⟩
  · exact hq.at_ p hp
theorem Nb.sub {l' : List (Nat × Obj)} (h : Nb w wr l) (hs : ∀ p ∈ l', p ∈ l) : Nb w wr l' := ⟨h.bel, fun p hp => h.at_ p (hs p hp)⟩
theorem Nb.cons (h : Nb w wr l) (hq : wr.heap[q]? = some o) (hb : w.heap.size ≤ q) : Nb w wr ((q, o) :: l) := ⟨h.bel, fun p hp => by
  rcases List.mem_cons.1 hp with rfl | hp
  · exact ⟨hq, hb⟩
  · exact h.at_ p hp⟩
theorem Nb.set (h : Nb w wr ((q, .cells cs T) :: l)) (hne : ∀ p ∈ l, p.1 ≠ q) (k : Nat) (u : Value) : Nb w (wr.setCell ⟨q, k, none⟩ u) ((q, .cells (cs.setIfInBounds k u) T) :: l) := by
  have h0 := h.at_ (q, .cells cs T) (by simp)
  refine ⟨h.bel.setCell (p := ⟨q, k, none⟩) h0.2 _, fun p hp => ?_⟩
  rcases List.mem_cons.1 hp with rfl | hp
  · exact ⟨hset h0.1 u, h0.2⟩
  · exact ⟨(Go.Deep.blk_setCell_other _ _ _ _ (hne p hp)).trans (h.at_ p (List.mem_cons_of_mem _ hp)).1, (h.at_ p (List.mem_cons_of_mem _ hp)).2⟩
theorem Nb.stored {u : World} {O R : Obj} {r : Nat} (h : Nb w wr ((q, O) :: l)) (hlt : ∀ p ∈ l, p.1 < q) (hb : Below q wr u) (hv : u.heap[q]? = some (.cells cs T)) (hx : u.heap[r]? = some R) (hqr : q < r) (k : Nat) (v : Value) :
    Nb w (u.setCell ⟨q, k, none⟩ v) ((q, .cells (cs.setIfInBounds k v) T) :: (r, R) :: l) := by
  have h0 := h.at_ (q, O) (by simp)
  refine ⟨h.bel.trans ((hb.setCell (p := ⟨q, k, none⟩) (Nat.le_refl _) v).mono h0.2), fun p hp => ?_⟩
  rcases List.mem_cons.1 hp with rfl | hp
  · exact ⟨hset hv v, h0.2⟩
  rcases List.mem_cons.1 hp with rfl | hp
  · exact ⟨(Go.Deep.blk_setCell_other _ _ _ _ (by show r ≠ q; omega)).trans hx, by have := h0.2; dsimp only at this ⊢; omega⟩
  · have h1 := h.at_ p (List.mem_cons_of_mem _ hp)
    have h2 := hlt p hp
    exact ⟨(Go.Deep.blk_setCell_other _ _ _ _ (by show p.1 ≠ q; omega)).trans ((hb.block _ h2).trans h1.1), h1.2⟩
theorem Nb.swap {x y : Nat × Obj} (h : Nb w wr (x :: y :: l)) : Nb w wr (y :: x :: l) := ⟨h.bel, fun p hp => h.at_ p (by simp at hp ⊢; rcases hp with e | e | e <;> simp [e])⟩
theorem Nb.mem (h : Nb w wr l) {q : Nat} {o : Obj} (hm : (q, o) ∈ l) : wr.heap[q]? = some o := (h.at_ (q, o) hm).1
theorem Nb.head (h : Nb w wr ((q, o) :: l)) : wr.heap[q]? = some o := (h.at_ (q, o) (by simp)).1
end


end Go.Proofs.YtdhlmhkabckbaaaGreatDoor

/-
  Package sha: the words of a block.
-/
namespace Go.Proofs.YtdhlmhkabckbaaaGreatDoor
open Go.RowKit

theorem sha_turnB (n : Nat) (h1 : 1 ≤ n) (h2 : n ≤ 31) (x : Int) (w : World) :
    Calls Tryz.prog 177 #[.int .u32 x, .int .i64 n] w fun e w' => e = .returned (.int .u32 (rotN n x)) ∧ Below w.heap.size w w' :=
  (sha_turn n h1 h2 x w).mono fun e w' ⟨h, e2⟩ => ⟨h, e2 ▸ Below.refl _ _⟩

theorem sha_turnI (k : Int) (n : Nat) (hk : k = n) (h1 : 1 ≤ n) (h2 : n ≤ 31) (x : Int) (w : World) :
    Calls Tryz.prog 177 #[.int .u32 x, .int .i64 k] w fun e w' => e = .returned (.int .u32 (rotN n x)) ∧ Below w.heap.size w w' := by
  subst hk
  exact sha_turnB n h1 h2 x w
/-- An array of numbers in a block. -/
def wObj (T : TypeId) (l : List Int) : Obj := .cells (l.map (Value.int .u32)).toArray T
theorem wObj_at {w : World} {b : Nat} {T : TypeId} {l : List Int} (h : w.heap[b]? = some (wObj T l)) {i : Nat} {x : Int} (hx : l[i]? = some x) : w.cell? ⟨b, i, none⟩ = some (.int .u32 x) := by
  rw [cell_of_row w b i _ _ _ h]
  simp [hx]
theorem wObj_set {w : World} {b : Nat} {T : TypeId} {l : List Int} (h : w.heap[b]? = some (wObj T l)) (i : Nat) (v : Int) : (w.setCell ⟨b, i, none⟩ (.int .u32 v)).heap[b]? = some (wObj T (l.set i v)) := by
  rw [hset h]
  simp [wObj, List.map_set]
theorem wObj_frozen {w : World} {b : Nat} {T : TypeId} {l : List Int} (h : w.heap[b]? = some (wObj T l)) : b < w.heap.size ∧ ∀ o, w.frozen? ⟨b, o, none⟩ = false :=
  ⟨(Array.getElem?_eq_some_iff.1 h).1, fun o => by unfold World.frozen?; simp [h, wObj]⟩

theorem rows_load {P : Program} {w : World} {q n : Nat} {C : Array Value} {T : TypeId} {fz : Nat × Nat} (h : w.heap[q]? = some (.cells C T fz)) (hn : C.size = n) : (loadCellsFrom ⟨q, 0, none⟩ 0 n #[]).run P w = .ok C w := by
  subst hn
  have := run_loadCells_list (P := P) w ⟨q, 0, none⟩ C.toList (fun j v hv => by
    have hadd : (⟨q, 0, none⟩ : Addr).add j = ⟨q, j, none⟩ := by unfold Addr.add; split <;> simp_all
    rw [hadd, cell_of_row _ _ j C T fz h]
    simpa using hv)
  simpa [loadCells] using this
theorem below_setRow {w0 w : World} {q : Nat} {C : Array Value} (h : Below q w0 w) : Below q w0 (w.setRow q C) :=
  ⟨h.os, h.tape, h.output, by simp [World.setRow]; exact h.size, fun i hi => by
    rw [← h.block i hi]
    simp only [World.setRow, Array.getElem?_modify]
    rw [if_neg (by omega)]⟩
abbrev byt (L : List UInt8) (i : Nat) : Int := ((L.getD i 0).toNat : Int)
def word (L : List UInt8) (k : Nat) : Int :=
  bits .or .u32 (bits .or .u32 (bits .or .u32 (byt L (4 * k) % 4294967296 * 16777216 % 4294967296) (byt L (4 * k + 1) % 4294967296 * 65536 % 4294967296)) (byt L (4 * k + 2) % 4294967296 * 256 % 4294967296)) (byt L (4 * k + 3) % 4294967296)
def w16 (L : List UInt8) (k : Nat) : List Int := (List.range 64).map fun i => if i < k then word L i else 0
theorem w16_zero (L : List UInt8) (T : TypeId) : wObj T (w16 L 0) = .cells #[.int .u32 0, .int .u32 0, .int .u32 0, .int .u32 0, .int .u32 0, .int .u32 0, .int .u32 0, .int .u32 0, .int .u32 0, .int .u32 0, .int .u32 0, .int .u32 0, .int .u32 0, .int .u32 0, .int .u32 0, .int .u32 0, .int .u32 0, .int .u32 0, .int .u32 0, .int .u32 0, .int .u32 0, .int .u32 0, .int .u32 0, .int .u32 0, .int .u32 0, .int .u32 0, .int .u32 0, .int .u32 0, .int .u32 0, .int .u32 0, .int .u32 0, .int .u32 0, .int .u32 0, .int .u32 0, .int .u32 0, .int .u32 0, .int .u32 0, .int .u32 0, .int .u32 0, .int .u32 0, .int .u32 0, .int .u32 0, .int .u32 0, .int .u32 0, .int .u32 0, .int .u32 0, .int .u32 0, .int .u32 0, .int .u32 0, .int .u32 0, .int .u32 0, .int .u32 0, .int .u32 0, .int .u32 0, .int .u32 0, .int .u32 0, .int .u32 0, .int .u32 0, .int .u32 0, .int .u32 0, .int .u32 0, .int .u32 0, .int .u32 0, .int .u32 0] T := by
  have : w16 L 0 = List.replicate 64 0 := by
    unfold w16
    rw [List.eq_replicate_iff]
    simp
  rw [this]
  rfl
theorem w16_set {L : List UInt8} {k : Nat} (h : k < 64) : (w16 L k).set k (word L k) = w16 L (k + 1) := by
  apply List.ext_getElem
  · simp [w16]
  · intro i h1 h2
    simp only [w16, List.length_set, List.length_map, List.length_range] at h1
    rw [List.getElem_set]
    simp only [w16, List.getElem_map, List.getElem_range]
    by_cases e : k = i
    · subst e; simp
    · rw [if_neg e]
      by_cases hi : i < k
      · rw [if_pos hi, if_pos (by omega)]
      · rw [if_neg hi, if_neg (by omega)]
theorem w16_len (L : List UInt8) (k : Nat) : (w16 L k).length = 64 := by simp [w16]

/-- The next number of a row, by those ahead of it. -/
def nextW (l : List Int) (i : Nat) : Int :=
  (l.getD (i - 16) 0 + l.getD (i - 7) 0 + bits .xor .u32 (bits .xor .u32 (rotN 7 (l.getD (i - 15) 0)) (rotN 18 (l.getD (i - 15) 0))) (l.getD (i - 15) 0 / 8) + bits .xor .u32 (bits .xor .u32 (rotN 17 (l.getD (i - 2) 0)) (rotN 19 (l.getD (i - 2) 0))) (l.getD (i - 2) 0 / 1024)) % 4294967296
def wGo (l : List Int) : Nat → Nat → List Int
  | _, 0 => l
  | i, f + 1 => wGo (l.set i (nextW l i)) (i + 1) f
def wordsF (L : List UInt8) : List Int := wGo (w16 L 16) 16 48
theorem wGo_len : ∀ (f i : Nat) (l : List Int), (wGo l i f).length = l.length
  | 0, _, _ => rfl
  | f + 1, i, l => by rw [wGo, wGo_len f]; simp
theorem wordsF_len (L : List UInt8) : (wordsF L).length = 64 := by rw [wordsF, wGo_len, w16_len]

set_option maxRecDepth 100000 in
set_option maxHeartbeats 4000000 in
theorem sha_words (B off n c : Nat) (L : List UInt8) (hn : 64 ≤ n) (w : World) (hL : RowAt 1 byteCell w w.heap.size (some ⟨B, off, none⟩) n L) :
    Calls Tryz.prog 176 #[.slice (some ⟨B, off, none⟩) n c] w fun e w' => e = .returned (.agg ((wordsF L).map (Value.int .u32)).toArray) ∧ Below w.heap.size w w' := by
  have hB : B < w.heap.size := by
    obtain ⟨b', o', e, hb, _⟩ := hL.2.2 (by omega)
    cases e
    exact hb
  have hcell : ∀ i, i < 64 → w.cell? ⟨B, off + i, none⟩ = some (.int .u8 (byt L i)) := fun i hi => by
    obtain ⟨b', o', e, _, hc⟩ := hL.2.2 (by omega)
    cases e
    have hl := hL.1
    have := hc i (L[i]'(by omega)) (List.getElem?_eq_getElem (by omega)) 0 _ rfl
    simpa [byt, show i < L.length by omega] using this
  have hln := hL.2.1
  replace hcell := Lib.hid hcell
  have hT : Nb w w [] := Nb.start (Below.refl _ _)
  have hT := (hT.alloc (.cells #[.int .u32 0, .int .u32 0, .int .u32 0, .int .u32 0, .int .u32 0, .int .u32 0, .int .u32 0, .int .u32 0, .int .u32 0, .int .u32 0, .int .u32 0, .int .u32 0, .int .u32 0, .int .u32 0, .int .u32 0, .int .u32 0, .int .u32 0, .int .u32 0, .int .u32 0, .int .u32 0, .int .u32 0, .int .u32 0, .int .u32 0, .int .u32 0, .int .u32 0, .int .u32 0, .int .u32 0, .int .u32 0, .int .u32 0, .int .u32 0, .int .u32 0, .int .u32 0, .int .u32 0, .int .u32 0, .int .u32 0, .int .u32 0, .int .u32 0, .int .u32 0, .int .u32 0, .int .u32 0, .int .u32 0, .int .u32 0, .int .u32 0, .int .u32 0, .int .u32 0, .int .u32 0, .int .u32 0, .int .u32 0, .int .u32 0, .int .u32 0, .int .u32 0, .int .u32 0, .int .u32 0, .int .u32 0, .int .u32 0, .int .u32 0, .int .u32 0, .int .u32 0, .int .u32 0, .int .u32 0, .int .u32 0, .int .u32 0, .int .u32 0, .int .u32 0] 209)).alloc (.cells #[.int .u32 0, .int .u32 0, .int .u32 0, .int .u32 0, .int .u32 0, .int .u32 0, .int .u32 0, .int .u32 0, .int .u32 0, .int .u32 0, .int .u32 0, .int .u32 0, .int .u32 0, .int .u32 0, .int .u32 0, .int .u32 0, .int .u32 0, .int .u32 0, .int .u32 0, .int .u32 0, .int .u32 0, .int .u32 0, .int .u32 0, .int .u32 0, .int .u32 0, .int .u32 0, .int .u32 0, .int .u32 0, .int .u32 0, .int .u32 0, .int .u32 0, .int .u32 0, .int .u32 0, .int .u32 0, .int .u32 0, .int .u32 0, .int .u32 0, .int .u32 0, .int .u32 0, .int .u32 0, .int .u32 0, .int .u32 0, .int .u32 0, .int .u32 0, .int .u32 0, .int .u32 0, .int .u32 0, .int .u32 0, .int .u32 0, .int .u32 0, .int .u32 0, .int .u32 0, .int .u32 0, .int .u32 0, .int .u32 0, .int .u32 0, .int .u32 0, .int .u32 0, .int .u32 0, .int .u32 0, .int .u32 0, .int .u32 0, .int .u32 0, .int .u32 0] 209)
  rw [show (w.alloc (.cells #[.int .u32 0, .int .u32 0, .int .u32 0, .int .u32 0, .int .u32 0, .int .u32 0, .int .u32 0, .int .u32 0, .int .u32 0, .int .u32 0, .int .u32 0, .int .u32 0, .int .u32 0, .int .u32 0, .int .u32 0, .int .u32 0, .int .u32 0, .int .u32 0, .int .u32 0, .int .u32 0, .int .u32 0, .int .u32 0, .int .u32 0, .int .u32 0, .int .u32 0, .int .u32 0, .int .u32 0, .int .u32 0, .int .u32 0, .int .u32 0, .int .u32 0, .int .u32 0, .int .u32 0, .int .u32 0, .int .u32 0, .int .u32 0, .int .u32 0, .int .u32 0, .int .u32 0, .int .u32 0, .int .u32 0, .int .u32 0, .int .u32 0, .int .u32 0, .int .u32 0, .int .u32 0, .int .u32 0, .int .u32 0, .int .u32 0, .int .u32 0, .int .u32 0, .int .u32 0, .int .u32 0, .int .u32 0, .int .u32 0, .int .u32 0, .int .u32 0, .int .u32 0, .int .u32 0, .int .u32 0, .int .u32 0, .int .u32 0, .int .u32 0, .int .u32 0] 209)).heap.size = w.heap.size + 1 by simp] at hT
  have hq1 := hT.mem (q := w.heap.size + 1) (o := .cells #[.int .u32 0, .int .u32 0, .int .u32 0, .int .u32 0, .int .u32 0, .int .u32 0, .int .u32 0, .int .u32 0, .int .u32 0, .int .u32 0, .int .u32 0, .int .u32 0, .int .u32 0, .int .u32 0, .int .u32 0, .int .u32 0, .int .u32 0, .int .u32 0, .int .u32 0, .int .u32 0, .int .u32 0, .int .u32 0, .int .u32 0, .int .u32 0, .int .u32 0, .int .u32 0, .int .u32 0, .int .u32 0, .int .u32 0, .int .u32 0, .int .u32 0, .int .u32 0, .int .u32 0, .int .u32 0, .int .u32 0, .int .u32 0, .int .u32 0, .int .u32 0, .int .u32 0, .int .u32 0, .int .u32 0, .int .u32 0, .int .u32 0, .int .u32 0, .int .u32 0, .int .u32 0, .int .u32 0, .int .u32 0, .int .u32 0, .int .u32 0, .int .u32 0, .int .u32 0, .int .u32 0, .int .u32 0, .int .u32 0, .int .u32 0, .int .u32 0, .int .u32 0, .int .u32 0, .int .u32 0, .int .u32 0, .int .u32 0, .int .u32 0, .int .u32 0] 209) (by simp)
  have hq0 := hT.mem (q := w.heap.size) (o := .cells #[.int .u32 0, .int .u32 0, .int .u32 0, .int .u32 0, .int .u32 0, .int .u32 0, .int .u32 0, .int .u32 0, .int .u32 0, .int .u32 0, .int .u32 0, .int .u32 0, .int .u32 0, .int .u32 0, .int .u32 0, .int .u32 0, .int .u32 0, .int .u32 0, .int .u32 0, .int .u32 0, .int .u32 0, .int .u32 0, .int .u32 0, .int .u32 0, .int .u32 0, .int .u32 0, .int .u32 0, .int .u32 0, .int .u32 0, .int .u32 0, .int .u32 0, .int .u32 0, .int .u32 0, .int .u32 0, .int .u32 0, .int .u32 0, .int .u32 0, .int .u32 0, .int .u32 0, .int .u32 0, .int .u32 0, .int .u32 0, .int .u32 0, .int .u32 0, .int .u32 0, .int .u32 0, .int .u32 0, .int .u32 0, .int .u32 0, .int .u32 0, .int .u32 0, .int .u32 0, .int .u32 0, .int .u32 0, .int .u32 0, .int .u32 0, .int .u32 0, .int .u32 0, .int .u32 0, .int .u32 0, .int .u32 0, .int .u32 0, .int .u32 0, .int .u32 0] 209) (by simp)
  replace hq1 := hq1.trans (congrArg some (w16_zero L _).symm)
  replace hq0 := hq0.trans (congrArg some (w16_zero L _).symm)
  have hbw := hT.bel
  clear hT
  replace hq0 := Lib.hid hq0
  replace hq1 := Lib.hid hq1
  replace hbw := Lib.hid hbw
  go_enter Tryz.func176, Tryz.ntmps176
  go_wp2_with fail
  generalize (w.alloc (.cells #[.int .u32 0, .int .u32 0, .int .u32 0, .int .u32 0, .int .u32 0, .int .u32 0, .int .u32 0, .int .u32 0, .int .u32 0, .int .u32 0, .int .u32 0, .int .u32 0, .int .u32 0, .int .u32 0, .int .u32 0, .int .u32 0, .int .u32 0, .int .u32 0, .int .u32 0, .int .u32 0, .int .u32 0, .int .u32 0, .int .u32 0, .int .u32 0, .int .u32 0, .int .u32 0, .int .u32 0, .int .u32 0, .int .u32 0, .int .u32 0, .int .u32 0, .int .u32 0, .int .u32 0, .int .u32 0, .int .u32 0, .int .u32 0, .int .u32 0, .int .u32 0, .int .u32 0, .int .u32 0, .int .u32 0, .int .u32 0, .int .u32 0, .int .u32 0, .int .u32 0, .int .u32 0, .int .u32 0, .int .u32 0, .int .u32 0, .int .u32 0, .int .u32 0, .int .u32 0, .int .u32 0, .int .u32 0, .int .u32 0, .int .u32 0, .int .u32 0, .int .u32 0, .int .u32 0, .int .u32 0, .int .u32 0, .int .u32 0, .int .u32 0, .int .u32 0] 209)).alloc (.cells #[.int .u32 0, .int .u32 0, .int .u32 0, .int .u32 0, .int .u32 0, .int .u32 0, .int .u32 0, .int .u32 0, .int .u32 0, .int .u32 0, .int .u32 0, .int .u32 0, .int .u32 0, .int .u32 0, .int .u32 0, .int .u32 0, .int .u32 0, .int .u32 0, .int .u32 0, .int .u32 0, .int .u32 0, .int .u32 0, .int .u32 0, .int .u32 0, .int .u32 0, .int .u32 0, .int .u32 0, .int .u32 0, .int .u32 0, .int .u32 0, .int .u32 0, .int .u32 0, .int .u32 0, .int .u32 0, .int .u32 0, .int .u32 0, .int .u32 0, .int .u32 0, .int .u32 0, .int .u32 0, .int .u32 0, .int .u32 0, .int .u32 0, .int .u32 0, .int .u32 0, .int .u32 0, .int .u32 0, .int .u32 0, .int .u32 0, .int .u32 0, .int .u32 0, .int .u32 0, .int .u32 0, .int .u32 0, .int .u32 0, .int .u32 0, .int .u32 0, .int .u32 0, .int .u32 0, .int .u32 0, .int .u32 0, .int .u32 0, .int .u32 0, .int .u32 0] 209) = W0 at hq0 hq1 hbw ⊢
  replace hq0 := hq0.out
  replace hq1 := hq1.out
  replace hbw := hbw.out
  go_loopw [4, 8] (fun _ ti wr => ∃ k : Nat, k ≤ 16 ∧ ti = .int .i64 k ∧ wr.heap[w.heap.size + 1]? = some (wObj 209 (w16 L k)) ∧ wr.heap[w.heap.size]? = some (wObj 209 (w16 L 0)) ∧ Below w.heap.size w wr) (fun _ ti _ => 16 - (intOf ti).toNat)
  case atStart => exact ⟨0, Nat.zero_le _, rfl, hq1, hq0, hbw⟩
  clear hq1 hq0 hbw
  obtain ⟨k, hk, rfl, hq1, hq0, hbr⟩ := hrel
  obtain ⟨wp, rfl⟩ : ∃ x : World, x = wr := ⟨_, rfl⟩
  rcases Nat.lt_or_ge k 16 with hlt | hge
  case inl =>
    have hzs := hbr.size
    have hc0 := (hbr.cell (p := ⟨B, off + 4 * k, none⟩) hB).trans (hcell.out (4 * k) (by omega))
    have hc1 := (hbr.cell (p := ⟨B, off + (4 * k + 1), none⟩) hB).trans (hcell.out (4 * k + 1) (by omega))
    have hc2 := (hbr.cell (p := ⟨B, off + (4 * k + 2), none⟩) hB).trans (hcell.out (4 * k + 2) (by omega))
    have hc3 := (hbr.cell (p := ⟨B, off + (4 * k + 3), none⟩) hB).trans (hcell.out (4 * k + 3) (by omega))
    have hBp : B < wp.heap.size := by omega
    go_upto_region 5 with fail
    (refine region_ext_tail 34 (wp.heap.size) (by kernel_rfl) (by kernel_rfl) ?_
     simp only [List.take_succ_cons, List.take_zero, List.drop_succ_cons, List.drop_zero]
     repeat (go_big_quiet_step (fail))
     refine wpQuiet_nil ?_
     intro w9 hw'
     have hbw9 := Ext.of hw'
     clear hw'
     obtain ⟨hcw9, hfw9⟩ := bcell hbw9; (try simp only [World.size_drew, World.cell?_drew, World.frozen?_drew, World.heap_drewN, World.cell?_drewN, World.frozen?_drewN] at hcw9 hfw9); have hzw9 := hbw9.size; (try simp at hzw9); (try have hlw9 := (by omega : w.heap.size < w9.heap.size)); (try have hmw9 := (by omega : w.heap.size + 1 < w9.heap.size)); (try have hnw9 := (by omega : w.heap.size + 1 + 1 < w9.heap.size)))
    have hq19 := (hbw9.block _ (by have := (wObj_frozen hq1).1; omega)).trans hq1
    have hq09 := (hbw9.block _ (by have := (wObj_frozen hq0).1; omega)).trans hq0
    have hy := wObj_at hq19 (i := k) (x := (w16 L k)[k]'(by rw [w16_len]; omega)) (List.getElem?_eq_getElem (by rw [w16_len]; omega))
    obtain ⟨lq, fz⟩ := wObj_frozen hq19
    have fk := fz k
    have hset := wObj_set hq19 k (word L k)
    rw [w16_set (by omega)] at hset
    have hset0 := (Go.Deep.blk_setCell_other w9 ⟨w.heap.size + 1, k, none⟩ (.int .u32 (word L k)) w.heap.size (by show w.heap.size ≠ w.heap.size + 1; omega)).trans hq09
    have hb9 := (hbr.trans (hbw9.mono hbr.size)).setCell (p := ⟨w.heap.size + 1, k, none⟩) (by show w.heap.size ≤ w.heap.size + 1; omega) (.int .u32 (word L k))
    replace hset := Lib.hid hset
    replace hset0 := Lib.hid hset0
    replace hb9 := Lib.hid hb9
    clear fz hq1 hq0 hq19 hq09 hcw9 hfw9 hc0 hc1 hc2 hc3
    go_wp2_with fail
    go_roundw
    case rel => exact ⟨k + 1, by omega, by go_num, hset.out, hset0.out, hb9.out⟩
    case measure => simp [intOf]; omega
  obtain rfl : k = 16 := by omega
  go_wp2_with fail
  go_loopw [5, 6, 7] (fun ti _ _ wr => ∃ (i f : Nat) (l : List Int), i + f = 64 ∧ 16 ≤ i ∧ l.length = 64 ∧ ti = .int .i64 i ∧ wr.heap[w.heap.size + 1]? = some (wObj 209 l) ∧ wr.heap[w.heap.size]? = some (wObj 209 (w16 L 0)) ∧ Below w.heap.size w wr ∧ Hid (wordsF L = wGo l i f)) (fun ti _ _ _ => 64 - (intOf ti).toNat)
  case atStart => exact ⟨16, 48, w16 L 16, rfl, Nat.le_refl _, w16_len _ _, rfl, hq1, hq0, hbr, Lib.hid rfl⟩
  clear hq1 hq0 hbr hk hge
  obtain ⟨i, f, l, hif, hi, hll, rfl, hq1, hq0, hbr, hgo⟩ := hrel
  obtain ⟨wp, rfl⟩ : ∃ x : World, x = wr := ⟨_, rfl⟩
  obtain ⟨g, hg⟩ : ∃ g : Nat → Int, ∀ j, g j = l.getD j 0 := ⟨_, fun _ => rfl⟩
  have hat := Lib.hid fun (W : World) (hW : W.heap[w.heap.size + 1]? = some (wObj 209 l)) (j : Nat) (hj : j < 64) => wObj_at hW (i := j) (x := g j) (by rw [hg, List.getD_eq_getElem?_getD, List.getElem?_eq_getElem (show j < l.length by omega)]; rfl)
  replace hg := Lib.hid hg
  cases f with
  | zero =>
    obtain rfl : i = 64 := by omega
    go_upto_region 12 with fail
    obtain ⟨C, hC⟩ : ∃ C : Array Value, C = (l.map (Value.int .u32)).toArray := ⟨_, rfl⟩
    have hsz : C.size = 64 := by rw [hC]; simp [hll]
    have hone : ∀ v ∈ C.toList, v.oneCell' = true := fun v hv => by
      rw [hC] at hv
      simp at hv
      obtain ⟨x, _, rfl⟩ := hv
      rfl
    have hi1 : (Tryz.prog.info? 209).map (·.size) = some C.size := by rw [hsz]; kernel_rfl
    have hC1 : wp.heap[w.heap.size + 1]? = some (.cells C 209) := by rw [hC]; exact hq1
    have hw : l = wordsF L := by rw [hgo.out]; rfl
    have hst : (wp.setRow w.heap.size C).heap[w.heap.size]? = some (.cells C 209) := setRow_heap wp w.heap.size _ C 209 (0, 0) hq0
    have hbn : Below w.heap.size w (wp.setRow w.heap.size C) := below_setRow hbr
    have hres := results_cell_row (P := Tryz.prog) (fn := Tryz.f176) (p := 2) (ty := 209) rfl
    refine wp_region_list ?_
    refine wpList_load_row rfl 209 (.tmp 3) rfl (w.heap.size + 1) rfl 209 C (0, 0) (.array 64 123) hC1 (by kernel_rfl) rfl hi1 ?_
    refine wpList_plain rfl fun _ hK => wp_store_row 209 (.tmp 2) (.tmp 88) rfl w.heap.size C rfl rfl 209 _ hq0 hi1 (by rw [hsz]; simp [w16]) (by rw [Array.all_eq_true_iff_forall_mem]; exact fun v hv => hone v (by simpa using hv)) (hK _ _ ?_)
    refine wpList_nil ?_
    simp only [Act.put, List.setIfInBounds_toArray, List.set_cons_zero, List.set_cons_succ]
    clear hat hg hgo hq1 hq0 hbr hif hi hone hK hC1 hll
    go_wp2_with fail
    refine bodyPost_ret (hres _ _ w.heap.size 209 C (0, 0) (.array 64 123) rfl hst (by kernel_rfl) rfl hi1) rfl ⟨by rw [hC, hw], hbn⟩
  | succ f =>
    obtain ⟨m, rfl⟩ : ∃ m, i = m + 16 := ⟨i - 16, by omega⟩
    have hm : m < 48 := by omega
    replace hif := Lib.hid hif
    replace hll := Lib.hid hll
    have e15 : ((m + 16 : Nat) : Int) - 15 = ((m + 1 : Nat) : Int) := by omega
    have e2 : ((m + 16 : Nat) : Int) - 2 = ((m + 14 : Nat) : Int) := by omega
    have e16 : ((m + 16 : Nat) : Int) - 16 = ((m : Nat) : Int) := by omega
    have e7 : ((m + 16 : Nat) : Int) - 7 = ((m + 9 : Nat) : Int) := by omega
    have lq := (wObj_frozen hq1).1
    have a15 := hat.out wp hq1 (m + 1) (by omega)
    have a2 := hat.out wp hq1 (m + 14) (by omega)
    have a16 := hat.out wp hq1 m (by omega)
    have a7 := hat.out wp hq1 (m + 9) (by omega)
    obtain ⟨i, hi⟩ : ∃ i : Int, i = ((m + 16 : Nat) : Int) := ⟨_, rfl⟩
    rw [← hi] at e15 e2 e16 e7 ⊢
    have hi1 : i < 64 := by omega
    have hi2 : 16 ≤ i := by omega
    replace hi := Lib.hid hi
    go_upto_region 10 with fail
    (refine wp_region_ext (wp.heap.size) (by kernel_rfl) (by kernel_rfl) ?_
     repeat (go_big_quiet_step (fail))
     refine wpQuiet_nil ?_
     intro w8 hw'
     have hbw8 := Ext.of hw'
     clear hw'
     obtain ⟨hcw8, hfw8⟩ := bcell hbw8; (try simp only [World.size_drew, World.cell?_drew, World.frozen?_drew, World.heap_drewN, World.cell?_drewN, World.frozen?_drewN] at hcw8 hfw8); have hzw8 := hbw8.size; (try simp at hzw8); (try have hlw8 := (by omega : w.heap.size < w8.heap.size)); (try have hmw8 := (by omega : w.heap.size + 1 < w8.heap.size)); (try have hnw8 := (by omega : w.heap.size + 1 + 1 < w8.heap.size)))
    have hq18 := (hbw8.block _ (by have := (wObj_frozen hq1).1; omega)).trans hq1
    have hq08 := (hbw8.block _ (by have := (wObj_frozen hq0).1; omega)).trans hq0
    have hbr8 := hbr.trans (hbw8.mono hbr.size)
    clear hq1 hq0 hbr hbw8 hcw8 hfw8 hzw8 a15 a2 a16 a7 lq
    have lq := (wObj_frozen hq18).1
    have a16 := hat.out w8 hq18 m (by omega)
    have a7 := hat.out w8 hq18 (m + 9) (by omega)
    go_upto_region 11 with fail
    obtain ⟨xa, hxa⟩ : ∃ x, x = g (m + 1) := ⟨_, rfl⟩
    obtain ⟨xb, hxb⟩ : ∃ x, x = g (m + 14) := ⟨_, rfl⟩
    simp only [← hxa, ← hxb]
    replace hxa := Lib.hid hxa
    replace hxb := Lib.hid hxb
    obtain ⟨r7, hr7, t7⟩ : ∃ r : Int → Int, (∀ x, r x = rotN 7 x) ∧ ∀ (x : Int) (w : World), Calls Tryz.prog 177 #[.int .u32 x, .int .i64 7] w fun e w' => e = .returned (.int .u32 (r x)) ∧ Below w.heap.size w w' := ⟨rotN 7, fun _ => rfl, sha_turnI 7 7 rfl (by omega) (by omega)⟩
    replace hr7 := Lib.hid hr7
    replace t7 := Lib.hid t7
    obtain ⟨r18, hr18, t18⟩ : ∃ r : Int → Int, (∀ x, r x = rotN 18 x) ∧ ∀ (x : Int) (w : World), Calls Tryz.prog 177 #[.int .u32 x, .int .i64 18] w fun e w' => e = .returned (.int .u32 (r x)) ∧ Below w.heap.size w w' := ⟨rotN 18, fun _ => rfl, sha_turnI 18 18 rfl (by omega) (by omega)⟩
    replace hr18 := Lib.hid hr18
    replace t18 := Lib.hid t18
    obtain ⟨r17, hr17, t17⟩ : ∃ r : Int → Int, (∀ x, r x = rotN 17 x) ∧ ∀ (x : Int) (w : World), Calls Tryz.prog 177 #[.int .u32 x, .int .i64 17] w fun e w' => e = .returned (.int .u32 (r x)) ∧ Below w.heap.size w w' := ⟨rotN 17, fun _ => rfl, sha_turnI 17 17 rfl (by omega) (by omega)⟩
    replace hr17 := Lib.hid hr17
    replace t17 := Lib.hid t17
    obtain ⟨r19, hr19, t19⟩ : ∃ r : Int → Int, (∀ x, r x = rotN 19 x) ∧ ∀ (x : Int) (w : World), Calls Tryz.prog 177 #[.int .u32 x, .int .i64 19] w fun e w' => e = .returned (.int .u32 (r x)) ∧ Below w.heap.size w w' := ⟨rotN 19, fun _ => rfl, sha_turnI 19 19 rfl (by omega) (by omega)⟩
    replace hr19 := Lib.hid hr19
    replace t19 := Lib.hid t19
    (refine region_ext_tail 28 (w8.heap.size) (by kernel_rfl) (by kernel_rfl) ?_
     simp only [List.take_succ_cons, List.take_zero, List.drop_succ_cons, List.drop_zero]
     repeat (go_big_quiet_step ((first | (go_at_call 177; with_reducible refine Calls.ext (Nat.le_refl _) (t7.out xa _)) | (go_at_call 177; with_reducible refine Calls.ext (Nat.le_refl _) (t18.out xa _)) | (go_at_call 177; with_reducible refine Calls.ext (Nat.le_refl _) (t17.out xb _)) | (go_at_call 177; with_reducible refine Calls.ext (Nat.le_refl _) (t19.out xb _)))))
     refine wpQuiet_nil ?_
     intro w9 hw'
     have hbw9 := Ext.of hw'
     clear hw'
     obtain ⟨hcw9, hfw9⟩ := bcell hbw9; (try simp only [World.size_drew, World.cell?_drew, World.frozen?_drew, World.heap_drewN, World.cell?_drewN, World.frozen?_drewN] at hcw9 hfw9); have hzw9 := hbw9.size; (try simp at hzw9); (try have hlw9 := (by omega : w.heap.size < w9.heap.size)); (try have hmw9 := (by omega : w.heap.size + 1 < w9.heap.size)); (try have hnw9 := (by omega : w.heap.size + 1 + 1 < w9.heap.size)))
    have hq19 := (hbw9.block _ (by have := (wObj_frozen hq18).1; omega)).trans hq18
    have hq09 := (hbw9.block _ (by have := (wObj_frozen hq08).1; omega)).trans hq08
    have hy := hat.out w9 hq19 (m + 16) (by omega)
    obtain ⟨lq9, fz⟩ := wObj_frozen hq19
    have fk := fz (m + 16)
    have eN : i.toNat = m + 16 := by have := hi.out; omega
    clear fz hcw9 hfw9 a16 a7 t7 t18 t17 t19
    obtain ⟨V, hV⟩ : ∃ V : Int, V = (g m + g (m + 9) + bits .xor .u32 (bits .xor .u32 (r7 xa) (r18 xa)) (xa / 8) + bits .xor .u32 (bits .xor .u32 (r17 xb) (r19 xb)) (xb / 1024)) % 4294967296 := ⟨_, rfl⟩
    have hVn : V = nextW l (m + 16) := by
      rw [hV, hr7.out, hr18.out, hr17.out, hr19.out, hxa.out, hxb.out, hg.out, hg.out, hg.out, hg.out]
      rfl
    have hset := Lib.hid (wObj_set hq19 (m + 16) V)
    have hset0 := Lib.hid ((Go.Deep.blk_setCell_other w9 ⟨w.heap.size + 1, m + 16, none⟩ (.int .u32 V) w.heap.size (by show w.heap.size ≠ w.heap.size + 1; omega)).trans hq09)
    have hb9 := Lib.hid ((hbr8.trans (hbw9.mono hbr8.size)).setCell (p := ⟨w.heap.size + 1, m + 16, none⟩) (by show w.heap.size ≤ w.heap.size + 1; omega) (.int .u32 V))
    replace hgo : Hid (wordsF L = wGo (l.set (m + 16) V) (m + 17) f) := Lib.hid (by rw [hgo.out, wGo, ← hVn])
    replace hV := Lib.hid hV
    replace hVn := Lib.hid hVn
    replace hq19 := Lib.hid hq19
    replace hq09 := Lib.hid hq09
    go_wp2_with fail
    rw [← hV.out]
    refine ⟨⟨m + 17, f, l.set (m + 16) V, by have := hif.out; omega, by omega, by rw [List.length_set]; exact hll.out, ?_, hset.out, hset0.out, hb9.out, hgo⟩, ?_⟩
    · have := hi.out
      rw [show i + 1 = ((m + 17 : Nat) : Int) by omega]
    · simp only [intOf]
      omega
end Go.Proofs.YtdhlmhkabckbaaaGreatDoor

/-
  Package sha: a hash's numbers are changed by a block.
-/
namespace Go.Proofs.YtdhlmhkabckbaaaGreatDoor
open Go.RowKit

/-- All blocks but one are as they were; more may be there. -/
structure Aside (b : Nat) (w w' : World) : Prop where
  os : w'.os = w.os
  tape : w'.tape = w.tape
  output : w'.output = w.output
  size : w.heap.size ≤ w'.heap.size
  block : ∀ i, i < w.heap.size → i ≠ b → w'.heap[i]? = w.heap[i]?

theorem RowAt.u32 {w : World} {B n : Nat} {A : Option Addr} {l : List Int} (h : RowAt 1 u32Cell w B A n l) {i : Nat} (hi : i < n) :
    ∃ b off x, A = some ⟨b, off, none⟩ ∧ b < B ∧ l[i]? = some x ∧ w.cell? ⟨b, off + i, none⟩ = some (.int .u32 x) := by
  obtain ⟨hl, _, hc⟩ := h
  obtain ⟨b, off, e, hb, hc⟩ := hc (by omega)
  have hx : l[i]? = some (l[i]'(by omega)) := List.getElem?_eq_getElem (by omega)
  refine ⟨b, off, _, e, hb, hx, ?_⟩
  have := hc i _ hx 0 _ rfl
  simpa using this

theorem list8 {l : List Int} (h : l.length = 8) : ∃ a0 a1 a2 a3 a4 a5 a6 a7, l = [a0, a1, a2, a3, a4, a5, a6, a7] := by
  match l, h with
  | [a0, a1, a2, a3, a4, a5, a6, a7], _ => exact ⟨a0, a1, a2, a3, a4, a5, a6, a7, rfl⟩
theorem setRow_other {w : World} {q k : Nat} {C : Array Value} (h : k ≠ q) : (w.setRow q C).heap[k]? = w.heap[k]? := by
  simp only [World.setRow, Array.getElem?_modify]
  rw [if_neg (by omega)]
/-- What a change of a hash's numbers stands on: the words in block q, the numbers in block q5, the hash in b, its roots in g. -/
structure Chg (w wr : World) (b g cR q q5 : Nat) (now R W N : List Int) (r : Value) (t : Int) : Prop where
  hash : wr.heap[b]? = some (hObj now r t (.slice (some ⟨g, 0, none⟩) 64 cR))
  roots : RowAt 1 u32Cell wr wr.heap.size (some ⟨g, 0, none⟩) 64 R
  words : wr.heap[q]? = some (wObj 209 W)
  num : wr.heap[q5]? = some (wObj 127 N)
  bel : Below w.heap.size w wr

/-- What a round adds, from the numbers, a root's bits and a word. -/
def rX (m4 m5 m6 m7 k v : Int) : Int := m7 + bits .xor .u32 (bits .xor .u32 (rotN 6 m4) (rotN 11 m4)) (rotN 25 m4) + bits .xor .u32 (bits .and .u32 m4 m5) (bits .and .u32 (bits .xor .u32 (if IntKind.u32.signed = true then -1 else IntKind.u32.max) m4) m6) + k + v
def rY (m0 m1 m2 : Int) : Int := bits .xor .u32 (bits .xor .u32 (rotN 2 m0) (rotN 13 m0)) (rotN 22 m0) + bits .xor .u32 (bits .xor .u32 (bits .and .u32 m0 m1) (bits .and .u32 m0 m2)) (bits .and .u32 m1 m2)
/-- One round: the eight numbers, by a root's bits and a word. -/
def roundF (N : List Int) (k v : Int) : List Int := match N with
  | [m0, m1, m2, m3, m4, m5, m6, m7] => [(rX m4 m5 m6 m7 k v + rY m0 m1 m2) % 4294967296, m0, m1, m2, (m3 + rX m4 m5 m6 m7 k v) % 4294967296, m4, m5, m6]
  | l => l
def chgGo (R W N : List Int) : Nat → Nat → List Int
  | _, 0 => N
  | i, f + 1 => chgGo R W (roundF N (R.getD i 0) (W.getD i 0)) (i + 1) f

section
variable {u : World} {q : Nat}
theorem set8_other {v0 v1 v2 v3 v4 v5 v6 v7 : Value} {k : Nat} (h : k ≠ q) : ((((((((u.setCell ⟨q, 0, none⟩ v0).setCell ⟨q, 1, none⟩ v1).setCell ⟨q, 2, none⟩ v2).setCell ⟨q, 3, none⟩ v3).setCell ⟨q, 4, none⟩ v4).setCell ⟨q, 5, none⟩ v5).setCell ⟨q, 6, none⟩ v6).setCell ⟨q, 7, none⟩ v7).heap[k]? = u.heap[k]? := (Go.Deep.blk_setCell_other _ _ _ _ h).trans ((Go.Deep.blk_setCell_other _ _ _ _ h).trans ((Go.Deep.blk_setCell_other _ _ _ _ h).trans ((Go.Deep.blk_setCell_other _ _ _ _ h).trans ((Go.Deep.blk_setCell_other _ _ _ _ h).trans ((Go.Deep.blk_setCell_other _ _ _ _ h).trans ((Go.Deep.blk_setCell_other _ _ _ _ h).trans ((Go.Deep.blk_setCell_other _ _ _ _ h))))))))
theorem set8_below {v0 v1 v2 v3 v4 v5 v6 v7 : Value} {B : Nat} {w0 : World} (h : Below B w0 u) (hq : B ≤ q) : Below B w0 ((((((((u.setCell ⟨q, 0, none⟩ v0).setCell ⟨q, 1, none⟩ v1).setCell ⟨q, 2, none⟩ v2).setCell ⟨q, 3, none⟩ v3).setCell ⟨q, 4, none⟩ v4).setCell ⟨q, 5, none⟩ v5).setCell ⟨q, 6, none⟩ v6).setCell ⟨q, 7, none⟩ v7) := ((((((((h.setCell (p := ⟨q, 0, none⟩) hq _).setCell (p := ⟨q, 1, none⟩) hq _).setCell (p := ⟨q, 2, none⟩) hq _).setCell (p := ⟨q, 3, none⟩) hq _).setCell (p := ⟨q, 4, none⟩) hq _).setCell (p := ⟨q, 5, none⟩) hq _).setCell (p := ⟨q, 6, none⟩) hq _).setCell (p := ⟨q, 7, none⟩) hq _)
theorem set8_num {q5 : Nat} {T : TypeId} {m0 m1 m2 m3 m4 m5 m6 m7 : Int} (v0 v1 v2 v3 v4 v5 v6 v7 : Int) (h : u.heap[q5]? = some (wObj T [m0, m1, m2, m3, m4, m5, m6, m7])) : ((((((((u.setCell ⟨q5, 0, none⟩ (.int .u32 v0)).setCell ⟨q5, 1, none⟩ (.int .u32 v1)).setCell ⟨q5, 2, none⟩ (.int .u32 v2)).setCell ⟨q5, 3, none⟩ (.int .u32 v3)).setCell ⟨q5, 4, none⟩ (.int .u32 v4)).setCell ⟨q5, 5, none⟩ (.int .u32 v5)).setCell ⟨q5, 6, none⟩ (.int .u32 v6)).setCell ⟨q5, 7, none⟩ (.int .u32 v7)).heap[q5]? = some (wObj T [v0, v1, v2, v3, v4, v5, v6, v7]) := (wObj_set (wObj_set (wObj_set (wObj_set (wObj_set (wObj_set (wObj_set (wObj_set h 0 v0) 1 v1) 2 v2) 3 v3) 4 v4) 5 v5) 6 v6) 7 v7)
end
theorem RowAt.aside {α : Type} {k : Nat} {enc : α → List Value} {w w' : World} {B B' g n : Nat} {l : List α} (h : RowAt k enc w B (some ⟨g, 0, none⟩) n l) (hh : w'.heap[g]? = w.heap[g]?) (hg : g < B') : RowAt k enc w' B' (some ⟨g, 0, none⟩) n l :=
  ⟨h.1, h.2.1, fun hn => by
    obtain ⟨b, off, e, hb, hc⟩ := h.2.2 hn
    cases e
    refine ⟨g, 0, rfl, hg, fun i x hx j v hv => ?_⟩
    rw [← hc i x hx j v hv]
    unfold World.cell?
    simp only [hh]⟩
theorem Chg.round {w wp u : World} {b g cR q q5 : Nat} {now R W : List Int} {m0 m1 m2 m3 m4 m5 m6 m7 : Int} {r : Value} {t : Int} (h : Chg w wp b g cR q q5 now R W [m0, m1, m2, m3, m4, m5, m6, m7] r t) (hb : Below wp.heap.size wp u) (h1 : q ≠ q5) (h2 : b ≠ q5) (h3 : g ≠ q5) (h4 : w.heap.size ≤ q5) (v0 v1 v2 v3 v4 v5 v6 v7 : Int) :
    Chg w ((((((((u.setCell ⟨q5, 0, none⟩ (.int .u32 v0)).setCell ⟨q5, 1, none⟩ (.int .u32 v1)).setCell ⟨q5, 2, none⟩ (.int .u32 v2)).setCell ⟨q5, 3, none⟩ (.int .u32 v3)).setCell ⟨q5, 4, none⟩ (.int .u32 v4)).setCell ⟨q5, 5, none⟩ (.int .u32 v5)).setCell ⟨q5, 6, none⟩ (.int .u32 v6)).setCell ⟨q5, 7, none⟩ (.int .u32 v7)) b g cR q q5 now R W [v0, v1, v2, v3, v4, v5, v6, v7] r t := by
  have hR := h.roots.to hb
  obtain ⟨_, _, e, hlt, _⟩ := hR.2.2 (by omega)
  cases e
  exact ⟨(set8_other h2).trans ((hb.block b (Array.getElem?_eq_some_iff.1 h.hash).1).trans h.hash), hR.aside (set8_other h3) (by simp; exact hlt), (set8_other h1).trans ((hb.block q (Array.getElem?_eq_some_iff.1 h.words).1).trans h.words),
    set8_num _ _ _ _ _ _ _ _ ((hb.block q5 (Array.getElem?_eq_some_iff.1 h.num).1).trans h.num), set8_below (h.bel.trans (hb.mono h.bel.size)) h4⟩

/-- The first k of eight numbers with others added. -/
def addTo (now N : List Int) (k : Nat) : List Int := (List.range 8).map fun i => if i < k then (now.getD i 0 + N.getD i 0) % 4294967296 else now.getD i 0
theorem addTo_len (now N : List Int) (k : Nat) : (addTo now N k).length = 8 := by simp [addTo]
theorem addTo_zero {now : List Int} (N : List Int) (h : now.length = 8) : addTo now N 0 = now := by
  apply List.ext_getElem
  · simp [addTo, h]
  · intro i h1 h2
    simp [addTo, h2]
theorem addTo_at {now N : List Int} {k : Nat} (hk : k < 8) : (addTo now N k)[k]? = some (now.getD k 0) := by
  simp [addTo, hk]
theorem addTo_set {now N : List Int} {k : Nat} (hk : k < 8) : (addTo now N k).set k ((now.getD k 0 + N.getD k 0) % 4294967296) = addTo now N (k + 1) := by
  apply List.ext_getElem
  · simp [addTo]
  · intro i h1 h2
    simp only [addTo, List.length_set, List.length_map, List.length_range] at h1
    rw [List.getElem_set]
    simp only [addTo, List.getElem_map, List.getElem_range]
    by_cases e : k = i
    · subst e; simp
    · rw [if_neg e]
      by_cases hi : i < k
      · rw [if_pos hi, if_pos (by omega)]
      · rw [if_neg hi, if_neg (by omega)]
theorem chgGo_len {R W : List Int} : ∀ (f i : Nat) (N : List Int), N.length = 8 → (chgGo R W N i f).length = 8
  | 0, _, _, h => h
  | f + 1, i, N, h => by
    rw [chgGo]
    refine chgGo_len f _ _ ?_
    obtain ⟨_, _, _, _, _, _, _, _, rfl⟩ := list8 h
    rfl
def changeF (now R : List Int) (L : List UInt8) : List Int := addTo now (chgGo R (wordsF L) now 0 64) 8
theorem changeF_len (now R : List Int) (L : List UInt8) : (changeF now R L).length = 8 := addTo_len _ _ _
theorem Aside.of {b : Nat} {w w' : World} (h : Below w.heap.size w w') : Aside b w w' := ⟨h.os, h.tape, h.output, h.size, fun i hi _ => h.block i hi⟩
theorem Aside.then {b : Nat} {w u w' : World} (h : Aside b w u) (h' : Below u.heap.size u w') : Aside b w w' := ⟨h'.os.trans h.os, h'.tape.trans h.tape, h'.output.trans h.output, Nat.le_trans h.size h'.size, fun i hi hb => (h'.block i (Nat.lt_of_lt_of_le hi h.size)).trans (h.block i hi hb)⟩
theorem Aside.set {b o : Nat} {w u : World} (h : Aside b w u) (v : Value) : Aside b w (u.setCell ⟨b, o, none⟩ v) := ⟨h.os, h.tape, h.output, by simp; exact h.size, fun i hi hb => (Go.Deep.blk_setCell_other _ _ _ _ hb).trans (h.block i hi hb)⟩

set_option maxRecDepth 100000 in
set_option maxHeartbeats 4000000 in
theorem sha_change (b g cR B off n c : Nat) (now R : List Int) (r : Value) (t : Int) (L : List UInt8) (hn : 64 ≤ n) (w : World) (hq : w.heap[b]? = some (hObj now r t (.slice (some ⟨g, 0, none⟩) 64 cR))) (h8 : now.length = 8)
    (hR : RowAt 1 u32Cell w w.heap.size (some ⟨g, 0, none⟩) 64 R) (hgb : g ≠ b) (hL : RowAt 1 byteCell w w.heap.size (some ⟨B, off, none⟩) n L) :
    Calls Tryz.prog 124 #[.pointer (some ⟨b, 0, none⟩), .slice (some ⟨B, off, none⟩) n c] w fun e w' => e = .returned (.tuple #[]) ∧ w'.heap[b]? = some (hObj (changeF now R L) r t (.slice (some ⟨g, 0, none⟩) 64 cR)) ∧ Aside b w w' := by
  unfold changeF
  have hcw := sha_words B off n c L hn w hL
  have hWl : (wordsF L).length = 64 := wordsF_len L
  generalize wordsF L = W at hcw hWl ⊢
  go_enter Tryz.func124, Tryz.ntmps124
  go_upto_region 0 with fail
  refine wp_region_list ?_
  refine wpList_plain rfl fun _ hK => ?_
  go_simp
  refine hK _ _ ?_
  clear hK
  try simp only [Act.put, List.setIfInBounds_toArray, List.set_cons_zero, List.set_cons_succ]
  refine wpList_plain rfl fun _ hK => ?_
  go_simp
  refine hcw.mono ?_
  rintro e w1 ⟨rfl, hb1⟩
  refine hK _ _ ?_
  clear hK hcw
  try simp only [Act.put, List.setIfInBounds_toArray, List.set_cons_zero, List.set_cons_succ]
  refine wpList_plain rfl fun _ hK => ?_
  go_simp
  refine hK _ _ ?_
  clear hK
  try simp only [Act.put, List.setIfInBounds_toArray, List.set_cons_zero, List.set_cons_succ]
  have hqa := heap_alloc_new w1 (.cells #[.int .u32 0, .int .u32 0, .int .u32 0, .int .u32 0, .int .u32 0, .int .u32 0, .int .u32 0, .int .u32 0, .int .u32 0, .int .u32 0, .int .u32 0, .int .u32 0, .int .u32 0, .int .u32 0, .int .u32 0, .int .u32 0, .int .u32 0, .int .u32 0, .int .u32 0, .int .u32 0, .int .u32 0, .int .u32 0, .int .u32 0, .int .u32 0, .int .u32 0, .int .u32 0, .int .u32 0, .int .u32 0, .int .u32 0, .int .u32 0, .int .u32 0, .int .u32 0, .int .u32 0, .int .u32 0, .int .u32 0, .int .u32 0, .int .u32 0, .int .u32 0, .int .u32 0, .int .u32 0, .int .u32 0, .int .u32 0, .int .u32 0, .int .u32 0, .int .u32 0, .int .u32 0, .int .u32 0, .int .u32 0, .int .u32 0, .int .u32 0, .int .u32 0, .int .u32 0, .int .u32 0, .int .u32 0, .int .u32 0, .int .u32 0, .int .u32 0, .int .u32 0, .int .u32 0, .int .u32 0, .int .u32 0, .int .u32 0, .int .u32 0, .int .u32 0] 209)
  have hba := hb1.alloc hb1.size (.cells #[.int .u32 0, .int .u32 0, .int .u32 0, .int .u32 0, .int .u32 0, .int .u32 0, .int .u32 0, .int .u32 0, .int .u32 0, .int .u32 0, .int .u32 0, .int .u32 0, .int .u32 0, .int .u32 0, .int .u32 0, .int .u32 0, .int .u32 0, .int .u32 0, .int .u32 0, .int .u32 0, .int .u32 0, .int .u32 0, .int .u32 0, .int .u32 0, .int .u32 0, .int .u32 0, .int .u32 0, .int .u32 0, .int .u32 0, .int .u32 0, .int .u32 0, .int .u32 0, .int .u32 0, .int .u32 0, .int .u32 0, .int .u32 0, .int .u32 0, .int .u32 0, .int .u32 0, .int .u32 0, .int .u32 0, .int .u32 0, .int .u32 0, .int .u32 0, .int .u32 0, .int .u32 0, .int .u32 0, .int .u32 0, .int .u32 0, .int .u32 0, .int .u32 0, .int .u32 0, .int .u32 0, .int .u32 0, .int .u32 0, .int .u32 0, .int .u32 0, .int .u32 0, .int .u32 0, .int .u32 0, .int .u32 0, .int .u32 0, .int .u32 0, .int .u32 0] 209)
  have hlt : w1.heap.size < (w1.alloc (.cells #[.int .u32 0, .int .u32 0, .int .u32 0, .int .u32 0, .int .u32 0, .int .u32 0, .int .u32 0, .int .u32 0, .int .u32 0, .int .u32 0, .int .u32 0, .int .u32 0, .int .u32 0, .int .u32 0, .int .u32 0, .int .u32 0, .int .u32 0, .int .u32 0, .int .u32 0, .int .u32 0, .int .u32 0, .int .u32 0, .int .u32 0, .int .u32 0, .int .u32 0, .int .u32 0, .int .u32 0, .int .u32 0, .int .u32 0, .int .u32 0, .int .u32 0, .int .u32 0, .int .u32 0, .int .u32 0, .int .u32 0, .int .u32 0, .int .u32 0, .int .u32 0, .int .u32 0, .int .u32 0, .int .u32 0, .int .u32 0, .int .u32 0, .int .u32 0, .int .u32 0, .int .u32 0, .int .u32 0, .int .u32 0, .int .u32 0, .int .u32 0, .int .u32 0, .int .u32 0, .int .u32 0, .int .u32 0, .int .u32 0, .int .u32 0, .int .u32 0, .int .u32 0, .int .u32 0, .int .u32 0, .int .u32 0, .int .u32 0, .int .u32 0, .int .u32 0] 209)).heap.size := by simp
  have h1s := hb1.size
  generalize hqe : w1.heap.size = q at hqa hlt h1s ⊢
  clear hqe
  generalize w1.alloc (.cells #[.int .u32 0, .int .u32 0, .int .u32 0, .int .u32 0, .int .u32 0, .int .u32 0, .int .u32 0, .int .u32 0, .int .u32 0, .int .u32 0, .int .u32 0, .int .u32 0, .int .u32 0, .int .u32 0, .int .u32 0, .int .u32 0, .int .u32 0, .int .u32 0, .int .u32 0, .int .u32 0, .int .u32 0, .int .u32 0, .int .u32 0, .int .u32 0, .int .u32 0, .int .u32 0, .int .u32 0, .int .u32 0, .int .u32 0, .int .u32 0, .int .u32 0, .int .u32 0, .int .u32 0, .int .u32 0, .int .u32 0, .int .u32 0, .int .u32 0, .int .u32 0, .int .u32 0, .int .u32 0, .int .u32 0, .int .u32 0, .int .u32 0, .int .u32 0, .int .u32 0, .int .u32 0, .int .u32 0, .int .u32 0, .int .u32 0, .int .u32 0, .int .u32 0, .int .u32 0, .int .u32 0, .int .u32 0, .int .u32 0, .int .u32 0, .int .u32 0, .int .u32 0, .int .u32 0, .int .u32 0, .int .u32 0, .int .u32 0, .int .u32 0, .int .u32 0] 209) = wA at hqa hba hlt ⊢
  obtain ⟨C, hC⟩ : ∃ C : Array Value, C = (W.map (Value.int .u32)).toArray := ⟨_, rfl⟩
  rw [← hC]
  have hsz : C.size = 64 := by rw [hC]; simp [hWl]
  have hi1 : (Tryz.prog.info? 209).map (·.size) = some C.size := by rw [hsz]; kernel_rfl
  refine wpList_plain rfl fun _ hK => wp_store_row 209 (.tmp 4) (.tmp 13) rfl q C rfl rfl 209 _ hqa hi1 (by rw [hsz]; rfl) (by
    rw [Array.all_eq_true_iff_forall_mem]
    intro v hv
    rw [hC] at hv
    simp at hv
    obtain ⟨x, _, rfl⟩ := hv
    rfl) (hK _ _ ?_)
  try simp only [Act.put, List.setIfInBounds_toArray, List.set_cons_zero, List.set_cons_succ]
  refine wpList_nil ?_
  have hqw : (wA.setRow q C).heap[q]? = some (wObj 209 W) := by
    rw [setRow_heap wA q _ C 209 (0, 0) hqa, hC]
    rfl
  have hbq : Below w.heap.size w (wA.setRow q C) := ⟨hba.os, hba.tape, hba.output, by simp [World.setRow]; exact hba.size, fun i hi => (setRow_other (by omega)).trans (hba.block i hi)⟩
  have hlq : q < (wA.setRow q C).heap.size := by simp [World.setRow]; exact hlt
  clear hqa hba hlt hK hi1 hsz hC
  generalize wA.setRow q C = wB at hqw hbq hlq ⊢
  have hqB := (hbq.block b (Array.getElem?_eq_some_iff.1 hq).1).trans hq
  have hRB := hR.to hbq
  clear hq hR hL
  obtain ⟨n0, n1, n2, n3, n4, n5, n6, n7, rfl⟩ := list8 h8
  have lb := (Array.getElem?_eq_some_iff.1 hqB).1
  have z0 : wB.cell? ⟨b, 0, none⟩ = some (.int .u32 n0) := (cell_of_row wB b 0 _ _ _ hqB).trans rfl
  have z1 : wB.cell? ⟨b, 1, none⟩ = some (.int .u32 n1) := (cell_of_row wB b 1 _ _ _ hqB).trans rfl
  have z2 : wB.cell? ⟨b, 2, none⟩ = some (.int .u32 n2) := (cell_of_row wB b 2 _ _ _ hqB).trans rfl
  have z3 : wB.cell? ⟨b, 3, none⟩ = some (.int .u32 n3) := (cell_of_row wB b 3 _ _ _ hqB).trans rfl
  have z4 : wB.cell? ⟨b, 4, none⟩ = some (.int .u32 n4) := (cell_of_row wB b 4 _ _ _ hqB).trans rfl
  have z5 : wB.cell? ⟨b, 5, none⟩ = some (.int .u32 n5) := (cell_of_row wB b 5 _ _ _ hqB).trans rfl
  have z6 : wB.cell? ⟨b, 6, none⟩ = some (.int .u32 n6) := (cell_of_row wB b 6 _ _ _ hqB).trans rfl
  have z7 : wB.cell? ⟨b, 7, none⟩ = some (.int .u32 n7) := (cell_of_row wB b 7 _ _ _ hqB).trans rfl
  have hA := (Below.refl wB.heap.size wB).alloc (Nat.le_refl _) (.cells #[.int .u32 n0, .int .u32 n1, .int .u32 n2, .int .u32 n3, .int .u32 n4, .int .u32 n5, .int .u32 n6, .int .u32 n7] 127)
  have hC0 : Chg w (wB.alloc (.cells #[.int .u32 n0, .int .u32 n1, .int .u32 n2, .int .u32 n3, .int .u32 n4, .int .u32 n5, .int .u32 n6, .int .u32 n7] 127)) b g cR q wB.heap.size [n0, n1, n2, n3, n4, n5, n6, n7] R W [n0, n1, n2, n3, n4, n5, n6, n7] r t :=
    ⟨halloc _ hqB, hRB.to hA, halloc _ hqw, heap_alloc_new wB _, hbq.trans (hA.mono hbq.size)⟩
  have hne : q ≠ wB.heap.size ∧ b ≠ wB.heap.size ∧ g ≠ wB.heap.size ∧ w.heap.size ≤ wB.heap.size := ⟨by omega, by omega, by
    obtain ⟨_, _, e, hlt, _⟩ := hRB.2.2 (by omega)
    cases e
    omega, hbq.size⟩
  replace hC0 := Lib.hid hC0
  replace hne := Lib.hid hne
  clear hqB hRB hqw hbq hA hlq h1s
  go_wp2_with fail
  clear z0 z1 z2 z3 z4 z5 z6 z7
  generalize hqe : wB.heap.size = q5 at hC0 hne lb ⊢
  clear hqe
  generalize wB.alloc (.cells #[.int .u32 n0, .int .u32 n1, .int .u32 n2, .int .u32 n3, .int .u32 n4, .int .u32 n5, .int .u32 n6, .int .u32 n7] 127) = wC at hC0 ⊢
  go_loopw [6, 7, 8, 9, 10, 18] (fun _ _ _ _ _ ti wr => ∃ (i f : Nat) (N : List Int), i + f = 64 ∧ ti = .int .i64 i ∧ N.length = 8 ∧ Chg w wr b g cR q q5 [n0, n1, n2, n3, n4, n5, n6, n7] R W N r t ∧ Hid (chgGo R W [n0, n1, n2, n3, n4, n5, n6, n7] 0 64 = chgGo R W N i f)) (fun _ _ _ _ _ ti _ => 64 - (intOf ti).toNat)
  case atStart => exact ⟨0, 64, _, rfl, rfl, h8, hC0.out, Lib.hid rfl⟩
  clear hC0
  obtain ⟨i, f, N, hif, rfl, hN8, hC, hgo⟩ := hrel
  obtain ⟨wp, rfl⟩ : ∃ x : World, x = wr := ⟨_, rfl⟩
  cases f with
  | succ f =>
    have hi64 : i < 64 := by omega
    replace hif := Lib.hid hif
    obtain ⟨m0, m1, m2, m3, m4, m5, m6, m7, rfl⟩ := list8 hN8
    obtain ⟨bR, oR, kR, eR, lR, hkR, cRi⟩ := hC.roots.u32 hi64
    simp only [Option.some.injEq, Addr.mk.injEq] at eR
    obtain ⟨rfl, rfl, -⟩ := eR
    rw [Nat.zero_add] at cRi
    obtain ⟨vW, hvW⟩ : ∃ v, W[i]? = some v := ⟨W[i]'(by omega), List.getElem?_eq_getElem (by omega)⟩
    have hall : ∀ W' : World, Below wp.heap.size wp W' → (q5 < W'.heap.size ∧ W'.cell? ⟨q5, 0, none⟩ = some (.int .u32 m0) ∧ W'.cell? ⟨q5, 1, none⟩ = some (.int .u32 m1) ∧ W'.cell? ⟨q5, 2, none⟩ = some (.int .u32 m2) ∧ W'.cell? ⟨q5, 3, none⟩ = some (.int .u32 m3) ∧ W'.cell? ⟨q5, 4, none⟩ = some (.int .u32 m4) ∧ W'.cell? ⟨q5, 5, none⟩ = some (.int .u32 m5) ∧ W'.cell? ⟨q5, 6, none⟩ = some (.int .u32 m6) ∧ W'.cell? ⟨q5, 7, none⟩ = some (.int .u32 m7)
      ∧ b < W'.heap.size ∧ W'.cell? ⟨b, 10, none⟩ = some (.slice (some ⟨g, 0, none⟩) 64 cR) ∧ g < W'.heap.size ∧ W'.cell? ⟨g, i, none⟩ = some (.int .u32 kR) ∧ q < W'.heap.size ∧ W'.cell? ⟨q, i, none⟩ = some (.int .u32 vW)) := fun W' hW => by
      have s := hW.size
      have l5 := (Array.getElem?_eq_some_iff.1 hC.num).1
      have lbb := (Array.getElem?_eq_some_iff.1 hC.hash).1
      have lqq := (Array.getElem?_eq_some_iff.1 hC.words).1
      have hn5 := (hW.block q5 l5).trans hC.num
      have hhb := (hW.block b lbb).trans hC.hash
      have hww := (hW.block q lqq).trans hC.words
      exact ⟨by omega, wObj_at hn5 rfl, wObj_at hn5 rfl, wObj_at hn5 rfl, wObj_at hn5 rfl, wObj_at hn5 rfl, wObj_at hn5 rfl, wObj_at hn5 rfl, wObj_at hn5 rfl, by omega, (hObj_tail hhb h8).2.2.2.1, by omega, (hW.cell (p := ⟨g, i, none⟩) lR).trans cRi, by omega, wObj_at hww hvW⟩
    replace hall := Lib.hid hall
    replace hkR := Lib.hid hkR
    replace hvW := Lib.hid hvW
    replace hC := Lib.hid hC
    clear cRi lR
    obtain ⟨lq5, y0, y1, y2, y3, y4, y5, y6, y7, lb, yb, lg, yg, lq, yq⟩ := hall.out wp (Below.refl _ _)
    go_upto_region 5 with fail
    (refine wp_region_ext (wp.heap.size) (by kernel_rfl) (by kernel_rfl) ?_
     repeat (go_big_quiet_step (fail))
     refine wpQuiet_nil ?_
     intro w8 hw'
     have hbw8 := Ext.of hw'
     clear hw'
     obtain ⟨hcw8, hfw8⟩ := bcell hbw8; (try simp only [World.size_drew, World.cell?_drew, World.frozen?_drew, World.heap_drewN, World.cell?_drewN, World.frozen?_drewN] at hcw8 hfw8); have hzw8 := hbw8.size; (try simp at hzw8); (try have hlw8 := (by omega : w.heap.size < w8.heap.size)); (try have hmw8 := (by omega : w.heap.size + 1 < w8.heap.size)); (try have hnw8 := (by omega : w.heap.size + 1 + 1 < w8.heap.size)))
    have hb8 := hbw8
    clear lq5 y0 y1 y2 y3 y4 y5 y6 y7 lb yb lg yg lq yq hbw8 hcw8 hfw8 hzw8
    obtain ⟨lq5, y0, y1, y2, y3, y4, y5, y6, y7, lb, yb, lg, yg, lq, yq⟩ := hall.out w8 hb8
    obtain ⟨r6, hr6, t6⟩ : ∃ r : Int → Int, (∀ x, r x = rotN 6 x) ∧ ∀ (x : Int) (w : World), Calls Tryz.prog 177 #[.int .u32 x, .int .i64 6] w fun e w' => e = .returned (.int .u32 (r x)) ∧ Below w.heap.size w w' := ⟨rotN 6, fun _ => rfl, sha_turnI 6 6 rfl (by omega) (by omega)⟩
    replace hr6 := Lib.hid hr6
    replace t6 := Lib.hid t6
    obtain ⟨r11, hr11, t11⟩ : ∃ r : Int → Int, (∀ x, r x = rotN 11 x) ∧ ∀ (x : Int) (w : World), Calls Tryz.prog 177 #[.int .u32 x, .int .i64 11] w fun e w' => e = .returned (.int .u32 (r x)) ∧ Below w.heap.size w w' := ⟨rotN 11, fun _ => rfl, sha_turnI 11 11 rfl (by omega) (by omega)⟩
    replace hr11 := Lib.hid hr11
    replace t11 := Lib.hid t11
    obtain ⟨r25, hr25, t25⟩ : ∃ r : Int → Int, (∀ x, r x = rotN 25 x) ∧ ∀ (x : Int) (w : World), Calls Tryz.prog 177 #[.int .u32 x, .int .i64 25] w fun e w' => e = .returned (.int .u32 (r x)) ∧ Below w.heap.size w w' := ⟨rotN 25, fun _ => rfl, sha_turnI 25 25 rfl (by omega) (by omega)⟩
    replace hr25 := Lib.hid hr25
    replace t25 := Lib.hid t25
    obtain ⟨r2, hr2, t2⟩ : ∃ r : Int → Int, (∀ x, r x = rotN 2 x) ∧ ∀ (x : Int) (w : World), Calls Tryz.prog 177 #[.int .u32 x, .int .i64 2] w fun e w' => e = .returned (.int .u32 (r x)) ∧ Below w.heap.size w w' := ⟨rotN 2, fun _ => rfl, sha_turnI 2 2 rfl (by omega) (by omega)⟩
    replace hr2 := Lib.hid hr2
    replace t2 := Lib.hid t2
    obtain ⟨r13, hr13, t13⟩ : ∃ r : Int → Int, (∀ x, r x = rotN 13 x) ∧ ∀ (x : Int) (w : World), Calls Tryz.prog 177 #[.int .u32 x, .int .i64 13] w fun e w' => e = .returned (.int .u32 (r x)) ∧ Below w.heap.size w w' := ⟨rotN 13, fun _ => rfl, sha_turnI 13 13 rfl (by omega) (by omega)⟩
    replace hr13 := Lib.hid hr13
    replace t13 := Lib.hid t13
    obtain ⟨r22, hr22, t22⟩ : ∃ r : Int → Int, (∀ x, r x = rotN 22 x) ∧ ∀ (x : Int) (w : World), Calls Tryz.prog 177 #[.int .u32 x, .int .i64 22] w fun e w' => e = .returned (.int .u32 (r x)) ∧ Below w.heap.size w w' := ⟨rotN 22, fun _ => rfl, sha_turnI 22 22 rfl (by omega) (by omega)⟩
    replace hr22 := Lib.hid hr22
    replace t22 := Lib.hid t22
    go_upto_region 6 with fail
    (refine wp_region_ext (w8.heap.size) (by kernel_rfl) (by kernel_rfl) ?_
     repeat (go_big_quiet_step ((first | (go_at_call 177; with_reducible refine Calls.ext (Nat.le_refl _) (t6.out m4 _)) | (go_at_call 177; with_reducible refine Calls.ext (Nat.le_refl _) (t11.out m4 _)) | (go_at_call 177; with_reducible refine Calls.ext (Nat.le_refl _) (t25.out m4 _)))))
     refine wpQuiet_nil ?_
     intro w9 hw'
     have hbw9 := Ext.of hw'
     clear hw'
     obtain ⟨hcw9, hfw9⟩ := bcell hbw9; (try simp only [World.size_drew, World.cell?_drew, World.frozen?_drew, World.heap_drewN, World.cell?_drewN, World.frozen?_drewN] at hcw9 hfw9); have hzw9 := hbw9.size; (try simp at hzw9); (try have hlw9 := (by omega : w.heap.size < w9.heap.size)); (try have hmw9 := (by omega : w.heap.size + 1 < w9.heap.size)); (try have hnw9 := (by omega : w.heap.size + 1 + 1 < w9.heap.size)))
    have hb9 := hb8.trans (hbw9.mono hb8.size)
    clear lq5 y0 y1 y2 y3 y4 y5 y6 y7 lb yb lg yg lq yq hbw9 hcw9 hfw9 hzw9 hb8
    obtain ⟨lq5, y0, y1, y2, y3, y4, y5, y6, y7, lb, yb, lg, yg, lq, yq⟩ := hall.out w9 hb9
    go_upto_region 7 with fail
    (refine wp_region_ext (w9.heap.size) (by kernel_rfl) (by kernel_rfl) ?_
     repeat (go_big_quiet_step ((first | (go_at_call 177; with_reducible refine Calls.ext (Nat.le_refl _) (t2.out m0 _)) | (go_at_call 177; with_reducible refine Calls.ext (Nat.le_refl _) (t13.out m0 _)) | (go_at_call 177; with_reducible refine Calls.ext (Nat.le_refl _) (t22.out m0 _)))))
     refine wpQuiet_nil ?_
     intro w10 hw'
     have hbw10 := Ext.of hw'
     clear hw'
     obtain ⟨hcw10, hfw10⟩ := bcell hbw10; (try simp only [World.size_drew, World.cell?_drew, World.frozen?_drew, World.heap_drewN, World.cell?_drewN, World.frozen?_drewN] at hcw10 hfw10); have hzw10 := hbw10.size; (try simp at hzw10); (try have hlw10 := (by omega : w.heap.size < w10.heap.size)); (try have hmw10 := (by omega : w.heap.size + 1 < w10.heap.size)); (try have hnw10 := (by omega : w.heap.size + 1 + 1 < w10.heap.size)))
    have hb10 := hb9.trans (hbw10.mono hb9.size)
    clear lq5 y0 y1 y2 y3 y4 y5 y6 y7 lb yb lg yg lq yq hbw10 hcw10 hfw10 hzw10 hb9
    obtain ⟨lq5, y0, y1, y2, y3, y4, y5, y6, y7, lb, yb, lg, yg, lq, yq⟩ := hall.out w10 hb10
    have f5 : ∀ o, w10.frozen? ⟨q5, o, none⟩ = false := (wObj_frozen ((hb10.block q5 (Array.getElem?_eq_some_iff.1 hC.out.num).1).trans hC.out.num)).2
    have f0 := f5 0
    have f1 := f5 1
    have f2 := f5 2
    have f3 := f5 3
    have f4 := f5 4
    have f6 := f5 6
    have f7 := f5 7
    replace f5 := f5 5
    have hround := Lib.hid fun v0 v1 v2 v3 v4 v5 v6 v7 => hC.out.round hb10 hne.out.1 hne.out.2.1 hne.out.2.2.1 hne.out.2.2.2 v0 v1 v2 v3 v4 v5 v6 v7
    replace hgo : Hid (chgGo R W [n0, n1, n2, n3, n4, n5, n6, n7] 0 64 = chgGo R W (roundF [m0, m1, m2, m3, m4, m5, m6, m7] kR vW) (i + 1) f) := Lib.hid (by
      rw [hgo.out, chgGo, List.getD_eq_getElem?_getD, List.getD_eq_getElem?_getD, hkR.out, hvW.out]
      rfl)
    go_wp2_with fail
    refine ⟨⟨i + 1, f, roundF [m0, m1, m2, m3, m4, m5, m6, m7] kR vW, by have := hif.out; omega, by go_num, rfl, ?_, hgo⟩, ?_⟩
    · rw [hr6.out, hr11.out, hr25.out, hr2.out, hr13.out, hr22.out]
      exact hround.out _ _ _ _ _ _ _ _
    · simp [intOf]
      omega
  | zero =>
    obtain rfl : i = 64 := by omega
    have hgN : chgGo R W [n0, n1, n2, n3, n4, n5, n6, n7] 0 64 = N := hgo.out
    have hh := hC.hash
    have hnum := hC.num
    have has := Aside.of (b := b) hC.bel
    have hbq5 := hne.out.2.1
    rw [← addTo_zero N h8] at hh
    replace hgN := Lib.hid hgN
    replace hN8 := Lib.hid hN8
    clear hC hgo hif hne
    go_wp2_with fail
    go_loopw [11, 104] (fun _ ti wr => ∃ k : Nat, k ≤ 8 ∧ ti = .int .i64 k ∧ wr.heap[b]? = some (hObj (addTo [n0, n1, n2, n3, n4, n5, n6, n7] N k) r t (.slice (some ⟨g, 0, none⟩) 64 cR)) ∧ wr.heap[q5]? = some (wObj 127 N) ∧ Aside b w wr) (fun _ ti _ => 8 - (intOf ti).toNat)
    case atStart => exact ⟨0, Nat.zero_le _, rfl, hh, hnum, has⟩
    clear hh hnum has
    obtain ⟨k, hk, rfl, hh, hnum, has⟩ := hrel
    obtain ⟨wp, rfl⟩ : ∃ x : World, x = wr := ⟨_, rfl⟩
    rcases Nat.lt_or_ge k 8 with hlt | hge
    case inl =>
      obtain ⟨xn, hxn⟩ : ∃ x : Int, x = [n0, n1, n2, n3, n4, n5, n6, n7].getD k 0 := ⟨_, rfl⟩
      obtain ⟨xm, hxm⟩ : ∃ x : Int, x = N.getD k 0 := ⟨_, rfl⟩
      have hb0 : wp.cell? ⟨b, k, none⟩ = some (.int .u32 xn) := by
        obtain ⟨x, hx, hc⟩ := hObj_now hh (addTo_len _ _ _) hlt
        rw [addTo_at hlt, ← hxn] at hx
        cases hx
        exact hc
      have hm0 : wp.cell? ⟨q5, k, none⟩ = some (.int .u32 xm) := wObj_at hnum (by rw [hxm, List.getD_eq_getElem?_getD, List.getElem?_eq_getElem (by rw [hN8.out]; exact hlt)]; rfl)
      have lb := (Array.getElem?_eq_some_iff.1 hh).1
      have lq := (Array.getElem?_eq_some_iff.1 hnum).1
      have hst : (addTo [n0, n1, n2, n3, n4, n5, n6, n7] N k).set k ((xn + xm) % 4294967296) = addTo [n0, n1, n2, n3, n4, n5, n6, n7] N (k + 1) := by rw [hxn, hxm]; exact addTo_set hlt
      replace hxn := Lib.hid hxn
      replace hxm := Lib.hid hxm
      replace hst := Lib.hid hst
      go_upto_region 13 with fail
      (refine region_ext_tail 12 (wp.heap.size) (by kernel_rfl) (by kernel_rfl) ?_
       simp only [List.take_succ_cons, List.take_zero, List.drop_succ_cons, List.drop_zero]
       repeat (go_big_quiet_step (fail))
       refine wpQuiet_nil ?_
       intro w9 hw'
       have hbw9 := Ext.of hw'
       clear hw'
       obtain ⟨hcw9, hfw9⟩ := bcell hbw9; (try simp only [World.size_drew, World.cell?_drew, World.frozen?_drew, World.heap_drewN, World.cell?_drewN, World.frozen?_drewN] at hcw9 hfw9); have hzw9 := hbw9.size; (try simp at hzw9); (try have hlw9 := (by omega : w.heap.size < w9.heap.size)); (try have hmw9 := (by omega : w.heap.size + 1 < w9.heap.size)); (try have hnw9 := (by omega : w.heap.size + 1 + 1 < w9.heap.size)))
      have hh9 := (hbw9.block _ lb).trans hh
      have hnum9 := (hbw9.block _ lq).trans hnum
      have has9 := has.then hbw9
      have c9 := (hbw9.cell (p := ⟨b, k, none⟩) lb).trans hb0
      obtain ⟨lb9, -, -, -, fz⟩ := hObj_tail hh9 (addTo_len _ _ _)
      have fk := fz k
      have hA := Lib.hid ((hset hh9 (.int .u32 ((xn + xm) % 4294967296)) (o := k)).trans (congrArg (fun c => some (Obj.cells c 129)) (hCells_set (by rw [addTo_len]; exact hlt) _)))
      have hB := Lib.hid ((Go.Deep.blk_setCell_other w9 ⟨b, k, none⟩ (.int .u32 ((xn + xm) % 4294967296)) q5 (by exact fun e => hbq5 e.symm)).trans hnum9)
      have hD := Lib.hid (has9.set (o := k) (.int .u32 ((xn + xm) % 4294967296)))
      clear fz hh hnum has hb0 hm0 hh9 hnum9 has9 hcw9 hfw9 hbw9 hzw9 lb lq
      go_wp2_with fail
      go_roundw
      case rel => exact ⟨k + 1, by omega, by go_num, by rw [← hst.out]; exact hA.out, hB.out, hD.out⟩
      case measure => simp [intOf]; omega
    obtain rfl : k = 8 := by omega
    go_wp2_with fail
    rw [hgN.out]
    exact bodyPost_end (results_none rfl _ _ _) rfl ⟨rfl, hh, has⟩
end Go.Proofs.YtdhlmhkabckbaaaGreatDoor

/-
  Package sha: bytes are taken, block by block. (Under way.)
-/
namespace Go.Proofs.YtdhlmhkabckbaaaGreatDoor
open Go.RowKit

/-- What is left of bytes when whole blocks have changed the numbers: the numbers, the rest. -/
def takeGo (R : List Int) : Nat → List Int → List UInt8 → List Int × List UInt8
  | 0, now, l => (now, l)
  | f + 1, now, l => if 64 ≤ l.length then takeGo R f (changeF now R (l.take 64)) (l.drop 64) else (now, l)
theorem takeGo_more {R : List Int} : ∀ (f : Nat) (now : List Int) (l : List UInt8), l.length ≤ f * 64 → takeGo R (f + 1) now l = takeGo R f now l
  | 0, now, l, h => by
    show (if 64 ≤ l.length then takeGo R 0 (changeF now R (l.take 64)) (l.drop 64) else (now, l)) = (now, l)
    rw [if_neg (by omega)]
  | f + 1, now, l, h => by
    show (if 64 ≤ l.length then takeGo R (f + 1) (changeF now R (l.take 64)) (l.drop 64) else (now, l)) = (if 64 ≤ l.length then takeGo R f (changeF now R (l.take 64)) (l.drop 64) else (now, l))
    split
    · exact takeGo_more f _ _ (by rw [List.length_drop]; omega)
    · rfl
def takeF (R now : List Int) (l : List UInt8) : List Int × List UInt8 := takeGo R l.length now l
theorem takeF_step {R now : List Int} {l : List UInt8} (h : 64 ≤ l.length) : takeF R now l = takeF R (changeF now R (l.take 64)) (l.drop 64) := by
  have key : ∀ (k f : Nat) (now : List Int) (m : List UInt8), m.length ≤ f * 64 → takeGo R (f + k) now m = takeGo R f now m := by
    intro k
    induction k with
    | zero => intro f now m _; rfl
    | succ k ih =>
      intro f now m hm
      rw [show f + (k + 1) = (f + 1) + k by omega, ih (f + 1) now m (by omega)]
      exact takeGo_more f now m hm
  unfold takeF
  obtain ⟨n, hn⟩ : ∃ n, l.length = n + 1 := ⟨l.length - 1, by omega⟩
  rw [hn, takeGo, if_pos h, List.length_drop]
  have h1 : l.length - 64 ≤ n := by omega
  rw [show n = (l.length - 64) + 63 by omega]
  exact key 63 _ _ _ (by rw [List.length_drop]; omega)
theorem takeF_end {R now : List Int} {l : List UInt8} (h : l.length < 64) : takeF R now l = (now, l) := by
  unfold takeF
  cases hn : l.length with
  | zero => rfl
  | succ n => rw [takeGo, if_neg (by omega)]
theorem takeF_len {R now : List Int} {l : List UInt8} (h8 : now.length = 8) : (takeF R now l).1.length = 8 ∧ (takeF R now l).2.length < 64 := by
  have key : ∀ (n : Nat) (now : List Int) (l : List UInt8), l.length ≤ n → now.length = 8 → (takeF R now l).1.length = 8 ∧ (takeF R now l).2.length < 64 := by
    intro n
    induction n with
    | zero =>
      intro now l hl h8
      rw [takeF_end (by omega)]
      exact ⟨h8, by dsimp only; omega⟩
    | succ n ih =>
      intro now l hl h8
      by_cases h : 64 ≤ l.length
      · rw [takeF_step h]
        exact ih _ _ (by rw [List.length_drop]; omega) (changeF_len _ _ _)
      · rw [takeF_end (by omega)]
        exact ⟨h8, by dsimp only; omega⟩
  exact key l.length now l (Nat.le_refl _) h8
end Go.Proofs.YtdhlmhkabckbaaaGreatDoor

/-
  Package sha: bytes are taken, block by block: the walk.
-/
namespace Go.Proofs.YtdhlmhkabckbaaaGreatDoor
open Go.RowKit

def u8E : Elem UInt8 where
  T := 5
  S := 46
  k := 1
  bytes := 1
  enc := byteCell
  z := .int .u8 0
  und := Tryz.underlying46
  info := by kernel_rfl
  zc := rfl
  pos := by decide
  small := by decide
  len := byteCell_len
  one := fun x u hu => by simp [byteCell] at hu; subst hu; rfl

section
variable {α : Type} (E : Elem α) {ops : Array Oper} {rest : List Oper} {o : Oper} {a : Act} {w : World} {Q : Exit → Act → World → Prop}
/-- An append of nothing gives the slice back. -/
theorem run_append_none {P : Program} (w : World) (t ty e : TypeId) (i : TypeInfo) (ht : P.underlying t = some (.slice e)) (hi : P.info? e = some i) (A A' : Option Addr) (n c c' : Nat) (hc : n ≤ c) :
    (Builtin.append_ #[t, t] ty #[.slice A n c, .slice A' 0 c']).run P w = .ok (.slice A n c) w := by
  cases A <;> cases A' <;> simp [Builtin.append_, run_underlying ht, sizeOf, typeInfo, hi, Builtin.lenOf, hc, Builtin.firstCells, loadCells, loadCellsFrom, storeCells]

/-- An append onto a slice that has no room: a new row, or the slice itself where nothing is appended. -/
theorem Elem.run_full (ty : TypeId) (A A' : Option Addr) (n m c' B B' : Nat) (l l' : List α) (hl : E.At w B A n l) (hB : B ≤ w.heap.size) (hr : E.At w B' A' m l') (hlen : n + m ≤ 1000000000) :
    ∃ A2 c2 w', (Builtin.append_ #[E.S, E.S] ty #[.slice A n n, .slice A' m c']).run Tryz.prog w = .ok (.slice A2 (n + m) c2) w' ∧ E.At w' w'.heap.size A2 (n + m) (l ++ l') ∧ n + m ≤ c2 ∧ (A2 = A ∨ ∃ g, A2 = some ⟨g, 0, none⟩ ∧ w.heap.size ≤ g) ∧ w.grownBy w' none := by
  obtain ⟨i, hi, hz, hsz, hby⟩ := infoOf E.info
  by_cases hm : m = 0
  · subst hm
    have hl' : l' = [] := List.eq_nil_of_length_eq_zero hr.1
    subst hl'
    refine ⟨A, n, w, run_append_none (P := Tryz.prog) w E.S ty E.T i E.und hi A A' n n c' (Nat.le_refl _), ?_, Nat.le_refl _, Or.inl rfl, ⟨rfl, rfl, rfl, Nat.le_refl _, fun _ _ _ => rfl⟩⟩
    rw [List.append_nil]
    exact hl.more hB
  · obtain ⟨b', off', rfl, hb', hc'⟩ := hr.2.2 (by omega)
    have fl := hl.flat E.len E.pos
    have fr := hr.flat E.len E.pos
    have frc : ∀ j u, (l'.flatMap E.enc)[j]? = some u → w.cell? ((⟨b', off', none⟩ : Addr).add j) = some u := fun j u hu => by
      obtain ⟨p', e, _, hq⟩ := fr.2 (by omega)
      cases e
      exact hq j u hu
    have hmx : n + m ≤ maxLen := by simp only [maxLen]; omega
    have hbx : (n + m) * E.bytes ≤ 140737488355328 := Nat.le_trans (Nat.mul_le_mul_left _ E.small) (by omega)
    have key : ∃ v' w', (Builtin.append_ #[E.S, E.S] ty #[.slice A n n, .slice (some ⟨b', off', none⟩) m c']).run Tryz.prog w = .ok v' w' ∧ w'.ownsRow w.heap.size E.T E.k v' (n + m) (l.flatMap E.enc ++ l'.flatMap E.enc) ∧ w.grownBy w' none := by
      cases A with
      | some p =>
        refine run_append_arg_grows (P := Tryz.prog) w E.S ty E.T i _ E.k E.bytes E.und hi hz hsz hby E.zc E.pos p n n (l.flatMap E.enc) (by rw [flat_len E.len, hl.1]) (fun j u hu => ?_) ⟨b', off', none⟩ m c' _ (by rw [flat_len E.len, hr.1]) frc (by omega) hmx hbx
        rcases Nat.eq_zero_or_pos n with h0 | h0
        · have : l = [] := List.eq_nil_of_length_eq_zero (by rw [hl.1, h0])
          subst this
          simp at hu
        · obtain ⟨p', e, _, hq⟩ := fl.2 h0
          cases e
          exact hq j u hu
      | none =>
        have h0 : n = 0 := by
          rcases Nat.eq_zero_or_pos n with h0 | h0
          · exact h0
          · obtain ⟨_, _, e, _⟩ := hl.2.2 h0
            cases e
        subst h0
        have : l = [] := List.eq_nil_of_length_eq_zero hl.1
        subst this
        obtain ⟨v', w', hrun, r1, r2, _⟩ := run_append_own (P := Tryz.prog) w w.heap.size E.S ty E.T i _ E.k E.bytes E.und hi hz hsz hby E.zc E.pos (.slice none 0 0) 0 [] (World.ownsRow_nil w _ E.T E.k) ⟨b', off', none⟩ m c' _ (by rw [flat_len E.len, hr.1]) frc (E.oneRow l') hmx hbx (Nat.le_refl _)
        exact ⟨v', w', hrun, r1, r2⟩
    obtain ⟨v', w', hrun, hown, hg⟩ := key
    have ho2 : E.Own w' w.heap.size v' (l ++ l') := by
      unfold Elem.Own Owns
      rw [List.length_append, List.flatMap_append, hl.1, hr.1]
      exact hown
    rcases hown.2 with ⟨e, h0⟩ | ⟨g, cap, cur, rfl, hg1, hh, hn, hc, hcs, htk⟩
    · omega
    · exact ⟨_, _, _, hrun, ho2.row E.len, hn, Or.inr ⟨g, rfl, hg1⟩, hg⟩
theorem Elem.step_full {K : Act → World → Prop} {G : Prop} (hgd : o.guard = none) (s x : Operand)
    (ho : o.op = .call { callee := .builtin .append, args := #[s, x], argTypes := #[E.S, E.S] })
    (A A' : Option Addr) (n m c' B B' : Nat) (l l' : List α) (hs : a.eval s = .slice A n n) (hx : a.eval x = .slice A' m c') (hl : E.At w B A n l) (hB : B ≤ w.heap.size) (hr : E.At w B' A' m l') (hlen : n + m ≤ 1000000000)
    (h : ∀ A2 c2 w', E.At w' w'.heap.size A2 (n + m) (l ++ l') → n + m ≤ c2 → (A2 = A ∨ ∃ g, A2 = some ⟨g, 0, none⟩ ∧ w.heap.size ≤ g) → w.grownBy w' none → K (a.put o.dst (.slice A2 (n + m) c2)) w') :
    if Region.wanted o (yielded ops a.tmps) = true then Oper.wp Tryz.prog o a w K Q else G := by
  have hw : Region.wanted o (yielded ops a.tmps) = true := by simp [Region.wanted, hgd]
  rw [if_pos hw]
  obtain ⟨A2, c2, w', hrun, h1, h2, h3, h4⟩ := E.run_full o.type A A' n m c' B B' l l' hl hB hr hlen
  unfold Oper.wp
  simp [execOp, ho, resolve, invoke, builtin, hs, hx, hrun, Result.andThen]
  exact h A2 c2 w' h1 h2 h3 h4
end

section
variable {α : Type} {k : Nat} {enc : α → List Value} {w w' : World} {B B' n m : Nat} {A : Option Addr} {l : List α}
/-- A row whose block is as it was. -/
theorem RowAt.asideAt (h : RowAt k enc w B A n l) (hh : ∀ x, A = some x → x.block < B → w'.heap[x.block]? = w.heap[x.block]?) (hB : B ≤ B') : RowAt k enc w' B' A n l :=
  ⟨h.1, h.2.1, fun hn => by
    obtain ⟨b, off, e, hb, hc⟩ := h.2.2 hn
    refine ⟨b, off, e, by omega, fun i x hx j v hv => ?_⟩
    rw [← hc i x hx j v hv]
    have := hh _ e hb
    unfold World.cell?
    simp only [this]⟩
theorem RowAt.takeN (h : RowAt 1 enc w B A n l) (hm : m ≤ n) : RowAt 1 enc w B A m (l.take m) :=
  ⟨by rw [List.length_take, h.1]; omega, by have := h.2.1; omega, fun hn => by
    obtain ⟨b, off, e, hb, hc⟩ := h.2.2 (by omega)
    refine ⟨b, off, e, hb, fun i x hx j v hv => hc i x ?_ j v hv⟩
    rw [List.getElem?_take] at hx
    split at hx
    · exact hx
    · cases hx⟩
theorem RowAt.dropN {b off : Nat} (h : RowAt 1 enc w B (some ⟨b, off, none⟩) n l) (hm : m ≤ n) : RowAt 1 enc w B (some ⟨b, off + m, none⟩) (n - m) (l.drop m) :=
  ⟨by rw [List.length_drop, h.1], by have := h.2.1; omega, fun hn => by
    obtain ⟨b', off', e, hb, hc⟩ := h.2.2 (by omega)
    cases e
    refine ⟨b, off + m, rfl, hb, fun i x hx j v hv => ?_⟩
    rw [List.getElem?_drop] at hx
    have := hc (m + i) x hx j v hv
    rw [Nat.add_mul, Nat.mul_one] at this
    rw [Nat.mul_one] at this ⊢
    rw [← this]
    congr 2
    omega⟩
theorem RowAt.empty {A' : Option Addr} (h0 : n = 0) (hl : l = []) : RowAt k enc w B A' n l := by
  subst h0
  subst hl
  exact ⟨rfl, by omega, fun h => absurd h (by omega)⟩
end

theorem Aside.trans {b : Nat} {w u v : World} (h : Aside b w u) (h' : Aside b u v) : Aside b w v :=
  ⟨h'.os.trans h.os, h'.tape.trans h.tape, h'.output.trans h.output, Nat.le_trans h.size h'.size, fun i hi hb => (h'.block i (Nat.lt_of_lt_of_le hi h.size) hb).trans (h.block i hi hb)⟩

/-- How many bytes of a hash are left, read off the world. -/
def leftOf (w : World) (b : Nat) : Nat := match w.cell? ⟨b, 8, none⟩ with
  | some (.slice _ n _) => n
  | _ => 0

set_option maxRecDepth 100000 in
set_option maxHeartbeats 4000000 in
theorem sha_take (b g cR n c m cD : Nat) (now R : List Int) (t : Int) (A AD : Option Addr) (L D : List UInt8) (w : World) (hq : w.heap[b]? = some (hObj now (.slice A n c) t (.slice (some ⟨g, 0, none⟩) 64 cR))) (h8 : now.length = 8)
    (hR : RowAt 1 u32Cell w w.heap.size (some ⟨g, 0, none⟩) 64 R) (hgb : g ≠ b) (hL : RowAt 1 byteCell w w.heap.size A n L) (hLb : ∀ x, A = some x → x.block ≠ b) (hnc : n ≤ c) (hD : RowAt 1 byteCell w w.heap.size AD m D) (hlen : n + m ≤ 1000000000) :
    Calls Tryz.prog 88 #[.pointer (some ⟨b, 0, none⟩), .slice AD m cD] w fun e w' => e = .returned (.tuple #[]) ∧ Aside b w w' ∧
      ∃ A' n' c', w'.heap[b]? = some (hObj (takeF R now (L ++ D)).1 (.slice A' n' c') t (.slice (some ⟨g, 0, none⟩) 64 cR)) ∧ RowAt 1 byteCell w' w'.heap.size A' n' (takeF R now (L ++ D)).2 ∧ (∀ x, A' = some x → x.block ≠ b) ∧ n' ≤ c' := by
  obtain ⟨lb, z8, z9, z10, zf⟩ := hObj_tail hq h8
  have lD := Lib.hid hD.1
  go_enter Tryz.func88, Tryz.ntmps88
  go_upto_region 0 with fail
  refine region_held_tail 18 (fun W : World => W.cell? ⟨b, 8, none⟩ = some (.slice A n c)) (by kernel_rfl) (by kernel_rfl) ?_
  have hHeld : (fun W : World => W.cell? ⟨b, 8, none⟩ = some (.slice A n c)) w.drew := z8
  (refine HT.takeL (i := 0) (v := ?_) rfl (by kernel_rfl) (fun _ _ _ h => h) (Or.inl ⟨by rfl, ?_⟩) (by assumption) ?_
   rotate_left
   · (intro w hSw; (try dsimp only at hSw); go_simp; (try with_reducible rfl))
   try simp only [Act.put, List.setIfInBounds_toArray, List.set_cons_zero, List.set_cons_succ])
  (refine HT.takeL (i := 1) (v := ?_) rfl (by kernel_rfl) (fun _ _ _ h => h) (Or.inl ⟨by rfl, ?_⟩) (by assumption) ?_
   rotate_left
   · (intro w hSw; (try dsimp only at hSw); go_simp; (try with_reducible rfl))
   try simp only [Act.put, List.setIfInBounds_toArray, List.set_cons_zero, List.set_cons_succ])
  (refine HT.takeL (i := 2) (v := ?_) rfl (by kernel_rfl) (fun _ _ _ h => h) (Or.inl ⟨by rfl, ?_⟩) (by assumption) ?_
   rotate_left
   · (intro w hSw; (try dsimp only at hSw); go_simp; (try with_reducible rfl))
   try simp only [Act.put, List.setIfInBounds_toArray, List.set_cons_zero, List.set_cons_succ])
  (refine HT.takeL (i := 3) (v := ?_) rfl (by kernel_rfl) (fun _ _ _ h => h) (Or.inl ⟨by rfl, ?_⟩) (by assumption) ?_
   rotate_left
   · (intro w hSw; (try dsimp only at hSw); go_simp; (try with_reducible rfl))
   try simp only [Act.put, List.setIfInBounds_toArray, List.set_cons_zero, List.set_cons_succ])
  (refine HT.takeL (i := 4) (v := ?_) rfl (by kernel_rfl) (fun _ _ _ h => h) (Or.inl ⟨by rfl, ?_⟩) (by assumption) ?_
   rotate_left
   · (intro w hSw; (try dsimp only at hSw); go_simp; (try with_reducible rfl))
   try simp only [Act.put, List.setIfInBounds_toArray, List.set_cons_zero, List.set_cons_succ])
  (refine HT.takeL (i := 5) (v := ?_) rfl (by kernel_rfl) (fun _ _ _ h => h) (Or.inl ⟨by rfl, ?_⟩) (by assumption) ?_
   rotate_left
   · (intro w hSw; (try dsimp only at hSw); go_simp; (try with_reducible rfl))
   try simp only [Act.put, List.setIfInBounds_toArray, List.set_cons_zero, List.set_cons_succ])
  (refine HT.takeL (i := 6) (v := ?_) rfl (by kernel_rfl) (fun _ _ _ h => h) (Or.inl ⟨by rfl, ?_⟩) (by assumption) ?_
   rotate_left
   · (intro w hSw; (try dsimp only at hSw); go_simp; (try with_reducible rfl))
   try simp only [Act.put, List.setIfInBounds_toArray, List.set_cons_zero, List.set_cons_succ])
  (refine HT.takeL (i := 7) (v := ?_) rfl (by kernel_rfl) (fun _ _ _ h => h) (Or.inl ⟨by rfl, ?_⟩) (by assumption) ?_
   rotate_left
   · (intro w hSw; (try dsimp only at hSw); go_simp; (try with_reducible rfl))
   try simp only [Act.put, List.setIfInBounds_toArray, List.set_cons_zero, List.set_cons_succ])
  (refine HT.takeL (i := 8) (v := ?_) rfl (by kernel_rfl) (fun _ _ _ h => h) (Or.inl ⟨by rfl, ?_⟩) (by assumption) ?_
   rotate_left
   · (intro w hSw; (try dsimp only at hSw); go_simp; (try with_reducible rfl))
   try simp only [Act.put, List.setIfInBounds_toArray, List.set_cons_zero, List.set_cons_succ])
  (refine HT.takeL (i := 9) (v := ?_) rfl (by kernel_rfl) (fun _ _ _ h => h) (Or.inl ⟨by rfl, ?_⟩) (by assumption) ?_
   rotate_left
   · (intro w hSw; (try dsimp only at hSw); go_simp; (try with_reducible rfl))
   try simp only [Act.put, List.setIfInBounds_toArray, List.set_cons_zero, List.set_cons_succ])
  (refine HT.takeL (i := 10) (v := ?_) rfl (by kernel_rfl) (fun _ _ _ h => h) (Or.inl ⟨by rfl, ?_⟩) (by assumption) ?_
   rotate_left
   · (intro w hSw; (try dsimp only at hSw); go_simp; (try with_reducible rfl))
   try simp only [Act.put, List.setIfInBounds_toArray, List.set_cons_zero, List.set_cons_succ])
  (refine HT.takeL (i := 11) (v := ?_) rfl (by kernel_rfl) (fun _ _ _ h => h) (Or.inl ⟨by rfl, ?_⟩) (by assumption) ?_
   rotate_left
   · (intro w hSw; (try dsimp only at hSw); go_simp; (try with_reducible rfl))
   try simp only [Act.put, List.setIfInBounds_toArray, List.set_cons_zero, List.set_cons_succ])
  (refine HT.takeL (i := 12) (v := ?_) rfl (by kernel_rfl) (fun _ _ _ h => h) (Or.inl ⟨by rfl, ?_⟩) (by assumption) ?_
   rotate_left
   · (intro w hSw; (try dsimp only at hSw); go_simp; (try with_reducible rfl))
   try simp only [Act.put, List.setIfInBounds_toArray, List.set_cons_zero, List.set_cons_succ])
  (refine HT.takeL (i := 13) (v := ?_) rfl (by kernel_rfl) (fun _ _ _ h => h) (Or.inl ⟨by rfl, ?_⟩) (by assumption) ?_
   rotate_left
   · (intro w hSw; (try dsimp only at hSw); go_simp; (try with_reducible rfl))
   try simp only [Act.put, List.setIfInBounds_toArray, List.set_cons_zero, List.set_cons_succ])
  (refine HT.takeL (i := 14) (v := ?_) rfl (by kernel_rfl) (fun _ _ _ h => h) (Or.inl ⟨by rfl, ?_⟩) (by assumption) ?_
   rotate_left
   · (intro w hSw; (try dsimp only at hSw); go_simp; (try with_reducible rfl))
   try simp only [Act.put, List.setIfInBounds_toArray, List.set_cons_zero, List.set_cons_succ])
  (refine HT.takeL (i := 15) (v := ?_) rfl (by kernel_rfl) (fun _ _ _ h => h) (Or.inl ⟨by rfl, ?_⟩) (by assumption) ?_
   rotate_left
   · (intro w hSw; (try dsimp only at hSw); go_simp; (try with_reducible rfl))
   try simp only [Act.put, List.setIfInBounds_toArray, List.set_cons_zero, List.set_cons_succ])
  (refine HT.takeL (i := 16) (v := ?_) rfl (by kernel_rfl) (fun _ _ _ h => h) (Or.inl ⟨by rfl, ?_⟩) (by assumption) ?_
   rotate_left
   · (intro w hSw; (try dsimp only at hSw); go_simp; (try with_reducible rfl))
   try simp only [Act.put, List.setIfInBounds_toArray, List.set_cons_zero, List.set_cons_succ])
  (refine HT.onlyL (i := 17) rfl (by kernel_rfl) (fun K hK => ?_)
   (refine Elem.step_full u8E rfl (.tmp 19) (.tmp 20) rfl A AD n m cD w.heap.size w.heap.size L D rfl rfl hL.drew (Nat.le_refl _) hD.drew hlen ?_; intro A2 c2 w10 h10 hc2 hA2 hg10; have hb10 : Below w.heap.size w w10 := Below.grown (Below.refl w.heap.size w).drew hg10 (Nat.le_refl _) (fun k hk => by cases hk); have hq10 := (hb10.block b lb).trans hq)
   refine hK.out _ _ ?_ (fun hHeld => ?_)
   · (exact (hObj_tail hq10 h8).2.1)
   clear hK K
   try simp only [Act.put, List.setIfInBounds_toArray, List.set_cons_zero, List.set_cons_succ])
  refine HT.tail (by kernel_rfl) ?_
  simp only [List.drop_succ_cons, List.drop_zero]
  obtain ⟨lb10, y8, y9, y10, yf⟩ := hObj_tail hq10 h8
  have f8 := yf 8
  have hA2b : ∀ x, A2 = some x → x.block ≠ b := fun x hx => by
    rcases hA2 with rfl | ⟨g2, rfl, hg2⟩
    · exact hLb x hx
    · cases hx
      have hg3 : w.heap.size ≤ g2 := hg2
      exact fun e => by
        dsimp only at e
        omega
  have hqn := Lib.hid ((hset (o := 8) hq10 (.slice A2 (n + m) c2)).trans (congrArg (fun v => some (Obj.cells v 129)) (hCells_setT h8 _).1))
  have hRn : RowAt 1 u32Cell (w10.setCell ⟨b, 8, none⟩ (.slice A2 (n + m) c2)) (w10.setCell ⟨b, 8, none⟩ (.slice A2 (n + m) c2)).heap.size (some ⟨g, 0, none⟩) 64 R :=
    (hR.to hb10).asideAt (fun x hx _ => by cases hx; exact Go.Deep.blk_setCell_other _ _ _ _ hgb) (by simp)
  have hLn : RowAt 1 byteCell (w10.setCell ⟨b, 8, none⟩ (.slice A2 (n + m) c2)) (w10.setCell ⟨b, 8, none⟩ (.slice A2 (n + m) c2)).heap.size A2 (n + m) (L ++ D) :=
    RowAt.asideAt h10 (fun x hx _ => Go.Deep.blk_setCell_other _ _ _ _ (hA2b x hx)) (by simp)
  have hAn : Aside b w (w10.setCell ⟨b, 8, none⟩ (.slice A2 (n + m) c2)) := (Aside.of hb10).set _
  clear hb10 hg10 h10 hq10 y9 y10 yf hHeld zf z8 z9 z10 hL hD hR hq lb hA2 lD
  replace hRn := Lib.hid hRn
  replace hLn := Lib.hid hLn
  replace hAn := Lib.hid hAn
  go_wp2_with fail
  clear y8 f8 lb10
  generalize w10.setCell ⟨b, 8, none⟩ (.slice A2 (n + m) c2) = wL at hqn hRn hLn hAn ⊢
  go_loopw [] (fun wr => ∃ (now' : List Int) (A' : Option Addr) (n' c' : Nat) (l' : List UInt8), now'.length = 8 ∧ wr.heap[b]? = some (hObj now' (.slice A' n' c') t (.slice (some ⟨g, 0, none⟩) 64 cR)) ∧ RowAt 1 u32Cell wr wr.heap.size (some ⟨g, 0, none⟩) 64 R ∧ RowAt 1 byteCell wr wr.heap.size A' n' l' ∧ (∀ x, A' = some x → x.block ≠ b) ∧ n' ≤ c' ∧ Aside b w wr ∧ Hid (takeF R now (L ++ D) = takeF R now' l')) (fun wr => leftOf wr b)
  case atStart => exact ⟨now, A2, n + m, c2, L ++ D, h8, hqn.out, hRn.out, hLn.out, hA2b, hc2, hAn.out, rfl⟩
  clear hqn hRn hLn hAn hHeld hA2b hc2
  obtain ⟨now', A', n', c', l', h8', hq, hR, hl, hAb, hnc', hA, hgo⟩ := hrel
  obtain ⟨wp, rfl⟩ : ∃ x : World, x = wr := ⟨_, rfl⟩
  obtain ⟨lb, z8, z9, z10, zf⟩ := hObj_tail hq h8'
  have hlf : leftOf wp b = n' := by unfold leftOf; rw [z8]
  by_cases h64 : 64 ≤ n'
  · obtain ⟨B, off, rfl, hB, -⟩ := hl.2.2 (by omega)
    have hgo' : Hid (takeF R now (L ++ D) = takeF R (changeF now' R (l'.take 64)) (l'.drop 64)) := by unfold Hid; rw [hgo.out]; exact takeF_step (by rw [hl.1]; exact h64)
    have hch := sha_change b g cR B off 64 c' now' R (.slice (some ⟨B, off, none⟩) n' c') t (l'.take 64) (Nat.le_refl _) wp hq h8' hR hgb (hl.takeN h64)
    have hBb : B ≠ b := hAb _ rfl
    have hi64 : (64 : Int) ≤ (n' : Int) := by omega
    have hc64 : 64 ≤ c' := by omega
    replace hlf := Lib.hid hlf
    replace hgo := Lib.hid hgo
    replace hR := Lib.hid hR
    replace hl := Lib.hid hl
    go_wp2_with fail
    refine hch.mono ?_
    rintro e w2 ⟨rfl, hq2, hA2⟩
    obtain ⟨lb2, y8, y9, y10, yf⟩ := hObj_tail hq2 (changeF_len _ _ _)
    have f8 := yf 8
    clear z8 z9 z10 zf y9 y10 yf hch hq
    go_wp2_with fail
    obtain ⟨V, hV⟩ : ∃ V : Option Addr, V = (if c' = 64 then some ⟨B, off, none⟩ else some ⟨B, off + 64, none⟩) := ⟨_, rfl⟩
    rw [← hV]
    have hVb : ∀ x, V = some x → x.block ≠ b := fun x hx => by
      rw [hV] at hx
      split at hx <;> cases hx <;> exact hBb
    have hlg : g < wp.heap.size := by
      obtain ⟨_, _, e, hlt, _⟩ := hR.out.2.2 (by decide)
      cases e
      exact hlt
    have hs2 : (w2.setCell ⟨b, 8, none⟩ (.slice V (n' - 64) (c' - 64))).heap.size = w2.heap.size := by simp
    have hq3 : (w2.setCell ⟨b, 8, none⟩ (.slice V (n' - 64) (c' - 64))).heap[b]? = some (hObj (changeF now' R (l'.take 64)) (.slice V (n' - 64) (c' - 64)) t (.slice (some ⟨g, 0, none⟩) 64 cR)) :=
      (hset (o := 8) hq2 _).trans (congrArg (fun v => some (Obj.cells v 129)) (hCells_setT (changeF_len _ _ _) _).1)
    have hR3 : RowAt 1 u32Cell (w2.setCell ⟨b, 8, none⟩ (.slice V (n' - 64) (c' - 64))) (w2.setCell ⟨b, 8, none⟩ (.slice V (n' - 64) (c' - 64))).heap.size (some ⟨g, 0, none⟩) 64 R :=
      hR.out.asideAt (fun x hx _ => by cases hx; exact (Go.Deep.blk_setCell_other _ _ _ _ hgb).trans (hA2.block g hlg hgb)) (by rw [hs2]; exact hA2.size)
    have hl3 : RowAt 1 byteCell (w2.setCell ⟨b, 8, none⟩ (.slice V (n' - 64) (c' - 64))) (w2.setCell ⟨b, 8, none⟩ (.slice V (n' - 64) (c' - 64))).heap.size V (n' - 64) (l'.drop 64) := by
      by_cases h1 : c' = 64
      · exact RowAt.empty (by omega) (List.drop_eq_nil_of_le (by rw [hl.out.1]; omega))
      · rw [if_neg h1] at hV
        subst hV
        exact (hl.out.dropN (m := 64) h64).asideAt (fun x hx _ => by cases hx; exact (Go.Deep.blk_setCell_other _ _ _ _ hBb).trans (hA2.block B hB hBb)) (by rw [hs2]; exact hA2.size)
    have hlf3 : leftOf (w2.setCell ⟨b, 8, none⟩ (.slice V (n' - 64) (c' - 64))) b = n' - 64 := by
      have := (hObj_tail hq3 (changeF_len _ _ _)).2.1
      unfold leftOf
      rw [this]
    refine ⟨⟨_, V, n' - 64, c' - 64, _, changeF_len _ _ _, hq3, hR3, hl3, hVb, by omega, (hA.trans hA2).set _, hgo'⟩, ?_⟩
    rw [hlf3, hlf.out]
    omega
  · have hi64 : ¬ (64 : Int) ≤ (n' : Int) := by omega
    have hfin : Hid (takeF R now (L ++ D) = (now', l')) := by unfold Hid; rw [hgo.out]; exact takeF_end (by rw [hl.1]; omega)
    replace hlf := Lib.hid hlf
    replace hR := Lib.hid hR
    replace hl := Lib.hid hl
    replace hq := Lib.hid hq
    go_wp2_with fail
    refine bodyPost_end (results_none rfl _ _ _) rfl ?_
    rw [hfin.out]
    exact ⟨rfl, hA, A', n', c', hq.out, hl.out, hAb, hnc'⟩
end Go.Proofs.YtdhlmhkabckbaaaGreatDoor

/-
  Package sha: bytes are added; a hash is copied.
-/
namespace Go.Proofs.YtdhlmhkabckbaaaGreatDoor
open Go.RowKit

theorem below_bytesH (w : World) (e : TypeId) (s : ByteArray) : Below w.heap.size w (Lib.bytesWorld w e s) :=
  ⟨rfl, rfl, rfl, by rw [Lib.bytesWorld_size]; omega, fun i hi => Lib.bytesWorld_at_old w e s i hi⟩
theorem bytes_rowH (w : World) (e : TypeId) (s : ByteArray) (h : s.size ≤ 9223372036854775807) : BytesAt (Lib.bytesWorld w e s) (Lib.bytesWorld w e s).heap.size (some ⟨w.heap.size, 0, none⟩) s.size (bl s) := by
  refine ⟨Array.length_toList, h, fun _ => ⟨_, _, rfl, by rw [Lib.bytesWorld_size]; omega, fun i x hx j v hv => ?_⟩⟩
  have hi : i < s.size := by
    have := (List.getElem?_eq_some_iff.1 hx).1
    rw [show (bl s).length = s.size from Array.length_toList] at this
    exact this
  match j, hv with
  | 0, hv =>
    simp [byteCell] at hv
    subst hv
    have := Lib.bytesWorld_cell w e s i hi
    rw [List.getD_eq_getElem?_getD, hx] at this
    simpa using this
  | j + 1, hv => simp [byteCell] at hv

set_option maxRecDepth 100000 in
set_option maxHeartbeats 4000000 in
theorem sha_Add (b g cR n c : Nat) (now R : List Int) (t : Nat) (A : Option Addr) (L : List UInt8) (s : ByteArray) (w : World) (hq : w.heap[b]? = some (hObj now (.slice A n c) (t : Nat) (.slice (some ⟨g, 0, none⟩) 64 cR))) (h8 : now.length = 8)
    (hR : RowAt 1 u32Cell w w.heap.size (some ⟨g, 0, none⟩) 64 R) (hgb : g ≠ b) (hL : RowAt 1 byteCell w w.heap.size A n L) (hLb : ∀ x, A = some x → x.block ≠ b) (hnc : n ≤ c) (hn : n ≤ 64) (ht : t ≤ 1000000000) (hs : s.size ≤ 100000000) :
    Calls Tryz.prog 48 #[.pointer (some ⟨b, 0, none⟩), .string s] w fun e w' => e = .returned (.int .i64 0) ∧ Aside b w w' ∧
      ∃ A' n' c', w'.heap[b]? = some (hObj (takeF R now (L ++ bl s)).1 (.slice A' n' c') ((t : Int) + (s.size : Int)) (.slice (some ⟨g, 0, none⟩) 64 cR)) ∧ RowAt 1 byteCell w' w'.heap.size A' n' (takeF R now (L ++ bl s)).2 ∧ (∀ x, A' = some x → x.block ≠ b) ∧ n' ≤ c' := by
  obtain ⟨lb, z8, z9, z10, zf⟩ := hObj_tail hq h8
  have f9 := zf 9
  have hq1 := Lib.hid ((hset (o := 9) hq (.int .i64 ((t : Int) + (s.size : Int)))).trans (congrArg (fun v => some (Obj.cells v 129)) ((hCells_setT h8 (.slice A n c)).2.2 _)))
  have hs1 : (w.setCell ⟨b, 9, none⟩ (.int .i64 ((t : Int) + (s.size : Int)))).heap.size = w.heap.size := by simp
  have hR1 : RowAt 1 u32Cell (w.setCell ⟨b, 9, none⟩ (.int .i64 ((t : Int) + (s.size : Int)))) (w.setCell ⟨b, 9, none⟩ (.int .i64 ((t : Int) + (s.size : Int)))).heap.size (some ⟨g, 0, none⟩) 64 R :=
    hR.asideAt (fun x hx _ => by cases hx; exact Go.Deep.blk_setCell_other _ _ _ _ hgb) (by rw [hs1]; exact Nat.le_refl _)
  have hL1 : RowAt 1 byteCell (w.setCell ⟨b, 9, none⟩ (.int .i64 ((t : Int) + (s.size : Int)))) (w.setCell ⟨b, 9, none⟩ (.int .i64 ((t : Int) + (s.size : Int)))).heap.size A n L :=
    hL.asideAt (fun x hx _ => Go.Deep.blk_setCell_other _ _ _ _ (hLb x hx)) (by rw [hs1]; exact Nat.le_refl _)
  have hA1 : Aside b w (w.setCell ⟨b, 9, none⟩ (.int .i64 ((t : Int) + (s.size : Int)))) := (Aside.of (Below.refl _ w)).set _
  clear z8 z10 zf hq hR hL hs1
  replace hR1 := Lib.hid hR1
  replace hL1 := Lib.hid hL1
  replace hA1 := Lib.hid hA1
  go_enter Tryz.func48, Tryz.ntmps48
  go_upto_region 4 with fail
  clear z9 f9
  generalize w.setCell ⟨b, 9, none⟩ (.int .i64 ((t : Int) + (s.size : Int))) = w1 at hq1 hR1 hL1 hA1 ⊢
  have hcv := Lib.run_convert_string_bytes (P := Tryz.prog) w1 9 46 5 s Tryz.underlying9 Tryz.underlying46 Tryz.underlying5
  have hrow := bytes_rowH w1 5 s (by omega)
  have hbb := below_bytesH w1 5 s
  obtain ⟨cp, hcp⟩ : ∃ cp, cp = grownCap w1 s.size 0 5 := ⟨_, rfl⟩
  rw [← hcp] at hcv
  clear hcp
  generalize Lib.bytesWorld w1 5 s = w2 at hcv hrow hbb
  have hlb1 : b < w1.heap.size := (Array.getElem?_eq_some_iff.1 hq1.out).1
  have hTk := sha_take b g cR n c s.size cp now R ((t : Int) + (s.size : Int)) A (some ⟨w1.heap.size, 0, none⟩) L (bl s) w2 ((hbb.block b hlb1).trans hq1.out) h8 (hR1.out.to hbb) hgb (hL1.out.to hbb) hLb hnc hrow (by omega)
  have hA2 := hA1.out.then hbb
  clear hrow hbb hq1 hR1 hL1 hA1
  go_wp2_with fail
  refine hTk.mono ?_
  rintro e w3 ⟨rfl, hA3, A', n', c', hq3, hL3, hb3, hnc3⟩
  replace hq3 := Lib.hid hq3
  replace hL3 := Lib.hid hL3
  go_wp2_with fail
  go_ret
  exact ⟨rfl, hA2.trans hA3, A', n', c', hq3.out, hL3.out, hb3, hnc3⟩
end Go.Proofs.YtdhlmhkabckbaaaGreatDoor
