/-
  A number's bytes, the highest first: the contracts of root.number, root.count, of the reference's bytes.
-/
import Derived.Test.YtbfephekkfieaaaLetters
namespace Go.Proofs.Ytbfephekkfieaaa
open Go.RowKit

/-- The lowest m bytes of a number, the highest first. -/
def be (n m : Nat) : List UInt8 := (List.range m).map fun i => UInt8.ofNat (n / 256 ^ (m - 1 - i))
theorem be_len (n m : Nat) : (be n m).length = m := by simp [be]
theorem be_get {n m i : Nat} (h : i < m) : (be n m)[i]? = some (UInt8.ofNat (n / 256 ^ (m - 1 - i))) := by
  unfold be
  rw [List.getElem?_map, List.getElem?_range h]
  rfl
/-- The first k of m bytes are laid. -/
def laid (l : List UInt8) (k : Nat) : List UInt8 := l.take k ++ List.replicate (l.length - k) 0
theorem laid_len (l : List UInt8) {k : Nat} (h : k ≤ l.length) : (laid l k).length = l.length := by simp [laid]; omega
theorem laid_set {l : List UInt8} {k : Nat} {x : UInt8} (h : l[k]? = some x) : (laid l k).set k x = laid l (k + 1) := by
  obtain ⟨hk, rfl⟩ := List.getElem?_eq_some_iff.1 h
  apply List.ext_getElem?
  intro i
  rw [List.getElem?_set]
  unfold laid
  by_cases hi : k = i
  · subst hi
    simp
    rw [if_pos (by omega)]
    rw [List.getElem?_append_left (by simp; omega)]
    simp [hk]
  · rw [if_neg hi]
    rcases Nat.lt_or_ge i k with h1 | h1
    · rw [List.getElem?_append_left (by simp; omega), List.getElem?_append_left (by simp; omega)]
      rw [List.getElem?_take, List.getElem?_take, if_pos h1, if_pos (by omega)]
    · rw [List.getElem?_append_right (by simp; omega), List.getElem?_append_right (by simp; omega)]
      simp [List.getElem?_replicate]
      rw [Nat.min_eq_left (by omega), Nat.min_eq_left (by omega)]
      by_cases h2 : i - k < l.length - k
      · rw [if_pos h2, if_pos (by omega)]
      · rw [if_neg h2, if_neg (by omega)]
theorem laid_all (l : List UInt8) : laid l l.length = l := by simp [laid]
def zrow (m : Nat) : Array Value := ((List.replicate m (0 : UInt8)).map fun b => Value.int .u8 b.toNat).toArray
theorem makeM {m : Nat} (h : m = 1 ∨ m = 2 ∨ m = 4 ∨ m = 8) (w : World) : (Instr.makeSlice 56 (.int .i64 m) (.int .i64 m)).run Try.prog w = .ok (.slice (some ⟨w.heap.size, 0, none⟩) m m) (w.alloc (.cells (zrow m) 5)) := by
  rcases h with rfl | rfl | rfl | rfl <;> kernel_rfl

theorem flat_map (l : List UInt8) : l.flatMap byteCell = l.map fun b => Value.int .u8 b.toNat := by
  induction l with
  | nil => rfl
  | cons b l ih => rw [List.flatMap_cons, ih]; rfl
theorem zrow_owns (w : World) {m : Nat} (hm : m ≤ 8) (l : List UInt8) (hl : l.length = m) : Owns 1 byteCell 5 (w.alloc (.cells (zrow m) 5)) w.heap.size (.slice (some ⟨w.heap.size, 0, none⟩) m m) (laid l 0) := by
  have h0 : laid l 0 = List.replicate m 0 := by simp [laid, hl]
  unfold Owns
  rw [h0, List.length_replicate]
  refine ⟨by rw [flat_len byteCell_len, List.length_replicate], .inr ⟨w.heap.size, m, zrow m, rfl, Nat.le_refl _, heap_alloc_new w _, Nat.le_refl _, by unfold maxLen; omega, by simp [zrow], ?_⟩⟩
  rw [flat_map]
  unfold zrow
  rw [List.toList_toArray, List.take_of_length_le (by simp)]
theorem byte_shift (n s : Nat) : (n : Int) / 2 ^ (8 * s) % 256 = ((UInt8.ofNat (n / 256 ^ s)).toNat : Int) := by
  have h : (2 : Nat) ^ (8 * s) = 256 ^ s := by rw [Nat.pow_mul]
  rw [show ((2 : Int) ^ (8 * s)) = ((256 ^ s : Nat) : Int) by rw [← h]; simp]
  rw [UInt8.toNat_ofNat']
  rw [← Int.natCast_ediv]
  omega

set_option maxHeartbeats 2000000 in
theorem root_number (n m : Nat) (w : World) (hm : m = 1 ∨ m = 2 ∨ m = 4 ∨ m = 8) (_ : n ≤ 9223372036854775807) :
    Calls Try.prog 27 #[.int .i64 n, .int .i64 m] w fun e w' => e = .returned (.string (str (be n m))) ∧ Below w.heap.size w w' := by
  have hmk := makeM hm
  have hm8 : m ≤ 8 := by omega
  have hbl := Lib.hid (be_len n m)
  go_enter Try.func27, Try.ntmps27
  go_wp2_with fail
  go_loopw [6, 11] (fun _ i wr => ∃ k : Nat, k ≤ m ∧ i = .int .i64 k ∧ Owns 1 byteCell 5 wr w.heap.size (.slice (some ⟨w.heap.size, 0, none⟩) m m) (laid (be n m) k) ∧ Below w.heap.size w wr) (fun _ i _ => m - (intOf i).toNat)
  case atStart => exact ⟨0, by omega, rfl, zrow_owns w hm8 _ hbl.out, (by repeat (first | exact Below.refl _ _ | assumption | refine Below.drew ?_ | refine below_drewN ?_ _ | refine Below.alloc ?_ (by first | omega | (simp; try omega)) _ | refine Below.setCell ?_ (by first | omega | (simp; try omega)) _ | (refine Below.trans ?_ (Below.mono (by assumption) (by first | omega | (simp; try omega))))))⟩
  case round =>
    obtain ⟨k, hk, rfl, ho, hbw⟩ := hrel
    by_cases hlt : k < m
    · have ho' := ho
      unfold Owns at ho'
      rw [laid_len _ (by rw [hbl.out]; omega), hbl.out] at ho'
      have hc := ho'.cellAt k (by omega)
      obtain ⟨x, hx⟩ := getElem_some (l := (laid (be n m) k).flatMap byteCell) (i := k) (by rw [flat_len byteCell_len, laid_len _ (by rw [hbl.out]; omega), hbl.out]; omega)
      rw [hx] at hc
      have hf := ho'.frozenAt k
      have hst := ho'.stored k (.int .u8 (UInt8.ofNat (n / 256 ^ (m - 1 - k))).toNat)
      rw [flat_set, laid_set (be_get hlt)] at hst
      replace hst := Lib.hid hst
      replace ho := Lib.hid ho
      replace ho' := Lib.hid ho'
      clear hx
      have hi1 : (k : Int) < (m : Int) := by omega
      go_wp2_with fail
      rw [byte_shift]
      go_roundw
      case rel => exact ⟨k + 1, by omega, by go_num, by unfold Owns; rw [laid_len _ (by rw [hbl.out]; omega), hbl.out]; exact hst.out.1, (by repeat (first | exact Below.refl _ _ | assumption | refine Below.drew ?_ | refine below_drewN ?_ _ | refine Below.alloc ?_ (by first | omega | (simp; try omega)) _ | refine Below.setCell ?_ (by first | omega | (simp; try omega)) _ | (refine Below.trans ?_ (Below.mono (by assumption) (by first | omega | (simp; try omega))))))⟩
      case measure => simp [intOf]; omega
    · obtain rfl : k = m := by omega
      have hcv := run_bytes_str (c := k) (ho.row byteCell_len)
      have hla : laid (be n k) k = be n k := by have := laid_all (be n k); rwa [hbl.out] at this
      rw [hla] at hcv
      clear hla
      replace ho := Lib.hid ho
      go_wp2_with fail
      go_ret
      exact ⟨rfl, (by repeat (first | exact Below.refl _ _ | assumption | refine Below.drew ?_ | refine below_drewN ?_ _ | refine Below.alloc ?_ (by first | omega | (simp; try omega)) _ | refine Below.setCell ?_ (by first | omega | (simp; try omega)) _ | (refine Below.trans ?_ (Below.mono (by assumption) (by first | omega | (simp; try omega))))))⟩

theorem root_count (n m : Nat) (w : World) (hm : m = 1 ∨ m = 2 ∨ m = 4 ∨ m = 8) (hn : n ≤ 9223372036854775807) :
    Calls Try.prog 26 #[.int .i64 n, .int .i64 m] w fun e w' => e = .returned (.string (str (be n m))) ∧ Below w.heap.size w w' := by
  go_enter Try.func26, Try.ntmps26
  go_wp2_with fail
  refine (root_number n m _ hm hn).mono ?_
  rintro e w1 ⟨rfl, hb1⟩
  go_wp2_with fail
  go_ret
  exact ⟨rfl, (by repeat (first | exact Below.refl _ _ | assumption | refine Below.drew ?_ | refine below_drewN ?_ _ | refine Below.alloc ?_ (by first | omega | (simp; try omega)) _ | refine Below.setCell ?_ (by first | omega | (simp; try omega)) _ | (refine Below.trans ?_ (Below.mono (by assumption) (by first | omega | (simp; try omega))))))⟩

theorem be_drop {n m k : Nat} (h : k < m) : (be n m).drop k = UInt8.ofNat (n / 256 ^ (m - 1 - k)) :: (be n m).drop (k + 1) := drop_cons (be_get h)
/-- The last m - k of m bytes are laid. -/
def back (l : List UInt8) (k : Nat) : List UInt8 := List.replicate k 0 ++ l.drop k
theorem back_len (l : List UInt8) {k : Nat} (h : k ≤ l.length) : (back l k).length = l.length := by simp [back]; omega
theorem back_set {l : List UInt8} {k : Nat} {x : UInt8} (h : l[k]? = some x) : (back l (k + 1)).set k x = back l k := by
  obtain ⟨hk, rfl⟩ := List.getElem?_eq_some_iff.1 h
  unfold back
  rw [List.drop_eq_getElem_cons hk, List.replicate_succ', List.append_assoc, List.set_append]
  simp
theorem byte_rest (n : Nat) : (n : Int) % 256 = ((UInt8.ofNat n).toNat : Int) := by
  rw [UInt8.toNat_ofNat']
  omega
theorem tdiv_step (n : Nat) : (n : Int).tdiv 256 = ((n / 256 : Nat) : Int) := by
  rw [Int.tdiv_eq_ediv_of_nonneg (by omega)]
  omega

end Go.Proofs.Ytbfephekkfieaaa
