/-
  The contract of the reference's at: the number of some bytes of a string.
-/
import Derived.Test.YthbmbbbojpdlaaaRfParse
namespace Go.Proofs.Ythbmbbbojpdlaaa
open Go.RowKit
attribute [local go_sem ↓] Go.wp_at_zero Go.wp_at_succ

theorem foldl_val : ∀ (b : List UInt8) (x : Nat), b.foldl (fun n c => n * 256 + c.toNat) x = x * 256 ^ b.length + val b
  | [], x => by simp [val]
  | c :: b, x => by
    have h1 := foldl_val b (x * 256 + c.toNat)
    have h2 : val (c :: b) = c.toNat * 256 ^ b.length + val b := by
      have := foldl_val b (0 * 256 + c.toNat)
      simpa [val] using this
    rw [List.foldl_cons, h1, h2, List.length_cons, Nat.add_mul, Nat.pow_succ, Nat.mul_assoc, Nat.mul_comm 256, Nat.add_assoc]
theorem val_cons (c : UInt8) (t : List UInt8) : val (c :: t) = c.toNat * 256 ^ t.length + val t := by
  have := foldl_val t (0 * 256 + c.toNat)
  simpa [val] using this
theorem svr_big {c : UInt8} {t : List UInt8} (h : t.length = 7) (hc : 127 < c.toNat) : svr (c :: t) = -1 := by
  unfold svr
  rw [val_cons, h, if_neg (by omega)]
theorem val_low {c : UInt8} {t : List UInt8} (h : t.length = 7) (hc : ¬ 127 < c.toNat) : val (c :: t) < 9223372036854775808 := by
  have := val_lt t
  rw [h] at this
  rw [val_cons, h]
  omega

theorem val_app (a b : List UInt8) : val (a ++ b) = val a * 256 ^ b.length + val b := by
  have := foldl_val b (val a)
  unfold val at this ⊢
  rw [List.foldl_append]
  exact this
theorem val_take_le (l : List UInt8) {j m : Nat} (h : j ≤ m) : val (l.take j) ≤ val (l.take m) := by
  have e : l.take m = l.take j ++ (l.take m).drop j := by
    have := (List.take_append_drop j (l.take m)).symm
    rwa [List.take_take, Nat.min_eq_left h] at this
  rw [e, val_app]
  have : 0 < 256 ^ ((l.take m).drop j).length := Nat.pow_pos (by omega)
  have := Nat.le_mul_of_pos_right (val (l.take j)) this
  omega
theorem str_get {l : List UInt8} {i : Nat} {c : UInt8} (hc : l[i]? = some c) (h : i < (str l).size) : (str l)[i]'h = c := by
  obtain ⟨h1, rfl⟩ := List.getElem?_eq_some_iff.1 hc
  rfl

set_option maxHeartbeats 400000 in
theorem ref23_at (l : List UInt8) (i m : Nat) (w : World) (hm : m = 2 ∨ m = 4 ∨ m = 8) (him : i + m ≤ l.length) (hl : l.length ≤ 100000) :
    Calls Try.prog 49 #[.string (str l), .int .i64 i, .int .i64 m] w fun e w' => e = .returned (.int .i64 (svr ((l.drop i).take m))) ∧ Below w.heap.size w w' := by
  have hsz : (str l).size = l.length := str_size l
  obtain ⟨c, hc⟩ := getElem_some (l := l) (i := i) (by omega)
  have hget := str_get hc
  have hi1 : (i : Int) < (l.length : Int) := by omega
  by_cases hbig : m = 8 ∧ 127 < c.toNat
  · obtain ⟨rfl, hb⟩ := hbig
    have hg : decide ((127 : Int) < (c.toNat : Int)) = true := by simp; omega
    have hres : Hid (svr ((l.drop i).take 8) = -1) := by
      unfold Hid
      rw [drop_cons hc, List.take_succ_cons]
      exact svr_big (by simp; omega) hb
    replace hc := Lib.hid hc
    go_enter Try.func49, Try.ntmps49
    go_wp2_with fail
    go_ret
    exact ⟨ret_int hres.out.symm, (by repeat (first | exact Below.refl _ _ | assumption | refine Below.drew ?_ | refine below_drewN ?_ _ | refine Below.alloc ?_ (by first | omega | (simp; try omega)) _ | refine Below.setCell ?_ (by first | omega | (simp; try omega)) _ | (refine Below.trans ?_ (Below.mono (by assumption) (by first | omega | (simp; try omega))))))⟩
  · have hv : val ((l.drop i).take m) < 9223372036854775808 := by
      by_cases h8 : m = 8
      · subst h8
        rw [drop_cons hc, List.take_succ_cons]
        exact val_low (by simp; omega) (fun h => hbig ⟨rfl, h⟩)
      · have h1 := val_lt ((l.drop i).take m)
        have h2 : 256 ^ ((l.drop i).take m).length ≤ 256 ^ 4 := Nat.pow_le_pow_right (by omega) (by simp; omega)
        omega
    have hres : Hid (svr ((l.drop i).take m) = (val ((l.drop i).take m) : Int)) := by
      unfold Hid svr
      rw [if_pos hv]
    replace hv := Lib.hid hv
    replace hc := Lib.hid hc
    have hg8 : ((m : Int) == 8) = decide (m = 8) := by
      by_cases h : m = 8 <;> simp [h]
      omega
    obtain ⟨gb, hgb⟩ : ∃ gb, decide ((127 : Int) < (c.toNat : Int)) = gb := ⟨_, rfl⟩
    have hno : Hid (gb = true → decide (m = 8) = false) := fun e => by
      rw [e] at hgb
      simp at hgb
      simp
      exact fun h => hbig ⟨h, by omega⟩
    clear hbig
    have hld : Hid ((l.drop i).length = l.length - i) := by unfold Hid; simp
    cases gb
    · go_enter Try.func49, Try.ntmps49
      go_wp2_with fail
      go_loopw [7, 8] (fun v i8 wr => ∃ j : Nat, j ≤ m ∧ i8 = .int .i64 j ∧ v = .int .i64 (val ((l.drop i).take j) : Int) ∧ Below w.heap.size w wr) (fun _ i8 _ => m - (intOf i8).toNat)
      case atStart => exact ⟨0, Nat.zero_le _, rfl, rfl, (by repeat (first | exact Below.refl _ _ | assumption | refine Below.drew ?_ | refine below_drewN ?_ _ | refine Below.alloc ?_ (by first | omega | (simp; try omega)) _ | refine Below.setCell ?_ (by first | omega | (simp; try omega)) _ | (refine Below.trans ?_ (Below.mono (by assumption) (by first | omega | (simp; try omega))))))⟩
      case round =>
        obtain ⟨j, hj, rfl, rfl, hbw⟩ := hrel
        by_cases hlt : j < m
        · obtain ⟨x, hx⟩ := getElem_some (l := l.drop i) (i := j) (by rw [hld.out]; omega)
          have hvt := val_take hx
          have hx' : l[i + j]? = some x := by rw [List.getElem?_drop] at hx; exact hx
          have hget2 := str_get hx'
          have hle := val_take_le (l.drop i) (j := j + 1) (m := m) (by omega)
          have hvb : val ((l.drop i).take j) * 256 + x.toNat ≤ 9223372036854775807 := by rw [← hvt]; have := hv.out; omega
          have hw1 : (val ((l.drop i).take (j + 1)) : Int) = (val ((l.drop i).take j) : Int) * 256 + (x.toNat : Int) := by rw [hvt]; omega
          obtain ⟨V, hV⟩ : ∃ V, V = val ((l.drop i).take j) := ⟨_, rfl⟩
          obtain ⟨V', hV'⟩ : ∃ V', V' = val ((l.drop i).take (j + 1)) := ⟨_, rfl⟩
          rw [← hV, ← hV'] at hw1
          rw [← hV] at hvb ⊢
          have hi2 : (i : Int) + (j : Int) < (l.length : Int) := by omega
          have hi3 : (0 : Int) ≤ (i : Int) + (j : Int) := by omega
          have hi4 : (i : Int) + (j : Int) = ((i + j : Nat) : Int) := by omega
          replace hV := Lib.hid hV
          replace hV' := Lib.hid hV'
          replace hw1 := Lib.hid hw1
          replace hi4 := Lib.hid hi4
          clear hvt hle
          replace hx := Lib.hid hx
          replace hx' := Lib.hid hx'
          have hjm : (j : Int) < (m : Int) := by omega
          go_wp2_with fail
          go_roundw
          case rel => exact ⟨j + 1, by omega, by go_num, by rw [← hV'.out, hw1.out], (by repeat (first | exact Below.refl _ _ | assumption | refine Below.drew ?_ | refine below_drewN ?_ _ | refine Below.alloc ?_ (by first | omega | (simp; try omega)) _ | refine Below.setCell ?_ (by first | omega | (simp; try omega)) _ | (refine Below.trans ?_ (Below.mono (by assumption) (by first | omega | (simp; try omega))))))⟩
          case measure => simp [intOf]; omega
        · obtain rfl : j = m := by omega
          go_wp2_with fail
          go_ret
          exact ⟨ret_int hres.out.symm, (by repeat (first | exact Below.refl _ _ | assumption | refine Below.drew ?_ | refine below_drewN ?_ _ | refine Below.alloc ?_ (by first | omega | (simp; try omega)) _ | refine Below.setCell ?_ (by first | omega | (simp; try omega)) _ | (refine Below.trans ?_ (Below.mono (by assumption) (by first | omega | (simp; try omega))))))⟩
    · rw [hno.out rfl] at hg8
      go_enter Try.func49, Try.ntmps49
      go_wp2_with fail
      go_loopw [7, 8] (fun v i8 wr => ∃ j : Nat, j ≤ m ∧ i8 = .int .i64 j ∧ v = .int .i64 (val ((l.drop i).take j) : Int) ∧ Below w.heap.size w wr) (fun _ i8 _ => m - (intOf i8).toNat)
      case atStart => exact ⟨0, Nat.zero_le _, rfl, rfl, (by repeat (first | exact Below.refl _ _ | assumption | refine Below.drew ?_ | refine below_drewN ?_ _ | refine Below.alloc ?_ (by first | omega | (simp; try omega)) _ | refine Below.setCell ?_ (by first | omega | (simp; try omega)) _ | (refine Below.trans ?_ (Below.mono (by assumption) (by first | omega | (simp; try omega))))))⟩
      case round =>
        obtain ⟨j, hj, rfl, rfl, hbw⟩ := hrel
        by_cases hlt : j < m
        · obtain ⟨x, hx⟩ := getElem_some (l := l.drop i) (i := j) (by rw [hld.out]; omega)
          have hvt := val_take hx
          have hx' : l[i + j]? = some x := by rw [List.getElem?_drop] at hx; exact hx
          have hget2 := str_get hx'
          have hle := val_take_le (l.drop i) (j := j + 1) (m := m) (by omega)
          have hvb : val ((l.drop i).take j) * 256 + x.toNat ≤ 9223372036854775807 := by rw [← hvt]; have := hv.out; omega
          have hw1 : (val ((l.drop i).take (j + 1)) : Int) = (val ((l.drop i).take j) : Int) * 256 + (x.toNat : Int) := by rw [hvt]; omega
          obtain ⟨V, hV⟩ : ∃ V, V = val ((l.drop i).take j) := ⟨_, rfl⟩
          obtain ⟨V', hV'⟩ : ∃ V', V' = val ((l.drop i).take (j + 1)) := ⟨_, rfl⟩
          rw [← hV, ← hV'] at hw1
          rw [← hV] at hvb ⊢
          have hi2 : (i : Int) + (j : Int) < (l.length : Int) := by omega
          have hi3 : (0 : Int) ≤ (i : Int) + (j : Int) := by omega
          have hi4 : (i : Int) + (j : Int) = ((i + j : Nat) : Int) := by omega
          replace hV := Lib.hid hV
          replace hV' := Lib.hid hV'
          replace hw1 := Lib.hid hw1
          replace hi4 := Lib.hid hi4
          clear hvt hle
          replace hx := Lib.hid hx
          replace hx' := Lib.hid hx'
          have hjm : (j : Int) < (m : Int) := by omega
          go_wp2_with fail
          go_roundw
          case rel => exact ⟨j + 1, by omega, by go_num, by rw [← hV'.out, hw1.out], (by repeat (first | exact Below.refl _ _ | assumption | refine Below.drew ?_ | refine below_drewN ?_ _ | refine Below.alloc ?_ (by first | omega | (simp; try omega)) _ | refine Below.setCell ?_ (by first | omega | (simp; try omega)) _ | (refine Below.trans ?_ (Below.mono (by assumption) (by first | omega | (simp; try omega))))))⟩
          case measure => simp [intOf]; omega
        · obtain rfl : j = m := by omega
          go_wp2_with fail
          go_ret
          exact ⟨ret_int hres.out.symm, (by repeat (first | exact Below.refl _ _ | assumption | refine Below.drew ?_ | refine below_drewN ?_ _ | refine Below.alloc ?_ (by first | omega | (simp; try omega)) _ | refine Below.setCell ?_ (by first | omega | (simp; try omega)) _ | (refine Below.trans ?_ (Below.mono (by assumption) (by first | omega | (simp; try omega))))))⟩
end Go.Proofs.Ythbmbbbojpdlaaa
