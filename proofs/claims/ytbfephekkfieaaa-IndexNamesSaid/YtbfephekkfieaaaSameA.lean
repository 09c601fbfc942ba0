/-
  The contracts of slices.Equal at strings and at places, of root.Same and of the reference's Same of states.
-/
import Derived.Test.YtbfephekkfieaaaRootA
import Derived.Test.YtbfephekkfieaaaSnapS
import Derived.Test.YtbfephekkfieaaaEqL
namespace Go.Proofs.Ytbfephekkfieaaa
open Go.RowKit
attribute [local go_sem ↓] Go.wp_at_zero Go.wp_at_succ

theorem eqPlace (a b : Place) (w : World) : (binOp .neq 35 (.agg #[.string a.pack, .int .i64 a.at_, .int .i64 a.len]) (.agg #[.string b.pack, .int .i64 b.at_, .int .i64 b.len])).run Try.prog w
    = .ok (.bool (decide (a ≠ b))) w := by
  have u2 := Try.underlying3
  have u9 := Try.underlying9
  have hS : Try.prog.underlying 35 = some (.struct (Try.prog.fieldsOf 35)) := by kernel_rfl
  have hp : Try.prog.stoodInHeld 35 = false := by kernel_rfl
  rw [run_neq_struct, show (10000 : Nat) = 9999 + 1 from rfl, run_equalIn_agg w 9999 _ _ _ hS hp]
  simp only [Program.fieldsOf, Try.underlying35]
  go_simp
  obtain ⟨i, t, r⟩ := a
  obtain ⟨i', t', r'⟩ := b
  have hr := bytes_eq i i'
  simp only [hr]
  by_cases h1 : i = i' <;> by_cases h2 : t = t' <;> by_cases h3 : r = r' <;> simp [h1, h2, h3]

set_option maxHeartbeats 400000 in
theorem equal_strs (A A' : Option Addr) (n n' c c' : Nat) (l l' : List ByteArray) (w : World) (h : StrsAt w w.heap.size A n l) (h' : StrsAt w w.heap.size A' n' l') :
    Calls Try.prog 32 #[.slice A n c, .slice A' n' c'] w fun e w' => e = .returned (.bool (eqL l l')) ∧ Below w.heap.size w w' := by
  have hn := h.2.1
  have hl := Lib.hid h.1
  have hl' := Lib.hid h'.1
  by_cases hnn : n = n'
  · subst hnn
    have hb : ((n : Int) != (n : Int)) = false := by simp
    go_enter Try.func32, Try.ntmps32
    go_wp2
    go_loopw [13] (fun i wr => ∃ k : Nat, k ≤ n ∧ i = .int .i64 k ∧ Below w.heap.size w wr ∧ Hid (l.take k = l'.take k)) (fun i _ => n - (intOf i).toNat)
    case atStart => exact ⟨0, Nat.zero_le _, rfl, Below.refl _ _, rfl⟩
    case round =>
      obtain ⟨k, hk, rfl, hbw, hr⟩ := hrel
      by_cases hlt : k < n
      · obtain ⟨b, off, s, rfl, hb1, hx, h0⟩ := (h.below hbw).str hlt
        obtain ⟨b', off', s', rfl, hb1', hx', h0'⟩ := (h'.below hbw).str hlt
        replace hx := Lib.hid hx
        have hx' := Lib.hid hx'
        by_cases hq : s = s'
        · have hs := str_eq hq
          replace hq := Lib.hid hq
          go_wp2
          go_quiet (fail)
          go_wp2
          go_roundw
          case rel => exact ⟨k + 1, by omega, by go_num, (by repeat (first | exact Below.refl _ _ | assumption | refine Below.drew ?_ | refine below_drewN ?_ _ | refine Below.alloc ?_ (by first | omega | (simp; try omega)) _ | refine Below.setCell ?_ (by first | omega | (simp; try omega)) _ | (refine Below.trans ?_ (Below.mono (by assumption) (by first | omega | (simp; try omega)))))), take_step hr.out hx.out (hq.out ▸ hx'.out)⟩
          case measure => simp [intOf]; omega
        · have hs := str_ne hq
          replace hq := Lib.hid hq
          go_wp2
          go_quiet (fail)
          go_wp2
          go_ret
          exact ⟨ret_bool (eqL_no hx.out hx'.out hq.out), (by repeat (first | exact Below.refl _ _ | assumption | refine Below.drew ?_ | refine below_drewN ?_ _ | refine Below.alloc ?_ (by first | omega | (simp; try omega)) _ | refine Below.setCell ?_ (by first | omega | (simp; try omega)) _ | (refine Below.trans ?_ (Below.mono (by assumption) (by first | omega | (simp; try omega))))))⟩
      · obtain rfl : k = n := by omega
        go_wp2
        go_ret
        exact ⟨ret_bool (eqL_yes hl.out hl'.out hr.out), (by repeat (first | exact Below.refl _ _ | assumption | refine Below.drew ?_ | refine below_drewN ?_ _ | refine Below.alloc ?_ (by first | omega | (simp; try omega)) _ | refine Below.setCell ?_ (by first | omega | (simp; try omega)) _ | (refine Below.trans ?_ (Below.mono (by assumption) (by first | omega | (simp; try omega))))))⟩
  · have hb : ((n : Int) != (n' : Int)) = true := by simp; omega
    go_enter Try.func32, Try.ntmps32
    go_wp2
    go_ret
    exact ⟨ret_bool (eqL_len (by rw [hl.out, hl'.out]; exact hnn)), (by repeat (first | exact Below.refl _ _ | assumption | refine Below.drew ?_ | refine below_drewN ?_ _ | refine Below.alloc ?_ (by first | omega | (simp; try omega)) _ | refine Below.setCell ?_ (by first | omega | (simp; try omega)) _ | (refine Below.trans ?_ (Below.mono (by assumption) (by first | omega | (simp; try omega))))))⟩

set_option maxHeartbeats 400000 in
theorem equal_places (A A' : Option Addr) (n n' c c' : Nat) (l l' : List Place) (w : World) (h : PlacesAt w w.heap.size A n l) (h' : PlacesAt w w.heap.size A' n' l') :
    Calls Try.prog 33 #[.slice A n c, .slice A' n' c'] w fun e w' => e = .returned (.bool (eqL l l')) ∧ Below w.heap.size w w' := by
  have hn := h.2.1
  have hl := Lib.hid h.1
  have hl' := Lib.hid h'.1
  by_cases hnn : n = n'
  · subst hnn
    have hb : ((n : Int) != (n : Int)) = false := by simp
    go_enter Try.func33, Try.ntmps33
    go_wp2
    go_loopw [13] (fun i wr => ∃ k : Nat, k ≤ n ∧ i = .int .i64 k ∧ Below w.heap.size w wr ∧ Hid (l.take k = l'.take k)) (fun i _ => n - (intOf i).toNat)
    case atStart => exact ⟨0, Nat.zero_le _, rfl, Below.refl _ _, rfl⟩
    case round =>
      obtain ⟨k, hk, rfl, hbw, hr⟩ := hrel
      by_cases hlt : k < n
      · obtain ⟨b, off, s, rfl, hb1, hx, h0, h1, h2⟩ := (h.below hbw).place hlt
        obtain ⟨b', off', s', rfl, hb1', hx', h0', h1', h2'⟩ := (h'.below hbw).place hlt
        have e := eqPlace s s'
        replace hx := Lib.hid hx
        have hx' := Lib.hid hx'
        by_cases hq : s = s'
        · rw [decide_eq_false (by simpa using hq)] at e
          replace hq := Lib.hid hq
          go_wp2
          go_quiet (fail)
          go_wp2
          go_roundw
          case rel => exact ⟨k + 1, by omega, by go_num, (by repeat (first | exact Below.refl _ _ | assumption | refine Below.drew ?_ | refine below_drewN ?_ _ | refine Below.alloc ?_ (by first | omega | (simp; try omega)) _ | refine Below.setCell ?_ (by first | omega | (simp; try omega)) _ | (refine Below.trans ?_ (Below.mono (by assumption) (by first | omega | (simp; try omega)))))), take_step hr.out hx.out (hq.out ▸ hx'.out)⟩
          case measure => simp [intOf]; omega
        · rw [decide_eq_true (by simpa using hq)] at e
          replace hq := Lib.hid hq
          go_wp2
          go_quiet (fail)
          go_wp2
          go_ret
          exact ⟨ret_bool (eqL_no hx.out hx'.out hq.out), (by repeat (first | exact Below.refl _ _ | assumption | refine Below.drew ?_ | refine below_drewN ?_ _ | refine Below.alloc ?_ (by first | omega | (simp; try omega)) _ | refine Below.setCell ?_ (by first | omega | (simp; try omega)) _ | (refine Below.trans ?_ (Below.mono (by assumption) (by first | omega | (simp; try omega))))))⟩
      · obtain rfl : k = n := by omega
        go_wp2
        go_ret
        exact ⟨ret_bool (eqL_yes hl.out hl'.out hr.out), (by repeat (first | exact Below.refl _ _ | assumption | refine Below.drew ?_ | refine below_drewN ?_ _ | refine Below.alloc ?_ (by first | omega | (simp; try omega)) _ | refine Below.setCell ?_ (by first | omega | (simp; try omega)) _ | (refine Below.trans ?_ (Below.mono (by assumption) (by first | omega | (simp; try omega))))))⟩
  · have hb : ((n : Int) != (n' : Int)) = true := by simp; omega
    go_enter Try.func33, Try.ntmps33
    go_wp2
    go_ret
    exact ⟨ret_bool (eqL_len (by rw [hl.out, hl'.out]; exact hnn)), (by repeat (first | exact Below.refl _ _ | assumption | refine Below.drew ?_ | refine below_drewN ?_ _ | refine Below.alloc ?_ (by first | omega | (simp; try omega)) _ | refine Below.setCell ?_ (by first | omega | (simp; try omega)) _ | (refine Below.trans ?_ (Below.mono (by assumption) (by first | omega | (simp; try omega))))))⟩
end Go.Proofs.Ytbfephekkfieaaa
