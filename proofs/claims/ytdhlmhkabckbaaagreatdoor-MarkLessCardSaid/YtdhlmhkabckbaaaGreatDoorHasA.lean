/-
  strongboxref24.Has and strongboxlaw24.in read alone: the world stays.
-/
import Derived.Test.YtdhlmhkabckbaaaGreatDoorStrs
namespace Go.Proofs.YtdhlmhkabckbaaaGreatDoor
open Go.RowKit

set_option maxHeartbeats 1000000 in
theorem ref24_Has_same (A : Option Addr) (n c : Nat) (l : List ByteArray) (d : ByteArray) (w : World) (h : StrsAt w w.heap.size A n l) :
    Calls Tryz.prog 36 #[.slice A n c, .string d] w fun e w' => e = .returned (.bool (decide (d ∈ l))) ∧ w' = w := by
  have hn := h.2.1
  have hl := Lib.hid h.1
  go_enter Tryz.func36, Tryz.ntmps36
  go_wp2
  go_loopw [5] (fun i wr => ∃ k : Nat, k ≤ n ∧ i = .int .i64 k ∧ wr = w ∧ Hid (d ∉ l.take k)) (fun i _ => n - (intOf i).toNat)
  case atStart => exact ⟨0, Nat.zero_le _, rfl, rfl, by simp [Hid]⟩
  case round =>
    obtain ⟨k, hk, rfl, rfl, hr⟩ := hrel
    by_cases hlt : k < n
    · obtain ⟨b, off, s, rfl, hb1, hx, h0⟩ := h.str hlt
      by_cases hq : s = d
      · have hs := str_eq hq
        have hin : Hid (d ∈ l) := by unfold Hid; rw [← hq]; exact List.mem_of_getElem? hx
        replace hq := Lib.hid hq
        replace hx := Lib.hid hx
        go_wp2
        go_ret
        exact ⟨ret_bool (by simp [hin.out]), rfl⟩
      · have hs := str_ne hq
        have hr' : Hid (d ∉ l.take (k + 1)) := by unfold Hid; rw [mem_take_succ hx]; exact not_or.2 ⟨hr.out, fun e => hq e.symm⟩
        replace hq := Lib.hid hq
        replace hx := Lib.hid hx
        go_wp2
        go_roundw
        case rel => exact ⟨k + 1, by omega, by go_num, trivial, hr'⟩
        case measure => simp [intOf]; omega
    · obtain rfl : k = n := by omega
      have ht : l.take k = l := List.take_of_length_le (by have := hl.out; omega)
      rw [ht] at hr
      replace ht := Lib.hid ht
      go_wp2
      go_ret
      exact ⟨ret_bool (by simp [hr.out]), rfl⟩
set_option maxHeartbeats 1000000 in
theorem law24_in (A : Option Addr) (n c : Nat) (l : List ByteArray) (d : ByteArray) (w : World) (h : StrsAt w w.heap.size A n l) :
    Calls Tryz.prog 13 #[.slice A n c, .string d] w fun e w' => e = .returned (.bool (decide (d ∈ l))) ∧ w' = w := by
  go_enter Tryz.func13, Tryz.ntmps13
  go_wp2_with fail
  refine (ref24_Has_same A n c l d w h).mono ?_
  rintro e w1 ⟨rfl, rfl⟩
  go_wp2_with fail
  go_ret
  exact ⟨rfl, rfl⟩
theorem below_more {B : Nat} {w0 w : World} (h : Below B w0 w) (q : Nat) : Below B w0 (w.drewN q) := ⟨h.os, h.tape, h.output, h.size, h.block⟩
end Go.Proofs.YtdhlmhkabckbaaaGreatDoor
