/-
  The contracts of large, texts and places of the index' laws.
-/
import Derived.Test.YtbfephekkfieaaaLawSt
import Derived.Test.YtbfephekkfieaaaSameA
namespace Go.Proofs.Ytbfephekkfieaaa
open Go.RowKit
attribute [local go_sem ↓] Go.wp_at_zero Go.wp_at_succ

def largeI (v : Rws) : Bool := decide (2000 < v.n2 + v.n3) || decide (2000 < v.n1)
def ReachI (v : Rws) : Prop := v.n1 ≤ reachBytes ∧ v.n2 ≤ reachBytes ∧ v.n3 ≤ reachBytes
set_option maxHeartbeats 400000 in
theorem law17_texts (A A' : Option Addr) (n n' c c' : Nat) (l l' : List ByteArray) (w : World) (h : StrsAt w w.heap.size A n l) (h' : StrsAt w w.heap.size A' n' l') :
    Calls Try.prog 23 #[.slice A n c, .slice A' n' c'] w fun e w' => e = .returned (.bool (eqL l l')) ∧ Below w.heap.size w w' := by
  have hn := h.2.1
  have hl := Lib.hid h.1
  have hl' := Lib.hid h'.1
  by_cases hnn : n = n'
  · subst hnn
    have hb : ((n : Int) != (n : Int)) = false := by simp
    go_enter Try.func23, Try.ntmps23
    go_wp2
    go_loopw [5] (fun i wr => ∃ k : Nat, k ≤ n ∧ i = .int .i64 k ∧ Below w.heap.size w wr ∧ Hid (l.take k = l'.take k)) (fun i _ => n - (intOf i).toNat)
    case atStart => exact ⟨0, Nat.zero_le _, rfl, Below.refl _ _, rfl⟩
    case round =>
      obtain ⟨k, hk, rfl, hbw, hr⟩ := hrel
      by_cases hlt : k < n
      · obtain ⟨b, off, s, rfl, hb1, hx, h0⟩ := (h.below hbw).str hlt
        obtain ⟨b', off', s', rfl, hb1', hx', h0'⟩ := (h'.below hbw).str hlt
        replace hx := Lib.hid hx
        have hx' := Lib.hid hx'
        by_cases hq : s = s'
        · have hs := str_eq hq
          replace hq := Lib.hid hq
          go_wp2
          go_quiet (fail)
          go_wp2
          go_roundw
          case rel => exact ⟨k + 1, by omega, by go_num, (by repeat (first | exact Below.refl _ _ | assumption | refine Below.drew ?_ | refine below_drewN ?_ _ | refine Below.alloc ?_ (by first | omega | (simp; try omega)) _ | refine Below.setCell ?_ (by first | omega | (simp; try omega)) _ | (refine Below.trans ?_ (Below.mono (by assumption) (by first | omega | (simp; try omega)))))), take_step hr.out hx.out (hq.out ▸ hx'.out)⟩
          case measure => simp [intOf]; omega
        · have hs := str_ne hq
          replace hq := Lib.hid hq
          go_wp2
          go_quiet (fail)
          go_wp2
          go_ret
          exact ⟨ret_bool (eqL_no hx.out hx'.out hq.out), (by repeat (first | exact Below.refl _ _ | assumption | refine Below.drew ?_ | refine below_drewN ?_ _ | refine Below.alloc ?_ (by first | omega | (simp; try omega)) _ | refine Below.setCell ?_ (by first | omega | (simp; try omega)) _ | (refine Below.trans ?_ (Below.mono (by assumption) (by first | omega | (simp; try omega))))))⟩
      · obtain rfl : k = n := by omega
        go_wp2
        go_ret
        exact ⟨ret_bool (eqL_yes hl.out hl'.out hr.out), (by repeat (first | exact Below.refl _ _ | assumption | refine Below.drew ?_ | refine below_drewN ?_ _ | refine Below.alloc ?_ (by first | omega | (simp; try omega)) _ | refine Below.setCell ?_ (by first | omega | (simp; try omega)) _ | (refine Below.trans ?_ (Below.mono (by assumption) (by first | omega | (simp; try omega))))))⟩
  · have hb : ((n : Int) != (n' : Int)) = true := by simp; omega
    go_enter Try.func23, Try.ntmps23
    go_wp2
    go_ret
    exact ⟨ret_bool (eqL_len (by rw [hl.out, hl'.out]; exact hnn)), (by repeat (first | exact Below.refl _ _ | assumption | refine Below.drew ?_ | refine below_drewN ?_ _ | refine Below.alloc ?_ (by first | omega | (simp; try omega)) _ | refine Below.setCell ?_ (by first | omega | (simp; try omega)) _ | (refine Below.trans ?_ (Below.mono (by assumption) (by first | omega | (simp; try omega))))))⟩

set_option maxHeartbeats 400000 in
theorem law17_places (A A' : Option Addr) (n n' c c' : Nat) (l l' : List Place) (w : World) (h : PlacesAt w w.heap.size A n l) (h' : PlacesAt w w.heap.size A' n' l') :
    Calls Try.prog 34 #[.slice A n c, .slice A' n' c'] w fun e w' => e = .returned (.bool (eqL l l')) ∧ Below w.heap.size w w' := by
  have hn := h.2.1
  have hl := Lib.hid h.1
  have hl' := Lib.hid h'.1
  by_cases hnn : n = n'
  · subst hnn
    have hb : ((n : Int) != (n : Int)) = false := by simp
    go_enter Try.func34, Try.ntmps34
    go_wp2
    go_loopw [5] (fun i wr => ∃ k : Nat, k ≤ n ∧ i = .int .i64 k ∧ Below w.heap.size w wr ∧ Hid (l.take k = l'.take k)) (fun i _ => n - (intOf i).toNat)
    case atStart => exact ⟨0, Nat.zero_le _, rfl, Below.refl _ _, rfl⟩
    case round =>
      obtain ⟨k, hk, rfl, hbw, hr⟩ := hrel
      by_cases hlt : k < n
      · obtain ⟨b, off, s, rfl, hb1, hx, h0, h1, h2⟩ := (h.below hbw).place hlt
        obtain ⟨b', off', s', rfl, hb1', hx', h0', h1', h2'⟩ := (h'.below hbw).place hlt
        have e := eqPlace s s'
        replace hx := Lib.hid hx
        have hx' := Lib.hid hx'
        by_cases hq : s = s'
        · rw [decide_eq_false (by simpa using hq)] at e
          replace hq := Lib.hid hq
          go_wp2
          go_quiet (fail)
          go_wp2
          go_roundw
          case rel => exact ⟨k + 1, by omega, by go_num, (by repeat (first | exact Below.refl _ _ | assumption | refine Below.drew ?_ | refine below_drewN ?_ _ | refine Below.alloc ?_ (by first | omega | (simp; try omega)) _ | refine Below.setCell ?_ (by first | omega | (simp; try omega)) _ | (refine Below.trans ?_ (Below.mono (by assumption) (by first | omega | (simp; try omega)))))), take_step hr.out hx.out (hq.out ▸ hx'.out)⟩
          case measure => simp [intOf]; omega
        · rw [decide_eq_true (by simpa using hq)] at e
          replace hq := Lib.hid hq
          go_wp2
          go_quiet (fail)
          go_wp2
          go_ret
          exact ⟨ret_bool (eqL_no hx.out hx'.out hq.out), (by repeat (first | exact Below.refl _ _ | assumption | refine Below.drew ?_ | refine below_drewN ?_ _ | refine Below.alloc ?_ (by first | omega | (simp; try omega)) _ | refine Below.setCell ?_ (by first | omega | (simp; try omega)) _ | (refine Below.trans ?_ (Below.mono (by assumption) (by first | omega | (simp; try omega))))))⟩
      · obtain rfl : k = n := by omega
        go_wp2
        go_ret
        exact ⟨ret_bool (eqL_yes hl.out hl'.out hr.out), (by repeat (first | exact Below.refl _ _ | assumption | refine Below.drew ?_ | refine below_drewN ?_ _ | refine Below.alloc ?_ (by first | omega | (simp; try omega)) _ | refine Below.setCell ?_ (by first | omega | (simp; try omega)) _ | (refine Below.trans ?_ (Below.mono (by assumption) (by first | omega | (simp; try omega))))))⟩
  · have hb : ((n : Int) != (n' : Int)) = true := by simp; omega
    go_enter Try.func34, Try.ntmps34
    go_wp2
    go_ret
    exact ⟨ret_bool (eqL_len (by rw [hl.out, hl'.out]; exact hnn)), (by repeat (first | exact Below.refl _ _ | assumption | refine Below.drew ?_ | refine below_drewN ?_ _ | refine Below.alloc ?_ (by first | omega | (simp; try omega)) _ | refine Below.setCell ?_ (by first | omega | (simp; try omega)) _ | (refine Below.trans ?_ (Below.mono (by assumption) (by first | omega | (simp; try omega))))))⟩
end Go.Proofs.Ytbfephekkfieaaa
